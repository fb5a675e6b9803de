/- What the program's functions do, step by step: part D of the texts for this claim; no condition beyond what each theorem states. -/
import Derived.Test.YtenafgphaceidaaDoorRepairBunA
import Derived.Test.YtenafgphaceidaaDoorRepairBunB
import Derived.Test.YtenafgphaceidaaDoorRepairBunC
/- THE DRAWN REGIONS OF ways. -/
namespace Go.Proofs.YtenafgphaceidaaDoor
open Go.RowKit
theorem ex_way {a : Act} {o : Oper} {w : World} {x y : Operand} {u v : Int} (ho : o.op = .build 77 #[(0, x), (1, .const (.int .i64 0)), (2, y)]) (hx : a.eval x = .int .i64 u) (hy : a.eval y = .int .i64 v) :
    (execOp a.eval o).run Tryd.prog w = .ok (.value (.agg #[.int .i64 u, .int .i64 0, .int .i64 v])) w := by
  have hz : a.eval (.const (.int .i64 0)) = .int .i64 0 := rfl
  simp [execOp, ho, hx, hy, hz]
  go_simp
noncomputable def mv_A_code : Code := ((Tryd.f34.body.bind (regionOf 39)).getD .skip)
def mv_A_dsts : List (Option Nat) := [some 149, some 150, some 151, some 152, some 153, some 154, some 155, some 156, some 157, some 158, some 159, some 160, some 161, some 162, some 163, some 164, some 165, some 166, some 167, some 168, some 169, some 170, some 171, some 172, some 173, some 174, some 175, some 176, some 177, some 178, some 179, some 180, some 181, some 182, some 183, some 184, some 185, some 186, some 187, some 188, some 189, some 190]
theorem mv_A_apart : apartD mv_A_dsts = true := by decide +kernel
set_option maxRecDepth 1000000 in
set_option maxHeartbeats 16000000 in
theorem mv_A (wr : World) (u v : Nat) (hne : ((u : Int) != (v : Int)) = false) (c0 c1 c2 c3 c4 c5 c6 c7 c8 c9 c10 c11 c12 c13 c14 c17 c18 c19 c20 c21 c22 c23 c24 c25 c26 c27 c28 c29 c30 c31 c32 c33 c34 c35 c36 c37 c38 c39 c40 c41 c42 c43 c44 c45 c46 c47 c48 c49 c50 c51 c52 c53 c54 c55 c56 c57 c58 c59 c60 c61 c62 c63 c64 c65 c66 c67 c68 c69 c70 c71 c72 c73 c74 c75 c76 c77 c78 c79 c80 c81 c82 c83 c84 c85 c86 c87 c88 c89 c90 c91 c92 c93 c94 c95 c96 c97 c98 c99 c100 c101 c102 c103 c104 c105 c106 c107 c108 c109 c110 c111 c112 c113 c114 c115 c116 c117 c118 c119 c120 c121 c122 c123 c124 c125 c126 c127 c128 c129 c130 c131 c132 c133 c134 c135 c136 c137 c138 c139 c140 c141 c142 c143 c144 c145 c146 c147 c148 c149 c150 c151 c152 c153 c154 c155 c156 c157 c158 c159 c160 c161 c162 c163 c164 c165 c166 c167 c168 c169 c170 c171 c172 c173 c174 c175 c176 c177 c178 c179 c180 c181 c182 c183 c184 c185 c186 c187 c188 c189 c190 c191 c192 c193 c194 c195 c196 c197 c198 c199 c200 c201 c202 c203 c204 c205 c206 c207 c208 c209 : Value) (df : List Deferred) (K : Act → World → Prop)
    (hK : ∀  (u149 u150 u151 u152 u153 u154 u155 u156 u157 u158 u159 u160 u161 u162 u163 u164 u165 u166 u167 u168 u169 u170 u171 u172 u173 u174 u175 u176 u177 u178 u179 u180 u181 u182 u183 u184 u185 u186 u187 u188 u189 : Value) (wx : World), Ext wr wx → K ⟨#[c0, c1, c2, c3, c4, c5, c6, c7, c8, c9, c10, c11, c12, c13, c14, .int .i64 (u : Nat), .int .i64 (v : Nat), c17, c18, c19, c20, c21, c22, c23, c24, c25, c26, c27, c28, c29, c30, c31, c32, c33, c34, c35, c36, c37, c38, c39, c40, c41, c42, c43, c44, c45, c46, c47, c48, c49, c50, c51, c52, c53, c54, c55, c56, c57, c58, c59, c60, c61, c62, c63, c64, c65, c66, c67, c68, c69, c70, c71, c72, c73, c74, c75, c76, c77, c78, c79, c80, c81, c82, c83, c84, c85, c86, c87, c88, c89, c90, c91, c92, c93, c94, c95, c96, c97, c98, c99, c100, c101, c102, c103, c104, c105, c106, c107, c108, c109, c110, c111, c112, c113, c114, c115, c116, c117, c118, c119, c120, c121, c122, c123, c124, c125, c126, c127, c128, c129, c130, c131, c132, c133, c134, c135, c136, c137, c138, c139, c140, c141, c142, c143, c144, c145, c146, c147, c148, u149, u150, u151, u152, u153, u154, u155, u156, u157, u158, u159, u160, u161, u162, u163, u164, u165, u166, u167, u168, u169, u170, u171, u172, u173, u174, u175, u176, u177, u178, u179, u180, u181, u182, u183, u184, u185, u186, u187, u188, u189, .bool false, c191, c192, c193, c194, c195, c196, c197, c198, c199, c200, c201, c202, c203, c204, c205, c206, c207, c208, c209], df⟩ wx) :
    Code.wp Tryd.prog mv_A_code (AtEnd K) ⟨#[c0, c1, c2, c3, c4, c5, c6, c7, c8, c9, c10, c11, c12, c13, c14, .int .i64 (u : Nat), .int .i64 (v : Nat), c17, c18, c19, c20, c21, c22, c23, c24, c25, c26, c27, c28, c29, c30, c31, c32, c33, c34, c35, c36, c37, c38, c39, c40, c41, c42, c43, c44, c45, c46, c47, c48, c49, c50, c51, c52, c53, c54, c55, c56, c57, c58, c59, c60, c61, c62, c63, c64, c65, c66, c67, c68, c69, c70, c71, c72, c73, c74, c75, c76, c77, c78, c79, c80, c81, c82, c83, c84, c85, c86, c87, c88, c89, c90, c91, c92, c93, c94, c95, c96, c97, c98, c99, c100, c101, c102, c103, c104, c105, c106, c107, c108, c109, c110, c111, c112, c113, c114, c115, c116, c117, c118, c119, c120, c121, c122, c123, c124, c125, c126, c127, c128, c129, c130, c131, c132, c133, c134, c135, c136, c137, c138, c139, c140, c141, c142, c143, c144, c145, c146, c147, c148, c149, c150, c151, c152, c153, c154, c155, c156, c157, c158, c159, c160, c161, c162, c163, c164, c165, c166, c167, c168, c169, c170, c171, c172, c173, c174, c175, c176, c177, c178, c179, c180, c181, c182, c183, c184, c185, c186, c187, c188, c189, c190, c191, c192, c193, c194, c195, c196, c197, c198, c199, c200, c201, c202, c203, c204, c205, c206, c207, c208, c209], df⟩ wr := by
  conv => arg 2; whnf
  refine region_inv (by kernel_rfl) [[], [], [0, 1], [2], [3], [4, 3], [3, 5], [6, 3], [7], [7], [8, 7], [10, 9, 7], [11, 7], [12, 7], [13, 7], [7, 14], [15, 7], [16], [16], [17, 16], [19, 18, 16], [20, 16], [21, 16], [22, 16], [23, 16, 16], [24], [24], [25, 24], [27, 26, 24], [28, 24], [29, 24], [24], [30, 31, 24], [24], [24], [33, 24], [35, 34, 24], [36, 24], [37, 24], [32, 38, 24], [24, 39, 16], [16, 40]] (by kernel_rfl) [0, 1, 2, 3, 4, 5, 6, 7, 8, 9, 10, 11, 12, 13, 14, 15, 16, 17, 18, 19, 20, 21, 22, 23, 24, 25, 26, 27, 28, 29, 30, 31, 32, 33, 34, 35, 36, 37, 38, 39, 40, 41] (by decide +kernel) (by decide +kernel) (by decide +kernel) (fun L a wc => Inv mv_A_dsts [.int .i64 (u : Nat), .int .i64 (v : Nat), .bool false, .bool false, undef, undef, .bool false, .bool false, undef, undef, undef, undef, undef, undef, undef, .bool false, .bool false, undef, undef, undef, undef, undef, undef, undef, undef, undef, undef, undef, undef, undef, undef, undef, undef, undef, undef, undef, undef, undef, undef, undef, undef, .bool false] ⟨#[c0, c1, c2, c3, c4, c5, c6, c7, c8, c9, c10, c11, c12, c13, c14, .int .i64 (u : Nat), .int .i64 (v : Nat), c17, c18, c19, c20, c21, c22, c23, c24, c25, c26, c27, c28, c29, c30, c31, c32, c33, c34, c35, c36, c37, c38, c39, c40, c41, c42, c43, c44, c45, c46, c47, c48, c49, c50, c51, c52, c53, c54, c55, c56, c57, c58, c59, c60, c61, c62, c63, c64, c65, c66, c67, c68, c69, c70, c71, c72, c73, c74, c75, c76, c77, c78, c79, c80, c81, c82, c83, c84, c85, c86, c87, c88, c89, c90, c91, c92, c93, c94, c95, c96, c97, c98, c99, c100, c101, c102, c103, c104, c105, c106, c107, c108, c109, c110, c111, c112, c113, c114, c115, c116, c117, c118, c119, c120, c121, c122, c123, c124, c125, c126, c127, c128, c129, c130, c131, c132, c133, c134, c135, c136, c137, c138, c139, c140, c141, c142, c143, c144, c145, c146, c147, c148, c149, c150, c151, c152, c153, c154, c155, c156, c157, c158, c159, c160, c161, c162, c163, c164, c165, c166, c167, c168, c169, c170, c171, c172, c173, c174, c175, c176, c177, c178, c179, c180, c181, c182, c183, c184, c185, c186, c187, c188, c189, c190, c191, c192, c193, c194, c195, c196, c197, c198, c199, c200, c201, c202, c203, c204, c205, c206, c207, c208, c209], df⟩ L a ∧ Hid (Ext wr wc)) ⟨Inv.start, Lib.hid ((Ext.refl wr).drew)⟩ ?_ ?_
  · refine ⟨?_, ?_, ?_, ?_, ?_, ?_, ?_, ?_, ?_, ?_, ?_, ?_, ?_, ?_, ?_, ?_, ?_, ?_, ?_, ?_, ?_, ?_, ?_, ?_, ?_, ?_, ?_, ?_, ?_, ?_, ?_, ?_, ?_, ?_, ?_, ?_, ?_, ?_, ?_, ?_, ?_, ?_, trivial⟩
    · -- 0 move
      rintro L a wc ⟨hv, HO⟩ hL hc hd
      exact wpOp_val rfl rfl (ex_move rfl ((hv.fixed 15 (by decide)).trans rfl)) ⟨hv.put mv_A_apart 0 rfl (Nat.le_of_ble_eq_true rfl) (Nat.le_of_ble_eq_true rfl) rfl, HO⟩
    · -- 1 move
      rintro L a wc ⟨hv, HO⟩ hL hc hd
      exact wpOp_val rfl rfl (ex_move rfl ((hv.fixed 16 (by decide)).trans rfl)) ⟨hv.put mv_A_apart 1 rfl (Nat.le_of_ble_eq_true rfl) (Nat.le_of_ble_eq_true rfl) rfl, HO⟩
    · -- 2 bin
      rintro L a wc ⟨hv, HO⟩ hL hc hd
      have h := hne
      exact wpOp_val rfl rfl (ex_bin rfl (hv.get 0 rfl rfl (hd 0 (by decide))) (hv.get 1 rfl rfl (hd 1 (by decide))) (by go_simp)) ⟨hv.put mv_A_apart 2 rfl (Nat.le_of_ble_eq_true rfl) (Nat.le_of_ble_eq_true rfl) rfl, HO⟩
    · -- 3 move
      rintro L a wc ⟨hv, HO⟩ hL hc hd
      exact wpOp_val rfl rfl (ex_move rfl (hv.get 2 rfl rfl (hd 2 (by decide)))) ⟨hv.put mv_A_apart 3 rfl (Nat.le_of_ble_eq_true rfl) (Nat.le_of_ble_eq_true rfl) rfl, HO⟩
    · -- 4 off
      rintro L a wc ⟨hv, HO⟩ hL hc hd
      exact wpOp_off rfl ((wanted_at rfl rfl (hv.get 3 rfl rfl (hd 3 (by decide)))).trans rfl) ⟨hv.put mv_A_apart 4 rfl (Nat.le_of_ble_eq_true rfl) (Nat.le_of_ble_eq_true rfl) rfl, HO⟩
    · -- 5 off
      rintro L a wc ⟨hv, HO⟩ hL hc hd
      exact wpOp_off rfl ((wanted_at rfl rfl (hv.get 3 rfl rfl (hd 3 (by decide)))).trans rfl) ⟨hv.put mv_A_apart 5 rfl (Nat.le_of_ble_eq_true rfl) (Nat.le_of_ble_eq_true rfl) rfl, HO⟩
    · -- 6 pick
      rintro L a wc ⟨hv, HO⟩ hL hc hd
      exact wpOp_val rfl rfl (ex_pick rfl (hv.get 3 rfl rfl (hd 3 (by decide))) rfl) ⟨hv.put mv_A_apart 6 rfl (Nat.le_of_ble_eq_true rfl) (Nat.le_of_ble_eq_true rfl) rfl, HO⟩
    · -- 7 move
      rintro L a wc ⟨hv, HO⟩ hL hc hd
      exact wpOp_val rfl rfl (ex_move rfl (hv.get 6 rfl rfl (hd 6 (by decide)))) ⟨hv.put mv_A_apart 7 rfl (Nat.le_of_ble_eq_true rfl) (Nat.le_of_ble_eq_true rfl) rfl, HO⟩
    · -- 8 off
      rintro L a wc ⟨hv, HO⟩ hL hc hd
      exact wpOp_off rfl ((wanted_at rfl rfl (hv.get 7 rfl rfl (hd 7 (by decide)))).trans rfl) ⟨hv.put mv_A_apart 8 rfl (Nat.le_of_ble_eq_true rfl) (Nat.le_of_ble_eq_true rfl) rfl, HO⟩
    · -- 9 off
      rintro L a wc ⟨hv, HO⟩ hL hc hd
      exact wpOp_off rfl ((wanted_at rfl rfl (hv.get 7 rfl rfl (hd 7 (by decide)))).trans rfl) ⟨hv.put mv_A_apart 9 rfl (Nat.le_of_ble_eq_true rfl) (Nat.le_of_ble_eq_true rfl) rfl, HO⟩
    · -- 10 off
      rintro L a wc ⟨hv, HO⟩ hL hc hd
      exact wpOp_off rfl ((wanted_at rfl rfl (hv.get 7 rfl rfl (hd 7 (by decide)))).trans rfl) ⟨hv.put mv_A_apart 10 rfl (Nat.le_of_ble_eq_true rfl) (Nat.le_of_ble_eq_true rfl) rfl, HO⟩
    · -- 11 off
      rintro L a wc ⟨hv, HO⟩ hL hc hd
      exact wpOp_off rfl ((wanted_at rfl rfl (hv.get 7 rfl rfl (hd 7 (by decide)))).trans rfl) ⟨hv.put mv_A_apart 11 rfl (Nat.le_of_ble_eq_true rfl) (Nat.le_of_ble_eq_true rfl) rfl, HO⟩
    · -- 12 off
      rintro L a wc ⟨hv, HO⟩ hL hc hd
      exact wpOp_off rfl ((wanted_at rfl rfl (hv.get 7 rfl rfl (hd 7 (by decide)))).trans rfl) ⟨hv.put mv_A_apart 12 rfl (Nat.le_of_ble_eq_true rfl) (Nat.le_of_ble_eq_true rfl) rfl, HO⟩
    · -- 13 off
      rintro L a wc ⟨hv, HO⟩ hL hc hd
      exact wpOp_off rfl ((wanted_at rfl rfl (hv.get 7 rfl rfl (hd 7 (by decide)))).trans rfl) ⟨hv.put mv_A_apart 13 rfl (Nat.le_of_ble_eq_true rfl) (Nat.le_of_ble_eq_true rfl) rfl, HO⟩
    · -- 14 off
      rintro L a wc ⟨hv, HO⟩ hL hc hd
      exact wpOp_off rfl ((wanted_at rfl rfl (hv.get 7 rfl rfl (hd 7 (by decide)))).trans rfl) ⟨hv.put mv_A_apart 14 rfl (Nat.le_of_ble_eq_true rfl) (Nat.le_of_ble_eq_true rfl) rfl, HO⟩
    · -- 15 pick
      rintro L a wc ⟨hv, HO⟩ hL hc hd
      exact wpOp_val rfl rfl (ex_pick rfl (hv.get 7 rfl rfl (hd 7 (by decide))) rfl) ⟨hv.put mv_A_apart 15 rfl (Nat.le_of_ble_eq_true rfl) (Nat.le_of_ble_eq_true rfl) rfl, HO⟩
    · -- 16 move
      rintro L a wc ⟨hv, HO⟩ hL hc hd
      exact wpOp_val rfl rfl (ex_move rfl (hv.get 15 rfl rfl (hd 15 (by decide)))) ⟨hv.put mv_A_apart 16 rfl (Nat.le_of_ble_eq_true rfl) (Nat.le_of_ble_eq_true rfl) rfl, HO⟩
    · -- 17 off
      rintro L a wc ⟨hv, HO⟩ hL hc hd
      exact wpOp_off rfl ((wanted_at rfl rfl (hv.get 16 rfl rfl (hd 16 (by decide)))).trans rfl) ⟨hv.put mv_A_apart 17 rfl (Nat.le_of_ble_eq_true rfl) (Nat.le_of_ble_eq_true rfl) rfl, HO⟩
    · -- 18 off
      rintro L a wc ⟨hv, HO⟩ hL hc hd
      exact wpOp_off rfl ((wanted_at rfl rfl (hv.get 16 rfl rfl (hd 16 (by decide)))).trans rfl) ⟨hv.put mv_A_apart 18 rfl (Nat.le_of_ble_eq_true rfl) (Nat.le_of_ble_eq_true rfl) rfl, HO⟩
    · -- 19 off
      rintro L a wc ⟨hv, HO⟩ hL hc hd
      exact wpOp_off rfl ((wanted_at rfl rfl (hv.get 16 rfl rfl (hd 16 (by decide)))).trans rfl) ⟨hv.put mv_A_apart 19 rfl (Nat.le_of_ble_eq_true rfl) (Nat.le_of_ble_eq_true rfl) rfl, HO⟩
    · -- 20 off
      rintro L a wc ⟨hv, HO⟩ hL hc hd
      exact wpOp_off rfl ((wanted_at rfl rfl (hv.get 16 rfl rfl (hd 16 (by decide)))).trans rfl) ⟨hv.put mv_A_apart 20 rfl (Nat.le_of_ble_eq_true rfl) (Nat.le_of_ble_eq_true rfl) rfl, HO⟩
    · -- 21 off
      rintro L a wc ⟨hv, HO⟩ hL hc hd
      exact wpOp_off rfl ((wanted_at rfl rfl (hv.get 16 rfl rfl (hd 16 (by decide)))).trans rfl) ⟨hv.put mv_A_apart 21 rfl (Nat.le_of_ble_eq_true rfl) (Nat.le_of_ble_eq_true rfl) rfl, HO⟩
    · -- 22 off
      rintro L a wc ⟨hv, HO⟩ hL hc hd
      exact wpOp_off rfl ((wanted_at rfl rfl (hv.get 16 rfl rfl (hd 16 (by decide)))).trans rfl) ⟨hv.put mv_A_apart 22 rfl (Nat.le_of_ble_eq_true rfl) (Nat.le_of_ble_eq_true rfl) rfl, HO⟩
    · -- 23 off
      rintro L a wc ⟨hv, HO⟩ hL hc hd
      exact wpOp_off rfl ((wanted_at rfl rfl (hv.get 16 rfl rfl (hd 16 (by decide)))).trans rfl) ⟨hv.put mv_A_apart 23 rfl (Nat.le_of_ble_eq_true rfl) (Nat.le_of_ble_eq_true rfl) rfl, HO⟩
    · -- 24 off
      rintro L a wc ⟨hv, HO⟩ hL hc hd
      exact wpOp_off rfl ((wanted_at rfl rfl (hv.get 16 rfl rfl (hd 16 (by decide)))).trans rfl) ⟨hv.put mv_A_apart 24 rfl (Nat.le_of_ble_eq_true rfl) (Nat.le_of_ble_eq_true rfl) rfl, HO⟩
    · -- 25 off
      rintro L a wc ⟨hv, HO⟩ hL hc hd
      exact wpOp_off rfl (wanted_undef rfl rfl (hv.get 24 rfl rfl (hd 24 (by decide)))) ⟨hv.put mv_A_apart 25 rfl (Nat.le_of_ble_eq_true rfl) (Nat.le_of_ble_eq_true rfl) rfl, HO⟩
    · -- 26 off
      rintro L a wc ⟨hv, HO⟩ hL hc hd
      exact wpOp_off rfl (wanted_undef rfl rfl (hv.get 24 rfl rfl (hd 24 (by decide)))) ⟨hv.put mv_A_apart 26 rfl (Nat.le_of_ble_eq_true rfl) (Nat.le_of_ble_eq_true rfl) rfl, HO⟩
    · -- 27 off
      rintro L a wc ⟨hv, HO⟩ hL hc hd
      exact wpOp_off rfl (wanted_undef rfl rfl (hv.get 24 rfl rfl (hd 24 (by decide)))) ⟨hv.put mv_A_apart 27 rfl (Nat.le_of_ble_eq_true rfl) (Nat.le_of_ble_eq_true rfl) rfl, HO⟩
    · -- 28 off
      rintro L a wc ⟨hv, HO⟩ hL hc hd
      exact wpOp_off rfl (wanted_undef rfl rfl (hv.get 24 rfl rfl (hd 24 (by decide)))) ⟨hv.put mv_A_apart 28 rfl (Nat.le_of_ble_eq_true rfl) (Nat.le_of_ble_eq_true rfl) rfl, HO⟩
    · -- 29 off
      rintro L a wc ⟨hv, HO⟩ hL hc hd
      exact wpOp_off rfl (wanted_undef rfl rfl (hv.get 24 rfl rfl (hd 24 (by decide)))) ⟨hv.put mv_A_apart 29 rfl (Nat.le_of_ble_eq_true rfl) (Nat.le_of_ble_eq_true rfl) rfl, HO⟩
    · -- 30 off
      rintro L a wc ⟨hv, HO⟩ hL hc hd
      exact wpOp_off rfl (wanted_undef rfl rfl (hv.get 24 rfl rfl (hd 24 (by decide)))) ⟨hv.put mv_A_apart 30 rfl (Nat.le_of_ble_eq_true rfl) (Nat.le_of_ble_eq_true rfl) rfl, HO⟩
    · -- 31 off
      rintro L a wc ⟨hv, HO⟩ hL hc hd
      exact wpOp_off rfl (wanted_undef rfl rfl (hv.get 24 rfl rfl (hd 24 (by decide)))) ⟨hv.put mv_A_apart 31 rfl (Nat.le_of_ble_eq_true rfl) (Nat.le_of_ble_eq_true rfl) rfl, HO⟩
    · -- 32 off
      rintro L a wc ⟨hv, HO⟩ hL hc hd
      exact wpOp_off rfl (wanted_undef rfl rfl (hv.get 24 rfl rfl (hd 24 (by decide)))) ⟨hv.put mv_A_apart 32 rfl (Nat.le_of_ble_eq_true rfl) (Nat.le_of_ble_eq_true rfl) rfl, HO⟩
    · -- 33 off
      rintro L a wc ⟨hv, HO⟩ hL hc hd
      exact wpOp_off rfl (wanted_undef rfl rfl (hv.get 24 rfl rfl (hd 24 (by decide)))) ⟨hv.put mv_A_apart 33 rfl (Nat.le_of_ble_eq_true rfl) (Nat.le_of_ble_eq_true rfl) rfl, HO⟩
    · -- 34 off
      rintro L a wc ⟨hv, HO⟩ hL hc hd
      exact wpOp_off rfl (wanted_undef rfl rfl (hv.get 24 rfl rfl (hd 24 (by decide)))) ⟨hv.put mv_A_apart 34 rfl (Nat.le_of_ble_eq_true rfl) (Nat.le_of_ble_eq_true rfl) rfl, HO⟩
    · -- 35 off
      rintro L a wc ⟨hv, HO⟩ hL hc hd
      exact wpOp_off rfl (wanted_undef rfl rfl (hv.get 24 rfl rfl (hd 24 (by decide)))) ⟨hv.put mv_A_apart 35 rfl (Nat.le_of_ble_eq_true rfl) (Nat.le_of_ble_eq_true rfl) rfl, HO⟩
    · -- 36 off
      rintro L a wc ⟨hv, HO⟩ hL hc hd
      exact wpOp_off rfl (wanted_undef rfl rfl (hv.get 24 rfl rfl (hd 24 (by decide)))) ⟨hv.put mv_A_apart 36 rfl (Nat.le_of_ble_eq_true rfl) (Nat.le_of_ble_eq_true rfl) rfl, HO⟩
    · -- 37 off
      rintro L a wc ⟨hv, HO⟩ hL hc hd
      exact wpOp_off rfl (wanted_undef rfl rfl (hv.get 24 rfl rfl (hd 24 (by decide)))) ⟨hv.put mv_A_apart 37 rfl (Nat.le_of_ble_eq_true rfl) (Nat.le_of_ble_eq_true rfl) rfl, HO⟩
    · -- 38 off
      rintro L a wc ⟨hv, HO⟩ hL hc hd
      exact wpOp_off rfl (wanted_undef rfl rfl (hv.get 24 rfl rfl (hd 24 (by decide)))) ⟨hv.put mv_A_apart 38 rfl (Nat.le_of_ble_eq_true rfl) (Nat.le_of_ble_eq_true rfl) rfl, HO⟩
    · -- 39 off
      rintro L a wc ⟨hv, HO⟩ hL hc hd
      exact wpOp_off rfl (wanted_undef rfl rfl (hv.get 24 rfl rfl (hd 24 (by decide)))) ⟨hv.put mv_A_apart 39 rfl (Nat.le_of_ble_eq_true rfl) (Nat.le_of_ble_eq_true rfl) rfl, HO⟩
    · -- 40 off
      rintro L a wc ⟨hv, HO⟩ hL hc hd
      exact wpOp_off rfl ((wanted_at rfl rfl (hv.get 16 rfl rfl (hd 16 (by decide)))).trans rfl) ⟨hv.put mv_A_apart 40 rfl (Nat.le_of_ble_eq_true rfl) (Nat.le_of_ble_eq_true rfl) rfl, HO⟩
    · -- 41 pick
      rintro L a wc ⟨hv, HO⟩ hL hc hd
      exact wpOp_val rfl rfl (ex_pick rfl (hv.get 16 rfl rfl (hd 16 (by decide))) rfl) ⟨hv.put mv_A_apart 41 rfl (Nat.le_of_ble_eq_true rfl) (Nat.le_of_ble_eq_true rfl) rfl, HO⟩
  · rintro L a wc ⟨hv, HO⟩ hall
    show K a wc
    have ha := act_lit a
    rw [hv.size, hv.defers] at ha
    have hl : ∀ f : Nat → Value, ((List.range (⟨#[c0, c1, c2, c3, c4, c5, c6, c7, c8, c9, c10, c11, c12, c13, c14, .int .i64 (u : Nat), .int .i64 (v : Nat), c17, c18, c19, c20, c21, c22, c23, c24, c25, c26, c27, c28, c29, c30, c31, c32, c33, c34, c35, c36, c37, c38, c39, c40, c41, c42, c43, c44, c45, c46, c47, c48, c49, c50, c51, c52, c53, c54, c55, c56, c57, c58, c59, c60, c61, c62, c63, c64, c65, c66, c67, c68, c69, c70, c71, c72, c73, c74, c75, c76, c77, c78, c79, c80, c81, c82, c83, c84, c85, c86, c87, c88, c89, c90, c91, c92, c93, c94, c95, c96, c97, c98, c99, c100, c101, c102, c103, c104, c105, c106, c107, c108, c109, c110, c111, c112, c113, c114, c115, c116, c117, c118, c119, c120, c121, c122, c123, c124, c125, c126, c127, c128, c129, c130, c131, c132, c133, c134, c135, c136, c137, c138, c139, c140, c141, c142, c143, c144, c145, c146, c147, c148, c149, c150, c151, c152, c153, c154, c155, c156, c157, c158, c159, c160, c161, c162, c163, c164, c165, c166, c167, c168, c169, c170, c171, c172, c173, c174, c175, c176, c177, c178, c179, c180, c181, c182, c183, c184, c185, c186, c187, c188, c189, c190, c191, c192, c193, c194, c195, c196, c197, c198, c199, c200, c201, c202, c203, c204, c205, c206, c207, c208, c209], df⟩ : Act).tmps.size).map f).toArray = #[f 0, f 1, f 2, f 3, f 4, f 5, f 6, f 7, f 8, f 9, f 10, f 11, f 12, f 13, f 14, f 15, f 16, f 17, f 18, f 19, f 20, f 21, f 22, f 23, f 24, f 25, f 26, f 27, f 28, f 29, f 30, f 31, f 32, f 33, f 34, f 35, f 36, f 37, f 38, f 39, f 40, f 41, f 42, f 43, f 44, f 45, f 46, f 47, f 48, f 49, f 50, f 51, f 52, f 53, f 54, f 55, f 56, f 57, f 58, f 59, f 60, f 61, f 62, f 63, f 64, f 65, f 66, f 67, f 68, f 69, f 70, f 71, f 72, f 73, f 74, f 75, f 76, f 77, f 78, f 79, f 80, f 81, f 82, f 83, f 84, f 85, f 86, f 87, f 88, f 89, f 90, f 91, f 92, f 93, f 94, f 95, f 96, f 97, f 98, f 99, f 100, f 101, f 102, f 103, f 104, f 105, f 106, f 107, f 108, f 109, f 110, f 111, f 112, f 113, f 114, f 115, f 116, f 117, f 118, f 119, f 120, f 121, f 122, f 123, f 124, f 125, f 126, f 127, f 128, f 129, f 130, f 131, f 132, f 133, f 134, f 135, f 136, f 137, f 138, f 139, f 140, f 141, f 142, f 143, f 144, f 145, f 146, f 147, f 148, f 149, f 150, f 151, f 152, f 153, f 154, f 155, f 156, f 157, f 158, f 159, f 160, f 161, f 162, f 163, f 164, f 165, f 166, f 167, f 168, f 169, f 170, f 171, f 172, f 173, f 174, f 175, f 176, f 177, f 178, f 179, f 180, f 181, f 182, f 183, f 184, f 185, f 186, f 187, f 188, f 189, f 190, f 191, f 192, f 193, f 194, f 195, f 196, f 197, f 198, f 199, f 200, f 201, f 202, f 203, f 204, f 205, f 206, f 207, f 208, f 209] := fun _ => rfl
    rw [hl] at ha
    simp only [hv.fixed 0 (by decide), hv.fixed 1 (by decide), hv.fixed 2 (by decide), hv.fixed 3 (by decide), hv.fixed 4 (by decide), hv.fixed 5 (by decide), hv.fixed 6 (by decide), hv.fixed 7 (by decide), hv.fixed 8 (by decide), hv.fixed 9 (by decide), hv.fixed 10 (by decide), hv.fixed 11 (by decide), hv.fixed 12 (by decide), hv.fixed 13 (by decide), hv.fixed 14 (by decide), hv.fixed 15 (by decide), hv.fixed 16 (by decide), hv.fixed 17 (by decide), hv.fixed 18 (by decide), hv.fixed 19 (by decide), hv.fixed 20 (by decide), hv.fixed 21 (by decide), hv.fixed 22 (by decide), hv.fixed 23 (by decide), hv.fixed 24 (by decide), hv.fixed 25 (by decide), hv.fixed 26 (by decide), hv.fixed 27 (by decide), hv.fixed 28 (by decide), hv.fixed 29 (by decide), hv.fixed 30 (by decide), hv.fixed 31 (by decide), hv.fixed 32 (by decide), hv.fixed 33 (by decide), hv.fixed 34 (by decide), hv.fixed 35 (by decide), hv.fixed 36 (by decide), hv.fixed 37 (by decide), hv.fixed 38 (by decide), hv.fixed 39 (by decide), hv.fixed 40 (by decide), hv.fixed 41 (by decide), hv.fixed 42 (by decide), hv.fixed 43 (by decide), hv.fixed 44 (by decide), hv.fixed 45 (by decide), hv.fixed 46 (by decide), hv.fixed 47 (by decide), hv.fixed 48 (by decide), hv.fixed 49 (by decide), hv.fixed 50 (by decide), hv.fixed 51 (by decide), hv.fixed 52 (by decide), hv.fixed 53 (by decide), hv.fixed 54 (by decide), hv.fixed 55 (by decide), hv.fixed 56 (by decide), hv.fixed 57 (by decide), hv.fixed 58 (by decide), hv.fixed 59 (by decide), hv.fixed 60 (by decide), hv.fixed 61 (by decide), hv.fixed 62 (by decide), hv.fixed 63 (by decide), hv.fixed 64 (by decide), hv.fixed 65 (by decide), hv.fixed 66 (by decide), hv.fixed 67 (by decide), hv.fixed 68 (by decide), hv.fixed 69 (by decide), hv.fixed 70 (by decide), hv.fixed 71 (by decide), hv.fixed 72 (by decide), hv.fixed 73 (by decide), hv.fixed 74 (by decide), hv.fixed 75 (by decide), hv.fixed 76 (by decide), hv.fixed 77 (by decide), hv.fixed 78 (by decide), hv.fixed 79 (by decide), hv.fixed 80 (by decide), hv.fixed 81 (by decide), hv.fixed 82 (by decide), hv.fixed 83 (by decide), hv.fixed 84 (by decide), hv.fixed 85 (by decide), hv.fixed 86 (by decide), hv.fixed 87 (by decide), hv.fixed 88 (by decide), hv.fixed 89 (by decide), hv.fixed 90 (by decide), hv.fixed 91 (by decide), hv.fixed 92 (by decide), hv.fixed 93 (by decide), hv.fixed 94 (by decide), hv.fixed 95 (by decide), hv.fixed 96 (by decide), hv.fixed 97 (by decide), hv.fixed 98 (by decide), hv.fixed 99 (by decide), hv.fixed 100 (by decide), hv.fixed 101 (by decide), hv.fixed 102 (by decide), hv.fixed 103 (by decide), hv.fixed 104 (by decide), hv.fixed 105 (by decide), hv.fixed 106 (by decide), hv.fixed 107 (by decide), hv.fixed 108 (by decide), hv.fixed 109 (by decide), hv.fixed 110 (by decide), hv.fixed 111 (by decide), hv.fixed 112 (by decide), hv.fixed 113 (by decide), hv.fixed 114 (by decide), hv.fixed 115 (by decide), hv.fixed 116 (by decide), hv.fixed 117 (by decide), hv.fixed 118 (by decide), hv.fixed 119 (by decide), hv.fixed 120 (by decide), hv.fixed 121 (by decide), hv.fixed 122 (by decide), hv.fixed 123 (by decide), hv.fixed 124 (by decide), hv.fixed 125 (by decide), hv.fixed 126 (by decide), hv.fixed 127 (by decide), hv.fixed 128 (by decide), hv.fixed 129 (by decide), hv.fixed 130 (by decide), hv.fixed 131 (by decide), hv.fixed 132 (by decide), hv.fixed 133 (by decide), hv.fixed 134 (by decide), hv.fixed 135 (by decide), hv.fixed 136 (by decide), hv.fixed 137 (by decide), hv.fixed 138 (by decide), hv.fixed 139 (by decide), hv.fixed 140 (by decide), hv.fixed 141 (by decide), hv.fixed 142 (by decide), hv.fixed 143 (by decide), hv.fixed 144 (by decide), hv.fixed 145 (by decide), hv.fixed 146 (by decide), hv.fixed 147 (by decide), hv.fixed 148 (by decide), hv.fixed 191 (by decide), hv.fixed 192 (by decide), hv.fixed 193 (by decide), hv.fixed 194 (by decide), hv.fixed 195 (by decide), hv.fixed 196 (by decide), hv.fixed 197 (by decide), hv.fixed 198 (by decide), hv.fixed 199 (by decide), hv.fixed 200 (by decide), hv.fixed 201 (by decide), hv.fixed 202 (by decide), hv.fixed 203 (by decide), hv.fixed 204 (by decide), hv.fixed 205 (by decide), hv.fixed 206 (by decide), hv.fixed 207 (by decide), hv.fixed 208 (by decide), hv.fixed 209 (by decide), hv.get 41 (d := 190) rfl rfl (hall 41 (by decide))] at ha
    rw [ha]
    exact hK _ _ _ _ _ _ _ _ _ _ _ _ _ _ _ _ _ _ _ _ _ _ _ _ _ _ _ _ _ _ _ _ _ _ _ _ _ _ _ _ _ wc HO.out
noncomputable def mv_B_code : Code := ((Tryd.f34.body.bind (regionOf 39)).getD .skip)
def mv_B_dsts : List (Option Nat) := [some 149, some 150, some 151, some 152, some 153, some 154, some 155, some 156, some 157, some 158, some 159, some 160, some 161, some 162, some 163, some 164, some 165, some 166, some 167, some 168, some 169, some 170, some 171, some 172, some 173, some 174, some 175, some 176, some 177, some 178, some 179, some 180, some 181, some 182, some 183, some 184, some 185, some 186, some 187, some 188, some 189, some 190]
theorem mv_B_apart : apartD mv_B_dsts = true := by decide +kernel
set_option maxRecDepth 1000000 in
set_option maxHeartbeats 16000000 in
theorem mv_B (wr : World) (u v : Nat) (hne : ((u : Int) != (v : Int)) = true) (p : Int) (hp : p < 0) (c0 c1 c2 c3 c4 c5 c6 c7 c8 c9 c10 c11 c12 c13 c14 c18 c19 c20 c21 c22 c23 c24 c25 c26 c27 c28 c29 c30 c31 c32 c33 c34 c35 c36 c37 c38 c39 c40 c41 c42 c43 c44 c45 c46 c47 c48 c49 c50 c51 c52 c53 c54 c55 c56 c57 c58 c59 c60 c61 c62 c63 c64 c65 c66 c67 c68 c69 c70 c71 c72 c73 c74 c75 c76 c77 c78 c79 c80 c81 c82 c83 c84 c85 c86 c87 c88 c89 c90 c91 c92 c93 c94 c95 c96 c97 c98 c99 c100 c101 c102 c103 c104 c105 c106 c107 c108 c109 c110 c111 c112 c113 c114 c115 c116 c117 c118 c119 c120 c121 c122 c123 c124 c125 c126 c127 c128 c129 c130 c131 c132 c133 c134 c135 c136 c137 c138 c139 c140 c141 c142 c143 c144 c145 c146 c147 c148 c149 c150 c151 c152 c153 c154 c155 c156 c157 c158 c159 c160 c161 c162 c163 c164 c165 c166 c167 c168 c169 c170 c171 c172 c173 c174 c175 c176 c177 c178 c179 c180 c181 c182 c183 c184 c185 c186 c187 c188 c189 c190 c191 c192 c193 c194 c195 c196 c197 c198 c199 c200 c201 c202 c203 c204 c205 c206 c207 c208 c209 : Value) (df : List Deferred) (K : Act → World → Prop)
    (hK : ∀  (u149 u150 u151 u152 u153 u154 u155 u156 u157 u158 u159 u160 u161 u162 u163 u164 u165 u166 u167 u168 u169 u170 u171 u172 u173 u174 u175 u176 u177 u178 u179 u180 u181 u182 u183 u184 u185 u186 u187 u188 u189 : Value) (wx : World), Ext wr wx → K ⟨#[c0, c1, c2, c3, c4, c5, c6, c7, c8, c9, c10, c11, c12, c13, c14, .int .i64 (u : Nat), .int .i64 (v : Nat), .int .i64 p, c18, c19, c20, c21, c22, c23, c24, c25, c26, c27, c28, c29, c30, c31, c32, c33, c34, c35, c36, c37, c38, c39, c40, c41, c42, c43, c44, c45, c46, c47, c48, c49, c50, c51, c52, c53, c54, c55, c56, c57, c58, c59, c60, c61, c62, c63, c64, c65, c66, c67, c68, c69, c70, c71, c72, c73, c74, c75, c76, c77, c78, c79, c80, c81, c82, c83, c84, c85, c86, c87, c88, c89, c90, c91, c92, c93, c94, c95, c96, c97, c98, c99, c100, c101, c102, c103, c104, c105, c106, c107, c108, c109, c110, c111, c112, c113, c114, c115, c116, c117, c118, c119, c120, c121, c122, c123, c124, c125, c126, c127, c128, c129, c130, c131, c132, c133, c134, c135, c136, c137, c138, c139, c140, c141, c142, c143, c144, c145, c146, c147, c148, u149, u150, u151, u152, u153, u154, u155, u156, u157, u158, u159, u160, u161, u162, u163, u164, u165, u166, u167, u168, u169, u170, u171, u172, u173, u174, u175, u176, u177, u178, u179, u180, u181, u182, u183, u184, u185, u186, u187, u188, u189, .bool false, c191, c192, c193, c194, c195, c196, c197, c198, c199, c200, c201, c202, c203, c204, c205, c206, c207, c208, c209], df⟩ wx) :
    Code.wp Tryd.prog mv_B_code (AtEnd K) ⟨#[c0, c1, c2, c3, c4, c5, c6, c7, c8, c9, c10, c11, c12, c13, c14, .int .i64 (u : Nat), .int .i64 (v : Nat), .int .i64 p, c18, c19, c20, c21, c22, c23, c24, c25, c26, c27, c28, c29, c30, c31, c32, c33, c34, c35, c36, c37, c38, c39, c40, c41, c42, c43, c44, c45, c46, c47, c48, c49, c50, c51, c52, c53, c54, c55, c56, c57, c58, c59, c60, c61, c62, c63, c64, c65, c66, c67, c68, c69, c70, c71, c72, c73, c74, c75, c76, c77, c78, c79, c80, c81, c82, c83, c84, c85, c86, c87, c88, c89, c90, c91, c92, c93, c94, c95, c96, c97, c98, c99, c100, c101, c102, c103, c104, c105, c106, c107, c108, c109, c110, c111, c112, c113, c114, c115, c116, c117, c118, c119, c120, c121, c122, c123, c124, c125, c126, c127, c128, c129, c130, c131, c132, c133, c134, c135, c136, c137, c138, c139, c140, c141, c142, c143, c144, c145, c146, c147, c148, c149, c150, c151, c152, c153, c154, c155, c156, c157, c158, c159, c160, c161, c162, c163, c164, c165, c166, c167, c168, c169, c170, c171, c172, c173, c174, c175, c176, c177, c178, c179, c180, c181, c182, c183, c184, c185, c186, c187, c188, c189, c190, c191, c192, c193, c194, c195, c196, c197, c198, c199, c200, c201, c202, c203, c204, c205, c206, c207, c208, c209], df⟩ wr := by
  conv => arg 2; whnf
  refine region_inv (by kernel_rfl) [[], [], [0, 1], [2], [3], [4, 3], [3, 5], [6, 3], [7], [7], [8, 7], [10, 9, 7], [11, 7], [12, 7], [13, 7], [7, 14], [15, 7], [16], [16], [17, 16], [19, 18, 16], [20, 16], [21, 16], [22, 16], [23, 16, 16], [24], [24], [25, 24], [27, 26, 24], [28, 24], [29, 24], [24], [30, 31, 24], [24], [24], [33, 24], [35, 34, 24], [36, 24], [37, 24], [32, 38, 24], [24, 39, 16], [16, 40]] (by kernel_rfl) [0, 1, 2, 3, 4, 5, 6, 7, 8, 9, 10, 11, 12, 13, 14, 15, 16, 17, 18, 19, 20, 21, 22, 23, 24, 25, 26, 27, 28, 29, 30, 31, 32, 33, 34, 35, 36, 37, 38, 39, 40, 41] (by decide +kernel) (by decide +kernel) (by decide +kernel) (fun L a wc => Inv mv_B_dsts [.int .i64 (u : Nat), .int .i64 (v : Nat), .bool true, .bool true, .int .i64 p, .bool false, .bool false, .bool false, undef, undef, undef, undef, undef, undef, undef, .bool false, .bool false, undef, undef, undef, undef, undef, undef, undef, undef, undef, undef, undef, undef, undef, undef, undef, undef, undef, undef, undef, undef, undef, undef, undef, undef, .bool false] ⟨#[c0, c1, c2, c3, c4, c5, c6, c7, c8, c9, c10, c11, c12, c13, c14, .int .i64 (u : Nat), .int .i64 (v : Nat), .int .i64 p, c18, c19, c20, c21, c22, c23, c24, c25, c26, c27, c28, c29, c30, c31, c32, c33, c34, c35, c36, c37, c38, c39, c40, c41, c42, c43, c44, c45, c46, c47, c48, c49, c50, c51, c52, c53, c54, c55, c56, c57, c58, c59, c60, c61, c62, c63, c64, c65, c66, c67, c68, c69, c70, c71, c72, c73, c74, c75, c76, c77, c78, c79, c80, c81, c82, c83, c84, c85, c86, c87, c88, c89, c90, c91, c92, c93, c94, c95, c96, c97, c98, c99, c100, c101, c102, c103, c104, c105, c106, c107, c108, c109, c110, c111, c112, c113, c114, c115, c116, c117, c118, c119, c120, c121, c122, c123, c124, c125, c126, c127, c128, c129, c130, c131, c132, c133, c134, c135, c136, c137, c138, c139, c140, c141, c142, c143, c144, c145, c146, c147, c148, c149, c150, c151, c152, c153, c154, c155, c156, c157, c158, c159, c160, c161, c162, c163, c164, c165, c166, c167, c168, c169, c170, c171, c172, c173, c174, c175, c176, c177, c178, c179, c180, c181, c182, c183, c184, c185, c186, c187, c188, c189, c190, c191, c192, c193, c194, c195, c196, c197, c198, c199, c200, c201, c202, c203, c204, c205, c206, c207, c208, c209], df⟩ L a ∧ Hid (Ext wr wc)) ⟨Inv.start, Lib.hid ((Ext.refl wr).drew)⟩ ?_ ?_
  · refine ⟨?_, ?_, ?_, ?_, ?_, ?_, ?_, ?_, ?_, ?_, ?_, ?_, ?_, ?_, ?_, ?_, ?_, ?_, ?_, ?_, ?_, ?_, ?_, ?_, ?_, ?_, ?_, ?_, ?_, ?_, ?_, ?_, ?_, ?_, ?_, ?_, ?_, ?_, ?_, ?_, ?_, ?_, trivial⟩
    · -- 0 move
      rintro L a wc ⟨hv, HO⟩ hL hc hd
      exact wpOp_val rfl rfl (ex_move rfl ((hv.fixed 15 (by decide)).trans rfl)) ⟨hv.put mv_B_apart 0 rfl (Nat.le_of_ble_eq_true rfl) (Nat.le_of_ble_eq_true rfl) rfl, HO⟩
    · -- 1 move
      rintro L a wc ⟨hv, HO⟩ hL hc hd
      exact wpOp_val rfl rfl (ex_move rfl ((hv.fixed 16 (by decide)).trans rfl)) ⟨hv.put mv_B_apart 1 rfl (Nat.le_of_ble_eq_true rfl) (Nat.le_of_ble_eq_true rfl) rfl, HO⟩
    · -- 2 bin
      rintro L a wc ⟨hv, HO⟩ hL hc hd
      have h := hne
      exact wpOp_val rfl rfl (ex_bin rfl (hv.get 0 rfl rfl (hd 0 (by decide))) (hv.get 1 rfl rfl (hd 1 (by decide))) (by go_simp)) ⟨hv.put mv_B_apart 2 rfl (Nat.le_of_ble_eq_true rfl) (Nat.le_of_ble_eq_true rfl) rfl, HO⟩
    · -- 3 move
      rintro L a wc ⟨hv, HO⟩ hL hc hd
      exact wpOp_val rfl rfl (ex_move rfl (hv.get 2 rfl rfl (hd 2 (by decide)))) ⟨hv.put mv_B_apart 3 rfl (Nat.le_of_ble_eq_true rfl) (Nat.le_of_ble_eq_true rfl) rfl, HO⟩
    · -- 4 move
      rintro L a wc ⟨hv, HO⟩ hL hc hd
      exact wpOp_val rfl ((wanted_at rfl rfl (hv.get 3 rfl rfl (hd 3 (by decide)))).trans rfl) (ex_move rfl ((hv.fixed 17 (by decide)).trans rfl)) ⟨hv.put mv_B_apart 4 rfl (Nat.le_of_ble_eq_true rfl) (Nat.le_of_ble_eq_true rfl) rfl, HO⟩
    · -- 5 bin
      rintro L a wc ⟨hv, HO⟩ hL hc hd
      exact wpOp_val rfl ((wanted_at rfl rfl (hv.get 3 rfl rfl (hd 3 (by decide)))).trans rfl) (ex_bin rfl (hv.get 4 rfl rfl (hd 4 (by decide))) rfl (by go_simp)) ⟨hv.put mv_B_apart 5 rfl (Nat.le_of_ble_eq_true rfl) (Nat.le_of_ble_eq_true rfl) rfl, HO⟩
    · -- 6 pick
      rintro L a wc ⟨hv, HO⟩ hL hc hd
      exact wpOp_val rfl rfl (ex_pick rfl (hv.get 3 rfl rfl (hd 3 (by decide))) ((if_pos rfl).trans (hv.get 5 rfl rfl (hd 5 (by decide))))) ⟨hv.put mv_B_apart 6 rfl (Nat.le_of_ble_eq_true rfl) (Nat.le_of_ble_eq_true rfl) rfl, HO⟩
    · -- 7 move
      rintro L a wc ⟨hv, HO⟩ hL hc hd
      exact wpOp_val rfl rfl (ex_move rfl (hv.get 6 rfl rfl (hd 6 (by decide)))) ⟨hv.put mv_B_apart 7 rfl (Nat.le_of_ble_eq_true rfl) (Nat.le_of_ble_eq_true rfl) rfl, HO⟩
    · -- 8 off
      rintro L a wc ⟨hv, HO⟩ hL hc hd
      exact wpOp_off rfl ((wanted_at rfl rfl (hv.get 7 rfl rfl (hd 7 (by decide)))).trans rfl) ⟨hv.put mv_B_apart 8 rfl (Nat.le_of_ble_eq_true rfl) (Nat.le_of_ble_eq_true rfl) rfl, HO⟩
    · -- 9 off
      rintro L a wc ⟨hv, HO⟩ hL hc hd
      exact wpOp_off rfl ((wanted_at rfl rfl (hv.get 7 rfl rfl (hd 7 (by decide)))).trans rfl) ⟨hv.put mv_B_apart 9 rfl (Nat.le_of_ble_eq_true rfl) (Nat.le_of_ble_eq_true rfl) rfl, HO⟩
    · -- 10 off
      rintro L a wc ⟨hv, HO⟩ hL hc hd
      exact wpOp_off rfl ((wanted_at rfl rfl (hv.get 7 rfl rfl (hd 7 (by decide)))).trans rfl) ⟨hv.put mv_B_apart 10 rfl (Nat.le_of_ble_eq_true rfl) (Nat.le_of_ble_eq_true rfl) rfl, HO⟩
    · -- 11 off
      rintro L a wc ⟨hv, HO⟩ hL hc hd
      exact wpOp_off rfl ((wanted_at rfl rfl (hv.get 7 rfl rfl (hd 7 (by decide)))).trans rfl) ⟨hv.put mv_B_apart 11 rfl (Nat.le_of_ble_eq_true rfl) (Nat.le_of_ble_eq_true rfl) rfl, HO⟩
    · -- 12 off
      rintro L a wc ⟨hv, HO⟩ hL hc hd
      exact wpOp_off rfl ((wanted_at rfl rfl (hv.get 7 rfl rfl (hd 7 (by decide)))).trans rfl) ⟨hv.put mv_B_apart 12 rfl (Nat.le_of_ble_eq_true rfl) (Nat.le_of_ble_eq_true rfl) rfl, HO⟩
    · -- 13 off
      rintro L a wc ⟨hv, HO⟩ hL hc hd
      exact wpOp_off rfl ((wanted_at rfl rfl (hv.get 7 rfl rfl (hd 7 (by decide)))).trans rfl) ⟨hv.put mv_B_apart 13 rfl (Nat.le_of_ble_eq_true rfl) (Nat.le_of_ble_eq_true rfl) rfl, HO⟩
    · -- 14 off
      rintro L a wc ⟨hv, HO⟩ hL hc hd
      exact wpOp_off rfl ((wanted_at rfl rfl (hv.get 7 rfl rfl (hd 7 (by decide)))).trans rfl) ⟨hv.put mv_B_apart 14 rfl (Nat.le_of_ble_eq_true rfl) (Nat.le_of_ble_eq_true rfl) rfl, HO⟩
    · -- 15 pick
      rintro L a wc ⟨hv, HO⟩ hL hc hd
      exact wpOp_val rfl rfl (ex_pick rfl (hv.get 7 rfl rfl (hd 7 (by decide))) rfl) ⟨hv.put mv_B_apart 15 rfl (Nat.le_of_ble_eq_true rfl) (Nat.le_of_ble_eq_true rfl) rfl, HO⟩
    · -- 16 move
      rintro L a wc ⟨hv, HO⟩ hL hc hd
      exact wpOp_val rfl rfl (ex_move rfl (hv.get 15 rfl rfl (hd 15 (by decide)))) ⟨hv.put mv_B_apart 16 rfl (Nat.le_of_ble_eq_true rfl) (Nat.le_of_ble_eq_true rfl) rfl, HO⟩
    · -- 17 off
      rintro L a wc ⟨hv, HO⟩ hL hc hd
      exact wpOp_off rfl ((wanted_at rfl rfl (hv.get 16 rfl rfl (hd 16 (by decide)))).trans rfl) ⟨hv.put mv_B_apart 17 rfl (Nat.le_of_ble_eq_true rfl) (Nat.le_of_ble_eq_true rfl) rfl, HO⟩
    · -- 18 off
      rintro L a wc ⟨hv, HO⟩ hL hc hd
      exact wpOp_off rfl ((wanted_at rfl rfl (hv.get 16 rfl rfl (hd 16 (by decide)))).trans rfl) ⟨hv.put mv_B_apart 18 rfl (Nat.le_of_ble_eq_true rfl) (Nat.le_of_ble_eq_true rfl) rfl, HO⟩
    · -- 19 off
      rintro L a wc ⟨hv, HO⟩ hL hc hd
      exact wpOp_off rfl ((wanted_at rfl rfl (hv.get 16 rfl rfl (hd 16 (by decide)))).trans rfl) ⟨hv.put mv_B_apart 19 rfl (Nat.le_of_ble_eq_true rfl) (Nat.le_of_ble_eq_true rfl) rfl, HO⟩
    · -- 20 off
      rintro L a wc ⟨hv, HO⟩ hL hc hd
      exact wpOp_off rfl ((wanted_at rfl rfl (hv.get 16 rfl rfl (hd 16 (by decide)))).trans rfl) ⟨hv.put mv_B_apart 20 rfl (Nat.le_of_ble_eq_true rfl) (Nat.le_of_ble_eq_true rfl) rfl, HO⟩
    · -- 21 off
      rintro L a wc ⟨hv, HO⟩ hL hc hd
      exact wpOp_off rfl ((wanted_at rfl rfl (hv.get 16 rfl rfl (hd 16 (by decide)))).trans rfl) ⟨hv.put mv_B_apart 21 rfl (Nat.le_of_ble_eq_true rfl) (Nat.le_of_ble_eq_true rfl) rfl, HO⟩
    · -- 22 off
      rintro L a wc ⟨hv, HO⟩ hL hc hd
      exact wpOp_off rfl ((wanted_at rfl rfl (hv.get 16 rfl rfl (hd 16 (by decide)))).trans rfl) ⟨hv.put mv_B_apart 22 rfl (Nat.le_of_ble_eq_true rfl) (Nat.le_of_ble_eq_true rfl) rfl, HO⟩
    · -- 23 off
      rintro L a wc ⟨hv, HO⟩ hL hc hd
      exact wpOp_off rfl ((wanted_at rfl rfl (hv.get 16 rfl rfl (hd 16 (by decide)))).trans rfl) ⟨hv.put mv_B_apart 23 rfl (Nat.le_of_ble_eq_true rfl) (Nat.le_of_ble_eq_true rfl) rfl, HO⟩
    · -- 24 off
      rintro L a wc ⟨hv, HO⟩ hL hc hd
      exact wpOp_off rfl ((wanted_at rfl rfl (hv.get 16 rfl rfl (hd 16 (by decide)))).trans rfl) ⟨hv.put mv_B_apart 24 rfl (Nat.le_of_ble_eq_true rfl) (Nat.le_of_ble_eq_true rfl) rfl, HO⟩
    · -- 25 off
      rintro L a wc ⟨hv, HO⟩ hL hc hd
      exact wpOp_off rfl (wanted_undef rfl rfl (hv.get 24 rfl rfl (hd 24 (by decide)))) ⟨hv.put mv_B_apart 25 rfl (Nat.le_of_ble_eq_true rfl) (Nat.le_of_ble_eq_true rfl) rfl, HO⟩
    · -- 26 off
      rintro L a wc ⟨hv, HO⟩ hL hc hd
      exact wpOp_off rfl (wanted_undef rfl rfl (hv.get 24 rfl rfl (hd 24 (by decide)))) ⟨hv.put mv_B_apart 26 rfl (Nat.le_of_ble_eq_true rfl) (Nat.le_of_ble_eq_true rfl) rfl, HO⟩
    · -- 27 off
      rintro L a wc ⟨hv, HO⟩ hL hc hd
      exact wpOp_off rfl (wanted_undef rfl rfl (hv.get 24 rfl rfl (hd 24 (by decide)))) ⟨hv.put mv_B_apart 27 rfl (Nat.le_of_ble_eq_true rfl) (Nat.le_of_ble_eq_true rfl) rfl, HO⟩
    · -- 28 off
      rintro L a wc ⟨hv, HO⟩ hL hc hd
      exact wpOp_off rfl (wanted_undef rfl rfl (hv.get 24 rfl rfl (hd 24 (by decide)))) ⟨hv.put mv_B_apart 28 rfl (Nat.le_of_ble_eq_true rfl) (Nat.le_of_ble_eq_true rfl) rfl, HO⟩
    · -- 29 off
      rintro L a wc ⟨hv, HO⟩ hL hc hd
      exact wpOp_off rfl (wanted_undef rfl rfl (hv.get 24 rfl rfl (hd 24 (by decide)))) ⟨hv.put mv_B_apart 29 rfl (Nat.le_of_ble_eq_true rfl) (Nat.le_of_ble_eq_true rfl) rfl, HO⟩
    · -- 30 off
      rintro L a wc ⟨hv, HO⟩ hL hc hd
      exact wpOp_off rfl (wanted_undef rfl rfl (hv.get 24 rfl rfl (hd 24 (by decide)))) ⟨hv.put mv_B_apart 30 rfl (Nat.le_of_ble_eq_true rfl) (Nat.le_of_ble_eq_true rfl) rfl, HO⟩
    · -- 31 off
      rintro L a wc ⟨hv, HO⟩ hL hc hd
      exact wpOp_off rfl (wanted_undef rfl rfl (hv.get 24 rfl rfl (hd 24 (by decide)))) ⟨hv.put mv_B_apart 31 rfl (Nat.le_of_ble_eq_true rfl) (Nat.le_of_ble_eq_true rfl) rfl, HO⟩
    · -- 32 off
      rintro L a wc ⟨hv, HO⟩ hL hc hd
      exact wpOp_off rfl (wanted_undef rfl rfl (hv.get 24 rfl rfl (hd 24 (by decide)))) ⟨hv.put mv_B_apart 32 rfl (Nat.le_of_ble_eq_true rfl) (Nat.le_of_ble_eq_true rfl) rfl, HO⟩
    · -- 33 off
      rintro L a wc ⟨hv, HO⟩ hL hc hd
      exact wpOp_off rfl (wanted_undef rfl rfl (hv.get 24 rfl rfl (hd 24 (by decide)))) ⟨hv.put mv_B_apart 33 rfl (Nat.le_of_ble_eq_true rfl) (Nat.le_of_ble_eq_true rfl) rfl, HO⟩
    · -- 34 off
      rintro L a wc ⟨hv, HO⟩ hL hc hd
      exact wpOp_off rfl (wanted_undef rfl rfl (hv.get 24 rfl rfl (hd 24 (by decide)))) ⟨hv.put mv_B_apart 34 rfl (Nat.le_of_ble_eq_true rfl) (Nat.le_of_ble_eq_true rfl) rfl, HO⟩
    · -- 35 off
      rintro L a wc ⟨hv, HO⟩ hL hc hd
      exact wpOp_off rfl (wanted_undef rfl rfl (hv.get 24 rfl rfl (hd 24 (by decide)))) ⟨hv.put mv_B_apart 35 rfl (Nat.le_of_ble_eq_true rfl) (Nat.le_of_ble_eq_true rfl) rfl, HO⟩
    · -- 36 off
      rintro L a wc ⟨hv, HO⟩ hL hc hd
      exact wpOp_off rfl (wanted_undef rfl rfl (hv.get 24 rfl rfl (hd 24 (by decide)))) ⟨hv.put mv_B_apart 36 rfl (Nat.le_of_ble_eq_true rfl) (Nat.le_of_ble_eq_true rfl) rfl, HO⟩
    · -- 37 off
      rintro L a wc ⟨hv, HO⟩ hL hc hd
      exact wpOp_off rfl (wanted_undef rfl rfl (hv.get 24 rfl rfl (hd 24 (by decide)))) ⟨hv.put mv_B_apart 37 rfl (Nat.le_of_ble_eq_true rfl) (Nat.le_of_ble_eq_true rfl) rfl, HO⟩
    · -- 38 off
      rintro L a wc ⟨hv, HO⟩ hL hc hd
      exact wpOp_off rfl (wanted_undef rfl rfl (hv.get 24 rfl rfl (hd 24 (by decide)))) ⟨hv.put mv_B_apart 38 rfl (Nat.le_of_ble_eq_true rfl) (Nat.le_of_ble_eq_true rfl) rfl, HO⟩
    · -- 39 off
      rintro L a wc ⟨hv, HO⟩ hL hc hd
      exact wpOp_off rfl (wanted_undef rfl rfl (hv.get 24 rfl rfl (hd 24 (by decide)))) ⟨hv.put mv_B_apart 39 rfl (Nat.le_of_ble_eq_true rfl) (Nat.le_of_ble_eq_true rfl) rfl, HO⟩
    · -- 40 off
      rintro L a wc ⟨hv, HO⟩ hL hc hd
      exact wpOp_off rfl ((wanted_at rfl rfl (hv.get 16 rfl rfl (hd 16 (by decide)))).trans rfl) ⟨hv.put mv_B_apart 40 rfl (Nat.le_of_ble_eq_true rfl) (Nat.le_of_ble_eq_true rfl) rfl, HO⟩
    · -- 41 pick
      rintro L a wc ⟨hv, HO⟩ hL hc hd
      exact wpOp_val rfl rfl (ex_pick rfl (hv.get 16 rfl rfl (hd 16 (by decide))) rfl) ⟨hv.put mv_B_apart 41 rfl (Nat.le_of_ble_eq_true rfl) (Nat.le_of_ble_eq_true rfl) rfl, HO⟩
  · rintro L a wc ⟨hv, HO⟩ hall
    show K a wc
    have ha := act_lit a
    rw [hv.size, hv.defers] at ha
    have hl : ∀ f : Nat → Value, ((List.range (⟨#[c0, c1, c2, c3, c4, c5, c6, c7, c8, c9, c10, c11, c12, c13, c14, .int .i64 (u : Nat), .int .i64 (v : Nat), .int .i64 p, c18, c19, c20, c21, c22, c23, c24, c25, c26, c27, c28, c29, c30, c31, c32, c33, c34, c35, c36, c37, c38, c39, c40, c41, c42, c43, c44, c45, c46, c47, c48, c49, c50, c51, c52, c53, c54, c55, c56, c57, c58, c59, c60, c61, c62, c63, c64, c65, c66, c67, c68, c69, c70, c71, c72, c73, c74, c75, c76, c77, c78, c79, c80, c81, c82, c83, c84, c85, c86, c87, c88, c89, c90, c91, c92, c93, c94, c95, c96, c97, c98, c99, c100, c101, c102, c103, c104, c105, c106, c107, c108, c109, c110, c111, c112, c113, c114, c115, c116, c117, c118, c119, c120, c121, c122, c123, c124, c125, c126, c127, c128, c129, c130, c131, c132, c133, c134, c135, c136, c137, c138, c139, c140, c141, c142, c143, c144, c145, c146, c147, c148, c149, c150, c151, c152, c153, c154, c155, c156, c157, c158, c159, c160, c161, c162, c163, c164, c165, c166, c167, c168, c169, c170, c171, c172, c173, c174, c175, c176, c177, c178, c179, c180, c181, c182, c183, c184, c185, c186, c187, c188, c189, c190, c191, c192, c193, c194, c195, c196, c197, c198, c199, c200, c201, c202, c203, c204, c205, c206, c207, c208, c209], df⟩ : Act).tmps.size).map f).toArray = #[f 0, f 1, f 2, f 3, f 4, f 5, f 6, f 7, f 8, f 9, f 10, f 11, f 12, f 13, f 14, f 15, f 16, f 17, f 18, f 19, f 20, f 21, f 22, f 23, f 24, f 25, f 26, f 27, f 28, f 29, f 30, f 31, f 32, f 33, f 34, f 35, f 36, f 37, f 38, f 39, f 40, f 41, f 42, f 43, f 44, f 45, f 46, f 47, f 48, f 49, f 50, f 51, f 52, f 53, f 54, f 55, f 56, f 57, f 58, f 59, f 60, f 61, f 62, f 63, f 64, f 65, f 66, f 67, f 68, f 69, f 70, f 71, f 72, f 73, f 74, f 75, f 76, f 77, f 78, f 79, f 80, f 81, f 82, f 83, f 84, f 85, f 86, f 87, f 88, f 89, f 90, f 91, f 92, f 93, f 94, f 95, f 96, f 97, f 98, f 99, f 100, f 101, f 102, f 103, f 104, f 105, f 106, f 107, f 108, f 109, f 110, f 111, f 112, f 113, f 114, f 115, f 116, f 117, f 118, f 119, f 120, f 121, f 122, f 123, f 124, f 125, f 126, f 127, f 128, f 129, f 130, f 131, f 132, f 133, f 134, f 135, f 136, f 137, f 138, f 139, f 140, f 141, f 142, f 143, f 144, f 145, f 146, f 147, f 148, f 149, f 150, f 151, f 152, f 153, f 154, f 155, f 156, f 157, f 158, f 159, f 160, f 161, f 162, f 163, f 164, f 165, f 166, f 167, f 168, f 169, f 170, f 171, f 172, f 173, f 174, f 175, f 176, f 177, f 178, f 179, f 180, f 181, f 182, f 183, f 184, f 185, f 186, f 187, f 188, f 189, f 190, f 191, f 192, f 193, f 194, f 195, f 196, f 197, f 198, f 199, f 200, f 201, f 202, f 203, f 204, f 205, f 206, f 207, f 208, f 209] := fun _ => rfl
    rw [hl] at ha
    simp only [hv.fixed 0 (by decide), hv.fixed 1 (by decide), hv.fixed 2 (by decide), hv.fixed 3 (by decide), hv.fixed 4 (by decide), hv.fixed 5 (by decide), hv.fixed 6 (by decide), hv.fixed 7 (by decide), hv.fixed 8 (by decide), hv.fixed 9 (by decide), hv.fixed 10 (by decide), hv.fixed 11 (by decide), hv.fixed 12 (by decide), hv.fixed 13 (by decide), hv.fixed 14 (by decide), hv.fixed 15 (by decide), hv.fixed 16 (by decide), hv.fixed 17 (by decide), hv.fixed 18 (by decide), hv.fixed 19 (by decide), hv.fixed 20 (by decide), hv.fixed 21 (by decide), hv.fixed 22 (by decide), hv.fixed 23 (by decide), hv.fixed 24 (by decide), hv.fixed 25 (by decide), hv.fixed 26 (by decide), hv.fixed 27 (by decide), hv.fixed 28 (by decide), hv.fixed 29 (by decide), hv.fixed 30 (by decide), hv.fixed 31 (by decide), hv.fixed 32 (by decide), hv.fixed 33 (by decide), hv.fixed 34 (by decide), hv.fixed 35 (by decide), hv.fixed 36 (by decide), hv.fixed 37 (by decide), hv.fixed 38 (by decide), hv.fixed 39 (by decide), hv.fixed 40 (by decide), hv.fixed 41 (by decide), hv.fixed 42 (by decide), hv.fixed 43 (by decide), hv.fixed 44 (by decide), hv.fixed 45 (by decide), hv.fixed 46 (by decide), hv.fixed 47 (by decide), hv.fixed 48 (by decide), hv.fixed 49 (by decide), hv.fixed 50 (by decide), hv.fixed 51 (by decide), hv.fixed 52 (by decide), hv.fixed 53 (by decide), hv.fixed 54 (by decide), hv.fixed 55 (by decide), hv.fixed 56 (by decide), hv.fixed 57 (by decide), hv.fixed 58 (by decide), hv.fixed 59 (by decide), hv.fixed 60 (by decide), hv.fixed 61 (by decide), hv.fixed 62 (by decide), hv.fixed 63 (by decide), hv.fixed 64 (by decide), hv.fixed 65 (by decide), hv.fixed 66 (by decide), hv.fixed 67 (by decide), hv.fixed 68 (by decide), hv.fixed 69 (by decide), hv.fixed 70 (by decide), hv.fixed 71 (by decide), hv.fixed 72 (by decide), hv.fixed 73 (by decide), hv.fixed 74 (by decide), hv.fixed 75 (by decide), hv.fixed 76 (by decide), hv.fixed 77 (by decide), hv.fixed 78 (by decide), hv.fixed 79 (by decide), hv.fixed 80 (by decide), hv.fixed 81 (by decide), hv.fixed 82 (by decide), hv.fixed 83 (by decide), hv.fixed 84 (by decide), hv.fixed 85 (by decide), hv.fixed 86 (by decide), hv.fixed 87 (by decide), hv.fixed 88 (by decide), hv.fixed 89 (by decide), hv.fixed 90 (by decide), hv.fixed 91 (by decide), hv.fixed 92 (by decide), hv.fixed 93 (by decide), hv.fixed 94 (by decide), hv.fixed 95 (by decide), hv.fixed 96 (by decide), hv.fixed 97 (by decide), hv.fixed 98 (by decide), hv.fixed 99 (by decide), hv.fixed 100 (by decide), hv.fixed 101 (by decide), hv.fixed 102 (by decide), hv.fixed 103 (by decide), hv.fixed 104 (by decide), hv.fixed 105 (by decide), hv.fixed 106 (by decide), hv.fixed 107 (by decide), hv.fixed 108 (by decide), hv.fixed 109 (by decide), hv.fixed 110 (by decide), hv.fixed 111 (by decide), hv.fixed 112 (by decide), hv.fixed 113 (by decide), hv.fixed 114 (by decide), hv.fixed 115 (by decide), hv.fixed 116 (by decide), hv.fixed 117 (by decide), hv.fixed 118 (by decide), hv.fixed 119 (by decide), hv.fixed 120 (by decide), hv.fixed 121 (by decide), hv.fixed 122 (by decide), hv.fixed 123 (by decide), hv.fixed 124 (by decide), hv.fixed 125 (by decide), hv.fixed 126 (by decide), hv.fixed 127 (by decide), hv.fixed 128 (by decide), hv.fixed 129 (by decide), hv.fixed 130 (by decide), hv.fixed 131 (by decide), hv.fixed 132 (by decide), hv.fixed 133 (by decide), hv.fixed 134 (by decide), hv.fixed 135 (by decide), hv.fixed 136 (by decide), hv.fixed 137 (by decide), hv.fixed 138 (by decide), hv.fixed 139 (by decide), hv.fixed 140 (by decide), hv.fixed 141 (by decide), hv.fixed 142 (by decide), hv.fixed 143 (by decide), hv.fixed 144 (by decide), hv.fixed 145 (by decide), hv.fixed 146 (by decide), hv.fixed 147 (by decide), hv.fixed 148 (by decide), hv.fixed 191 (by decide), hv.fixed 192 (by decide), hv.fixed 193 (by decide), hv.fixed 194 (by decide), hv.fixed 195 (by decide), hv.fixed 196 (by decide), hv.fixed 197 (by decide), hv.fixed 198 (by decide), hv.fixed 199 (by decide), hv.fixed 200 (by decide), hv.fixed 201 (by decide), hv.fixed 202 (by decide), hv.fixed 203 (by decide), hv.fixed 204 (by decide), hv.fixed 205 (by decide), hv.fixed 206 (by decide), hv.fixed 207 (by decide), hv.fixed 208 (by decide), hv.fixed 209 (by decide), hv.get 41 (d := 190) rfl rfl (hall 41 (by decide))] at ha
    rw [ha]
    exact hK _ _ _ _ _ _ _ _ _ _ _ _ _ _ _ _ _ _ _ _ _ _ _ _ _ _ _ _ _ _ _ _ _ _ _ _ _ _ _ _ _ wc HO.out
noncomputable def mv_C_code : Code := ((Tryd.f34.body.bind (regionOf 39)).getD .skip)
def mv_C_dsts : List (Option Nat) := [some 149, some 150, some 151, some 152, some 153, some 154, some 155, some 156, some 157, some 158, some 159, some 160, some 161, some 162, some 163, some 164, some 165, some 166, some 167, some 168, some 169, some 170, some 171, some 172, some 173, some 174, some 175, some 176, some 177, some 178, some 179, some 180, some 181, some 182, some 183, some 184, some 185, some 186, some 187, some 188, some 189, some 190]
theorem mv_C_apart : apartD mv_C_dsts = true := by decide +kernel
set_option maxRecDepth 1000000 in
set_option maxHeartbeats 16000000 in
theorem mv_C (wr : World) (u v : Nat) (hne : ((u : Int) != (v : Int)) = true) (p : Int) (hp : ¬ p < 0) (g s : Nat) (hu : u < 12) (cu : Int) (hcu : wr.cell? ⟨g, s * 36 + u * 3, none⟩ = some (.int .i64 cu)) (h0 : cu < 0) (c0 c1 c2 c3 c4 c5 c6 c8 c9 c10 c11 c12 c13 c14 c18 c19 c20 c21 c22 c23 c24 c25 c26 c27 c28 c29 c30 c31 c32 c33 c34 c35 c36 c37 c38 c39 c40 c41 c42 c43 c44 c45 c46 c47 c48 c49 c50 c51 c52 c53 c54 c55 c56 c57 c58 c59 c60 c61 c62 c63 c64 c65 c66 c67 c68 c69 c70 c71 c72 c73 c74 c75 c76 c77 c78 c79 c80 c81 c82 c83 c84 c85 c86 c87 c88 c89 c90 c91 c92 c93 c94 c95 c96 c97 c98 c99 c100 c101 c102 c103 c104 c105 c106 c107 c108 c109 c110 c111 c112 c113 c114 c115 c116 c117 c118 c119 c120 c121 c122 c123 c124 c125 c126 c127 c128 c129 c130 c131 c132 c133 c134 c135 c136 c137 c138 c139 c140 c141 c142 c143 c144 c145 c146 c147 c148 c149 c150 c151 c152 c153 c154 c155 c156 c157 c158 c159 c160 c161 c162 c163 c164 c165 c166 c167 c168 c169 c170 c171 c172 c173 c174 c175 c176 c177 c178 c179 c180 c181 c182 c183 c184 c185 c186 c187 c188 c189 c190 c191 c192 c193 c194 c195 c196 c197 c198 c199 c200 c201 c202 c203 c204 c205 c206 c207 c208 c209 : Value) (df : List Deferred) (K : Act → World → Prop)
    (hK : ∀  (u149 u150 u151 u152 u153 u154 u155 u156 u157 u158 u159 u160 u161 u162 u163 u164 u165 u166 u167 u168 u169 u170 u171 u172 u173 u174 u175 u176 u177 u178 u179 u180 u181 u182 u183 u184 u185 u186 u187 u188 u189 : Value) (wx : World), Ext wr wx → K ⟨#[c0, c1, c2, c3, c4, c5, c6, .pointer (some ⟨g, s * 36, none⟩), c8, c9, c10, c11, c12, c13, c14, .int .i64 (u : Nat), .int .i64 (v : Nat), .int .i64 p, c18, c19, c20, c21, c22, c23, c24, c25, c26, c27, c28, c29, c30, c31, c32, c33, c34, c35, c36, c37, c38, c39, c40, c41, c42, c43, c44, c45, c46, c47, c48, c49, c50, c51, c52, c53, c54, c55, c56, c57, c58, c59, c60, c61, c62, c63, c64, c65, c66, c67, c68, c69, c70, c71, c72, c73, c74, c75, c76, c77, c78, c79, c80, c81, c82, c83, c84, c85, c86, c87, c88, c89, c90, c91, c92, c93, c94, c95, c96, c97, c98, c99, c100, c101, c102, c103, c104, c105, c106, c107, c108, c109, c110, c111, c112, c113, c114, c115, c116, c117, c118, c119, c120, c121, c122, c123, c124, c125, c126, c127, c128, c129, c130, c131, c132, c133, c134, c135, c136, c137, c138, c139, c140, c141, c142, c143, c144, c145, c146, c147, c148, u149, u150, u151, u152, u153, u154, u155, u156, u157, u158, u159, u160, u161, u162, u163, u164, u165, u166, u167, u168, u169, u170, u171, u172, u173, u174, u175, u176, u177, u178, u179, u180, u181, u182, u183, u184, u185, u186, u187, u188, u189, .bool false, c191, c192, c193, c194, c195, c196, c197, c198, c199, c200, c201, c202, c203, c204, c205, c206, c207, c208, c209], df⟩ wx) :
    Code.wp Tryd.prog mv_C_code (AtEnd K) ⟨#[c0, c1, c2, c3, c4, c5, c6, .pointer (some ⟨g, s * 36, none⟩), c8, c9, c10, c11, c12, c13, c14, .int .i64 (u : Nat), .int .i64 (v : Nat), .int .i64 p, c18, c19, c20, c21, c22, c23, c24, c25, c26, c27, c28, c29, c30, c31, c32, c33, c34, c35, c36, c37, c38, c39, c40, c41, c42, c43, c44, c45, c46, c47, c48, c49, c50, c51, c52, c53, c54, c55, c56, c57, c58, c59, c60, c61, c62, c63, c64, c65, c66, c67, c68, c69, c70, c71, c72, c73, c74, c75, c76, c77, c78, c79, c80, c81, c82, c83, c84, c85, c86, c87, c88, c89, c90, c91, c92, c93, c94, c95, c96, c97, c98, c99, c100, c101, c102, c103, c104, c105, c106, c107, c108, c109, c110, c111, c112, c113, c114, c115, c116, c117, c118, c119, c120, c121, c122, c123, c124, c125, c126, c127, c128, c129, c130, c131, c132, c133, c134, c135, c136, c137, c138, c139, c140, c141, c142, c143, c144, c145, c146, c147, c148, c149, c150, c151, c152, c153, c154, c155, c156, c157, c158, c159, c160, c161, c162, c163, c164, c165, c166, c167, c168, c169, c170, c171, c172, c173, c174, c175, c176, c177, c178, c179, c180, c181, c182, c183, c184, c185, c186, c187, c188, c189, c190, c191, c192, c193, c194, c195, c196, c197, c198, c199, c200, c201, c202, c203, c204, c205, c206, c207, c208, c209], df⟩ wr := by
  conv => arg 2; whnf
  refine region_inv (by kernel_rfl) [[], [], [0, 1], [2], [3], [4, 3], [3, 5], [6, 3], [7], [7], [8, 7], [10, 9, 7], [11, 7], [12, 7], [13, 7], [7, 14], [15, 7], [16], [16], [17, 16], [19, 18, 16], [20, 16], [21, 16], [22, 16], [23, 16, 16], [24], [24], [25, 24], [27, 26, 24], [28, 24], [29, 24], [24], [30, 31, 24], [24], [24], [33, 24], [35, 34, 24], [36, 24], [37, 24], [32, 38, 24], [24, 39, 16], [16, 40]] (by kernel_rfl) [0, 1, 2, 3, 4, 5, 6, 7, 8, 9, 10, 11, 12, 13, 14, 15, 16, 17, 18, 19, 20, 21, 22, 23, 24, 25, 26, 27, 28, 29, 30, 31, 32, 33, 34, 35, 36, 37, 38, 39, 40, 41] (by decide +kernel) (by decide +kernel) (by decide +kernel) (fun L a wc => Inv mv_C_dsts [.int .i64 (u : Nat), .int .i64 (v : Nat), .bool true, .bool true, .int .i64 p, .bool true, .bool true, .bool true, .pointer (some ⟨g, s * 36, none⟩), .int .i64 (u : Nat), .pointer (some ⟨g, s * 36, none⟩), .pointer (some ⟨g, s * 36 + u * 3, none⟩), .pointer (some ⟨g, s * 36 + u * 3, none⟩), .int .i64 cu, .bool false, .bool false, .bool false, undef, undef, undef, undef, undef, undef, undef, undef, undef, undef, undef, undef, undef, undef, undef, undef, undef, undef, undef, undef, undef, undef, undef, undef, .bool false] ⟨#[c0, c1, c2, c3, c4, c5, c6, .pointer (some ⟨g, s * 36, none⟩), c8, c9, c10, c11, c12, c13, c14, .int .i64 (u : Nat), .int .i64 (v : Nat), .int .i64 p, c18, c19, c20, c21, c22, c23, c24, c25, c26, c27, c28, c29, c30, c31, c32, c33, c34, c35, c36, c37, c38, c39, c40, c41, c42, c43, c44, c45, c46, c47, c48, c49, c50, c51, c52, c53, c54, c55, c56, c57, c58, c59, c60, c61, c62, c63, c64, c65, c66, c67, c68, c69, c70, c71, c72, c73, c74, c75, c76, c77, c78, c79, c80, c81, c82, c83, c84, c85, c86, c87, c88, c89, c90, c91, c92, c93, c94, c95, c96, c97, c98, c99, c100, c101, c102, c103, c104, c105, c106, c107, c108, c109, c110, c111, c112, c113, c114, c115, c116, c117, c118, c119, c120, c121, c122, c123, c124, c125, c126, c127, c128, c129, c130, c131, c132, c133, c134, c135, c136, c137, c138, c139, c140, c141, c142, c143, c144, c145, c146, c147, c148, c149, c150, c151, c152, c153, c154, c155, c156, c157, c158, c159, c160, c161, c162, c163, c164, c165, c166, c167, c168, c169, c170, c171, c172, c173, c174, c175, c176, c177, c178, c179, c180, c181, c182, c183, c184, c185, c186, c187, c188, c189, c190, c191, c192, c193, c194, c195, c196, c197, c198, c199, c200, c201, c202, c203, c204, c205, c206, c207, c208, c209], df⟩ L a ∧ Hid (Ext wr wc)) ⟨Inv.start, Lib.hid ((Ext.refl wr).drew)⟩ ?_ ?_
  · refine ⟨?_, ?_, ?_, ?_, ?_, ?_, ?_, ?_, ?_, ?_, ?_, ?_, ?_, ?_, ?_, ?_, ?_, ?_, ?_, ?_, ?_, ?_, ?_, ?_, ?_, ?_, ?_, ?_, ?_, ?_, ?_, ?_, ?_, ?_, ?_, ?_, ?_, ?_, ?_, ?_, ?_, ?_, trivial⟩
    · -- 0 move
      rintro L a wc ⟨hv, HO⟩ hL hc hd
      exact wpOp_val rfl rfl (ex_move rfl ((hv.fixed 15 (by decide)).trans rfl)) ⟨hv.put mv_C_apart 0 rfl (Nat.le_of_ble_eq_true rfl) (Nat.le_of_ble_eq_true rfl) rfl, HO⟩
    · -- 1 move
      rintro L a wc ⟨hv, HO⟩ hL hc hd
      exact wpOp_val rfl rfl (ex_move rfl ((hv.fixed 16 (by decide)).trans rfl)) ⟨hv.put mv_C_apart 1 rfl (Nat.le_of_ble_eq_true rfl) (Nat.le_of_ble_eq_true rfl) rfl, HO⟩
    · -- 2 bin
      rintro L a wc ⟨hv, HO⟩ hL hc hd
      have h := hne
      exact wpOp_val rfl rfl (ex_bin rfl (hv.get 0 rfl rfl (hd 0 (by decide))) (hv.get 1 rfl rfl (hd 1 (by decide))) (by go_simp)) ⟨hv.put mv_C_apart 2 rfl (Nat.le_of_ble_eq_true rfl) (Nat.le_of_ble_eq_true rfl) rfl, HO⟩
    · -- 3 move
      rintro L a wc ⟨hv, HO⟩ hL hc hd
      exact wpOp_val rfl rfl (ex_move rfl (hv.get 2 rfl rfl (hd 2 (by decide)))) ⟨hv.put mv_C_apart 3 rfl (Nat.le_of_ble_eq_true rfl) (Nat.le_of_ble_eq_true rfl) rfl, HO⟩
    · -- 4 move
      rintro L a wc ⟨hv, HO⟩ hL hc hd
      exact wpOp_val rfl ((wanted_at rfl rfl (hv.get 3 rfl rfl (hd 3 (by decide)))).trans rfl) (ex_move rfl ((hv.fixed 17 (by decide)).trans rfl)) ⟨hv.put mv_C_apart 4 rfl (Nat.le_of_ble_eq_true rfl) (Nat.le_of_ble_eq_true rfl) rfl, HO⟩
    · -- 5 bin
      rintro L a wc ⟨hv, HO⟩ hL hc hd
      have e1 : 0 ≤ p := by omega
      exact wpOp_val rfl ((wanted_at rfl rfl (hv.get 3 rfl rfl (hd 3 (by decide)))).trans rfl) (ex_bin rfl (hv.get 4 rfl rfl (hd 4 (by decide))) rfl (by go_simp)) ⟨hv.put mv_C_apart 5 rfl (Nat.le_of_ble_eq_true rfl) (Nat.le_of_ble_eq_true rfl) rfl, HO⟩
    · -- 6 pick
      rintro L a wc ⟨hv, HO⟩ hL hc hd
      exact wpOp_val rfl rfl (ex_pick rfl (hv.get 3 rfl rfl (hd 3 (by decide))) ((if_pos rfl).trans (hv.get 5 rfl rfl (hd 5 (by decide))))) ⟨hv.put mv_C_apart 6 rfl (Nat.le_of_ble_eq_true rfl) (Nat.le_of_ble_eq_true rfl) rfl, HO⟩
    · -- 7 move
      rintro L a wc ⟨hv, HO⟩ hL hc hd
      exact wpOp_val rfl rfl (ex_move rfl (hv.get 6 rfl rfl (hd 6 (by decide)))) ⟨hv.put mv_C_apart 7 rfl (Nat.le_of_ble_eq_true rfl) (Nat.le_of_ble_eq_true rfl) rfl, HO⟩
    · -- 8 move
      rintro L a wc ⟨hv, HO⟩ hL hc hd
      exact wpOp_val rfl ((wanted_at rfl rfl (hv.get 7 rfl rfl (hd 7 (by decide)))).trans rfl) (ex_move rfl ((hv.fixed 7 (by decide)).trans rfl)) ⟨hv.put mv_C_apart 8 rfl (Nat.le_of_ble_eq_true rfl) (Nat.le_of_ble_eq_true rfl) rfl, HO⟩
    · -- 9 move
      rintro L a wc ⟨hv, HO⟩ hL hc hd
      exact wpOp_val rfl ((wanted_at rfl rfl (hv.get 7 rfl rfl (hd 7 (by decide)))).trans rfl) (ex_move rfl ((hv.fixed 15 (by decide)).trans rfl)) ⟨hv.put mv_C_apart 9 rfl (Nat.le_of_ble_eq_true rfl) (Nat.le_of_ble_eq_true rfl) rfl, HO⟩
    · -- 10 nil
      rintro L a wc ⟨hv, HO⟩ hL hc hd
      exact wpOp_val rfl ((wanted_at rfl rfl (hv.get 7 rfl rfl (hd 7 (by decide)))).trans rfl) (ex_nil rfl (hv.get 8 rfl rfl (hd 8 (by decide)))) ⟨hv.put mv_C_apart 10 rfl (Nat.le_of_ble_eq_true rfl) (Nat.le_of_ble_eq_true rfl) rfl, HO⟩
    · -- 11 index
      rintro L a wc ⟨hv, HO⟩ hL hc hd
      have e1 : ¬ (12 : Int) ≤ (u : Int) := by omega
      exact wpOp_val rfl ((wanted_at rfl rfl (hv.get 7 rfl rfl (hd 7 (by decide)))).trans rfl) (ex_index rfl (hv.get 10 rfl rfl (hd 10 (by decide))) (hv.get 9 rfl rfl (hd 9 (by decide))) (by go_simp)) ⟨hv.put mv_C_apart 11 rfl (Nat.le_of_ble_eq_true rfl) (Nat.le_of_ble_eq_true rfl) rfl, HO⟩
    · -- 12 field
      rintro L a wc ⟨hv, HO⟩ hL hc hd
      exact wpOp_val rfl ((wanted_at rfl rfl (hv.get 7 rfl rfl (hd 7 (by decide)))).trans rfl) (ex_field rfl (hv.get 11 rfl rfl (hd 11 (by decide))) (by go_simp)) ⟨hv.put mv_C_apart 12 rfl (Nat.le_of_ble_eq_true rfl) (Nat.le_of_ble_eq_true rfl) rfl, HO⟩
    · -- 13 load
      rintro L a wc ⟨hv, HO⟩ hL hc hd
      have ku : wc.cell? ⟨g, s * 36 + u * 3, none⟩ = some (.int .i64 cu) := HO.out.cell hcu
      exact wpOp_val rfl ((wanted_at rfl rfl (hv.get 7 rfl rfl (hd 7 (by decide)))).trans rfl) (ex_load rfl (hv.get 12 rfl rfl (hd 12 (by decide))) (by go_simp)) ⟨hv.put mv_C_apart 13 rfl (Nat.le_of_ble_eq_true rfl) (Nat.le_of_ble_eq_true rfl) rfl, HO⟩
    · -- 14 bin
      rintro L a wc ⟨hv, HO⟩ hL hc hd
      exact wpOp_val rfl ((wanted_at rfl rfl (hv.get 7 rfl rfl (hd 7 (by decide)))).trans rfl) (ex_bin rfl (hv.get 13 rfl rfl (hd 13 (by decide))) rfl (by go_simp)) ⟨hv.put mv_C_apart 14 rfl (Nat.le_of_ble_eq_true rfl) (Nat.le_of_ble_eq_true rfl) rfl, HO⟩
    · -- 15 pick
      rintro L a wc ⟨hv, HO⟩ hL hc hd
      exact wpOp_val rfl rfl (ex_pick rfl (hv.get 7 rfl rfl (hd 7 (by decide))) ((if_pos rfl).trans (hv.get 14 rfl rfl (hd 14 (by decide))))) ⟨hv.put mv_C_apart 15 rfl (Nat.le_of_ble_eq_true rfl) (Nat.le_of_ble_eq_true rfl) rfl, HO⟩
    · -- 16 move
      rintro L a wc ⟨hv, HO⟩ hL hc hd
      exact wpOp_val rfl rfl (ex_move rfl (hv.get 15 rfl rfl (hd 15 (by decide)))) ⟨hv.put mv_C_apart 16 rfl (Nat.le_of_ble_eq_true rfl) (Nat.le_of_ble_eq_true rfl) rfl, HO⟩
    · -- 17 off
      rintro L a wc ⟨hv, HO⟩ hL hc hd
      exact wpOp_off rfl ((wanted_at rfl rfl (hv.get 16 rfl rfl (hd 16 (by decide)))).trans rfl) ⟨hv.put mv_C_apart 17 rfl (Nat.le_of_ble_eq_true rfl) (Nat.le_of_ble_eq_true rfl) rfl, HO⟩
    · -- 18 off
      rintro L a wc ⟨hv, HO⟩ hL hc hd
      exact wpOp_off rfl ((wanted_at rfl rfl (hv.get 16 rfl rfl (hd 16 (by decide)))).trans rfl) ⟨hv.put mv_C_apart 18 rfl (Nat.le_of_ble_eq_true rfl) (Nat.le_of_ble_eq_true rfl) rfl, HO⟩
    · -- 19 off
      rintro L a wc ⟨hv, HO⟩ hL hc hd
      exact wpOp_off rfl ((wanted_at rfl rfl (hv.get 16 rfl rfl (hd 16 (by decide)))).trans rfl) ⟨hv.put mv_C_apart 19 rfl (Nat.le_of_ble_eq_true rfl) (Nat.le_of_ble_eq_true rfl) rfl, HO⟩
    · -- 20 off
      rintro L a wc ⟨hv, HO⟩ hL hc hd
      exact wpOp_off rfl ((wanted_at rfl rfl (hv.get 16 rfl rfl (hd 16 (by decide)))).trans rfl) ⟨hv.put mv_C_apart 20 rfl (Nat.le_of_ble_eq_true rfl) (Nat.le_of_ble_eq_true rfl) rfl, HO⟩
    · -- 21 off
      rintro L a wc ⟨hv, HO⟩ hL hc hd
      exact wpOp_off rfl ((wanted_at rfl rfl (hv.get 16 rfl rfl (hd 16 (by decide)))).trans rfl) ⟨hv.put mv_C_apart 21 rfl (Nat.le_of_ble_eq_true rfl) (Nat.le_of_ble_eq_true rfl) rfl, HO⟩
    · -- 22 off
      rintro L a wc ⟨hv, HO⟩ hL hc hd
      exact wpOp_off rfl ((wanted_at rfl rfl (hv.get 16 rfl rfl (hd 16 (by decide)))).trans rfl) ⟨hv.put mv_C_apart 22 rfl (Nat.le_of_ble_eq_true rfl) (Nat.le_of_ble_eq_true rfl) rfl, HO⟩
    · -- 23 off
      rintro L a wc ⟨hv, HO⟩ hL hc hd
      exact wpOp_off rfl ((wanted_at rfl rfl (hv.get 16 rfl rfl (hd 16 (by decide)))).trans rfl) ⟨hv.put mv_C_apart 23 rfl (Nat.le_of_ble_eq_true rfl) (Nat.le_of_ble_eq_true rfl) rfl, HO⟩
    · -- 24 off
      rintro L a wc ⟨hv, HO⟩ hL hc hd
      exact wpOp_off rfl ((wanted_at rfl rfl (hv.get 16 rfl rfl (hd 16 (by decide)))).trans rfl) ⟨hv.put mv_C_apart 24 rfl (Nat.le_of_ble_eq_true rfl) (Nat.le_of_ble_eq_true rfl) rfl, HO⟩
    · -- 25 off
      rintro L a wc ⟨hv, HO⟩ hL hc hd
      exact wpOp_off rfl (wanted_undef rfl rfl (hv.get 24 rfl rfl (hd 24 (by decide)))) ⟨hv.put mv_C_apart 25 rfl (Nat.le_of_ble_eq_true rfl) (Nat.le_of_ble_eq_true rfl) rfl, HO⟩
    · -- 26 off
      rintro L a wc ⟨hv, HO⟩ hL hc hd
      exact wpOp_off rfl (wanted_undef rfl rfl (hv.get 24 rfl rfl (hd 24 (by decide)))) ⟨hv.put mv_C_apart 26 rfl (Nat.le_of_ble_eq_true rfl) (Nat.le_of_ble_eq_true rfl) rfl, HO⟩
    · -- 27 off
      rintro L a wc ⟨hv, HO⟩ hL hc hd
      exact wpOp_off rfl (wanted_undef rfl rfl (hv.get 24 rfl rfl (hd 24 (by decide)))) ⟨hv.put mv_C_apart 27 rfl (Nat.le_of_ble_eq_true rfl) (Nat.le_of_ble_eq_true rfl) rfl, HO⟩
    · -- 28 off
      rintro L a wc ⟨hv, HO⟩ hL hc hd
      exact wpOp_off rfl (wanted_undef rfl rfl (hv.get 24 rfl rfl (hd 24 (by decide)))) ⟨hv.put mv_C_apart 28 rfl (Nat.le_of_ble_eq_true rfl) (Nat.le_of_ble_eq_true rfl) rfl, HO⟩
    · -- 29 off
      rintro L a wc ⟨hv, HO⟩ hL hc hd
      exact wpOp_off rfl (wanted_undef rfl rfl (hv.get 24 rfl rfl (hd 24 (by decide)))) ⟨hv.put mv_C_apart 29 rfl (Nat.le_of_ble_eq_true rfl) (Nat.le_of_ble_eq_true rfl) rfl, HO⟩
    · -- 30 off
      rintro L a wc ⟨hv, HO⟩ hL hc hd
      exact wpOp_off rfl (wanted_undef rfl rfl (hv.get 24 rfl rfl (hd 24 (by decide)))) ⟨hv.put mv_C_apart 30 rfl (Nat.le_of_ble_eq_true rfl) (Nat.le_of_ble_eq_true rfl) rfl, HO⟩
    · -- 31 off
      rintro L a wc ⟨hv, HO⟩ hL hc hd
      exact wpOp_off rfl (wanted_undef rfl rfl (hv.get 24 rfl rfl (hd 24 (by decide)))) ⟨hv.put mv_C_apart 31 rfl (Nat.le_of_ble_eq_true rfl) (Nat.le_of_ble_eq_true rfl) rfl, HO⟩
    · -- 32 off
      rintro L a wc ⟨hv, HO⟩ hL hc hd
      exact wpOp_off rfl (wanted_undef rfl rfl (hv.get 24 rfl rfl (hd 24 (by decide)))) ⟨hv.put mv_C_apart 32 rfl (Nat.le_of_ble_eq_true rfl) (Nat.le_of_ble_eq_true rfl) rfl, HO⟩
    · -- 33 off
      rintro L a wc ⟨hv, HO⟩ hL hc hd
      exact wpOp_off rfl (wanted_undef rfl rfl (hv.get 24 rfl rfl (hd 24 (by decide)))) ⟨hv.put mv_C_apart 33 rfl (Nat.le_of_ble_eq_true rfl) (Nat.le_of_ble_eq_true rfl) rfl, HO⟩
    · -- 34 off
      rintro L a wc ⟨hv, HO⟩ hL hc hd
      exact wpOp_off rfl (wanted_undef rfl rfl (hv.get 24 rfl rfl (hd 24 (by decide)))) ⟨hv.put mv_C_apart 34 rfl (Nat.le_of_ble_eq_true rfl) (Nat.le_of_ble_eq_true rfl) rfl, HO⟩
    · -- 35 off
      rintro L a wc ⟨hv, HO⟩ hL hc hd
      exact wpOp_off rfl (wanted_undef rfl rfl (hv.get 24 rfl rfl (hd 24 (by decide)))) ⟨hv.put mv_C_apart 35 rfl (Nat.le_of_ble_eq_true rfl) (Nat.le_of_ble_eq_true rfl) rfl, HO⟩
    · -- 36 off
      rintro L a wc ⟨hv, HO⟩ hL hc hd
      exact wpOp_off rfl (wanted_undef rfl rfl (hv.get 24 rfl rfl (hd 24 (by decide)))) ⟨hv.put mv_C_apart 36 rfl (Nat.le_of_ble_eq_true rfl) (Nat.le_of_ble_eq_true rfl) rfl, HO⟩
    · -- 37 off
      rintro L a wc ⟨hv, HO⟩ hL hc hd
      exact wpOp_off rfl (wanted_undef rfl rfl (hv.get 24 rfl rfl (hd 24 (by decide)))) ⟨hv.put mv_C_apart 37 rfl (Nat.le_of_ble_eq_true rfl) (Nat.le_of_ble_eq_true rfl) rfl, HO⟩
    · -- 38 off
      rintro L a wc ⟨hv, HO⟩ hL hc hd
      exact wpOp_off rfl (wanted_undef rfl rfl (hv.get 24 rfl rfl (hd 24 (by decide)))) ⟨hv.put mv_C_apart 38 rfl (Nat.le_of_ble_eq_true rfl) (Nat.le_of_ble_eq_true rfl) rfl, HO⟩
    · -- 39 off
      rintro L a wc ⟨hv, HO⟩ hL hc hd
      exact wpOp_off rfl (wanted_undef rfl rfl (hv.get 24 rfl rfl (hd 24 (by decide)))) ⟨hv.put mv_C_apart 39 rfl (Nat.le_of_ble_eq_true rfl) (Nat.le_of_ble_eq_true rfl) rfl, HO⟩
    · -- 40 off
      rintro L a wc ⟨hv, HO⟩ hL hc hd
      exact wpOp_off rfl ((wanted_at rfl rfl (hv.get 16 rfl rfl (hd 16 (by decide)))).trans rfl) ⟨hv.put mv_C_apart 40 rfl (Nat.le_of_ble_eq_true rfl) (Nat.le_of_ble_eq_true rfl) rfl, HO⟩
    · -- 41 pick
      rintro L a wc ⟨hv, HO⟩ hL hc hd
      exact wpOp_val rfl rfl (ex_pick rfl (hv.get 16 rfl rfl (hd 16 (by decide))) rfl) ⟨hv.put mv_C_apart 41 rfl (Nat.le_of_ble_eq_true rfl) (Nat.le_of_ble_eq_true rfl) rfl, HO⟩
  · rintro L a wc ⟨hv, HO⟩ hall
    show K a wc
    have ha := act_lit a
    rw [hv.size, hv.defers] at ha
    have hl : ∀ f : Nat → Value, ((List.range (⟨#[c0, c1, c2, c3, c4, c5, c6, .pointer (some ⟨g, s * 36, none⟩), c8, c9, c10, c11, c12, c13, c14, .int .i64 (u : Nat), .int .i64 (v : Nat), .int .i64 p, c18, c19, c20, c21, c22, c23, c24, c25, c26, c27, c28, c29, c30, c31, c32, c33, c34, c35, c36, c37, c38, c39, c40, c41, c42, c43, c44, c45, c46, c47, c48, c49, c50, c51, c52, c53, c54, c55, c56, c57, c58, c59, c60, c61, c62, c63, c64, c65, c66, c67, c68, c69, c70, c71, c72, c73, c74, c75, c76, c77, c78, c79, c80, c81, c82, c83, c84, c85, c86, c87, c88, c89, c90, c91, c92, c93, c94, c95, c96, c97, c98, c99, c100, c101, c102, c103, c104, c105, c106, c107, c108, c109, c110, c111, c112, c113, c114, c115, c116, c117, c118, c119, c120, c121, c122, c123, c124, c125, c126, c127, c128, c129, c130, c131, c132, c133, c134, c135, c136, c137, c138, c139, c140, c141, c142, c143, c144, c145, c146, c147, c148, c149, c150, c151, c152, c153, c154, c155, c156, c157, c158, c159, c160, c161, c162, c163, c164, c165, c166, c167, c168, c169, c170, c171, c172, c173, c174, c175, c176, c177, c178, c179, c180, c181, c182, c183, c184, c185, c186, c187, c188, c189, c190, c191, c192, c193, c194, c195, c196, c197, c198, c199, c200, c201, c202, c203, c204, c205, c206, c207, c208, c209], df⟩ : Act).tmps.size).map f).toArray = #[f 0, f 1, f 2, f 3, f 4, f 5, f 6, f 7, f 8, f 9, f 10, f 11, f 12, f 13, f 14, f 15, f 16, f 17, f 18, f 19, f 20, f 21, f 22, f 23, f 24, f 25, f 26, f 27, f 28, f 29, f 30, f 31, f 32, f 33, f 34, f 35, f 36, f 37, f 38, f 39, f 40, f 41, f 42, f 43, f 44, f 45, f 46, f 47, f 48, f 49, f 50, f 51, f 52, f 53, f 54, f 55, f 56, f 57, f 58, f 59, f 60, f 61, f 62, f 63, f 64, f 65, f 66, f 67, f 68, f 69, f 70, f 71, f 72, f 73, f 74, f 75, f 76, f 77, f 78, f 79, f 80, f 81, f 82, f 83, f 84, f 85, f 86, f 87, f 88, f 89, f 90, f 91, f 92, f 93, f 94, f 95, f 96, f 97, f 98, f 99, f 100, f 101, f 102, f 103, f 104, f 105, f 106, f 107, f 108, f 109, f 110, f 111, f 112, f 113, f 114, f 115, f 116, f 117, f 118, f 119, f 120, f 121, f 122, f 123, f 124, f 125, f 126, f 127, f 128, f 129, f 130, f 131, f 132, f 133, f 134, f 135, f 136, f 137, f 138, f 139, f 140, f 141, f 142, f 143, f 144, f 145, f 146, f 147, f 148, f 149, f 150, f 151, f 152, f 153, f 154, f 155, f 156, f 157, f 158, f 159, f 160, f 161, f 162, f 163, f 164, f 165, f 166, f 167, f 168, f 169, f 170, f 171, f 172, f 173, f 174, f 175, f 176, f 177, f 178, f 179, f 180, f 181, f 182, f 183, f 184, f 185, f 186, f 187, f 188, f 189, f 190, f 191, f 192, f 193, f 194, f 195, f 196, f 197, f 198, f 199, f 200, f 201, f 202, f 203, f 204, f 205, f 206, f 207, f 208, f 209] := fun _ => rfl
    rw [hl] at ha
    simp only [hv.fixed 0 (by decide), hv.fixed 1 (by decide), hv.fixed 2 (by decide), hv.fixed 3 (by decide), hv.fixed 4 (by decide), hv.fixed 5 (by decide), hv.fixed 6 (by decide), hv.fixed 7 (by decide), hv.fixed 8 (by decide), hv.fixed 9 (by decide), hv.fixed 10 (by decide), hv.fixed 11 (by decide), hv.fixed 12 (by decide), hv.fixed 13 (by decide), hv.fixed 14 (by decide), hv.fixed 15 (by decide), hv.fixed 16 (by decide), hv.fixed 17 (by decide), hv.fixed 18 (by decide), hv.fixed 19 (by decide), hv.fixed 20 (by decide), hv.fixed 21 (by decide), hv.fixed 22 (by decide), hv.fixed 23 (by decide), hv.fixed 24 (by decide), hv.fixed 25 (by decide), hv.fixed 26 (by decide), hv.fixed 27 (by decide), hv.fixed 28 (by decide), hv.fixed 29 (by decide), hv.fixed 30 (by decide), hv.fixed 31 (by decide), hv.fixed 32 (by decide), hv.fixed 33 (by decide), hv.fixed 34 (by decide), hv.fixed 35 (by decide), hv.fixed 36 (by decide), hv.fixed 37 (by decide), hv.fixed 38 (by decide), hv.fixed 39 (by decide), hv.fixed 40 (by decide), hv.fixed 41 (by decide), hv.fixed 42 (by decide), hv.fixed 43 (by decide), hv.fixed 44 (by decide), hv.fixed 45 (by decide), hv.fixed 46 (by decide), hv.fixed 47 (by decide), hv.fixed 48 (by decide), hv.fixed 49 (by decide), hv.fixed 50 (by decide), hv.fixed 51 (by decide), hv.fixed 52 (by decide), hv.fixed 53 (by decide), hv.fixed 54 (by decide), hv.fixed 55 (by decide), hv.fixed 56 (by decide), hv.fixed 57 (by decide), hv.fixed 58 (by decide), hv.fixed 59 (by decide), hv.fixed 60 (by decide), hv.fixed 61 (by decide), hv.fixed 62 (by decide), hv.fixed 63 (by decide), hv.fixed 64 (by decide), hv.fixed 65 (by decide), hv.fixed 66 (by decide), hv.fixed 67 (by decide), hv.fixed 68 (by decide), hv.fixed 69 (by decide), hv.fixed 70 (by decide), hv.fixed 71 (by decide), hv.fixed 72 (by decide), hv.fixed 73 (by decide), hv.fixed 74 (by decide), hv.fixed 75 (by decide), hv.fixed 76 (by decide), hv.fixed 77 (by decide), hv.fixed 78 (by decide), hv.fixed 79 (by decide), hv.fixed 80 (by decide), hv.fixed 81 (by decide), hv.fixed 82 (by decide), hv.fixed 83 (by decide), hv.fixed 84 (by decide), hv.fixed 85 (by decide), hv.fixed 86 (by decide), hv.fixed 87 (by decide), hv.fixed 88 (by decide), hv.fixed 89 (by decide), hv.fixed 90 (by decide), hv.fixed 91 (by decide), hv.fixed 92 (by decide), hv.fixed 93 (by decide), hv.fixed 94 (by decide), hv.fixed 95 (by decide), hv.fixed 96 (by decide), hv.fixed 97 (by decide), hv.fixed 98 (by decide), hv.fixed 99 (by decide), hv.fixed 100 (by decide), hv.fixed 101 (by decide), hv.fixed 102 (by decide), hv.fixed 103 (by decide), hv.fixed 104 (by decide), hv.fixed 105 (by decide), hv.fixed 106 (by decide), hv.fixed 107 (by decide), hv.fixed 108 (by decide), hv.fixed 109 (by decide), hv.fixed 110 (by decide), hv.fixed 111 (by decide), hv.fixed 112 (by decide), hv.fixed 113 (by decide), hv.fixed 114 (by decide), hv.fixed 115 (by decide), hv.fixed 116 (by decide), hv.fixed 117 (by decide), hv.fixed 118 (by decide), hv.fixed 119 (by decide), hv.fixed 120 (by decide), hv.fixed 121 (by decide), hv.fixed 122 (by decide), hv.fixed 123 (by decide), hv.fixed 124 (by decide), hv.fixed 125 (by decide), hv.fixed 126 (by decide), hv.fixed 127 (by decide), hv.fixed 128 (by decide), hv.fixed 129 (by decide), hv.fixed 130 (by decide), hv.fixed 131 (by decide), hv.fixed 132 (by decide), hv.fixed 133 (by decide), hv.fixed 134 (by decide), hv.fixed 135 (by decide), hv.fixed 136 (by decide), hv.fixed 137 (by decide), hv.fixed 138 (by decide), hv.fixed 139 (by decide), hv.fixed 140 (by decide), hv.fixed 141 (by decide), hv.fixed 142 (by decide), hv.fixed 143 (by decide), hv.fixed 144 (by decide), hv.fixed 145 (by decide), hv.fixed 146 (by decide), hv.fixed 147 (by decide), hv.fixed 148 (by decide), hv.fixed 191 (by decide), hv.fixed 192 (by decide), hv.fixed 193 (by decide), hv.fixed 194 (by decide), hv.fixed 195 (by decide), hv.fixed 196 (by decide), hv.fixed 197 (by decide), hv.fixed 198 (by decide), hv.fixed 199 (by decide), hv.fixed 200 (by decide), hv.fixed 201 (by decide), hv.fixed 202 (by decide), hv.fixed 203 (by decide), hv.fixed 204 (by decide), hv.fixed 205 (by decide), hv.fixed 206 (by decide), hv.fixed 207 (by decide), hv.fixed 208 (by decide), hv.fixed 209 (by decide), hv.get 41 (d := 190) rfl rfl (hall 41 (by decide))] at ha
    rw [ha]
    exact hK _ _ _ _ _ _ _ _ _ _ _ _ _ _ _ _ _ _ _ _ _ _ _ _ _ _ _ _ _ _ _ _ _ _ _ _ _ _ _ _ _ wc HO.out
noncomputable def mv_D_code : Code := ((Tryd.f34.body.bind (regionOf 39)).getD .skip)
def mv_D_dsts : List (Option Nat) := [some 149, some 150, some 151, some 152, some 153, some 154, some 155, some 156, some 157, some 158, some 159, some 160, some 161, some 162, some 163, some 164, some 165, some 166, some 167, some 168, some 169, some 170, some 171, some 172, some 173, some 174, some 175, some 176, some 177, some 178, some 179, some 180, some 181, some 182, some 183, some 184, some 185, some 186, some 187, some 188, some 189, some 190]
theorem mv_D_apart : apartD mv_D_dsts = true := by decide +kernel
set_option maxRecDepth 1000000 in
set_option maxHeartbeats 16000000 in
theorem mv_D (wr : World) (u v : Nat) (hne : ((u : Int) != (v : Int)) = true) (p : Int) (hp : ¬ p < 0) (g s : Nat) (hu : u < 12) (cu : Int) (hcu : wr.cell? ⟨g, s * 36 + u * 3, none⟩ = some (.int .i64 cu)) (h0 : ¬ cu < 0) (hv12 : v < 12) (cv : Int) (hcv : wr.cell? ⟨g, s * 36 + v * 3, none⟩ = some (.int .i64 cv)) (h1 : cv < 0) (c0 c1 c2 c3 c4 c5 c6 c8 c9 c10 c11 c12 c13 c14 c18 c19 c20 c21 c22 c23 c24 c25 c26 c27 c28 c29 c30 c31 c32 c33 c34 c35 c36 c37 c38 c39 c40 c41 c42 c43 c44 c45 c46 c47 c48 c49 c50 c51 c52 c53 c54 c55 c56 c57 c58 c59 c60 c61 c62 c63 c64 c65 c66 c67 c68 c69 c70 c71 c72 c73 c74 c75 c76 c77 c78 c79 c80 c81 c82 c83 c84 c85 c86 c87 c88 c89 c90 c91 c92 c93 c94 c95 c96 c97 c98 c99 c100 c101 c102 c103 c104 c105 c106 c107 c108 c109 c110 c111 c112 c113 c114 c115 c116 c117 c118 c119 c120 c121 c122 c123 c124 c125 c126 c127 c128 c129 c130 c131 c132 c133 c134 c135 c136 c137 c138 c139 c140 c141 c142 c143 c144 c145 c146 c147 c148 c149 c150 c151 c152 c153 c154 c155 c156 c157 c158 c159 c160 c161 c162 c163 c164 c165 c166 c167 c168 c169 c170 c171 c172 c173 c174 c175 c176 c177 c178 c179 c180 c181 c182 c183 c184 c185 c186 c187 c188 c189 c190 c191 c192 c193 c194 c195 c196 c197 c198 c199 c200 c201 c202 c203 c204 c205 c206 c207 c208 c209 : Value) (df : List Deferred) (K : Act → World → Prop)
    (hK : ∀  (u149 u150 u151 u152 u153 u154 u155 u156 u157 u158 u159 u160 u161 u162 u163 u164 u165 u166 u167 u168 u169 u170 u171 u172 u173 u174 u175 u176 u177 u178 u179 u180 u181 u182 u183 u184 u185 u186 u187 u188 u189 : Value) (wx : World), Ext wr wx → K ⟨#[c0, c1, c2, c3, c4, c5, c6, .pointer (some ⟨g, s * 36, none⟩), c8, c9, c10, c11, c12, c13, c14, .int .i64 (u : Nat), .int .i64 (v : Nat), .int .i64 p, c18, c19, c20, c21, c22, c23, c24, c25, c26, c27, c28, c29, c30, c31, c32, c33, c34, c35, c36, c37, c38, c39, c40, c41, c42, c43, c44, c45, c46, c47, c48, c49, c50, c51, c52, c53, c54, c55, c56, c57, c58, c59, c60, c61, c62, c63, c64, c65, c66, c67, c68, c69, c70, c71, c72, c73, c74, c75, c76, c77, c78, c79, c80, c81, c82, c83, c84, c85, c86, c87, c88, c89, c90, c91, c92, c93, c94, c95, c96, c97, c98, c99, c100, c101, c102, c103, c104, c105, c106, c107, c108, c109, c110, c111, c112, c113, c114, c115, c116, c117, c118, c119, c120, c121, c122, c123, c124, c125, c126, c127, c128, c129, c130, c131, c132, c133, c134, c135, c136, c137, c138, c139, c140, c141, c142, c143, c144, c145, c146, c147, c148, u149, u150, u151, u152, u153, u154, u155, u156, u157, u158, u159, u160, u161, u162, u163, u164, u165, u166, u167, u168, u169, u170, u171, u172, u173, u174, u175, u176, u177, u178, u179, u180, u181, u182, u183, u184, u185, u186, u187, u188, u189, .bool true, c191, c192, c193, c194, c195, c196, c197, c198, c199, c200, c201, c202, c203, c204, c205, c206, c207, c208, c209], df⟩ wx) :
    Code.wp Tryd.prog mv_D_code (AtEnd K) ⟨#[c0, c1, c2, c3, c4, c5, c6, .pointer (some ⟨g, s * 36, none⟩), c8, c9, c10, c11, c12, c13, c14, .int .i64 (u : Nat), .int .i64 (v : Nat), .int .i64 p, c18, c19, c20, c21, c22, c23, c24, c25, c26, c27, c28, c29, c30, c31, c32, c33, c34, c35, c36, c37, c38, c39, c40, c41, c42, c43, c44, c45, c46, c47, c48, c49, c50, c51, c52, c53, c54, c55, c56, c57, c58, c59, c60, c61, c62, c63, c64, c65, c66, c67, c68, c69, c70, c71, c72, c73, c74, c75, c76, c77, c78, c79, c80, c81, c82, c83, c84, c85, c86, c87, c88, c89, c90, c91, c92, c93, c94, c95, c96, c97, c98, c99, c100, c101, c102, c103, c104, c105, c106, c107, c108, c109, c110, c111, c112, c113, c114, c115, c116, c117, c118, c119, c120, c121, c122, c123, c124, c125, c126, c127, c128, c129, c130, c131, c132, c133, c134, c135, c136, c137, c138, c139, c140, c141, c142, c143, c144, c145, c146, c147, c148, c149, c150, c151, c152, c153, c154, c155, c156, c157, c158, c159, c160, c161, c162, c163, c164, c165, c166, c167, c168, c169, c170, c171, c172, c173, c174, c175, c176, c177, c178, c179, c180, c181, c182, c183, c184, c185, c186, c187, c188, c189, c190, c191, c192, c193, c194, c195, c196, c197, c198, c199, c200, c201, c202, c203, c204, c205, c206, c207, c208, c209], df⟩ wr := by
  conv => arg 2; whnf
  refine region_inv (by kernel_rfl) [[], [], [0, 1], [2], [3], [4, 3], [3, 5], [6, 3], [7], [7], [8, 7], [10, 9, 7], [11, 7], [12, 7], [13, 7], [7, 14], [15, 7], [16], [16], [17, 16], [19, 18, 16], [20, 16], [21, 16], [22, 16], [23, 16, 16], [24], [24], [25, 24], [27, 26, 24], [28, 24], [29, 24], [24], [30, 31, 24], [24], [24], [33, 24], [35, 34, 24], [36, 24], [37, 24], [32, 38, 24], [24, 39, 16], [16, 40]] (by kernel_rfl) [0, 1, 2, 3, 4, 5, 6, 7, 8, 9, 10, 11, 12, 13, 14, 15, 16, 17, 18, 19, 20, 21, 22, 23, 24, 25, 26, 27, 28, 29, 30, 31, 32, 33, 34, 35, 36, 37, 38, 39, 40, 41] (by decide +kernel) (by decide +kernel) (by decide +kernel) (fun L a wc => Inv mv_D_dsts [.int .i64 (u : Nat), .int .i64 (v : Nat), .bool true, .bool true, .int .i64 p, .bool true, .bool true, .bool true, .pointer (some ⟨g, s * 36, none⟩), .int .i64 (u : Nat), .pointer (some ⟨g, s * 36, none⟩), .pointer (some ⟨g, s * 36 + u * 3, none⟩), .pointer (some ⟨g, s * 36 + u * 3, none⟩), .int .i64 cu, .bool true, .bool true, .bool true, .pointer (some ⟨g, s * 36, none⟩), .int .i64 (v : Nat), .pointer (some ⟨g, s * 36, none⟩), .pointer (some ⟨g, s * 36 + v * 3, none⟩), .pointer (some ⟨g, s * 36 + v * 3, none⟩), .int .i64 cv, .bool true, .bool true, undef, undef, undef, undef, undef, undef, undef, undef, undef, undef, undef, undef, undef, undef, undef, .bool true, .bool true] ⟨#[c0, c1, c2, c3, c4, c5, c6, .pointer (some ⟨g, s * 36, none⟩), c8, c9, c10, c11, c12, c13, c14, .int .i64 (u : Nat), .int .i64 (v : Nat), .int .i64 p, c18, c19, c20, c21, c22, c23, c24, c25, c26, c27, c28, c29, c30, c31, c32, c33, c34, c35, c36, c37, c38, c39, c40, c41, c42, c43, c44, c45, c46, c47, c48, c49, c50, c51, c52, c53, c54, c55, c56, c57, c58, c59, c60, c61, c62, c63, c64, c65, c66, c67, c68, c69, c70, c71, c72, c73, c74, c75, c76, c77, c78, c79, c80, c81, c82, c83, c84, c85, c86, c87, c88, c89, c90, c91, c92, c93, c94, c95, c96, c97, c98, c99, c100, c101, c102, c103, c104, c105, c106, c107, c108, c109, c110, c111, c112, c113, c114, c115, c116, c117, c118, c119, c120, c121, c122, c123, c124, c125, c126, c127, c128, c129, c130, c131, c132, c133, c134, c135, c136, c137, c138, c139, c140, c141, c142, c143, c144, c145, c146, c147, c148, c149, c150, c151, c152, c153, c154, c155, c156, c157, c158, c159, c160, c161, c162, c163, c164, c165, c166, c167, c168, c169, c170, c171, c172, c173, c174, c175, c176, c177, c178, c179, c180, c181, c182, c183, c184, c185, c186, c187, c188, c189, c190, c191, c192, c193, c194, c195, c196, c197, c198, c199, c200, c201, c202, c203, c204, c205, c206, c207, c208, c209], df⟩ L a ∧ Hid (Ext wr wc)) ⟨Inv.start, Lib.hid ((Ext.refl wr).drew)⟩ ?_ ?_
  · refine ⟨?_, ?_, ?_, ?_, ?_, ?_, ?_, ?_, ?_, ?_, ?_, ?_, ?_, ?_, ?_, ?_, ?_, ?_, ?_, ?_, ?_, ?_, ?_, ?_, ?_, ?_, ?_, ?_, ?_, ?_, ?_, ?_, ?_, ?_, ?_, ?_, ?_, ?_, ?_, ?_, ?_, ?_, trivial⟩
    · -- 0 move
      rintro L a wc ⟨hv, HO⟩ hL hc hd
      exact wpOp_val rfl rfl (ex_move rfl ((hv.fixed 15 (by decide)).trans rfl)) ⟨hv.put mv_D_apart 0 rfl (Nat.le_of_ble_eq_true rfl) (Nat.le_of_ble_eq_true rfl) rfl, HO⟩
    · -- 1 move
      rintro L a wc ⟨hv, HO⟩ hL hc hd
      exact wpOp_val rfl rfl (ex_move rfl ((hv.fixed 16 (by decide)).trans rfl)) ⟨hv.put mv_D_apart 1 rfl (Nat.le_of_ble_eq_true rfl) (Nat.le_of_ble_eq_true rfl) rfl, HO⟩
    · -- 2 bin
      rintro L a wc ⟨hv, HO⟩ hL hc hd
      have h := hne
      exact wpOp_val rfl rfl (ex_bin rfl (hv.get 0 rfl rfl (hd 0 (by decide))) (hv.get 1 rfl rfl (hd 1 (by decide))) (by go_simp)) ⟨hv.put mv_D_apart 2 rfl (Nat.le_of_ble_eq_true rfl) (Nat.le_of_ble_eq_true rfl) rfl, HO⟩
    · -- 3 move
      rintro L a wc ⟨hv, HO⟩ hL hc hd
      exact wpOp_val rfl rfl (ex_move rfl (hv.get 2 rfl rfl (hd 2 (by decide)))) ⟨hv.put mv_D_apart 3 rfl (Nat.le_of_ble_eq_true rfl) (Nat.le_of_ble_eq_true rfl) rfl, HO⟩
    · -- 4 move
      rintro L a wc ⟨hv, HO⟩ hL hc hd
      exact wpOp_val rfl ((wanted_at rfl rfl (hv.get 3 rfl rfl (hd 3 (by decide)))).trans rfl) (ex_move rfl ((hv.fixed 17 (by decide)).trans rfl)) ⟨hv.put mv_D_apart 4 rfl (Nat.le_of_ble_eq_true rfl) (Nat.le_of_ble_eq_true rfl) rfl, HO⟩
    · -- 5 bin
      rintro L a wc ⟨hv, HO⟩ hL hc hd
      have e1 : 0 ≤ p := by omega
      exact wpOp_val rfl ((wanted_at rfl rfl (hv.get 3 rfl rfl (hd 3 (by decide)))).trans rfl) (ex_bin rfl (hv.get 4 rfl rfl (hd 4 (by decide))) rfl (by go_simp)) ⟨hv.put mv_D_apart 5 rfl (Nat.le_of_ble_eq_true rfl) (Nat.le_of_ble_eq_true rfl) rfl, HO⟩
    · -- 6 pick
      rintro L a wc ⟨hv, HO⟩ hL hc hd
      exact wpOp_val rfl rfl (ex_pick rfl (hv.get 3 rfl rfl (hd 3 (by decide))) ((if_pos rfl).trans (hv.get 5 rfl rfl (hd 5 (by decide))))) ⟨hv.put mv_D_apart 6 rfl (Nat.le_of_ble_eq_true rfl) (Nat.le_of_ble_eq_true rfl) rfl, HO⟩
    · -- 7 move
      rintro L a wc ⟨hv, HO⟩ hL hc hd
      exact wpOp_val rfl rfl (ex_move rfl (hv.get 6 rfl rfl (hd 6 (by decide)))) ⟨hv.put mv_D_apart 7 rfl (Nat.le_of_ble_eq_true rfl) (Nat.le_of_ble_eq_true rfl) rfl, HO⟩
    · -- 8 move
      rintro L a wc ⟨hv, HO⟩ hL hc hd
      exact wpOp_val rfl ((wanted_at rfl rfl (hv.get 7 rfl rfl (hd 7 (by decide)))).trans rfl) (ex_move rfl ((hv.fixed 7 (by decide)).trans rfl)) ⟨hv.put mv_D_apart 8 rfl (Nat.le_of_ble_eq_true rfl) (Nat.le_of_ble_eq_true rfl) rfl, HO⟩
    · -- 9 move
      rintro L a wc ⟨hv, HO⟩ hL hc hd
      exact wpOp_val rfl ((wanted_at rfl rfl (hv.get 7 rfl rfl (hd 7 (by decide)))).trans rfl) (ex_move rfl ((hv.fixed 15 (by decide)).trans rfl)) ⟨hv.put mv_D_apart 9 rfl (Nat.le_of_ble_eq_true rfl) (Nat.le_of_ble_eq_true rfl) rfl, HO⟩
    · -- 10 nil
      rintro L a wc ⟨hv, HO⟩ hL hc hd
      exact wpOp_val rfl ((wanted_at rfl rfl (hv.get 7 rfl rfl (hd 7 (by decide)))).trans rfl) (ex_nil rfl (hv.get 8 rfl rfl (hd 8 (by decide)))) ⟨hv.put mv_D_apart 10 rfl (Nat.le_of_ble_eq_true rfl) (Nat.le_of_ble_eq_true rfl) rfl, HO⟩
    · -- 11 index
      rintro L a wc ⟨hv, HO⟩ hL hc hd
      have e1 : ¬ (12 : Int) ≤ (u : Int) := by omega
      exact wpOp_val rfl ((wanted_at rfl rfl (hv.get 7 rfl rfl (hd 7 (by decide)))).trans rfl) (ex_index rfl (hv.get 10 rfl rfl (hd 10 (by decide))) (hv.get 9 rfl rfl (hd 9 (by decide))) (by go_simp)) ⟨hv.put mv_D_apart 11 rfl (Nat.le_of_ble_eq_true rfl) (Nat.le_of_ble_eq_true rfl) rfl, HO⟩
    · -- 12 field
      rintro L a wc ⟨hv, HO⟩ hL hc hd
      exact wpOp_val rfl ((wanted_at rfl rfl (hv.get 7 rfl rfl (hd 7 (by decide)))).trans rfl) (ex_field rfl (hv.get 11 rfl rfl (hd 11 (by decide))) (by go_simp)) ⟨hv.put mv_D_apart 12 rfl (Nat.le_of_ble_eq_true rfl) (Nat.le_of_ble_eq_true rfl) rfl, HO⟩
    · -- 13 load
      rintro L a wc ⟨hv, HO⟩ hL hc hd
      have ku : wc.cell? ⟨g, s * 36 + u * 3, none⟩ = some (.int .i64 cu) := HO.out.cell hcu
      exact wpOp_val rfl ((wanted_at rfl rfl (hv.get 7 rfl rfl (hd 7 (by decide)))).trans rfl) (ex_load rfl (hv.get 12 rfl rfl (hd 12 (by decide))) (by go_simp)) ⟨hv.put mv_D_apart 13 rfl (Nat.le_of_ble_eq_true rfl) (Nat.le_of_ble_eq_true rfl) rfl, HO⟩
    · -- 14 bin
      rintro L a wc ⟨hv, HO⟩ hL hc hd
      have e1 : 0 ≤ cu := by omega
      exact wpOp_val rfl ((wanted_at rfl rfl (hv.get 7 rfl rfl (hd 7 (by decide)))).trans rfl) (ex_bin rfl (hv.get 13 rfl rfl (hd 13 (by decide))) rfl (by go_simp)) ⟨hv.put mv_D_apart 14 rfl (Nat.le_of_ble_eq_true rfl) (Nat.le_of_ble_eq_true rfl) rfl, HO⟩
    · -- 15 pick
      rintro L a wc ⟨hv, HO⟩ hL hc hd
      exact wpOp_val rfl rfl (ex_pick rfl (hv.get 7 rfl rfl (hd 7 (by decide))) ((if_pos rfl).trans (hv.get 14 rfl rfl (hd 14 (by decide))))) ⟨hv.put mv_D_apart 15 rfl (Nat.le_of_ble_eq_true rfl) (Nat.le_of_ble_eq_true rfl) rfl, HO⟩
    · -- 16 move
      rintro L a wc ⟨hv, HO⟩ hL hc hd
      exact wpOp_val rfl rfl (ex_move rfl (hv.get 15 rfl rfl (hd 15 (by decide)))) ⟨hv.put mv_D_apart 16 rfl (Nat.le_of_ble_eq_true rfl) (Nat.le_of_ble_eq_true rfl) rfl, HO⟩
    · -- 17 move
      rintro L a wc ⟨hv, HO⟩ hL hc hd
      exact wpOp_val rfl ((wanted_at rfl rfl (hv.get 16 rfl rfl (hd 16 (by decide)))).trans rfl) (ex_move rfl ((hv.fixed 7 (by decide)).trans rfl)) ⟨hv.put mv_D_apart 17 rfl (Nat.le_of_ble_eq_true rfl) (Nat.le_of_ble_eq_true rfl) rfl, HO⟩
    · -- 18 move
      rintro L a wc ⟨hv, HO⟩ hL hc hd
      exact wpOp_val rfl ((wanted_at rfl rfl (hv.get 16 rfl rfl (hd 16 (by decide)))).trans rfl) (ex_move rfl ((hv.fixed 16 (by decide)).trans rfl)) ⟨hv.put mv_D_apart 18 rfl (Nat.le_of_ble_eq_true rfl) (Nat.le_of_ble_eq_true rfl) rfl, HO⟩
    · -- 19 nil
      rintro L a wc ⟨hv, HO⟩ hL hc hd
      exact wpOp_val rfl ((wanted_at rfl rfl (hv.get 16 rfl rfl (hd 16 (by decide)))).trans rfl) (ex_nil rfl (hv.get 17 rfl rfl (hd 17 (by decide)))) ⟨hv.put mv_D_apart 19 rfl (Nat.le_of_ble_eq_true rfl) (Nat.le_of_ble_eq_true rfl) rfl, HO⟩
    · -- 20 index
      rintro L a wc ⟨hv, HO⟩ hL hc hd
      have e1 : ¬ (12 : Int) ≤ (v : Int) := by omega
      exact wpOp_val rfl ((wanted_at rfl rfl (hv.get 16 rfl rfl (hd 16 (by decide)))).trans rfl) (ex_index rfl (hv.get 19 rfl rfl (hd 19 (by decide))) (hv.get 18 rfl rfl (hd 18 (by decide))) (by go_simp)) ⟨hv.put mv_D_apart 20 rfl (Nat.le_of_ble_eq_true rfl) (Nat.le_of_ble_eq_true rfl) rfl, HO⟩
    · -- 21 field
      rintro L a wc ⟨hv, HO⟩ hL hc hd
      exact wpOp_val rfl ((wanted_at rfl rfl (hv.get 16 rfl rfl (hd 16 (by decide)))).trans rfl) (ex_field rfl (hv.get 20 rfl rfl (hd 20 (by decide))) (by go_simp)) ⟨hv.put mv_D_apart 21 rfl (Nat.le_of_ble_eq_true rfl) (Nat.le_of_ble_eq_true rfl) rfl, HO⟩
    · -- 22 load
      rintro L a wc ⟨hv, HO⟩ hL hc hd
      have kv : wc.cell? ⟨g, s * 36 + v * 3, none⟩ = some (.int .i64 cv) := HO.out.cell hcv
      exact wpOp_val rfl ((wanted_at rfl rfl (hv.get 16 rfl rfl (hd 16 (by decide)))).trans rfl) (ex_load rfl (hv.get 21 rfl rfl (hd 21 (by decide))) (by go_simp)) ⟨hv.put mv_D_apart 22 rfl (Nat.le_of_ble_eq_true rfl) (Nat.le_of_ble_eq_true rfl) rfl, HO⟩
    · -- 23 bin
      rintro L a wc ⟨hv, HO⟩ hL hc hd
      exact wpOp_val rfl ((wanted_at rfl rfl (hv.get 16 rfl rfl (hd 16 (by decide)))).trans rfl) (ex_bin rfl (hv.get 22 rfl rfl (hd 22 (by decide))) rfl (by go_simp)) ⟨hv.put mv_D_apart 23 rfl (Nat.le_of_ble_eq_true rfl) (Nat.le_of_ble_eq_true rfl) rfl, HO⟩
    · -- 24 move
      rintro L a wc ⟨hv, HO⟩ hL hc hd
      exact wpOp_val rfl ((wanted_at rfl rfl (hv.get 16 rfl rfl (hd 16 (by decide)))).trans rfl) (ex_move rfl (hv.get 23 rfl rfl (hd 23 (by decide)))) ⟨hv.put mv_D_apart 24 rfl (Nat.le_of_ble_eq_true rfl) (Nat.le_of_ble_eq_true rfl) rfl, HO⟩
    · -- 25 off
      rintro L a wc ⟨hv, HO⟩ hL hc hd
      exact wpOp_off rfl ((wanted_at rfl rfl (hv.get 24 rfl rfl (hd 24 (by decide)))).trans rfl) ⟨hv.put mv_D_apart 25 rfl (Nat.le_of_ble_eq_true rfl) (Nat.le_of_ble_eq_true rfl) rfl, HO⟩
    · -- 26 off
      rintro L a wc ⟨hv, HO⟩ hL hc hd
      exact wpOp_off rfl ((wanted_at rfl rfl (hv.get 24 rfl rfl (hd 24 (by decide)))).trans rfl) ⟨hv.put mv_D_apart 26 rfl (Nat.le_of_ble_eq_true rfl) (Nat.le_of_ble_eq_true rfl) rfl, HO⟩
    · -- 27 off
      rintro L a wc ⟨hv, HO⟩ hL hc hd
      exact wpOp_off rfl ((wanted_at rfl rfl (hv.get 24 rfl rfl (hd 24 (by decide)))).trans rfl) ⟨hv.put mv_D_apart 27 rfl (Nat.le_of_ble_eq_true rfl) (Nat.le_of_ble_eq_true rfl) rfl, HO⟩
    · -- 28 off
      rintro L a wc ⟨hv, HO⟩ hL hc hd
      exact wpOp_off rfl ((wanted_at rfl rfl (hv.get 24 rfl rfl (hd 24 (by decide)))).trans rfl) ⟨hv.put mv_D_apart 28 rfl (Nat.le_of_ble_eq_true rfl) (Nat.le_of_ble_eq_true rfl) rfl, HO⟩
    · -- 29 off
      rintro L a wc ⟨hv, HO⟩ hL hc hd
      exact wpOp_off rfl ((wanted_at rfl rfl (hv.get 24 rfl rfl (hd 24 (by decide)))).trans rfl) ⟨hv.put mv_D_apart 29 rfl (Nat.le_of_ble_eq_true rfl) (Nat.le_of_ble_eq_true rfl) rfl, HO⟩
    · -- 30 off
      rintro L a wc ⟨hv, HO⟩ hL hc hd
      exact wpOp_off rfl ((wanted_at rfl rfl (hv.get 24 rfl rfl (hd 24 (by decide)))).trans rfl) ⟨hv.put mv_D_apart 30 rfl (Nat.le_of_ble_eq_true rfl) (Nat.le_of_ble_eq_true rfl) rfl, HO⟩
    · -- 31 off
      rintro L a wc ⟨hv, HO⟩ hL hc hd
      exact wpOp_off rfl ((wanted_at rfl rfl (hv.get 24 rfl rfl (hd 24 (by decide)))).trans rfl) ⟨hv.put mv_D_apart 31 rfl (Nat.le_of_ble_eq_true rfl) (Nat.le_of_ble_eq_true rfl) rfl, HO⟩
    · -- 32 off
      rintro L a wc ⟨hv, HO⟩ hL hc hd
      exact wpOp_off rfl ((wanted_at rfl rfl (hv.get 24 rfl rfl (hd 24 (by decide)))).trans rfl) ⟨hv.put mv_D_apart 32 rfl (Nat.le_of_ble_eq_true rfl) (Nat.le_of_ble_eq_true rfl) rfl, HO⟩
    · -- 33 off
      rintro L a wc ⟨hv, HO⟩ hL hc hd
      exact wpOp_off rfl ((wanted_at rfl rfl (hv.get 24 rfl rfl (hd 24 (by decide)))).trans rfl) ⟨hv.put mv_D_apart 33 rfl (Nat.le_of_ble_eq_true rfl) (Nat.le_of_ble_eq_true rfl) rfl, HO⟩
    · -- 34 off
      rintro L a wc ⟨hv, HO⟩ hL hc hd
      exact wpOp_off rfl ((wanted_at rfl rfl (hv.get 24 rfl rfl (hd 24 (by decide)))).trans rfl) ⟨hv.put mv_D_apart 34 rfl (Nat.le_of_ble_eq_true rfl) (Nat.le_of_ble_eq_true rfl) rfl, HO⟩
    · -- 35 off
      rintro L a wc ⟨hv, HO⟩ hL hc hd
      exact wpOp_off rfl ((wanted_at rfl rfl (hv.get 24 rfl rfl (hd 24 (by decide)))).trans rfl) ⟨hv.put mv_D_apart 35 rfl (Nat.le_of_ble_eq_true rfl) (Nat.le_of_ble_eq_true rfl) rfl, HO⟩
    · -- 36 off
      rintro L a wc ⟨hv, HO⟩ hL hc hd
      exact wpOp_off rfl ((wanted_at rfl rfl (hv.get 24 rfl rfl (hd 24 (by decide)))).trans rfl) ⟨hv.put mv_D_apart 36 rfl (Nat.le_of_ble_eq_true rfl) (Nat.le_of_ble_eq_true rfl) rfl, HO⟩
    · -- 37 off
      rintro L a wc ⟨hv, HO⟩ hL hc hd
      exact wpOp_off rfl ((wanted_at rfl rfl (hv.get 24 rfl rfl (hd 24 (by decide)))).trans rfl) ⟨hv.put mv_D_apart 37 rfl (Nat.le_of_ble_eq_true rfl) (Nat.le_of_ble_eq_true rfl) rfl, HO⟩
    · -- 38 off
      rintro L a wc ⟨hv, HO⟩ hL hc hd
      exact wpOp_off rfl ((wanted_at rfl rfl (hv.get 24 rfl rfl (hd 24 (by decide)))).trans rfl) ⟨hv.put mv_D_apart 38 rfl (Nat.le_of_ble_eq_true rfl) (Nat.le_of_ble_eq_true rfl) rfl, HO⟩
    · -- 39 off
      rintro L a wc ⟨hv, HO⟩ hL hc hd
      exact wpOp_off rfl ((wanted_at rfl rfl (hv.get 24 rfl rfl (hd 24 (by decide)))).trans rfl) ⟨hv.put mv_D_apart 39 rfl (Nat.le_of_ble_eq_true rfl) (Nat.le_of_ble_eq_true rfl) rfl, HO⟩
    · -- 40 pick
      rintro L a wc ⟨hv, HO⟩ hL hc hd
      exact wpOp_val rfl ((wanted_at rfl rfl (hv.get 16 rfl rfl (hd 16 (by decide)))).trans rfl) (ex_pick rfl (hv.get 24 rfl rfl (hd 24 (by decide))) rfl) ⟨hv.put mv_D_apart 40 rfl (Nat.le_of_ble_eq_true rfl) (Nat.le_of_ble_eq_true rfl) rfl, HO⟩
    · -- 41 pick
      rintro L a wc ⟨hv, HO⟩ hL hc hd
      exact wpOp_val rfl rfl (ex_pick rfl (hv.get 16 rfl rfl (hd 16 (by decide))) ((if_pos rfl).trans (hv.get 40 rfl rfl (hd 40 (by decide))))) ⟨hv.put mv_D_apart 41 rfl (Nat.le_of_ble_eq_true rfl) (Nat.le_of_ble_eq_true rfl) rfl, HO⟩
  · rintro L a wc ⟨hv, HO⟩ hall
    show K a wc
    have ha := act_lit a
    rw [hv.size, hv.defers] at ha
    have hl : ∀ f : Nat → Value, ((List.range (⟨#[c0, c1, c2, c3, c4, c5, c6, .pointer (some ⟨g, s * 36, none⟩), c8, c9, c10, c11, c12, c13, c14, .int .i64 (u : Nat), .int .i64 (v : Nat), .int .i64 p, c18, c19, c20, c21, c22, c23, c24, c25, c26, c27, c28, c29, c30, c31, c32, c33, c34, c35, c36, c37, c38, c39, c40, c41, c42, c43, c44, c45, c46, c47, c48, c49, c50, c51, c52, c53, c54, c55, c56, c57, c58, c59, c60, c61, c62, c63, c64, c65, c66, c67, c68, c69, c70, c71, c72, c73, c74, c75, c76, c77, c78, c79, c80, c81, c82, c83, c84, c85, c86, c87, c88, c89, c90, c91, c92, c93, c94, c95, c96, c97, c98, c99, c100, c101, c102, c103, c104, c105, c106, c107, c108, c109, c110, c111, c112, c113, c114, c115, c116, c117, c118, c119, c120, c121, c122, c123, c124, c125, c126, c127, c128, c129, c130, c131, c132, c133, c134, c135, c136, c137, c138, c139, c140, c141, c142, c143, c144, c145, c146, c147, c148, c149, c150, c151, c152, c153, c154, c155, c156, c157, c158, c159, c160, c161, c162, c163, c164, c165, c166, c167, c168, c169, c170, c171, c172, c173, c174, c175, c176, c177, c178, c179, c180, c181, c182, c183, c184, c185, c186, c187, c188, c189, c190, c191, c192, c193, c194, c195, c196, c197, c198, c199, c200, c201, c202, c203, c204, c205, c206, c207, c208, c209], df⟩ : Act).tmps.size).map f).toArray = #[f 0, f 1, f 2, f 3, f 4, f 5, f 6, f 7, f 8, f 9, f 10, f 11, f 12, f 13, f 14, f 15, f 16, f 17, f 18, f 19, f 20, f 21, f 22, f 23, f 24, f 25, f 26, f 27, f 28, f 29, f 30, f 31, f 32, f 33, f 34, f 35, f 36, f 37, f 38, f 39, f 40, f 41, f 42, f 43, f 44, f 45, f 46, f 47, f 48, f 49, f 50, f 51, f 52, f 53, f 54, f 55, f 56, f 57, f 58, f 59, f 60, f 61, f 62, f 63, f 64, f 65, f 66, f 67, f 68, f 69, f 70, f 71, f 72, f 73, f 74, f 75, f 76, f 77, f 78, f 79, f 80, f 81, f 82, f 83, f 84, f 85, f 86, f 87, f 88, f 89, f 90, f 91, f 92, f 93, f 94, f 95, f 96, f 97, f 98, f 99, f 100, f 101, f 102, f 103, f 104, f 105, f 106, f 107, f 108, f 109, f 110, f 111, f 112, f 113, f 114, f 115, f 116, f 117, f 118, f 119, f 120, f 121, f 122, f 123, f 124, f 125, f 126, f 127, f 128, f 129, f 130, f 131, f 132, f 133, f 134, f 135, f 136, f 137, f 138, f 139, f 140, f 141, f 142, f 143, f 144, f 145, f 146, f 147, f 148, f 149, f 150, f 151, f 152, f 153, f 154, f 155, f 156, f 157, f 158, f 159, f 160, f 161, f 162, f 163, f 164, f 165, f 166, f 167, f 168, f 169, f 170, f 171, f 172, f 173, f 174, f 175, f 176, f 177, f 178, f 179, f 180, f 181, f 182, f 183, f 184, f 185, f 186, f 187, f 188, f 189, f 190, f 191, f 192, f 193, f 194, f 195, f 196, f 197, f 198, f 199, f 200, f 201, f 202, f 203, f 204, f 205, f 206, f 207, f 208, f 209] := fun _ => rfl
    rw [hl] at ha
    simp only [hv.fixed 0 (by decide), hv.fixed 1 (by decide), hv.fixed 2 (by decide), hv.fixed 3 (by decide), hv.fixed 4 (by decide), hv.fixed 5 (by decide), hv.fixed 6 (by decide), hv.fixed 7 (by decide), hv.fixed 8 (by decide), hv.fixed 9 (by decide), hv.fixed 10 (by decide), hv.fixed 11 (by decide), hv.fixed 12 (by decide), hv.fixed 13 (by decide), hv.fixed 14 (by decide), hv.fixed 15 (by decide), hv.fixed 16 (by decide), hv.fixed 17 (by decide), hv.fixed 18 (by decide), hv.fixed 19 (by decide), hv.fixed 20 (by decide), hv.fixed 21 (by decide), hv.fixed 22 (by decide), hv.fixed 23 (by decide), hv.fixed 24 (by decide), hv.fixed 25 (by decide), hv.fixed 26 (by decide), hv.fixed 27 (by decide), hv.fixed 28 (by decide), hv.fixed 29 (by decide), hv.fixed 30 (by decide), hv.fixed 31 (by decide), hv.fixed 32 (by decide), hv.fixed 33 (by decide), hv.fixed 34 (by decide), hv.fixed 35 (by decide), hv.fixed 36 (by decide), hv.fixed 37 (by decide), hv.fixed 38 (by decide), hv.fixed 39 (by decide), hv.fixed 40 (by decide), hv.fixed 41 (by decide), hv.fixed 42 (by decide), hv.fixed 43 (by decide), hv.fixed 44 (by decide), hv.fixed 45 (by decide), hv.fixed 46 (by decide), hv.fixed 47 (by decide), hv.fixed 48 (by decide), hv.fixed 49 (by decide), hv.fixed 50 (by decide), hv.fixed 51 (by decide), hv.fixed 52 (by decide), hv.fixed 53 (by decide), hv.fixed 54 (by decide), hv.fixed 55 (by decide), hv.fixed 56 (by decide), hv.fixed 57 (by decide), hv.fixed 58 (by decide), hv.fixed 59 (by decide), hv.fixed 60 (by decide), hv.fixed 61 (by decide), hv.fixed 62 (by decide), hv.fixed 63 (by decide), hv.fixed 64 (by decide), hv.fixed 65 (by decide), hv.fixed 66 (by decide), hv.fixed 67 (by decide), hv.fixed 68 (by decide), hv.fixed 69 (by decide), hv.fixed 70 (by decide), hv.fixed 71 (by decide), hv.fixed 72 (by decide), hv.fixed 73 (by decide), hv.fixed 74 (by decide), hv.fixed 75 (by decide), hv.fixed 76 (by decide), hv.fixed 77 (by decide), hv.fixed 78 (by decide), hv.fixed 79 (by decide), hv.fixed 80 (by decide), hv.fixed 81 (by decide), hv.fixed 82 (by decide), hv.fixed 83 (by decide), hv.fixed 84 (by decide), hv.fixed 85 (by decide), hv.fixed 86 (by decide), hv.fixed 87 (by decide), hv.fixed 88 (by decide), hv.fixed 89 (by decide), hv.fixed 90 (by decide), hv.fixed 91 (by decide), hv.fixed 92 (by decide), hv.fixed 93 (by decide), hv.fixed 94 (by decide), hv.fixed 95 (by decide), hv.fixed 96 (by decide), hv.fixed 97 (by decide), hv.fixed 98 (by decide), hv.fixed 99 (by decide), hv.fixed 100 (by decide), hv.fixed 101 (by decide), hv.fixed 102 (by decide), hv.fixed 103 (by decide), hv.fixed 104 (by decide), hv.fixed 105 (by decide), hv.fixed 106 (by decide), hv.fixed 107 (by decide), hv.fixed 108 (by decide), hv.fixed 109 (by decide), hv.fixed 110 (by decide), hv.fixed 111 (by decide), hv.fixed 112 (by decide), hv.fixed 113 (by decide), hv.fixed 114 (by decide), hv.fixed 115 (by decide), hv.fixed 116 (by decide), hv.fixed 117 (by decide), hv.fixed 118 (by decide), hv.fixed 119 (by decide), hv.fixed 120 (by decide), hv.fixed 121 (by decide), hv.fixed 122 (by decide), hv.fixed 123 (by decide), hv.fixed 124 (by decide), hv.fixed 125 (by decide), hv.fixed 126 (by decide), hv.fixed 127 (by decide), hv.fixed 128 (by decide), hv.fixed 129 (by decide), hv.fixed 130 (by decide), hv.fixed 131 (by decide), hv.fixed 132 (by decide), hv.fixed 133 (by decide), hv.fixed 134 (by decide), hv.fixed 135 (by decide), hv.fixed 136 (by decide), hv.fixed 137 (by decide), hv.fixed 138 (by decide), hv.fixed 139 (by decide), hv.fixed 140 (by decide), hv.fixed 141 (by decide), hv.fixed 142 (by decide), hv.fixed 143 (by decide), hv.fixed 144 (by decide), hv.fixed 145 (by decide), hv.fixed 146 (by decide), hv.fixed 147 (by decide), hv.fixed 148 (by decide), hv.fixed 191 (by decide), hv.fixed 192 (by decide), hv.fixed 193 (by decide), hv.fixed 194 (by decide), hv.fixed 195 (by decide), hv.fixed 196 (by decide), hv.fixed 197 (by decide), hv.fixed 198 (by decide), hv.fixed 199 (by decide), hv.fixed 200 (by decide), hv.fixed 201 (by decide), hv.fixed 202 (by decide), hv.fixed 203 (by decide), hv.fixed 204 (by decide), hv.fixed 205 (by decide), hv.fixed 206 (by decide), hv.fixed 207 (by decide), hv.fixed 208 (by decide), hv.fixed 209 (by decide), hv.get 41 (d := 190) rfl rfl (hall 41 (by decide))] at ha
    rw [ha]
    exact hK _ _ _ _ _ _ _ _ _ _ _ _ _ _ _ _ _ _ _ _ _ _ _ _ _ _ _ _ _ _ _ _ _ _ _ _ _ _ _ _ _ wc HO.out
noncomputable def mv_E_code : Code := ((Tryd.f34.body.bind (regionOf 39)).getD .skip)
def mv_E_dsts : List (Option Nat) := [some 149, some 150, some 151, some 152, some 153, some 154, some 155, some 156, some 157, some 158, some 159, some 160, some 161, some 162, some 163, some 164, some 165, some 166, some 167, some 168, some 169, some 170, some 171, some 172, some 173, some 174, some 175, some 176, some 177, some 178, some 179, some 180, some 181, some 182, some 183, some 184, some 185, some 186, some 187, some 188, some 189, some 190]
theorem mv_E_apart : apartD mv_E_dsts = true := by decide +kernel
set_option maxRecDepth 1000000 in
set_option maxHeartbeats 16000000 in
theorem mv_E (wr : World) (u v : Nat) (hne : ((u : Int) != (v : Int)) = true) (p : Int) (hp : ¬ p < 0) (g s : Nat) (hu : u < 12) (cu : Int) (hcu : wr.cell? ⟨g, s * 36 + u * 3, none⟩ = some (.int .i64 cu)) (h0 : ¬ cu < 0) (hv12 : v < 12) (cv : Int) (hcv : wr.cell? ⟨g, s * 36 + v * 3, none⟩ = some (.int .i64 cv)) (h1 : ¬ cv < 0) (z : Int) (hz : IntKind.i64.wrap (cu + p) = z) (h2 : z < cv) (c0 c1 c2 c3 c4 c5 c6 c8 c9 c10 c11 c12 c13 c14 c18 c19 c20 c21 c22 c23 c24 c25 c26 c27 c28 c29 c30 c31 c32 c33 c34 c35 c36 c37 c38 c39 c40 c41 c42 c43 c44 c45 c46 c47 c48 c49 c50 c51 c52 c53 c54 c55 c56 c57 c58 c59 c60 c61 c62 c63 c64 c65 c66 c67 c68 c69 c70 c71 c72 c73 c74 c75 c76 c77 c78 c79 c80 c81 c82 c83 c84 c85 c86 c87 c88 c89 c90 c91 c92 c93 c94 c95 c96 c97 c98 c99 c100 c101 c102 c103 c104 c105 c106 c107 c108 c109 c110 c111 c112 c113 c114 c115 c116 c117 c118 c119 c120 c121 c122 c123 c124 c125 c126 c127 c128 c129 c130 c131 c132 c133 c134 c135 c136 c137 c138 c139 c140 c141 c142 c143 c144 c145 c146 c147 c148 c149 c150 c151 c152 c153 c154 c155 c156 c157 c158 c159 c160 c161 c162 c163 c164 c165 c166 c167 c168 c169 c170 c171 c172 c173 c174 c175 c176 c177 c178 c179 c180 c181 c182 c183 c184 c185 c186 c187 c188 c189 c190 c191 c192 c193 c194 c195 c196 c197 c198 c199 c200 c201 c202 c203 c204 c205 c206 c207 c208 c209 : Value) (df : List Deferred) (K : Act → World → Prop)
    (hK : ∀  (u149 u150 u151 u152 u153 u154 u155 u156 u157 u158 u159 u160 u161 u162 u163 u164 u165 u166 u167 u168 u169 u170 u171 u172 u173 u174 u175 u176 u177 u178 u179 u180 u181 u182 u183 u184 u185 u186 u187 u188 u189 : Value) (wx : World), Ext wr wx → K ⟨#[c0, c1, c2, c3, c4, c5, c6, .pointer (some ⟨g, s * 36, none⟩), c8, c9, c10, c11, c12, c13, c14, .int .i64 (u : Nat), .int .i64 (v : Nat), .int .i64 p, c18, c19, c20, c21, c22, c23, c24, c25, c26, c27, c28, c29, c30, c31, c32, c33, c34, c35, c36, c37, c38, c39, c40, c41, c42, c43, c44, c45, c46, c47, c48, c49, c50, c51, c52, c53, c54, c55, c56, c57, c58, c59, c60, c61, c62, c63, c64, c65, c66, c67, c68, c69, c70, c71, c72, c73, c74, c75, c76, c77, c78, c79, c80, c81, c82, c83, c84, c85, c86, c87, c88, c89, c90, c91, c92, c93, c94, c95, c96, c97, c98, c99, c100, c101, c102, c103, c104, c105, c106, c107, c108, c109, c110, c111, c112, c113, c114, c115, c116, c117, c118, c119, c120, c121, c122, c123, c124, c125, c126, c127, c128, c129, c130, c131, c132, c133, c134, c135, c136, c137, c138, c139, c140, c141, c142, c143, c144, c145, c146, c147, c148, u149, u150, u151, u152, u153, u154, u155, u156, u157, u158, u159, u160, u161, u162, u163, u164, u165, u166, u167, u168, u169, u170, u171, u172, u173, u174, u175, u176, u177, u178, u179, u180, u181, u182, u183, u184, u185, u186, u187, u188, u189, .bool true, c191, c192, c193, c194, c195, c196, c197, c198, c199, c200, c201, c202, c203, c204, c205, c206, c207, c208, c209], df⟩ wx) :
    Code.wp Tryd.prog mv_E_code (AtEnd K) ⟨#[c0, c1, c2, c3, c4, c5, c6, .pointer (some ⟨g, s * 36, none⟩), c8, c9, c10, c11, c12, c13, c14, .int .i64 (u : Nat), .int .i64 (v : Nat), .int .i64 p, c18, c19, c20, c21, c22, c23, c24, c25, c26, c27, c28, c29, c30, c31, c32, c33, c34, c35, c36, c37, c38, c39, c40, c41, c42, c43, c44, c45, c46, c47, c48, c49, c50, c51, c52, c53, c54, c55, c56, c57, c58, c59, c60, c61, c62, c63, c64, c65, c66, c67, c68, c69, c70, c71, c72, c73, c74, c75, c76, c77, c78, c79, c80, c81, c82, c83, c84, c85, c86, c87, c88, c89, c90, c91, c92, c93, c94, c95, c96, c97, c98, c99, c100, c101, c102, c103, c104, c105, c106, c107, c108, c109, c110, c111, c112, c113, c114, c115, c116, c117, c118, c119, c120, c121, c122, c123, c124, c125, c126, c127, c128, c129, c130, c131, c132, c133, c134, c135, c136, c137, c138, c139, c140, c141, c142, c143, c144, c145, c146, c147, c148, c149, c150, c151, c152, c153, c154, c155, c156, c157, c158, c159, c160, c161, c162, c163, c164, c165, c166, c167, c168, c169, c170, c171, c172, c173, c174, c175, c176, c177, c178, c179, c180, c181, c182, c183, c184, c185, c186, c187, c188, c189, c190, c191, c192, c193, c194, c195, c196, c197, c198, c199, c200, c201, c202, c203, c204, c205, c206, c207, c208, c209], df⟩ wr := by
  conv => arg 2; whnf
  refine region_inv (by kernel_rfl) [[], [], [0, 1], [2], [3], [4, 3], [3, 5], [6, 3], [7], [7], [8, 7], [10, 9, 7], [11, 7], [12, 7], [13, 7], [7, 14], [15, 7], [16], [16], [17, 16], [19, 18, 16], [20, 16], [21, 16], [22, 16], [23, 16, 16], [24], [24], [25, 24], [27, 26, 24], [28, 24], [29, 24], [24], [30, 31, 24], [24], [24], [33, 24], [35, 34, 24], [36, 24], [37, 24], [32, 38, 24], [24, 39, 16], [16, 40]] (by kernel_rfl) [0, 1, 2, 3, 4, 5, 6, 7, 8, 9, 10, 11, 12, 13, 14, 15, 16, 17, 18, 19, 20, 21, 22, 23, 24, 25, 26, 27, 28, 29, 30, 31, 32, 33, 34, 35, 36, 37, 38, 39, 40, 41] (by decide +kernel) (by decide +kernel) (by decide +kernel) (fun L a wc => Inv mv_E_dsts [.int .i64 (u : Nat), .int .i64 (v : Nat), .bool true, .bool true, .int .i64 p, .bool true, .bool true, .bool true, .pointer (some ⟨g, s * 36, none⟩), .int .i64 (u : Nat), .pointer (some ⟨g, s * 36, none⟩), .pointer (some ⟨g, s * 36 + u * 3, none⟩), .pointer (some ⟨g, s * 36 + u * 3, none⟩), .int .i64 cu, .bool true, .bool true, .bool true, .pointer (some ⟨g, s * 36, none⟩), .int .i64 (v : Nat), .pointer (some ⟨g, s * 36, none⟩), .pointer (some ⟨g, s * 36 + v * 3, none⟩), .pointer (some ⟨g, s * 36 + v * 3, none⟩), .int .i64 cv, .bool false, .bool false, .pointer (some ⟨g, s * 36, none⟩), .int .i64 (u : Nat), .pointer (some ⟨g, s * 36, none⟩), .pointer (some ⟨g, s * 36 + u * 3, none⟩), .pointer (some ⟨g, s * 36 + u * 3, none⟩), .int .i64 cu, .int .i64 p, .int .i64 z, .pointer (some ⟨g, s * 36, none⟩), .int .i64 (v : Nat), .pointer (some ⟨g, s * 36, none⟩), .pointer (some ⟨g, s * 36 + v * 3, none⟩), .pointer (some ⟨g, s * 36 + v * 3, none⟩), .int .i64 cv, .bool true, .bool true, .bool true] ⟨#[c0, c1, c2, c3, c4, c5, c6, .pointer (some ⟨g, s * 36, none⟩), c8, c9, c10, c11, c12, c13, c14, .int .i64 (u : Nat), .int .i64 (v : Nat), .int .i64 p, c18, c19, c20, c21, c22, c23, c24, c25, c26, c27, c28, c29, c30, c31, c32, c33, c34, c35, c36, c37, c38, c39, c40, c41, c42, c43, c44, c45, c46, c47, c48, c49, c50, c51, c52, c53, c54, c55, c56, c57, c58, c59, c60, c61, c62, c63, c64, c65, c66, c67, c68, c69, c70, c71, c72, c73, c74, c75, c76, c77, c78, c79, c80, c81, c82, c83, c84, c85, c86, c87, c88, c89, c90, c91, c92, c93, c94, c95, c96, c97, c98, c99, c100, c101, c102, c103, c104, c105, c106, c107, c108, c109, c110, c111, c112, c113, c114, c115, c116, c117, c118, c119, c120, c121, c122, c123, c124, c125, c126, c127, c128, c129, c130, c131, c132, c133, c134, c135, c136, c137, c138, c139, c140, c141, c142, c143, c144, c145, c146, c147, c148, c149, c150, c151, c152, c153, c154, c155, c156, c157, c158, c159, c160, c161, c162, c163, c164, c165, c166, c167, c168, c169, c170, c171, c172, c173, c174, c175, c176, c177, c178, c179, c180, c181, c182, c183, c184, c185, c186, c187, c188, c189, c190, c191, c192, c193, c194, c195, c196, c197, c198, c199, c200, c201, c202, c203, c204, c205, c206, c207, c208, c209], df⟩ L a ∧ Hid (Ext wr wc)) ⟨Inv.start, Lib.hid ((Ext.refl wr).drew)⟩ ?_ ?_
  · refine ⟨?_, ?_, ?_, ?_, ?_, ?_, ?_, ?_, ?_, ?_, ?_, ?_, ?_, ?_, ?_, ?_, ?_, ?_, ?_, ?_, ?_, ?_, ?_, ?_, ?_, ?_, ?_, ?_, ?_, ?_, ?_, ?_, ?_, ?_, ?_, ?_, ?_, ?_, ?_, ?_, ?_, ?_, trivial⟩
    · -- 0 move
      rintro L a wc ⟨hv, HO⟩ hL hc hd
      exact wpOp_val rfl rfl (ex_move rfl ((hv.fixed 15 (by decide)).trans rfl)) ⟨hv.put mv_E_apart 0 rfl (Nat.le_of_ble_eq_true rfl) (Nat.le_of_ble_eq_true rfl) rfl, HO⟩
    · -- 1 move
      rintro L a wc ⟨hv, HO⟩ hL hc hd
      exact wpOp_val rfl rfl (ex_move rfl ((hv.fixed 16 (by decide)).trans rfl)) ⟨hv.put mv_E_apart 1 rfl (Nat.le_of_ble_eq_true rfl) (Nat.le_of_ble_eq_true rfl) rfl, HO⟩
    · -- 2 bin
      rintro L a wc ⟨hv, HO⟩ hL hc hd
      have h := hne
      exact wpOp_val rfl rfl (ex_bin rfl (hv.get 0 rfl rfl (hd 0 (by decide))) (hv.get 1 rfl rfl (hd 1 (by decide))) (by go_simp)) ⟨hv.put mv_E_apart 2 rfl (Nat.le_of_ble_eq_true rfl) (Nat.le_of_ble_eq_true rfl) rfl, HO⟩
    · -- 3 move
      rintro L a wc ⟨hv, HO⟩ hL hc hd
      exact wpOp_val rfl rfl (ex_move rfl (hv.get 2 rfl rfl (hd 2 (by decide)))) ⟨hv.put mv_E_apart 3 rfl (Nat.le_of_ble_eq_true rfl) (Nat.le_of_ble_eq_true rfl) rfl, HO⟩
    · -- 4 move
      rintro L a wc ⟨hv, HO⟩ hL hc hd
      exact wpOp_val rfl ((wanted_at rfl rfl (hv.get 3 rfl rfl (hd 3 (by decide)))).trans rfl) (ex_move rfl ((hv.fixed 17 (by decide)).trans rfl)) ⟨hv.put mv_E_apart 4 rfl (Nat.le_of_ble_eq_true rfl) (Nat.le_of_ble_eq_true rfl) rfl, HO⟩
    · -- 5 bin
      rintro L a wc ⟨hv, HO⟩ hL hc hd
      have e1 : 0 ≤ p := by omega
      exact wpOp_val rfl ((wanted_at rfl rfl (hv.get 3 rfl rfl (hd 3 (by decide)))).trans rfl) (ex_bin rfl (hv.get 4 rfl rfl (hd 4 (by decide))) rfl (by go_simp)) ⟨hv.put mv_E_apart 5 rfl (Nat.le_of_ble_eq_true rfl) (Nat.le_of_ble_eq_true rfl) rfl, HO⟩
    · -- 6 pick
      rintro L a wc ⟨hv, HO⟩ hL hc hd
      exact wpOp_val rfl rfl (ex_pick rfl (hv.get 3 rfl rfl (hd 3 (by decide))) ((if_pos rfl).trans (hv.get 5 rfl rfl (hd 5 (by decide))))) ⟨hv.put mv_E_apart 6 rfl (Nat.le_of_ble_eq_true rfl) (Nat.le_of_ble_eq_true rfl) rfl, HO⟩
    · -- 7 move
      rintro L a wc ⟨hv, HO⟩ hL hc hd
      exact wpOp_val rfl rfl (ex_move rfl (hv.get 6 rfl rfl (hd 6 (by decide)))) ⟨hv.put mv_E_apart 7 rfl (Nat.le_of_ble_eq_true rfl) (Nat.le_of_ble_eq_true rfl) rfl, HO⟩
    · -- 8 move
      rintro L a wc ⟨hv, HO⟩ hL hc hd
      exact wpOp_val rfl ((wanted_at rfl rfl (hv.get 7 rfl rfl (hd 7 (by decide)))).trans rfl) (ex_move rfl ((hv.fixed 7 (by decide)).trans rfl)) ⟨hv.put mv_E_apart 8 rfl (Nat.le_of_ble_eq_true rfl) (Nat.le_of_ble_eq_true rfl) rfl, HO⟩
    · -- 9 move
      rintro L a wc ⟨hv, HO⟩ hL hc hd
      exact wpOp_val rfl ((wanted_at rfl rfl (hv.get 7 rfl rfl (hd 7 (by decide)))).trans rfl) (ex_move rfl ((hv.fixed 15 (by decide)).trans rfl)) ⟨hv.put mv_E_apart 9 rfl (Nat.le_of_ble_eq_true rfl) (Nat.le_of_ble_eq_true rfl) rfl, HO⟩
    · -- 10 nil
      rintro L a wc ⟨hv, HO⟩ hL hc hd
      exact wpOp_val rfl ((wanted_at rfl rfl (hv.get 7 rfl rfl (hd 7 (by decide)))).trans rfl) (ex_nil rfl (hv.get 8 rfl rfl (hd 8 (by decide)))) ⟨hv.put mv_E_apart 10 rfl (Nat.le_of_ble_eq_true rfl) (Nat.le_of_ble_eq_true rfl) rfl, HO⟩
    · -- 11 index
      rintro L a wc ⟨hv, HO⟩ hL hc hd
      have e1 : ¬ (12 : Int) ≤ (u : Int) := by omega
      exact wpOp_val rfl ((wanted_at rfl rfl (hv.get 7 rfl rfl (hd 7 (by decide)))).trans rfl) (ex_index rfl (hv.get 10 rfl rfl (hd 10 (by decide))) (hv.get 9 rfl rfl (hd 9 (by decide))) (by go_simp)) ⟨hv.put mv_E_apart 11 rfl (Nat.le_of_ble_eq_true rfl) (Nat.le_of_ble_eq_true rfl) rfl, HO⟩
    · -- 12 field
      rintro L a wc ⟨hv, HO⟩ hL hc hd
      exact wpOp_val rfl ((wanted_at rfl rfl (hv.get 7 rfl rfl (hd 7 (by decide)))).trans rfl) (ex_field rfl (hv.get 11 rfl rfl (hd 11 (by decide))) (by go_simp)) ⟨hv.put mv_E_apart 12 rfl (Nat.le_of_ble_eq_true rfl) (Nat.le_of_ble_eq_true rfl) rfl, HO⟩
    · -- 13 load
      rintro L a wc ⟨hv, HO⟩ hL hc hd
      have ku : wc.cell? ⟨g, s * 36 + u * 3, none⟩ = some (.int .i64 cu) := HO.out.cell hcu
      exact wpOp_val rfl ((wanted_at rfl rfl (hv.get 7 rfl rfl (hd 7 (by decide)))).trans rfl) (ex_load rfl (hv.get 12 rfl rfl (hd 12 (by decide))) (by go_simp)) ⟨hv.put mv_E_apart 13 rfl (Nat.le_of_ble_eq_true rfl) (Nat.le_of_ble_eq_true rfl) rfl, HO⟩
    · -- 14 bin
      rintro L a wc ⟨hv, HO⟩ hL hc hd
      have e1 : 0 ≤ cu := by omega
      exact wpOp_val rfl ((wanted_at rfl rfl (hv.get 7 rfl rfl (hd 7 (by decide)))).trans rfl) (ex_bin rfl (hv.get 13 rfl rfl (hd 13 (by decide))) rfl (by go_simp)) ⟨hv.put mv_E_apart 14 rfl (Nat.le_of_ble_eq_true rfl) (Nat.le_of_ble_eq_true rfl) rfl, HO⟩
    · -- 15 pick
      rintro L a wc ⟨hv, HO⟩ hL hc hd
      exact wpOp_val rfl rfl (ex_pick rfl (hv.get 7 rfl rfl (hd 7 (by decide))) ((if_pos rfl).trans (hv.get 14 rfl rfl (hd 14 (by decide))))) ⟨hv.put mv_E_apart 15 rfl (Nat.le_of_ble_eq_true rfl) (Nat.le_of_ble_eq_true rfl) rfl, HO⟩
    · -- 16 move
      rintro L a wc ⟨hv, HO⟩ hL hc hd
      exact wpOp_val rfl rfl (ex_move rfl (hv.get 15 rfl rfl (hd 15 (by decide)))) ⟨hv.put mv_E_apart 16 rfl (Nat.le_of_ble_eq_true rfl) (Nat.le_of_ble_eq_true rfl) rfl, HO⟩
    · -- 17 move
      rintro L a wc ⟨hv, HO⟩ hL hc hd
      exact wpOp_val rfl ((wanted_at rfl rfl (hv.get 16 rfl rfl (hd 16 (by decide)))).trans rfl) (ex_move rfl ((hv.fixed 7 (by decide)).trans rfl)) ⟨hv.put mv_E_apart 17 rfl (Nat.le_of_ble_eq_true rfl) (Nat.le_of_ble_eq_true rfl) rfl, HO⟩
    · -- 18 move
      rintro L a wc ⟨hv, HO⟩ hL hc hd
      exact wpOp_val rfl ((wanted_at rfl rfl (hv.get 16 rfl rfl (hd 16 (by decide)))).trans rfl) (ex_move rfl ((hv.fixed 16 (by decide)).trans rfl)) ⟨hv.put mv_E_apart 18 rfl (Nat.le_of_ble_eq_true rfl) (Nat.le_of_ble_eq_true rfl) rfl, HO⟩
    · -- 19 nil
      rintro L a wc ⟨hv, HO⟩ hL hc hd
      exact wpOp_val rfl ((wanted_at rfl rfl (hv.get 16 rfl rfl (hd 16 (by decide)))).trans rfl) (ex_nil rfl (hv.get 17 rfl rfl (hd 17 (by decide)))) ⟨hv.put mv_E_apart 19 rfl (Nat.le_of_ble_eq_true rfl) (Nat.le_of_ble_eq_true rfl) rfl, HO⟩
    · -- 20 index
      rintro L a wc ⟨hv, HO⟩ hL hc hd
      have e1 : ¬ (12 : Int) ≤ (v : Int) := by omega
      exact wpOp_val rfl ((wanted_at rfl rfl (hv.get 16 rfl rfl (hd 16 (by decide)))).trans rfl) (ex_index rfl (hv.get 19 rfl rfl (hd 19 (by decide))) (hv.get 18 rfl rfl (hd 18 (by decide))) (by go_simp)) ⟨hv.put mv_E_apart 20 rfl (Nat.le_of_ble_eq_true rfl) (Nat.le_of_ble_eq_true rfl) rfl, HO⟩
    · -- 21 field
      rintro L a wc ⟨hv, HO⟩ hL hc hd
      exact wpOp_val rfl ((wanted_at rfl rfl (hv.get 16 rfl rfl (hd 16 (by decide)))).trans rfl) (ex_field rfl (hv.get 20 rfl rfl (hd 20 (by decide))) (by go_simp)) ⟨hv.put mv_E_apart 21 rfl (Nat.le_of_ble_eq_true rfl) (Nat.le_of_ble_eq_true rfl) rfl, HO⟩
    · -- 22 load
      rintro L a wc ⟨hv, HO⟩ hL hc hd
      have kv : wc.cell? ⟨g, s * 36 + v * 3, none⟩ = some (.int .i64 cv) := HO.out.cell hcv
      exact wpOp_val rfl ((wanted_at rfl rfl (hv.get 16 rfl rfl (hd 16 (by decide)))).trans rfl) (ex_load rfl (hv.get 21 rfl rfl (hd 21 (by decide))) (by go_simp)) ⟨hv.put mv_E_apart 22 rfl (Nat.le_of_ble_eq_true rfl) (Nat.le_of_ble_eq_true rfl) rfl, HO⟩
    · -- 23 bin
      rintro L a wc ⟨hv, HO⟩ hL hc hd
      exact wpOp_val rfl ((wanted_at rfl rfl (hv.get 16 rfl rfl (hd 16 (by decide)))).trans rfl) (ex_bin rfl (hv.get 22 rfl rfl (hd 22 (by decide))) rfl (by go_simp)) ⟨hv.put mv_E_apart 23 rfl (Nat.le_of_ble_eq_true rfl) (Nat.le_of_ble_eq_true rfl) rfl, HO⟩
    · -- 24 move
      rintro L a wc ⟨hv, HO⟩ hL hc hd
      exact wpOp_val rfl ((wanted_at rfl rfl (hv.get 16 rfl rfl (hd 16 (by decide)))).trans rfl) (ex_move rfl (hv.get 23 rfl rfl (hd 23 (by decide)))) ⟨hv.put mv_E_apart 24 rfl (Nat.le_of_ble_eq_true rfl) (Nat.le_of_ble_eq_true rfl) rfl, HO⟩
    · -- 25 move
      rintro L a wc ⟨hv, HO⟩ hL hc hd
      exact wpOp_val rfl ((wanted_at rfl rfl (hv.get 24 rfl rfl (hd 24 (by decide)))).trans rfl) (ex_move rfl ((hv.fixed 7 (by decide)).trans rfl)) ⟨hv.put mv_E_apart 25 rfl (Nat.le_of_ble_eq_true rfl) (Nat.le_of_ble_eq_true rfl) rfl, HO⟩
    · -- 26 move
      rintro L a wc ⟨hv, HO⟩ hL hc hd
      exact wpOp_val rfl ((wanted_at rfl rfl (hv.get 24 rfl rfl (hd 24 (by decide)))).trans rfl) (ex_move rfl ((hv.fixed 15 (by decide)).trans rfl)) ⟨hv.put mv_E_apart 26 rfl (Nat.le_of_ble_eq_true rfl) (Nat.le_of_ble_eq_true rfl) rfl, HO⟩
    · -- 27 nil
      rintro L a wc ⟨hv, HO⟩ hL hc hd
      exact wpOp_val rfl ((wanted_at rfl rfl (hv.get 24 rfl rfl (hd 24 (by decide)))).trans rfl) (ex_nil rfl (hv.get 25 rfl rfl (hd 25 (by decide)))) ⟨hv.put mv_E_apart 27 rfl (Nat.le_of_ble_eq_true rfl) (Nat.le_of_ble_eq_true rfl) rfl, HO⟩
    · -- 28 index
      rintro L a wc ⟨hv, HO⟩ hL hc hd
      have e1 : ¬ (12 : Int) ≤ (u : Int) := by omega
      exact wpOp_val rfl ((wanted_at rfl rfl (hv.get 24 rfl rfl (hd 24 (by decide)))).trans rfl) (ex_index rfl (hv.get 27 rfl rfl (hd 27 (by decide))) (hv.get 26 rfl rfl (hd 26 (by decide))) (by go_simp)) ⟨hv.put mv_E_apart 28 rfl (Nat.le_of_ble_eq_true rfl) (Nat.le_of_ble_eq_true rfl) rfl, HO⟩
    · -- 29 field
      rintro L a wc ⟨hv, HO⟩ hL hc hd
      exact wpOp_val rfl ((wanted_at rfl rfl (hv.get 24 rfl rfl (hd 24 (by decide)))).trans rfl) (ex_field rfl (hv.get 28 rfl rfl (hd 28 (by decide))) (by go_simp)) ⟨hv.put mv_E_apart 29 rfl (Nat.le_of_ble_eq_true rfl) (Nat.le_of_ble_eq_true rfl) rfl, HO⟩
    · -- 30 load
      rintro L a wc ⟨hv, HO⟩ hL hc hd
      have ku : wc.cell? ⟨g, s * 36 + u * 3, none⟩ = some (.int .i64 cu) := HO.out.cell hcu
      exact wpOp_val rfl ((wanted_at rfl rfl (hv.get 24 rfl rfl (hd 24 (by decide)))).trans rfl) (ex_load rfl (hv.get 29 rfl rfl (hd 29 (by decide))) (by go_simp)) ⟨hv.put mv_E_apart 30 rfl (Nat.le_of_ble_eq_true rfl) (Nat.le_of_ble_eq_true rfl) rfl, HO⟩
    · -- 31 move
      rintro L a wc ⟨hv, HO⟩ hL hc hd
      exact wpOp_val rfl ((wanted_at rfl rfl (hv.get 24 rfl rfl (hd 24 (by decide)))).trans rfl) (ex_move rfl ((hv.fixed 17 (by decide)).trans rfl)) ⟨hv.put mv_E_apart 31 rfl (Nat.le_of_ble_eq_true rfl) (Nat.le_of_ble_eq_true rfl) rfl, HO⟩
    · -- 32 bin
      rintro L a wc ⟨hv, HO⟩ hL hc hd
      have h : IntKind.i64.wrap (cu + p) = z := hz
      exact wpOp_val rfl ((wanted_at rfl rfl (hv.get 24 rfl rfl (hd 24 (by decide)))).trans rfl) (ex_bin rfl (hv.get 30 rfl rfl (hd 30 (by decide))) (hv.get 31 rfl rfl (hd 31 (by decide))) (by go_simp)) ⟨hv.put mv_E_apart 32 rfl (Nat.le_of_ble_eq_true rfl) (Nat.le_of_ble_eq_true rfl) rfl, HO⟩
    · -- 33 move
      rintro L a wc ⟨hv, HO⟩ hL hc hd
      exact wpOp_val rfl ((wanted_at rfl rfl (hv.get 24 rfl rfl (hd 24 (by decide)))).trans rfl) (ex_move rfl ((hv.fixed 7 (by decide)).trans rfl)) ⟨hv.put mv_E_apart 33 rfl (Nat.le_of_ble_eq_true rfl) (Nat.le_of_ble_eq_true rfl) rfl, HO⟩
    · -- 34 move
      rintro L a wc ⟨hv, HO⟩ hL hc hd
      exact wpOp_val rfl ((wanted_at rfl rfl (hv.get 24 rfl rfl (hd 24 (by decide)))).trans rfl) (ex_move rfl ((hv.fixed 16 (by decide)).trans rfl)) ⟨hv.put mv_E_apart 34 rfl (Nat.le_of_ble_eq_true rfl) (Nat.le_of_ble_eq_true rfl) rfl, HO⟩
    · -- 35 nil
      rintro L a wc ⟨hv, HO⟩ hL hc hd
      exact wpOp_val rfl ((wanted_at rfl rfl (hv.get 24 rfl rfl (hd 24 (by decide)))).trans rfl) (ex_nil rfl (hv.get 33 rfl rfl (hd 33 (by decide)))) ⟨hv.put mv_E_apart 35 rfl (Nat.le_of_ble_eq_true rfl) (Nat.le_of_ble_eq_true rfl) rfl, HO⟩
    · -- 36 index
      rintro L a wc ⟨hv, HO⟩ hL hc hd
      have e1 : ¬ (12 : Int) ≤ (v : Int) := by omega
      exact wpOp_val rfl ((wanted_at rfl rfl (hv.get 24 rfl rfl (hd 24 (by decide)))).trans rfl) (ex_index rfl (hv.get 35 rfl rfl (hd 35 (by decide))) (hv.get 34 rfl rfl (hd 34 (by decide))) (by go_simp)) ⟨hv.put mv_E_apart 36 rfl (Nat.le_of_ble_eq_true rfl) (Nat.le_of_ble_eq_true rfl) rfl, HO⟩
    · -- 37 field
      rintro L a wc ⟨hv, HO⟩ hL hc hd
      exact wpOp_val rfl ((wanted_at rfl rfl (hv.get 24 rfl rfl (hd 24 (by decide)))).trans rfl) (ex_field rfl (hv.get 36 rfl rfl (hd 36 (by decide))) (by go_simp)) ⟨hv.put mv_E_apart 37 rfl (Nat.le_of_ble_eq_true rfl) (Nat.le_of_ble_eq_true rfl) rfl, HO⟩
    · -- 38 load
      rintro L a wc ⟨hv, HO⟩ hL hc hd
      have kv : wc.cell? ⟨g, s * 36 + v * 3, none⟩ = some (.int .i64 cv) := HO.out.cell hcv
      exact wpOp_val rfl ((wanted_at rfl rfl (hv.get 24 rfl rfl (hd 24 (by decide)))).trans rfl) (ex_load rfl (hv.get 37 rfl rfl (hd 37 (by decide))) (by go_simp)) ⟨hv.put mv_E_apart 38 rfl (Nat.le_of_ble_eq_true rfl) (Nat.le_of_ble_eq_true rfl) rfl, HO⟩
    · -- 39 bin
      rintro L a wc ⟨hv, HO⟩ hL hc hd
      exact wpOp_val rfl ((wanted_at rfl rfl (hv.get 24 rfl rfl (hd 24 (by decide)))).trans rfl) (ex_bin rfl (hv.get 32 rfl rfl (hd 32 (by decide))) (hv.get 38 rfl rfl (hd 38 (by decide))) (by go_simp)) ⟨hv.put mv_E_apart 39 rfl (Nat.le_of_ble_eq_true rfl) (Nat.le_of_ble_eq_true rfl) rfl, HO⟩
    · -- 40 pick
      rintro L a wc ⟨hv, HO⟩ hL hc hd
      exact wpOp_val rfl ((wanted_at rfl rfl (hv.get 16 rfl rfl (hd 16 (by decide)))).trans rfl) (ex_pick rfl (hv.get 24 rfl rfl (hd 24 (by decide))) ((if_neg (by simp)).trans (hv.get 39 rfl rfl (hd 39 (by decide))))) ⟨hv.put mv_E_apart 40 rfl (Nat.le_of_ble_eq_true rfl) (Nat.le_of_ble_eq_true rfl) rfl, HO⟩
    · -- 41 pick
      rintro L a wc ⟨hv, HO⟩ hL hc hd
      exact wpOp_val rfl rfl (ex_pick rfl (hv.get 16 rfl rfl (hd 16 (by decide))) ((if_pos rfl).trans (hv.get 40 rfl rfl (hd 40 (by decide))))) ⟨hv.put mv_E_apart 41 rfl (Nat.le_of_ble_eq_true rfl) (Nat.le_of_ble_eq_true rfl) rfl, HO⟩
  · rintro L a wc ⟨hv, HO⟩ hall
    show K a wc
    have ha := act_lit a
    rw [hv.size, hv.defers] at ha
    have hl : ∀ f : Nat → Value, ((List.range (⟨#[c0, c1, c2, c3, c4, c5, c6, .pointer (some ⟨g, s * 36, none⟩), c8, c9, c10, c11, c12, c13, c14, .int .i64 (u : Nat), .int .i64 (v : Nat), .int .i64 p, c18, c19, c20, c21, c22, c23, c24, c25, c26, c27, c28, c29, c30, c31, c32, c33, c34, c35, c36, c37, c38, c39, c40, c41, c42, c43, c44, c45, c46, c47, c48, c49, c50, c51, c52, c53, c54, c55, c56, c57, c58, c59, c60, c61, c62, c63, c64, c65, c66, c67, c68, c69, c70, c71, c72, c73, c74, c75, c76, c77, c78, c79, c80, c81, c82, c83, c84, c85, c86, c87, c88, c89, c90, c91, c92, c93, c94, c95, c96, c97, c98, c99, c100, c101, c102, c103, c104, c105, c106, c107, c108, c109, c110, c111, c112, c113, c114, c115, c116, c117, c118, c119, c120, c121, c122, c123, c124, c125, c126, c127, c128, c129, c130, c131, c132, c133, c134, c135, c136, c137, c138, c139, c140, c141, c142, c143, c144, c145, c146, c147, c148, c149, c150, c151, c152, c153, c154, c155, c156, c157, c158, c159, c160, c161, c162, c163, c164, c165, c166, c167, c168, c169, c170, c171, c172, c173, c174, c175, c176, c177, c178, c179, c180, c181, c182, c183, c184, c185, c186, c187, c188, c189, c190, c191, c192, c193, c194, c195, c196, c197, c198, c199, c200, c201, c202, c203, c204, c205, c206, c207, c208, c209], df⟩ : Act).tmps.size).map f).toArray = #[f 0, f 1, f 2, f 3, f 4, f 5, f 6, f 7, f 8, f 9, f 10, f 11, f 12, f 13, f 14, f 15, f 16, f 17, f 18, f 19, f 20, f 21, f 22, f 23, f 24, f 25, f 26, f 27, f 28, f 29, f 30, f 31, f 32, f 33, f 34, f 35, f 36, f 37, f 38, f 39, f 40, f 41, f 42, f 43, f 44, f 45, f 46, f 47, f 48, f 49, f 50, f 51, f 52, f 53, f 54, f 55, f 56, f 57, f 58, f 59, f 60, f 61, f 62, f 63, f 64, f 65, f 66, f 67, f 68, f 69, f 70, f 71, f 72, f 73, f 74, f 75, f 76, f 77, f 78, f 79, f 80, f 81, f 82, f 83, f 84, f 85, f 86, f 87, f 88, f 89, f 90, f 91, f 92, f 93, f 94, f 95, f 96, f 97, f 98, f 99, f 100, f 101, f 102, f 103, f 104, f 105, f 106, f 107, f 108, f 109, f 110, f 111, f 112, f 113, f 114, f 115, f 116, f 117, f 118, f 119, f 120, f 121, f 122, f 123, f 124, f 125, f 126, f 127, f 128, f 129, f 130, f 131, f 132, f 133, f 134, f 135, f 136, f 137, f 138, f 139, f 140, f 141, f 142, f 143, f 144, f 145, f 146, f 147, f 148, f 149, f 150, f 151, f 152, f 153, f 154, f 155, f 156, f 157, f 158, f 159, f 160, f 161, f 162, f 163, f 164, f 165, f 166, f 167, f 168, f 169, f 170, f 171, f 172, f 173, f 174, f 175, f 176, f 177, f 178, f 179, f 180, f 181, f 182, f 183, f 184, f 185, f 186, f 187, f 188, f 189, f 190, f 191, f 192, f 193, f 194, f 195, f 196, f 197, f 198, f 199, f 200, f 201, f 202, f 203, f 204, f 205, f 206, f 207, f 208, f 209] := fun _ => rfl
    rw [hl] at ha
    simp only [hv.fixed 0 (by decide), hv.fixed 1 (by decide), hv.fixed 2 (by decide), hv.fixed 3 (by decide), hv.fixed 4 (by decide), hv.fixed 5 (by decide), hv.fixed 6 (by decide), hv.fixed 7 (by decide), hv.fixed 8 (by decide), hv.fixed 9 (by decide), hv.fixed 10 (by decide), hv.fixed 11 (by decide), hv.fixed 12 (by decide), hv.fixed 13 (by decide), hv.fixed 14 (by decide), hv.fixed 15 (by decide), hv.fixed 16 (by decide), hv.fixed 17 (by decide), hv.fixed 18 (by decide), hv.fixed 19 (by decide), hv.fixed 20 (by decide), hv.fixed 21 (by decide), hv.fixed 22 (by decide), hv.fixed 23 (by decide), hv.fixed 24 (by decide), hv.fixed 25 (by decide), hv.fixed 26 (by decide), hv.fixed 27 (by decide), hv.fixed 28 (by decide), hv.fixed 29 (by decide), hv.fixed 30 (by decide), hv.fixed 31 (by decide), hv.fixed 32 (by decide), hv.fixed 33 (by decide), hv.fixed 34 (by decide), hv.fixed 35 (by decide), hv.fixed 36 (by decide), hv.fixed 37 (by decide), hv.fixed 38 (by decide), hv.fixed 39 (by decide), hv.fixed 40 (by decide), hv.fixed 41 (by decide), hv.fixed 42 (by decide), hv.fixed 43 (by decide), hv.fixed 44 (by decide), hv.fixed 45 (by decide), hv.fixed 46 (by decide), hv.fixed 47 (by decide), hv.fixed 48 (by decide), hv.fixed 49 (by decide), hv.fixed 50 (by decide), hv.fixed 51 (by decide), hv.fixed 52 (by decide), hv.fixed 53 (by decide), hv.fixed 54 (by decide), hv.fixed 55 (by decide), hv.fixed 56 (by decide), hv.fixed 57 (by decide), hv.fixed 58 (by decide), hv.fixed 59 (by decide), hv.fixed 60 (by decide), hv.fixed 61 (by decide), hv.fixed 62 (by decide), hv.fixed 63 (by decide), hv.fixed 64 (by decide), hv.fixed 65 (by decide), hv.fixed 66 (by decide), hv.fixed 67 (by decide), hv.fixed 68 (by decide), hv.fixed 69 (by decide), hv.fixed 70 (by decide), hv.fixed 71 (by decide), hv.fixed 72 (by decide), hv.fixed 73 (by decide), hv.fixed 74 (by decide), hv.fixed 75 (by decide), hv.fixed 76 (by decide), hv.fixed 77 (by decide), hv.fixed 78 (by decide), hv.fixed 79 (by decide), hv.fixed 80 (by decide), hv.fixed 81 (by decide), hv.fixed 82 (by decide), hv.fixed 83 (by decide), hv.fixed 84 (by decide), hv.fixed 85 (by decide), hv.fixed 86 (by decide), hv.fixed 87 (by decide), hv.fixed 88 (by decide), hv.fixed 89 (by decide), hv.fixed 90 (by decide), hv.fixed 91 (by decide), hv.fixed 92 (by decide), hv.fixed 93 (by decide), hv.fixed 94 (by decide), hv.fixed 95 (by decide), hv.fixed 96 (by decide), hv.fixed 97 (by decide), hv.fixed 98 (by decide), hv.fixed 99 (by decide), hv.fixed 100 (by decide), hv.fixed 101 (by decide), hv.fixed 102 (by decide), hv.fixed 103 (by decide), hv.fixed 104 (by decide), hv.fixed 105 (by decide), hv.fixed 106 (by decide), hv.fixed 107 (by decide), hv.fixed 108 (by decide), hv.fixed 109 (by decide), hv.fixed 110 (by decide), hv.fixed 111 (by decide), hv.fixed 112 (by decide), hv.fixed 113 (by decide), hv.fixed 114 (by decide), hv.fixed 115 (by decide), hv.fixed 116 (by decide), hv.fixed 117 (by decide), hv.fixed 118 (by decide), hv.fixed 119 (by decide), hv.fixed 120 (by decide), hv.fixed 121 (by decide), hv.fixed 122 (by decide), hv.fixed 123 (by decide), hv.fixed 124 (by decide), hv.fixed 125 (by decide), hv.fixed 126 (by decide), hv.fixed 127 (by decide), hv.fixed 128 (by decide), hv.fixed 129 (by decide), hv.fixed 130 (by decide), hv.fixed 131 (by decide), hv.fixed 132 (by decide), hv.fixed 133 (by decide), hv.fixed 134 (by decide), hv.fixed 135 (by decide), hv.fixed 136 (by decide), hv.fixed 137 (by decide), hv.fixed 138 (by decide), hv.fixed 139 (by decide), hv.fixed 140 (by decide), hv.fixed 141 (by decide), hv.fixed 142 (by decide), hv.fixed 143 (by decide), hv.fixed 144 (by decide), hv.fixed 145 (by decide), hv.fixed 146 (by decide), hv.fixed 147 (by decide), hv.fixed 148 (by decide), hv.fixed 191 (by decide), hv.fixed 192 (by decide), hv.fixed 193 (by decide), hv.fixed 194 (by decide), hv.fixed 195 (by decide), hv.fixed 196 (by decide), hv.fixed 197 (by decide), hv.fixed 198 (by decide), hv.fixed 199 (by decide), hv.fixed 200 (by decide), hv.fixed 201 (by decide), hv.fixed 202 (by decide), hv.fixed 203 (by decide), hv.fixed 204 (by decide), hv.fixed 205 (by decide), hv.fixed 206 (by decide), hv.fixed 207 (by decide), hv.fixed 208 (by decide), hv.fixed 209 (by decide), hv.get 41 (d := 190) rfl rfl (hall 41 (by decide))] at ha
    rw [ha]
    exact hK _ _ _ _ _ _ _ _ _ _ _ _ _ _ _ _ _ _ _ _ _ _ _ _ _ _ _ _ _ _ _ _ _ _ _ _ _ _ _ _ _ wc HO.out
noncomputable def mv_F_code : Code := ((Tryd.f34.body.bind (regionOf 39)).getD .skip)
def mv_F_dsts : List (Option Nat) := [some 149, some 150, some 151, some 152, some 153, some 154, some 155, some 156, some 157, some 158, some 159, some 160, some 161, some 162, some 163, some 164, some 165, some 166, some 167, some 168, some 169, some 170, some 171, some 172, some 173, some 174, some 175, some 176, some 177, some 178, some 179, some 180, some 181, some 182, some 183, some 184, some 185, some 186, some 187, some 188, some 189, some 190]
theorem mv_F_apart : apartD mv_F_dsts = true := by decide +kernel
set_option maxRecDepth 1000000 in
set_option maxHeartbeats 16000000 in
theorem mv_F (wr : World) (u v : Nat) (hne : ((u : Int) != (v : Int)) = true) (p : Int) (hp : ¬ p < 0) (g s : Nat) (hu : u < 12) (cu : Int) (hcu : wr.cell? ⟨g, s * 36 + u * 3, none⟩ = some (.int .i64 cu)) (h0 : ¬ cu < 0) (hv12 : v < 12) (cv : Int) (hcv : wr.cell? ⟨g, s * 36 + v * 3, none⟩ = some (.int .i64 cv)) (h1 : ¬ cv < 0) (z : Int) (hz : IntKind.i64.wrap (cu + p) = z) (h2 : ¬ z < cv) (c0 c1 c2 c3 c4 c5 c6 c8 c9 c10 c11 c12 c13 c14 c18 c19 c20 c21 c22 c23 c24 c25 c26 c27 c28 c29 c30 c31 c32 c33 c34 c35 c36 c37 c38 c39 c40 c41 c42 c43 c44 c45 c46 c47 c48 c49 c50 c51 c52 c53 c54 c55 c56 c57 c58 c59 c60 c61 c62 c63 c64 c65 c66 c67 c68 c69 c70 c71 c72 c73 c74 c75 c76 c77 c78 c79 c80 c81 c82 c83 c84 c85 c86 c87 c88 c89 c90 c91 c92 c93 c94 c95 c96 c97 c98 c99 c100 c101 c102 c103 c104 c105 c106 c107 c108 c109 c110 c111 c112 c113 c114 c115 c116 c117 c118 c119 c120 c121 c122 c123 c124 c125 c126 c127 c128 c129 c130 c131 c132 c133 c134 c135 c136 c137 c138 c139 c140 c141 c142 c143 c144 c145 c146 c147 c148 c149 c150 c151 c152 c153 c154 c155 c156 c157 c158 c159 c160 c161 c162 c163 c164 c165 c166 c167 c168 c169 c170 c171 c172 c173 c174 c175 c176 c177 c178 c179 c180 c181 c182 c183 c184 c185 c186 c187 c188 c189 c190 c191 c192 c193 c194 c195 c196 c197 c198 c199 c200 c201 c202 c203 c204 c205 c206 c207 c208 c209 : Value) (df : List Deferred) (K : Act → World → Prop)
    (hK : ∀  (u149 u150 u151 u152 u153 u154 u155 u156 u157 u158 u159 u160 u161 u162 u163 u164 u165 u166 u167 u168 u169 u170 u171 u172 u173 u174 u175 u176 u177 u178 u179 u180 u181 u182 u183 u184 u185 u186 u187 u188 u189 : Value) (wx : World), Ext wr wx → K ⟨#[c0, c1, c2, c3, c4, c5, c6, .pointer (some ⟨g, s * 36, none⟩), c8, c9, c10, c11, c12, c13, c14, .int .i64 (u : Nat), .int .i64 (v : Nat), .int .i64 p, c18, c19, c20, c21, c22, c23, c24, c25, c26, c27, c28, c29, c30, c31, c32, c33, c34, c35, c36, c37, c38, c39, c40, c41, c42, c43, c44, c45, c46, c47, c48, c49, c50, c51, c52, c53, c54, c55, c56, c57, c58, c59, c60, c61, c62, c63, c64, c65, c66, c67, c68, c69, c70, c71, c72, c73, c74, c75, c76, c77, c78, c79, c80, c81, c82, c83, c84, c85, c86, c87, c88, c89, c90, c91, c92, c93, c94, c95, c96, c97, c98, c99, c100, c101, c102, c103, c104, c105, c106, c107, c108, c109, c110, c111, c112, c113, c114, c115, c116, c117, c118, c119, c120, c121, c122, c123, c124, c125, c126, c127, c128, c129, c130, c131, c132, c133, c134, c135, c136, c137, c138, c139, c140, c141, c142, c143, c144, c145, c146, c147, c148, u149, u150, u151, u152, u153, u154, u155, u156, u157, u158, u159, u160, u161, u162, u163, u164, u165, u166, u167, u168, u169, u170, u171, u172, u173, u174, u175, u176, u177, u178, u179, u180, u181, u182, u183, u184, u185, u186, u187, u188, u189, .bool false, c191, c192, c193, c194, c195, c196, c197, c198, c199, c200, c201, c202, c203, c204, c205, c206, c207, c208, c209], df⟩ wx) :
    Code.wp Tryd.prog mv_F_code (AtEnd K) ⟨#[c0, c1, c2, c3, c4, c5, c6, .pointer (some ⟨g, s * 36, none⟩), c8, c9, c10, c11, c12, c13, c14, .int .i64 (u : Nat), .int .i64 (v : Nat), .int .i64 p, c18, c19, c20, c21, c22, c23, c24, c25, c26, c27, c28, c29, c30, c31, c32, c33, c34, c35, c36, c37, c38, c39, c40, c41, c42, c43, c44, c45, c46, c47, c48, c49, c50, c51, c52, c53, c54, c55, c56, c57, c58, c59, c60, c61, c62, c63, c64, c65, c66, c67, c68, c69, c70, c71, c72, c73, c74, c75, c76, c77, c78, c79, c80, c81, c82, c83, c84, c85, c86, c87, c88, c89, c90, c91, c92, c93, c94, c95, c96, c97, c98, c99, c100, c101, c102, c103, c104, c105, c106, c107, c108, c109, c110, c111, c112, c113, c114, c115, c116, c117, c118, c119, c120, c121, c122, c123, c124, c125, c126, c127, c128, c129, c130, c131, c132, c133, c134, c135, c136, c137, c138, c139, c140, c141, c142, c143, c144, c145, c146, c147, c148, c149, c150, c151, c152, c153, c154, c155, c156, c157, c158, c159, c160, c161, c162, c163, c164, c165, c166, c167, c168, c169, c170, c171, c172, c173, c174, c175, c176, c177, c178, c179, c180, c181, c182, c183, c184, c185, c186, c187, c188, c189, c190, c191, c192, c193, c194, c195, c196, c197, c198, c199, c200, c201, c202, c203, c204, c205, c206, c207, c208, c209], df⟩ wr := by
  conv => arg 2; whnf
  refine region_inv (by kernel_rfl) [[], [], [0, 1], [2], [3], [4, 3], [3, 5], [6, 3], [7], [7], [8, 7], [10, 9, 7], [11, 7], [12, 7], [13, 7], [7, 14], [15, 7], [16], [16], [17, 16], [19, 18, 16], [20, 16], [21, 16], [22, 16], [23, 16, 16], [24], [24], [25, 24], [27, 26, 24], [28, 24], [29, 24], [24], [30, 31, 24], [24], [24], [33, 24], [35, 34, 24], [36, 24], [37, 24], [32, 38, 24], [24, 39, 16], [16, 40]] (by kernel_rfl) [0, 1, 2, 3, 4, 5, 6, 7, 8, 9, 10, 11, 12, 13, 14, 15, 16, 17, 18, 19, 20, 21, 22, 23, 24, 25, 26, 27, 28, 29, 30, 31, 32, 33, 34, 35, 36, 37, 38, 39, 40, 41] (by decide +kernel) (by decide +kernel) (by decide +kernel) (fun L a wc => Inv mv_F_dsts [.int .i64 (u : Nat), .int .i64 (v : Nat), .bool true, .bool true, .int .i64 p, .bool true, .bool true, .bool true, .pointer (some ⟨g, s * 36, none⟩), .int .i64 (u : Nat), .pointer (some ⟨g, s * 36, none⟩), .pointer (some ⟨g, s * 36 + u * 3, none⟩), .pointer (some ⟨g, s * 36 + u * 3, none⟩), .int .i64 cu, .bool true, .bool true, .bool true, .pointer (some ⟨g, s * 36, none⟩), .int .i64 (v : Nat), .pointer (some ⟨g, s * 36, none⟩), .pointer (some ⟨g, s * 36 + v * 3, none⟩), .pointer (some ⟨g, s * 36 + v * 3, none⟩), .int .i64 cv, .bool false, .bool false, .pointer (some ⟨g, s * 36, none⟩), .int .i64 (u : Nat), .pointer (some ⟨g, s * 36, none⟩), .pointer (some ⟨g, s * 36 + u * 3, none⟩), .pointer (some ⟨g, s * 36 + u * 3, none⟩), .int .i64 cu, .int .i64 p, .int .i64 z, .pointer (some ⟨g, s * 36, none⟩), .int .i64 (v : Nat), .pointer (some ⟨g, s * 36, none⟩), .pointer (some ⟨g, s * 36 + v * 3, none⟩), .pointer (some ⟨g, s * 36 + v * 3, none⟩), .int .i64 cv, .bool false, .bool false, .bool false] ⟨#[c0, c1, c2, c3, c4, c5, c6, .pointer (some ⟨g, s * 36, none⟩), c8, c9, c10, c11, c12, c13, c14, .int .i64 (u : Nat), .int .i64 (v : Nat), .int .i64 p, c18, c19, c20, c21, c22, c23, c24, c25, c26, c27, c28, c29, c30, c31, c32, c33, c34, c35, c36, c37, c38, c39, c40, c41, c42, c43, c44, c45, c46, c47, c48, c49, c50, c51, c52, c53, c54, c55, c56, c57, c58, c59, c60, c61, c62, c63, c64, c65, c66, c67, c68, c69, c70, c71, c72, c73, c74, c75, c76, c77, c78, c79, c80, c81, c82, c83, c84, c85, c86, c87, c88, c89, c90, c91, c92, c93, c94, c95, c96, c97, c98, c99, c100, c101, c102, c103, c104, c105, c106, c107, c108, c109, c110, c111, c112, c113, c114, c115, c116, c117, c118, c119, c120, c121, c122, c123, c124, c125, c126, c127, c128, c129, c130, c131, c132, c133, c134, c135, c136, c137, c138, c139, c140, c141, c142, c143, c144, c145, c146, c147, c148, c149, c150, c151, c152, c153, c154, c155, c156, c157, c158, c159, c160, c161, c162, c163, c164, c165, c166, c167, c168, c169, c170, c171, c172, c173, c174, c175, c176, c177, c178, c179, c180, c181, c182, c183, c184, c185, c186, c187, c188, c189, c190, c191, c192, c193, c194, c195, c196, c197, c198, c199, c200, c201, c202, c203, c204, c205, c206, c207, c208, c209], df⟩ L a ∧ Hid (Ext wr wc)) ⟨Inv.start, Lib.hid ((Ext.refl wr).drew)⟩ ?_ ?_
  · refine ⟨?_, ?_, ?_, ?_, ?_, ?_, ?_, ?_, ?_, ?_, ?_, ?_, ?_, ?_, ?_, ?_, ?_, ?_, ?_, ?_, ?_, ?_, ?_, ?_, ?_, ?_, ?_, ?_, ?_, ?_, ?_, ?_, ?_, ?_, ?_, ?_, ?_, ?_, ?_, ?_, ?_, ?_, trivial⟩
    · -- 0 move
      rintro L a wc ⟨hv, HO⟩ hL hc hd
      exact wpOp_val rfl rfl (ex_move rfl ((hv.fixed 15 (by decide)).trans rfl)) ⟨hv.put mv_F_apart 0 rfl (Nat.le_of_ble_eq_true rfl) (Nat.le_of_ble_eq_true rfl) rfl, HO⟩
    · -- 1 move
      rintro L a wc ⟨hv, HO⟩ hL hc hd
      exact wpOp_val rfl rfl (ex_move rfl ((hv.fixed 16 (by decide)).trans rfl)) ⟨hv.put mv_F_apart 1 rfl (Nat.le_of_ble_eq_true rfl) (Nat.le_of_ble_eq_true rfl) rfl, HO⟩
    · -- 2 bin
      rintro L a wc ⟨hv, HO⟩ hL hc hd
      have h := hne
      exact wpOp_val rfl rfl (ex_bin rfl (hv.get 0 rfl rfl (hd 0 (by decide))) (hv.get 1 rfl rfl (hd 1 (by decide))) (by go_simp)) ⟨hv.put mv_F_apart 2 rfl (Nat.le_of_ble_eq_true rfl) (Nat.le_of_ble_eq_true rfl) rfl, HO⟩
    · -- 3 move
      rintro L a wc ⟨hv, HO⟩ hL hc hd
      exact wpOp_val rfl rfl (ex_move rfl (hv.get 2 rfl rfl (hd 2 (by decide)))) ⟨hv.put mv_F_apart 3 rfl (Nat.le_of_ble_eq_true rfl) (Nat.le_of_ble_eq_true rfl) rfl, HO⟩
    · -- 4 move
      rintro L a wc ⟨hv, HO⟩ hL hc hd
      exact wpOp_val rfl ((wanted_at rfl rfl (hv.get 3 rfl rfl (hd 3 (by decide)))).trans rfl) (ex_move rfl ((hv.fixed 17 (by decide)).trans rfl)) ⟨hv.put mv_F_apart 4 rfl (Nat.le_of_ble_eq_true rfl) (Nat.le_of_ble_eq_true rfl) rfl, HO⟩
    · -- 5 bin
      rintro L a wc ⟨hv, HO⟩ hL hc hd
      have e1 : 0 ≤ p := by omega
      exact wpOp_val rfl ((wanted_at rfl rfl (hv.get 3 rfl rfl (hd 3 (by decide)))).trans rfl) (ex_bin rfl (hv.get 4 rfl rfl (hd 4 (by decide))) rfl (by go_simp)) ⟨hv.put mv_F_apart 5 rfl (Nat.le_of_ble_eq_true rfl) (Nat.le_of_ble_eq_true rfl) rfl, HO⟩
    · -- 6 pick
      rintro L a wc ⟨hv, HO⟩ hL hc hd
      exact wpOp_val rfl rfl (ex_pick rfl (hv.get 3 rfl rfl (hd 3 (by decide))) ((if_pos rfl).trans (hv.get 5 rfl rfl (hd 5 (by decide))))) ⟨hv.put mv_F_apart 6 rfl (Nat.le_of_ble_eq_true rfl) (Nat.le_of_ble_eq_true rfl) rfl, HO⟩
    · -- 7 move
      rintro L a wc ⟨hv, HO⟩ hL hc hd
      exact wpOp_val rfl rfl (ex_move rfl (hv.get 6 rfl rfl (hd 6 (by decide)))) ⟨hv.put mv_F_apart 7 rfl (Nat.le_of_ble_eq_true rfl) (Nat.le_of_ble_eq_true rfl) rfl, HO⟩
    · -- 8 move
      rintro L a wc ⟨hv, HO⟩ hL hc hd
      exact wpOp_val rfl ((wanted_at rfl rfl (hv.get 7 rfl rfl (hd 7 (by decide)))).trans rfl) (ex_move rfl ((hv.fixed 7 (by decide)).trans rfl)) ⟨hv.put mv_F_apart 8 rfl (Nat.le_of_ble_eq_true rfl) (Nat.le_of_ble_eq_true rfl) rfl, HO⟩
    · -- 9 move
      rintro L a wc ⟨hv, HO⟩ hL hc hd
      exact wpOp_val rfl ((wanted_at rfl rfl (hv.get 7 rfl rfl (hd 7 (by decide)))).trans rfl) (ex_move rfl ((hv.fixed 15 (by decide)).trans rfl)) ⟨hv.put mv_F_apart 9 rfl (Nat.le_of_ble_eq_true rfl) (Nat.le_of_ble_eq_true rfl) rfl, HO⟩
    · -- 10 nil
      rintro L a wc ⟨hv, HO⟩ hL hc hd
      exact wpOp_val rfl ((wanted_at rfl rfl (hv.get 7 rfl rfl (hd 7 (by decide)))).trans rfl) (ex_nil rfl (hv.get 8 rfl rfl (hd 8 (by decide)))) ⟨hv.put mv_F_apart 10 rfl (Nat.le_of_ble_eq_true rfl) (Nat.le_of_ble_eq_true rfl) rfl, HO⟩
    · -- 11 index
      rintro L a wc ⟨hv, HO⟩ hL hc hd
      have e1 : ¬ (12 : Int) ≤ (u : Int) := by omega
      exact wpOp_val rfl ((wanted_at rfl rfl (hv.get 7 rfl rfl (hd 7 (by decide)))).trans rfl) (ex_index rfl (hv.get 10 rfl rfl (hd 10 (by decide))) (hv.get 9 rfl rfl (hd 9 (by decide))) (by go_simp)) ⟨hv.put mv_F_apart 11 rfl (Nat.le_of_ble_eq_true rfl) (Nat.le_of_ble_eq_true rfl) rfl, HO⟩
    · -- 12 field
      rintro L a wc ⟨hv, HO⟩ hL hc hd
      exact wpOp_val rfl ((wanted_at rfl rfl (hv.get 7 rfl rfl (hd 7 (by decide)))).trans rfl) (ex_field rfl (hv.get 11 rfl rfl (hd 11 (by decide))) (by go_simp)) ⟨hv.put mv_F_apart 12 rfl (Nat.le_of_ble_eq_true rfl) (Nat.le_of_ble_eq_true rfl) rfl, HO⟩
    · -- 13 load
      rintro L a wc ⟨hv, HO⟩ hL hc hd
      have ku : wc.cell? ⟨g, s * 36 + u * 3, none⟩ = some (.int .i64 cu) := HO.out.cell hcu
      exact wpOp_val rfl ((wanted_at rfl rfl (hv.get 7 rfl rfl (hd 7 (by decide)))).trans rfl) (ex_load rfl (hv.get 12 rfl rfl (hd 12 (by decide))) (by go_simp)) ⟨hv.put mv_F_apart 13 rfl (Nat.le_of_ble_eq_true rfl) (Nat.le_of_ble_eq_true rfl) rfl, HO⟩
    · -- 14 bin
      rintro L a wc ⟨hv, HO⟩ hL hc hd
      have e1 : 0 ≤ cu := by omega
      exact wpOp_val rfl ((wanted_at rfl rfl (hv.get 7 rfl rfl (hd 7 (by decide)))).trans rfl) (ex_bin rfl (hv.get 13 rfl rfl (hd 13 (by decide))) rfl (by go_simp)) ⟨hv.put mv_F_apart 14 rfl (Nat.le_of_ble_eq_true rfl) (Nat.le_of_ble_eq_true rfl) rfl, HO⟩
    · -- 15 pick
      rintro L a wc ⟨hv, HO⟩ hL hc hd
      exact wpOp_val rfl rfl (ex_pick rfl (hv.get 7 rfl rfl (hd 7 (by decide))) ((if_pos rfl).trans (hv.get 14 rfl rfl (hd 14 (by decide))))) ⟨hv.put mv_F_apart 15 rfl (Nat.le_of_ble_eq_true rfl) (Nat.le_of_ble_eq_true rfl) rfl, HO⟩
    · -- 16 move
      rintro L a wc ⟨hv, HO⟩ hL hc hd
      exact wpOp_val rfl rfl (ex_move rfl (hv.get 15 rfl rfl (hd 15 (by decide)))) ⟨hv.put mv_F_apart 16 rfl (Nat.le_of_ble_eq_true rfl) (Nat.le_of_ble_eq_true rfl) rfl, HO⟩
    · -- 17 move
      rintro L a wc ⟨hv, HO⟩ hL hc hd
      exact wpOp_val rfl ((wanted_at rfl rfl (hv.get 16 rfl rfl (hd 16 (by decide)))).trans rfl) (ex_move rfl ((hv.fixed 7 (by decide)).trans rfl)) ⟨hv.put mv_F_apart 17 rfl (Nat.le_of_ble_eq_true rfl) (Nat.le_of_ble_eq_true rfl) rfl, HO⟩
    · -- 18 move
      rintro L a wc ⟨hv, HO⟩ hL hc hd
      exact wpOp_val rfl ((wanted_at rfl rfl (hv.get 16 rfl rfl (hd 16 (by decide)))).trans rfl) (ex_move rfl ((hv.fixed 16 (by decide)).trans rfl)) ⟨hv.put mv_F_apart 18 rfl (Nat.le_of_ble_eq_true rfl) (Nat.le_of_ble_eq_true rfl) rfl, HO⟩
    · -- 19 nil
      rintro L a wc ⟨hv, HO⟩ hL hc hd
      exact wpOp_val rfl ((wanted_at rfl rfl (hv.get 16 rfl rfl (hd 16 (by decide)))).trans rfl) (ex_nil rfl (hv.get 17 rfl rfl (hd 17 (by decide)))) ⟨hv.put mv_F_apart 19 rfl (Nat.le_of_ble_eq_true rfl) (Nat.le_of_ble_eq_true rfl) rfl, HO⟩
    · -- 20 index
      rintro L a wc ⟨hv, HO⟩ hL hc hd
      have e1 : ¬ (12 : Int) ≤ (v : Int) := by omega
      exact wpOp_val rfl ((wanted_at rfl rfl (hv.get 16 rfl rfl (hd 16 (by decide)))).trans rfl) (ex_index rfl (hv.get 19 rfl rfl (hd 19 (by decide))) (hv.get 18 rfl rfl (hd 18 (by decide))) (by go_simp)) ⟨hv.put mv_F_apart 20 rfl (Nat.le_of_ble_eq_true rfl) (Nat.le_of_ble_eq_true rfl) rfl, HO⟩
    · -- 21 field
      rintro L a wc ⟨hv, HO⟩ hL hc hd
      exact wpOp_val rfl ((wanted_at rfl rfl (hv.get 16 rfl rfl (hd 16 (by decide)))).trans rfl) (ex_field rfl (hv.get 20 rfl rfl (hd 20 (by decide))) (by go_simp)) ⟨hv.put mv_F_apart 21 rfl (Nat.le_of_ble_eq_true rfl) (Nat.le_of_ble_eq_true rfl) rfl, HO⟩
    · -- 22 load
      rintro L a wc ⟨hv, HO⟩ hL hc hd
      have kv : wc.cell? ⟨g, s * 36 + v * 3, none⟩ = some (.int .i64 cv) := HO.out.cell hcv
      exact wpOp_val rfl ((wanted_at rfl rfl (hv.get 16 rfl rfl (hd 16 (by decide)))).trans rfl) (ex_load rfl (hv.get 21 rfl rfl (hd 21 (by decide))) (by go_simp)) ⟨hv.put mv_F_apart 22 rfl (Nat.le_of_ble_eq_true rfl) (Nat.le_of_ble_eq_true rfl) rfl, HO⟩
    · -- 23 bin
      rintro L a wc ⟨hv, HO⟩ hL hc hd
      exact wpOp_val rfl ((wanted_at rfl rfl (hv.get 16 rfl rfl (hd 16 (by decide)))).trans rfl) (ex_bin rfl (hv.get 22 rfl rfl (hd 22 (by decide))) rfl (by go_simp)) ⟨hv.put mv_F_apart 23 rfl (Nat.le_of_ble_eq_true rfl) (Nat.le_of_ble_eq_true rfl) rfl, HO⟩
    · -- 24 move
      rintro L a wc ⟨hv, HO⟩ hL hc hd
      exact wpOp_val rfl ((wanted_at rfl rfl (hv.get 16 rfl rfl (hd 16 (by decide)))).trans rfl) (ex_move rfl (hv.get 23 rfl rfl (hd 23 (by decide)))) ⟨hv.put mv_F_apart 24 rfl (Nat.le_of_ble_eq_true rfl) (Nat.le_of_ble_eq_true rfl) rfl, HO⟩
    · -- 25 move
      rintro L a wc ⟨hv, HO⟩ hL hc hd
      exact wpOp_val rfl ((wanted_at rfl rfl (hv.get 24 rfl rfl (hd 24 (by decide)))).trans rfl) (ex_move rfl ((hv.fixed 7 (by decide)).trans rfl)) ⟨hv.put mv_F_apart 25 rfl (Nat.le_of_ble_eq_true rfl) (Nat.le_of_ble_eq_true rfl) rfl, HO⟩
    · -- 26 move
      rintro L a wc ⟨hv, HO⟩ hL hc hd
      exact wpOp_val rfl ((wanted_at rfl rfl (hv.get 24 rfl rfl (hd 24 (by decide)))).trans rfl) (ex_move rfl ((hv.fixed 15 (by decide)).trans rfl)) ⟨hv.put mv_F_apart 26 rfl (Nat.le_of_ble_eq_true rfl) (Nat.le_of_ble_eq_true rfl) rfl, HO⟩
    · -- 27 nil
      rintro L a wc ⟨hv, HO⟩ hL hc hd
      exact wpOp_val rfl ((wanted_at rfl rfl (hv.get 24 rfl rfl (hd 24 (by decide)))).trans rfl) (ex_nil rfl (hv.get 25 rfl rfl (hd 25 (by decide)))) ⟨hv.put mv_F_apart 27 rfl (Nat.le_of_ble_eq_true rfl) (Nat.le_of_ble_eq_true rfl) rfl, HO⟩
    · -- 28 index
      rintro L a wc ⟨hv, HO⟩ hL hc hd
      have e1 : ¬ (12 : Int) ≤ (u : Int) := by omega
      exact wpOp_val rfl ((wanted_at rfl rfl (hv.get 24 rfl rfl (hd 24 (by decide)))).trans rfl) (ex_index rfl (hv.get 27 rfl rfl (hd 27 (by decide))) (hv.get 26 rfl rfl (hd 26 (by decide))) (by go_simp)) ⟨hv.put mv_F_apart 28 rfl (Nat.le_of_ble_eq_true rfl) (Nat.le_of_ble_eq_true rfl) rfl, HO⟩
    · -- 29 field
      rintro L a wc ⟨hv, HO⟩ hL hc hd
      exact wpOp_val rfl ((wanted_at rfl rfl (hv.get 24 rfl rfl (hd 24 (by decide)))).trans rfl) (ex_field rfl (hv.get 28 rfl rfl (hd 28 (by decide))) (by go_simp)) ⟨hv.put mv_F_apart 29 rfl (Nat.le_of_ble_eq_true rfl) (Nat.le_of_ble_eq_true rfl) rfl, HO⟩
    · -- 30 load
      rintro L a wc ⟨hv, HO⟩ hL hc hd
      have ku : wc.cell? ⟨g, s * 36 + u * 3, none⟩ = some (.int .i64 cu) := HO.out.cell hcu
      exact wpOp_val rfl ((wanted_at rfl rfl (hv.get 24 rfl rfl (hd 24 (by decide)))).trans rfl) (ex_load rfl (hv.get 29 rfl rfl (hd 29 (by decide))) (by go_simp)) ⟨hv.put mv_F_apart 30 rfl (Nat.le_of_ble_eq_true rfl) (Nat.le_of_ble_eq_true rfl) rfl, HO⟩
    · -- 31 move
      rintro L a wc ⟨hv, HO⟩ hL hc hd
      exact wpOp_val rfl ((wanted_at rfl rfl (hv.get 24 rfl rfl (hd 24 (by decide)))).trans rfl) (ex_move rfl ((hv.fixed 17 (by decide)).trans rfl)) ⟨hv.put mv_F_apart 31 rfl (Nat.le_of_ble_eq_true rfl) (Nat.le_of_ble_eq_true rfl) rfl, HO⟩
    · -- 32 bin
      rintro L a wc ⟨hv, HO⟩ hL hc hd
      have h : IntKind.i64.wrap (cu + p) = z := hz
      exact wpOp_val rfl ((wanted_at rfl rfl (hv.get 24 rfl rfl (hd 24 (by decide)))).trans rfl) (ex_bin rfl (hv.get 30 rfl rfl (hd 30 (by decide))) (hv.get 31 rfl rfl (hd 31 (by decide))) (by go_simp)) ⟨hv.put mv_F_apart 32 rfl (Nat.le_of_ble_eq_true rfl) (Nat.le_of_ble_eq_true rfl) rfl, HO⟩
    · -- 33 move
      rintro L a wc ⟨hv, HO⟩ hL hc hd
      exact wpOp_val rfl ((wanted_at rfl rfl (hv.get 24 rfl rfl (hd 24 (by decide)))).trans rfl) (ex_move rfl ((hv.fixed 7 (by decide)).trans rfl)) ⟨hv.put mv_F_apart 33 rfl (Nat.le_of_ble_eq_true rfl) (Nat.le_of_ble_eq_true rfl) rfl, HO⟩
    · -- 34 move
      rintro L a wc ⟨hv, HO⟩ hL hc hd
      exact wpOp_val rfl ((wanted_at rfl rfl (hv.get 24 rfl rfl (hd 24 (by decide)))).trans rfl) (ex_move rfl ((hv.fixed 16 (by decide)).trans rfl)) ⟨hv.put mv_F_apart 34 rfl (Nat.le_of_ble_eq_true rfl) (Nat.le_of_ble_eq_true rfl) rfl, HO⟩
    · -- 35 nil
      rintro L a wc ⟨hv, HO⟩ hL hc hd
      exact wpOp_val rfl ((wanted_at rfl rfl (hv.get 24 rfl rfl (hd 24 (by decide)))).trans rfl) (ex_nil rfl (hv.get 33 rfl rfl (hd 33 (by decide)))) ⟨hv.put mv_F_apart 35 rfl (Nat.le_of_ble_eq_true rfl) (Nat.le_of_ble_eq_true rfl) rfl, HO⟩
    · -- 36 index
      rintro L a wc ⟨hv, HO⟩ hL hc hd
      have e1 : ¬ (12 : Int) ≤ (v : Int) := by omega
      exact wpOp_val rfl ((wanted_at rfl rfl (hv.get 24 rfl rfl (hd 24 (by decide)))).trans rfl) (ex_index rfl (hv.get 35 rfl rfl (hd 35 (by decide))) (hv.get 34 rfl rfl (hd 34 (by decide))) (by go_simp)) ⟨hv.put mv_F_apart 36 rfl (Nat.le_of_ble_eq_true rfl) (Nat.le_of_ble_eq_true rfl) rfl, HO⟩
    · -- 37 field
      rintro L a wc ⟨hv, HO⟩ hL hc hd
      exact wpOp_val rfl ((wanted_at rfl rfl (hv.get 24 rfl rfl (hd 24 (by decide)))).trans rfl) (ex_field rfl (hv.get 36 rfl rfl (hd 36 (by decide))) (by go_simp)) ⟨hv.put mv_F_apart 37 rfl (Nat.le_of_ble_eq_true rfl) (Nat.le_of_ble_eq_true rfl) rfl, HO⟩
    · -- 38 load
      rintro L a wc ⟨hv, HO⟩ hL hc hd
      have kv : wc.cell? ⟨g, s * 36 + v * 3, none⟩ = some (.int .i64 cv) := HO.out.cell hcv
      exact wpOp_val rfl ((wanted_at rfl rfl (hv.get 24 rfl rfl (hd 24 (by decide)))).trans rfl) (ex_load rfl (hv.get 37 rfl rfl (hd 37 (by decide))) (by go_simp)) ⟨hv.put mv_F_apart 38 rfl (Nat.le_of_ble_eq_true rfl) (Nat.le_of_ble_eq_true rfl) rfl, HO⟩
    · -- 39 bin
      rintro L a wc ⟨hv, HO⟩ hL hc hd
      exact wpOp_val rfl ((wanted_at rfl rfl (hv.get 24 rfl rfl (hd 24 (by decide)))).trans rfl) (ex_bin rfl (hv.get 32 rfl rfl (hd 32 (by decide))) (hv.get 38 rfl rfl (hd 38 (by decide))) (by go_simp)) ⟨hv.put mv_F_apart 39 rfl (Nat.le_of_ble_eq_true rfl) (Nat.le_of_ble_eq_true rfl) rfl, HO⟩
    · -- 40 pick
      rintro L a wc ⟨hv, HO⟩ hL hc hd
      exact wpOp_val rfl ((wanted_at rfl rfl (hv.get 16 rfl rfl (hd 16 (by decide)))).trans rfl) (ex_pick rfl (hv.get 24 rfl rfl (hd 24 (by decide))) ((if_neg (by simp)).trans (hv.get 39 rfl rfl (hd 39 (by decide))))) ⟨hv.put mv_F_apart 40 rfl (Nat.le_of_ble_eq_true rfl) (Nat.le_of_ble_eq_true rfl) rfl, HO⟩
    · -- 41 pick
      rintro L a wc ⟨hv, HO⟩ hL hc hd
      exact wpOp_val rfl rfl (ex_pick rfl (hv.get 16 rfl rfl (hd 16 (by decide))) ((if_pos rfl).trans (hv.get 40 rfl rfl (hd 40 (by decide))))) ⟨hv.put mv_F_apart 41 rfl (Nat.le_of_ble_eq_true rfl) (Nat.le_of_ble_eq_true rfl) rfl, HO⟩
  · rintro L a wc ⟨hv, HO⟩ hall
    show K a wc
    have ha := act_lit a
    rw [hv.size, hv.defers] at ha
    have hl : ∀ f : Nat → Value, ((List.range (⟨#[c0, c1, c2, c3, c4, c5, c6, .pointer (some ⟨g, s * 36, none⟩), c8, c9, c10, c11, c12, c13, c14, .int .i64 (u : Nat), .int .i64 (v : Nat), .int .i64 p, c18, c19, c20, c21, c22, c23, c24, c25, c26, c27, c28, c29, c30, c31, c32, c33, c34, c35, c36, c37, c38, c39, c40, c41, c42, c43, c44, c45, c46, c47, c48, c49, c50, c51, c52, c53, c54, c55, c56, c57, c58, c59, c60, c61, c62, c63, c64, c65, c66, c67, c68, c69, c70, c71, c72, c73, c74, c75, c76, c77, c78, c79, c80, c81, c82, c83, c84, c85, c86, c87, c88, c89, c90, c91, c92, c93, c94, c95, c96, c97, c98, c99, c100, c101, c102, c103, c104, c105, c106, c107, c108, c109, c110, c111, c112, c113, c114, c115, c116, c117, c118, c119, c120, c121, c122, c123, c124, c125, c126, c127, c128, c129, c130, c131, c132, c133, c134, c135, c136, c137, c138, c139, c140, c141, c142, c143, c144, c145, c146, c147, c148, c149, c150, c151, c152, c153, c154, c155, c156, c157, c158, c159, c160, c161, c162, c163, c164, c165, c166, c167, c168, c169, c170, c171, c172, c173, c174, c175, c176, c177, c178, c179, c180, c181, c182, c183, c184, c185, c186, c187, c188, c189, c190, c191, c192, c193, c194, c195, c196, c197, c198, c199, c200, c201, c202, c203, c204, c205, c206, c207, c208, c209], df⟩ : Act).tmps.size).map f).toArray = #[f 0, f 1, f 2, f 3, f 4, f 5, f 6, f 7, f 8, f 9, f 10, f 11, f 12, f 13, f 14, f 15, f 16, f 17, f 18, f 19, f 20, f 21, f 22, f 23, f 24, f 25, f 26, f 27, f 28, f 29, f 30, f 31, f 32, f 33, f 34, f 35, f 36, f 37, f 38, f 39, f 40, f 41, f 42, f 43, f 44, f 45, f 46, f 47, f 48, f 49, f 50, f 51, f 52, f 53, f 54, f 55, f 56, f 57, f 58, f 59, f 60, f 61, f 62, f 63, f 64, f 65, f 66, f 67, f 68, f 69, f 70, f 71, f 72, f 73, f 74, f 75, f 76, f 77, f 78, f 79, f 80, f 81, f 82, f 83, f 84, f 85, f 86, f 87, f 88, f 89, f 90, f 91, f 92, f 93, f 94, f 95, f 96, f 97, f 98, f 99, f 100, f 101, f 102, f 103, f 104, f 105, f 106, f 107, f 108, f 109, f 110, f 111, f 112, f 113, f 114, f 115, f 116, f 117, f 118, f 119, f 120, f 121, f 122, f 123, f 124, f 125, f 126, f 127, f 128, f 129, f 130, f 131, f 132, f 133, f 134, f 135, f 136, f 137, f 138, f 139, f 140, f 141, f 142, f 143, f 144, f 145, f 146, f 147, f 148, f 149, f 150, f 151, f 152, f 153, f 154, f 155, f 156, f 157, f 158, f 159, f 160, f 161, f 162, f 163, f 164, f 165, f 166, f 167, f 168, f 169, f 170, f 171, f 172, f 173, f 174, f 175, f 176, f 177, f 178, f 179, f 180, f 181, f 182, f 183, f 184, f 185, f 186, f 187, f 188, f 189, f 190, f 191, f 192, f 193, f 194, f 195, f 196, f 197, f 198, f 199, f 200, f 201, f 202, f 203, f 204, f 205, f 206, f 207, f 208, f 209] := fun _ => rfl
    rw [hl] at ha
    simp only [hv.fixed 0 (by decide), hv.fixed 1 (by decide), hv.fixed 2 (by decide), hv.fixed 3 (by decide), hv.fixed 4 (by decide), hv.fixed 5 (by decide), hv.fixed 6 (by decide), hv.fixed 7 (by decide), hv.fixed 8 (by decide), hv.fixed 9 (by decide), hv.fixed 10 (by decide), hv.fixed 11 (by decide), hv.fixed 12 (by decide), hv.fixed 13 (by decide), hv.fixed 14 (by decide), hv.fixed 15 (by decide), hv.fixed 16 (by decide), hv.fixed 17 (by decide), hv.fixed 18 (by decide), hv.fixed 19 (by decide), hv.fixed 20 (by decide), hv.fixed 21 (by decide), hv.fixed 22 (by decide), hv.fixed 23 (by decide), hv.fixed 24 (by decide), hv.fixed 25 (by decide), hv.fixed 26 (by decide), hv.fixed 27 (by decide), hv.fixed 28 (by decide), hv.fixed 29 (by decide), hv.fixed 30 (by decide), hv.fixed 31 (by decide), hv.fixed 32 (by decide), hv.fixed 33 (by decide), hv.fixed 34 (by decide), hv.fixed 35 (by decide), hv.fixed 36 (by decide), hv.fixed 37 (by decide), hv.fixed 38 (by decide), hv.fixed 39 (by decide), hv.fixed 40 (by decide), hv.fixed 41 (by decide), hv.fixed 42 (by decide), hv.fixed 43 (by decide), hv.fixed 44 (by decide), hv.fixed 45 (by decide), hv.fixed 46 (by decide), hv.fixed 47 (by decide), hv.fixed 48 (by decide), hv.fixed 49 (by decide), hv.fixed 50 (by decide), hv.fixed 51 (by decide), hv.fixed 52 (by decide), hv.fixed 53 (by decide), hv.fixed 54 (by decide), hv.fixed 55 (by decide), hv.fixed 56 (by decide), hv.fixed 57 (by decide), hv.fixed 58 (by decide), hv.fixed 59 (by decide), hv.fixed 60 (by decide), hv.fixed 61 (by decide), hv.fixed 62 (by decide), hv.fixed 63 (by decide), hv.fixed 64 (by decide), hv.fixed 65 (by decide), hv.fixed 66 (by decide), hv.fixed 67 (by decide), hv.fixed 68 (by decide), hv.fixed 69 (by decide), hv.fixed 70 (by decide), hv.fixed 71 (by decide), hv.fixed 72 (by decide), hv.fixed 73 (by decide), hv.fixed 74 (by decide), hv.fixed 75 (by decide), hv.fixed 76 (by decide), hv.fixed 77 (by decide), hv.fixed 78 (by decide), hv.fixed 79 (by decide), hv.fixed 80 (by decide), hv.fixed 81 (by decide), hv.fixed 82 (by decide), hv.fixed 83 (by decide), hv.fixed 84 (by decide), hv.fixed 85 (by decide), hv.fixed 86 (by decide), hv.fixed 87 (by decide), hv.fixed 88 (by decide), hv.fixed 89 (by decide), hv.fixed 90 (by decide), hv.fixed 91 (by decide), hv.fixed 92 (by decide), hv.fixed 93 (by decide), hv.fixed 94 (by decide), hv.fixed 95 (by decide), hv.fixed 96 (by decide), hv.fixed 97 (by decide), hv.fixed 98 (by decide), hv.fixed 99 (by decide), hv.fixed 100 (by decide), hv.fixed 101 (by decide), hv.fixed 102 (by decide), hv.fixed 103 (by decide), hv.fixed 104 (by decide), hv.fixed 105 (by decide), hv.fixed 106 (by decide), hv.fixed 107 (by decide), hv.fixed 108 (by decide), hv.fixed 109 (by decide), hv.fixed 110 (by decide), hv.fixed 111 (by decide), hv.fixed 112 (by decide), hv.fixed 113 (by decide), hv.fixed 114 (by decide), hv.fixed 115 (by decide), hv.fixed 116 (by decide), hv.fixed 117 (by decide), hv.fixed 118 (by decide), hv.fixed 119 (by decide), hv.fixed 120 (by decide), hv.fixed 121 (by decide), hv.fixed 122 (by decide), hv.fixed 123 (by decide), hv.fixed 124 (by decide), hv.fixed 125 (by decide), hv.fixed 126 (by decide), hv.fixed 127 (by decide), hv.fixed 128 (by decide), hv.fixed 129 (by decide), hv.fixed 130 (by decide), hv.fixed 131 (by decide), hv.fixed 132 (by decide), hv.fixed 133 (by decide), hv.fixed 134 (by decide), hv.fixed 135 (by decide), hv.fixed 136 (by decide), hv.fixed 137 (by decide), hv.fixed 138 (by decide), hv.fixed 139 (by decide), hv.fixed 140 (by decide), hv.fixed 141 (by decide), hv.fixed 142 (by decide), hv.fixed 143 (by decide), hv.fixed 144 (by decide), hv.fixed 145 (by decide), hv.fixed 146 (by decide), hv.fixed 147 (by decide), hv.fixed 148 (by decide), hv.fixed 191 (by decide), hv.fixed 192 (by decide), hv.fixed 193 (by decide), hv.fixed 194 (by decide), hv.fixed 195 (by decide), hv.fixed 196 (by decide), hv.fixed 197 (by decide), hv.fixed 198 (by decide), hv.fixed 199 (by decide), hv.fixed 200 (by decide), hv.fixed 201 (by decide), hv.fixed 202 (by decide), hv.fixed 203 (by decide), hv.fixed 204 (by decide), hv.fixed 205 (by decide), hv.fixed 206 (by decide), hv.fixed 207 (by decide), hv.fixed 208 (by decide), hv.fixed 209 (by decide), hv.get 41 (d := 190) rfl rfl (hall 41 (by decide))] at ha
    rw [ha]
    exact hK _ _ _ _ _ _ _ _ _ _ _ _ _ _ _ _ _ _ _ _ _ _ _ _ _ _ _ _ _ _ _ _ _ _ _ _ _ _ _ _ _ wc HO.out
noncomputable def mv_store_code : Code := ((Tryd.f34.body.bind (regionOf 40)).getD .skip)
def mv_store_dsts : List (Option Nat) := [some 191, some 192, some 193, some 194, some 195, some 196, some 197, some 198, some 199, some 200, some 201, some 202, some 203, some 204, none]
theorem mv_store_apart : apartD mv_store_dsts = true := by decide +kernel
set_option maxRecDepth 1000000 in
set_option maxHeartbeats 16000000 in
theorem mv_store (W0 wr : World) (u v g s N : Nat) (hs : s < N) (hu : u < 12) (hv12 : v < 12) (X : List Su.Way) (hl : X.length = N * 12) (cu p z : Int) (hcu : (Su.get X (s * 12 + u)).cost = cu) (hz : IntKind.i64.wrap (cu + p) = z) (HX : Hid (Owns W0 wr [wrow g N X])) (c0 c1 c2 c3 c4 c5 c6 c8 c9 c10 c11 c12 c13 c14 c18 c19 c20 c21 c22 c23 c24 c25 c26 c27 c28 c29 c30 c31 c32 c33 c34 c35 c36 c37 c38 c39 c40 c41 c42 c43 c44 c45 c46 c47 c48 c49 c50 c51 c52 c53 c54 c55 c56 c57 c58 c59 c60 c61 c62 c63 c64 c65 c66 c67 c68 c69 c70 c71 c72 c73 c74 c75 c76 c77 c78 c79 c80 c81 c82 c83 c84 c85 c86 c87 c88 c89 c90 c91 c92 c93 c94 c95 c96 c97 c98 c99 c100 c101 c102 c103 c104 c105 c106 c107 c108 c109 c110 c111 c112 c113 c114 c115 c116 c117 c118 c119 c120 c121 c122 c123 c124 c125 c126 c127 c128 c129 c130 c131 c132 c133 c134 c135 c136 c137 c138 c139 c140 c141 c142 c143 c144 c145 c146 c147 c148 c149 c150 c151 c152 c153 c154 c155 c156 c157 c158 c159 c160 c161 c162 c163 c164 c165 c166 c167 c168 c169 c170 c171 c172 c173 c174 c175 c176 c177 c178 c179 c180 c181 c182 c183 c184 c185 c186 c187 c188 c189 c190 c191 c192 c193 c194 c195 c196 c197 c198 c199 c200 c201 c202 c203 c204 c205 c206 c207 c208 c209 : Value) (df : List Deferred) (K : Act → World → Prop)
    (hK : ∀  (u191 u192 u193 u194 u195 u196 u197 u198 u199 u200 u201 u202 u203 u204 : Value) (wx : World), Owns W0 wx [wrow g N (X.set (s * 12 + v) ⟨z, 0, u⟩)] → K ⟨#[c0, c1, c2, c3, c4, c5, c6, .pointer (some ⟨g, s * 36, none⟩), c8, c9, c10, c11, c12, c13, c14, .int .i64 (u : Nat), .int .i64 (v : Nat), .int .i64 p, c18, c19, c20, c21, c22, c23, c24, c25, c26, c27, c28, c29, c30, c31, c32, c33, c34, c35, c36, c37, c38, c39, c40, c41, c42, c43, c44, c45, c46, c47, c48, c49, c50, c51, c52, c53, c54, c55, c56, c57, c58, c59, c60, c61, c62, c63, c64, c65, c66, c67, c68, c69, c70, c71, c72, c73, c74, c75, c76, c77, c78, c79, c80, c81, c82, c83, c84, c85, c86, c87, c88, c89, c90, c91, c92, c93, c94, c95, c96, c97, c98, c99, c100, c101, c102, c103, c104, c105, c106, c107, c108, c109, c110, c111, c112, c113, c114, c115, c116, c117, c118, c119, c120, c121, c122, c123, c124, c125, c126, c127, c128, c129, c130, c131, c132, c133, c134, c135, c136, c137, c138, c139, c140, c141, c142, c143, c144, c145, c146, c147, c148, c149, c150, c151, c152, c153, c154, c155, c156, c157, c158, c159, c160, c161, c162, c163, c164, c165, c166, c167, c168, c169, c170, c171, c172, c173, c174, c175, c176, c177, c178, c179, c180, c181, c182, c183, c184, c185, c186, c187, c188, c189, c190, u191, u192, u193, u194, u195, u196, u197, u198, u199, u200, u201, u202, u203, u204, c205, c206, c207, c208, c209], df⟩ wx) :
    Code.wp Tryd.prog mv_store_code (AtEnd K) ⟨#[c0, c1, c2, c3, c4, c5, c6, .pointer (some ⟨g, s * 36, none⟩), c8, c9, c10, c11, c12, c13, c14, .int .i64 (u : Nat), .int .i64 (v : Nat), .int .i64 p, c18, c19, c20, c21, c22, c23, c24, c25, c26, c27, c28, c29, c30, c31, c32, c33, c34, c35, c36, c37, c38, c39, c40, c41, c42, c43, c44, c45, c46, c47, c48, c49, c50, c51, c52, c53, c54, c55, c56, c57, c58, c59, c60, c61, c62, c63, c64, c65, c66, c67, c68, c69, c70, c71, c72, c73, c74, c75, c76, c77, c78, c79, c80, c81, c82, c83, c84, c85, c86, c87, c88, c89, c90, c91, c92, c93, c94, c95, c96, c97, c98, c99, c100, c101, c102, c103, c104, c105, c106, c107, c108, c109, c110, c111, c112, c113, c114, c115, c116, c117, c118, c119, c120, c121, c122, c123, c124, c125, c126, c127, c128, c129, c130, c131, c132, c133, c134, c135, c136, c137, c138, c139, c140, c141, c142, c143, c144, c145, c146, c147, c148, c149, c150, c151, c152, c153, c154, c155, c156, c157, c158, c159, c160, c161, c162, c163, c164, c165, c166, c167, c168, c169, c170, c171, c172, c173, c174, c175, c176, c177, c178, c179, c180, c181, c182, c183, c184, c185, c186, c187, c188, c189, c190, c191, c192, c193, c194, c195, c196, c197, c198, c199, c200, c201, c202, c203, c204, c205, c206, c207, c208, c209], df⟩ wr := by
  conv => arg 2; whnf
  refine region_inv (by kernel_rfl) [[], [], [], [], [2], [4, 3], [5], [6], [], [7, 8], [], [9, 10], [0], [12, 1, 0, 1, 2, 3, 4, 5, 6, 7, 8, 9, 10, 11], [13, 11, 0, 1, 2, 3, 4, 5, 6, 7, 8, 9, 10, 11]] (by kernel_rfl) [0, 1, 2, 3, 4, 5, 6, 7, 8, 9, 10, 11, 12, 13, 14] (by decide +kernel) (by decide +kernel) (by decide +kernel) (fun L a wc => Inv mv_store_dsts [.pointer (some ⟨g, s * 36, none⟩), .int .i64 (v : Nat), .pointer (some ⟨g, s * 36, none⟩), .int .i64 (u : Nat), .pointer (some ⟨g, s * 36, none⟩), .pointer (some ⟨g, s * 36 + u * 3, none⟩), .pointer (some ⟨g, s * 36 + u * 3, none⟩), .int .i64 cu, .int .i64 p, .int .i64 z, .int .i64 (u : Nat), .agg #[.int .i64 z, .int .i64 0, .int .i64 (u : Nat)], .pointer (some ⟨g, s * 36, none⟩), .pointer (some ⟨g, s * 36 + v * 3, none⟩), undef] ⟨#[c0, c1, c2, c3, c4, c5, c6, .pointer (some ⟨g, s * 36, none⟩), c8, c9, c10, c11, c12, c13, c14, .int .i64 (u : Nat), .int .i64 (v : Nat), .int .i64 p, c18, c19, c20, c21, c22, c23, c24, c25, c26, c27, c28, c29, c30, c31, c32, c33, c34, c35, c36, c37, c38, c39, c40, c41, c42, c43, c44, c45, c46, c47, c48, c49, c50, c51, c52, c53, c54, c55, c56, c57, c58, c59, c60, c61, c62, c63, c64, c65, c66, c67, c68, c69, c70, c71, c72, c73, c74, c75, c76, c77, c78, c79, c80, c81, c82, c83, c84, c85, c86, c87, c88, c89, c90, c91, c92, c93, c94, c95, c96, c97, c98, c99, c100, c101, c102, c103, c104, c105, c106, c107, c108, c109, c110, c111, c112, c113, c114, c115, c116, c117, c118, c119, c120, c121, c122, c123, c124, c125, c126, c127, c128, c129, c130, c131, c132, c133, c134, c135, c136, c137, c138, c139, c140, c141, c142, c143, c144, c145, c146, c147, c148, c149, c150, c151, c152, c153, c154, c155, c156, c157, c158, c159, c160, c161, c162, c163, c164, c165, c166, c167, c168, c169, c170, c171, c172, c173, c174, c175, c176, c177, c178, c179, c180, c181, c182, c183, c184, c185, c186, c187, c188, c189, c190, c191, c192, c193, c194, c195, c196, c197, c198, c199, c200, c201, c202, c203, c204, c205, c206, c207, c208, c209], df⟩ L a ∧ Hid ((L 14 = false → Owns W0 wc [wrow g N X]) ∧ (L 14 = true → Owns W0 wc [wrow g N (X.set (s * 12 + v) ⟨z, 0, u⟩)]))) ⟨Inv.start, Lib.hid ⟨fun _ => HX.out.drew, fun e => by cases e⟩⟩ ?_ ?_
  · refine ⟨?_, ?_, ?_, ?_, ?_, ?_, ?_, ?_, ?_, ?_, ?_, ?_, ?_, ?_, ?_, trivial⟩
    · -- 0 move
      rintro L a wc ⟨hv, HO⟩ hL hc hd
      exact wpOp_val rfl rfl (ex_move rfl ((hv.fixed 7 (by decide)).trans rfl)) ⟨hv.put mv_store_apart 0 rfl (Nat.le_of_ble_eq_true rfl) (Nat.le_of_ble_eq_true rfl) rfl, HO⟩
    · -- 1 move
      rintro L a wc ⟨hv, HO⟩ hL hc hd
      exact wpOp_val rfl rfl (ex_move rfl ((hv.fixed 16 (by decide)).trans rfl)) ⟨hv.put mv_store_apart 1 rfl (Nat.le_of_ble_eq_true rfl) (Nat.le_of_ble_eq_true rfl) rfl, HO⟩
    · -- 2 move
      rintro L a wc ⟨hv, HO⟩ hL hc hd
      exact wpOp_val rfl rfl (ex_move rfl ((hv.fixed 7 (by decide)).trans rfl)) ⟨hv.put mv_store_apart 2 rfl (Nat.le_of_ble_eq_true rfl) (Nat.le_of_ble_eq_true rfl) rfl, HO⟩
    · -- 3 move
      rintro L a wc ⟨hv, HO⟩ hL hc hd
      exact wpOp_val rfl rfl (ex_move rfl ((hv.fixed 15 (by decide)).trans rfl)) ⟨hv.put mv_store_apart 3 rfl (Nat.le_of_ble_eq_true rfl) (Nat.le_of_ble_eq_true rfl) rfl, HO⟩
    · -- 4 nil
      rintro L a wc ⟨hv, HO⟩ hL hc hd
      exact wpOp_val rfl rfl (ex_nil rfl (hv.get 2 rfl rfl (hd 2 (by decide)))) ⟨hv.put mv_store_apart 4 rfl (Nat.le_of_ble_eq_true rfl) (Nat.le_of_ble_eq_true rfl) rfl, HO⟩
    · -- 5 index
      rintro L a wc ⟨hv, HO⟩ hL hc hd
      have e1 : ¬ (12 : Int) ≤ (u : Int) := by omega
      exact wpOp_val rfl rfl (ex_index rfl (hv.get 4 rfl rfl (hd 4 (by decide))) (hv.get 3 rfl rfl (hd 3 (by decide))) (by go_simp)) ⟨hv.put mv_store_apart 5 rfl (Nat.le_of_ble_eq_true rfl) (Nat.le_of_ble_eq_true rfl) rfl, HO⟩
    · -- 6 field
      rintro L a wc ⟨hv, HO⟩ hL hc hd
      exact wpOp_val rfl rfl (ex_field rfl (hv.get 5 rfl rfl (hd 5 (by decide))) (by go_simp)) ⟨hv.put mv_store_apart 6 rfl (Nat.le_of_ble_eq_true rfl) (Nat.le_of_ble_eq_true rfl) rfl, HO⟩
    · -- 7 load
      rintro L a wc ⟨hv, HO⟩ hL hc hd
      have h14 : L 14 = false := by
        cases e : L 14 with
        | false => rfl
        | true => have := hc 14 e 7 (by decide); rw [hL] at this; cases this
      have ku := ((ways_at (HO.out.1 h14) hl hs hu).c0)
      rw [hcu] at ku
      exact wpOp_val rfl rfl (ex_load rfl (hv.get 6 rfl rfl (hd 6 (by decide))) (by go_simp)) ⟨hv.put mv_store_apart 7 rfl (Nat.le_of_ble_eq_true rfl) (Nat.le_of_ble_eq_true rfl) rfl, HO⟩
    · -- 8 move
      rintro L a wc ⟨hv, HO⟩ hL hc hd
      exact wpOp_val rfl rfl (ex_move rfl ((hv.fixed 17 (by decide)).trans rfl)) ⟨hv.put mv_store_apart 8 rfl (Nat.le_of_ble_eq_true rfl) (Nat.le_of_ble_eq_true rfl) rfl, HO⟩
    · -- 9 bin
      rintro L a wc ⟨hv, HO⟩ hL hc hd
      have h : IntKind.i64.wrap (cu + p) = z := hz
      exact wpOp_val rfl rfl (ex_bin rfl (hv.get 7 rfl rfl (hd 7 (by decide))) (hv.get 8 rfl rfl (hd 8 (by decide))) (by go_simp)) ⟨hv.put mv_store_apart 9 rfl (Nat.le_of_ble_eq_true rfl) (Nat.le_of_ble_eq_true rfl) rfl, HO⟩
    · -- 10 move
      rintro L a wc ⟨hv, HO⟩ hL hc hd
      exact wpOp_val rfl rfl (ex_move rfl ((hv.fixed 15 (by decide)).trans rfl)) ⟨hv.put mv_store_apart 10 rfl (Nat.le_of_ble_eq_true rfl) (Nat.le_of_ble_eq_true rfl) rfl, HO⟩
    · -- 11 raw
      rintro L a wc ⟨hv, HO⟩ hL hc hd
      exact wpOp_val rfl rfl (ex_way rfl (hv.get 9 rfl rfl (hd 9 (by decide))) (hv.get 10 rfl rfl (hd 10 (by decide)))) ⟨hv.put mv_store_apart 11 rfl (Nat.le_of_ble_eq_true rfl) (Nat.le_of_ble_eq_true rfl) rfl, HO⟩
    · -- 12 nil
      rintro L a wc ⟨hv, HO⟩ hL hc hd
      exact wpOp_val rfl rfl (ex_nil rfl (hv.get 0 rfl rfl (hd 0 (by decide)))) ⟨hv.put mv_store_apart 12 rfl (Nat.le_of_ble_eq_true rfl) (Nat.le_of_ble_eq_true rfl) rfl, HO⟩
    · -- 13 index
      rintro L a wc ⟨hv, HO⟩ hL hc hd
      have e1 : ¬ (12 : Int) ≤ (v : Int) := by omega
      exact wpOp_val rfl rfl (ex_index rfl (hv.get 12 rfl rfl (hd 12 (by decide))) (hv.get 1 rfl rfl (hd 1 (by decide))) (by go_simp)) ⟨hv.put mv_store_apart 13 rfl (Nat.le_of_ble_eq_true rfl) (Nat.le_of_ble_eq_true rfl) rfl, HO⟩
    · -- 14 store
      rintro L a wc ⟨hv, HO⟩ hL hc hd
      have kk := ways_at (HO.out.1 hL) hl hs hv12
      obtain ⟨k0, k1, k2, j0, j1, j2⟩ := kk
      exact wpOp_skip rfl rfl rfl (ex_store rfl (hv.get 13 rfl rfl (hd 13 (by decide))) (hv.get 11 rfl rfl (hd 11 (by decide))) (by go_simp)) ⟨hv.skip 14 rfl, (Lib.hid ⟨fun e => absurd e (by simp [upd]), fun _ => ways_put (HO.out.1 hL) s v z 0 u⟩)⟩
  · rintro L a wc ⟨hv, HO⟩ hall
    show K a wc
    have ha := act_lit a
    rw [hv.size, hv.defers] at ha
    have hl : ∀ f : Nat → Value, ((List.range (⟨#[c0, c1, c2, c3, c4, c5, c6, .pointer (some ⟨g, s * 36, none⟩), c8, c9, c10, c11, c12, c13, c14, .int .i64 (u : Nat), .int .i64 (v : Nat), .int .i64 p, c18, c19, c20, c21, c22, c23, c24, c25, c26, c27, c28, c29, c30, c31, c32, c33, c34, c35, c36, c37, c38, c39, c40, c41, c42, c43, c44, c45, c46, c47, c48, c49, c50, c51, c52, c53, c54, c55, c56, c57, c58, c59, c60, c61, c62, c63, c64, c65, c66, c67, c68, c69, c70, c71, c72, c73, c74, c75, c76, c77, c78, c79, c80, c81, c82, c83, c84, c85, c86, c87, c88, c89, c90, c91, c92, c93, c94, c95, c96, c97, c98, c99, c100, c101, c102, c103, c104, c105, c106, c107, c108, c109, c110, c111, c112, c113, c114, c115, c116, c117, c118, c119, c120, c121, c122, c123, c124, c125, c126, c127, c128, c129, c130, c131, c132, c133, c134, c135, c136, c137, c138, c139, c140, c141, c142, c143, c144, c145, c146, c147, c148, c149, c150, c151, c152, c153, c154, c155, c156, c157, c158, c159, c160, c161, c162, c163, c164, c165, c166, c167, c168, c169, c170, c171, c172, c173, c174, c175, c176, c177, c178, c179, c180, c181, c182, c183, c184, c185, c186, c187, c188, c189, c190, c191, c192, c193, c194, c195, c196, c197, c198, c199, c200, c201, c202, c203, c204, c205, c206, c207, c208, c209], df⟩ : Act).tmps.size).map f).toArray = #[f 0, f 1, f 2, f 3, f 4, f 5, f 6, f 7, f 8, f 9, f 10, f 11, f 12, f 13, f 14, f 15, f 16, f 17, f 18, f 19, f 20, f 21, f 22, f 23, f 24, f 25, f 26, f 27, f 28, f 29, f 30, f 31, f 32, f 33, f 34, f 35, f 36, f 37, f 38, f 39, f 40, f 41, f 42, f 43, f 44, f 45, f 46, f 47, f 48, f 49, f 50, f 51, f 52, f 53, f 54, f 55, f 56, f 57, f 58, f 59, f 60, f 61, f 62, f 63, f 64, f 65, f 66, f 67, f 68, f 69, f 70, f 71, f 72, f 73, f 74, f 75, f 76, f 77, f 78, f 79, f 80, f 81, f 82, f 83, f 84, f 85, f 86, f 87, f 88, f 89, f 90, f 91, f 92, f 93, f 94, f 95, f 96, f 97, f 98, f 99, f 100, f 101, f 102, f 103, f 104, f 105, f 106, f 107, f 108, f 109, f 110, f 111, f 112, f 113, f 114, f 115, f 116, f 117, f 118, f 119, f 120, f 121, f 122, f 123, f 124, f 125, f 126, f 127, f 128, f 129, f 130, f 131, f 132, f 133, f 134, f 135, f 136, f 137, f 138, f 139, f 140, f 141, f 142, f 143, f 144, f 145, f 146, f 147, f 148, f 149, f 150, f 151, f 152, f 153, f 154, f 155, f 156, f 157, f 158, f 159, f 160, f 161, f 162, f 163, f 164, f 165, f 166, f 167, f 168, f 169, f 170, f 171, f 172, f 173, f 174, f 175, f 176, f 177, f 178, f 179, f 180, f 181, f 182, f 183, f 184, f 185, f 186, f 187, f 188, f 189, f 190, f 191, f 192, f 193, f 194, f 195, f 196, f 197, f 198, f 199, f 200, f 201, f 202, f 203, f 204, f 205, f 206, f 207, f 208, f 209] := fun _ => rfl
    rw [hl] at ha
    simp only [hv.fixed 0 (by decide), hv.fixed 1 (by decide), hv.fixed 2 (by decide), hv.fixed 3 (by decide), hv.fixed 4 (by decide), hv.fixed 5 (by decide), hv.fixed 6 (by decide), hv.fixed 7 (by decide), hv.fixed 8 (by decide), hv.fixed 9 (by decide), hv.fixed 10 (by decide), hv.fixed 11 (by decide), hv.fixed 12 (by decide), hv.fixed 13 (by decide), hv.fixed 14 (by decide), hv.fixed 15 (by decide), hv.fixed 16 (by decide), hv.fixed 17 (by decide), hv.fixed 18 (by decide), hv.fixed 19 (by decide), hv.fixed 20 (by decide), hv.fixed 21 (by decide), hv.fixed 22 (by decide), hv.fixed 23 (by decide), hv.fixed 24 (by decide), hv.fixed 25 (by decide), hv.fixed 26 (by decide), hv.fixed 27 (by decide), hv.fixed 28 (by decide), hv.fixed 29 (by decide), hv.fixed 30 (by decide), hv.fixed 31 (by decide), hv.fixed 32 (by decide), hv.fixed 33 (by decide), hv.fixed 34 (by decide), hv.fixed 35 (by decide), hv.fixed 36 (by decide), hv.fixed 37 (by decide), hv.fixed 38 (by decide), hv.fixed 39 (by decide), hv.fixed 40 (by decide), hv.fixed 41 (by decide), hv.fixed 42 (by decide), hv.fixed 43 (by decide), hv.fixed 44 (by decide), hv.fixed 45 (by decide), hv.fixed 46 (by decide), hv.fixed 47 (by decide), hv.fixed 48 (by decide), hv.fixed 49 (by decide), hv.fixed 50 (by decide), hv.fixed 51 (by decide), hv.fixed 52 (by decide), hv.fixed 53 (by decide), hv.fixed 54 (by decide), hv.fixed 55 (by decide), hv.fixed 56 (by decide), hv.fixed 57 (by decide), hv.fixed 58 (by decide), hv.fixed 59 (by decide), hv.fixed 60 (by decide), hv.fixed 61 (by decide), hv.fixed 62 (by decide), hv.fixed 63 (by decide), hv.fixed 64 (by decide), hv.fixed 65 (by decide), hv.fixed 66 (by decide), hv.fixed 67 (by decide), hv.fixed 68 (by decide), hv.fixed 69 (by decide), hv.fixed 70 (by decide), hv.fixed 71 (by decide), hv.fixed 72 (by decide), hv.fixed 73 (by decide), hv.fixed 74 (by decide), hv.fixed 75 (by decide), hv.fixed 76 (by decide), hv.fixed 77 (by decide), hv.fixed 78 (by decide), hv.fixed 79 (by decide), hv.fixed 80 (by decide), hv.fixed 81 (by decide), hv.fixed 82 (by decide), hv.fixed 83 (by decide), hv.fixed 84 (by decide), hv.fixed 85 (by decide), hv.fixed 86 (by decide), hv.fixed 87 (by decide), hv.fixed 88 (by decide), hv.fixed 89 (by decide), hv.fixed 90 (by decide), hv.fixed 91 (by decide), hv.fixed 92 (by decide), hv.fixed 93 (by decide), hv.fixed 94 (by decide), hv.fixed 95 (by decide), hv.fixed 96 (by decide), hv.fixed 97 (by decide), hv.fixed 98 (by decide), hv.fixed 99 (by decide), hv.fixed 100 (by decide), hv.fixed 101 (by decide), hv.fixed 102 (by decide), hv.fixed 103 (by decide), hv.fixed 104 (by decide), hv.fixed 105 (by decide), hv.fixed 106 (by decide), hv.fixed 107 (by decide), hv.fixed 108 (by decide), hv.fixed 109 (by decide), hv.fixed 110 (by decide), hv.fixed 111 (by decide), hv.fixed 112 (by decide), hv.fixed 113 (by decide), hv.fixed 114 (by decide), hv.fixed 115 (by decide), hv.fixed 116 (by decide), hv.fixed 117 (by decide), hv.fixed 118 (by decide), hv.fixed 119 (by decide), hv.fixed 120 (by decide), hv.fixed 121 (by decide), hv.fixed 122 (by decide), hv.fixed 123 (by decide), hv.fixed 124 (by decide), hv.fixed 125 (by decide), hv.fixed 126 (by decide), hv.fixed 127 (by decide), hv.fixed 128 (by decide), hv.fixed 129 (by decide), hv.fixed 130 (by decide), hv.fixed 131 (by decide), hv.fixed 132 (by decide), hv.fixed 133 (by decide), hv.fixed 134 (by decide), hv.fixed 135 (by decide), hv.fixed 136 (by decide), hv.fixed 137 (by decide), hv.fixed 138 (by decide), hv.fixed 139 (by decide), hv.fixed 140 (by decide), hv.fixed 141 (by decide), hv.fixed 142 (by decide), hv.fixed 143 (by decide), hv.fixed 144 (by decide), hv.fixed 145 (by decide), hv.fixed 146 (by decide), hv.fixed 147 (by decide), hv.fixed 148 (by decide), hv.fixed 149 (by decide), hv.fixed 150 (by decide), hv.fixed 151 (by decide), hv.fixed 152 (by decide), hv.fixed 153 (by decide), hv.fixed 154 (by decide), hv.fixed 155 (by decide), hv.fixed 156 (by decide), hv.fixed 157 (by decide), hv.fixed 158 (by decide), hv.fixed 159 (by decide), hv.fixed 160 (by decide), hv.fixed 161 (by decide), hv.fixed 162 (by decide), hv.fixed 163 (by decide), hv.fixed 164 (by decide), hv.fixed 165 (by decide), hv.fixed 166 (by decide), hv.fixed 167 (by decide), hv.fixed 168 (by decide), hv.fixed 169 (by decide), hv.fixed 170 (by decide), hv.fixed 171 (by decide), hv.fixed 172 (by decide), hv.fixed 173 (by decide), hv.fixed 174 (by decide), hv.fixed 175 (by decide), hv.fixed 176 (by decide), hv.fixed 177 (by decide), hv.fixed 178 (by decide), hv.fixed 179 (by decide), hv.fixed 180 (by decide), hv.fixed 181 (by decide), hv.fixed 182 (by decide), hv.fixed 183 (by decide), hv.fixed 184 (by decide), hv.fixed 185 (by decide), hv.fixed 186 (by decide), hv.fixed 187 (by decide), hv.fixed 188 (by decide), hv.fixed 189 (by decide), hv.fixed 190 (by decide), hv.fixed 205 (by decide), hv.fixed 206 (by decide), hv.fixed 207 (by decide), hv.fixed 208 (by decide), hv.fixed 209 (by decide)] at ha
    rw [ha]
    exact hK _ _ _ _ _ _ _ _ _ _ _ _ _ _ wc (HO.out.2 (hall 14 (by decide)))
end Go.Proofs.YtenafgphaceidaaDoor

/- THE LOOPS OF ways, each a declaration of its own. -/
namespace Go.Proofs.YtenafgphaceidaaDoor
open Go.RowKit
def hasRegion (n : Nat) : Code → Bool
  | .region id _ _ => id == n
  | .seq a b => hasRegion n a || hasRegion n b
  | .loop c => hasRegion n c
  | .block _ c => hasRegion n c
  | .scope c => hasRegion n c
  | .cond _ a b => hasRegion n a || hasRegion n b
  | _ => false
/-- The innermost loop with a region. -/
def loopOf (n : Nat) : Code → Option Code
  | .loop c => match loopOf n c with
    | some x => some x
    | none => if hasRegion n c then some (.loop c) else none
  | .seq a b => match loopOf n a with
    | some x => some x
    | none => loopOf n b
  | .block _ c => loopOf n c
  | .scope c => loopOf n c
  | .cond _ a b => match loopOf n a with
    | some x => some x
    | none => loopOf n b
  | _ => none
noncomputable def join_loop_code : Code := ((Tryd.f34.body.bind (loopOf 26)).getD .skip)
set_option maxRecDepth 1000000 in
set_option maxHeartbeats 16000000 in
theorem join_loop (w1 wr : World) (g N n s x r : Nat) (hN : N ≤ 256) (hn12 : n ≤ 12) (hlt : s < N) (hxN : x < N) (hrN : r < N) (hsx : (s : Int) - (x : Int) = (r : Int)) (HR : Hid (s - x = r)) (Y : List Su.Way) (hYl : Y.length = N * 12) (HYO : Hid (Owns w1 wr [wrow g N Y])) (c0 c1 c2 c3 c8 c9 c10 c12 c13 c14 c15 c16 c17 c18 c19 c20 c21 c22 c23 c24 c25 c26 c27 c28 c29 c30 c31 c32 c33 c34 c35 c36 c37 c38 c39 c40 c41 c42 c43 c44 c45 c46 c47 c48 c49 c50 c51 c52 c53 c54 c55 c56 c57 c58 c59 c60 c61 c62 c63 c64 c65 c66 c67 c68 c69 c70 c71 c72 c75 c76 c77 c78 c79 c80 c81 c82 c83 c84 c85 c86 c87 c88 c89 c90 c91 c92 c93 c94 c95 c96 c97 c98 c99 c100 c101 c102 c103 c104 c105 c106 c107 c108 c109 c110 c111 c112 c113 c114 c115 c116 c117 c118 c119 c120 c121 c122 c123 c124 c125 c126 c127 c128 c129 c130 c131 c132 c133 c134 c135 c136 c137 c138 c139 c140 c141 c142 c143 c144 c145 c146 c147 c148 c149 c150 c151 c152 c153 c154 c155 c156 c157 c158 c159 c160 c161 c162 c163 c164 c165 c166 c167 c168 c169 c170 c171 c172 c173 c174 c175 c176 c177 c178 c179 c180 c181 c182 c183 c184 c185 c186 c187 c188 c189 c190 c191 c192 c193 c194 c195 c196 c197 c198 c199 c200 c201 c202 c203 c204 c205 c206 c207 c208 c209 : Value) (df : List Deferred) (Q0 : Exit → Act → World → Prop)
    (hexit : ∀ (u12 u13 u14 u74 u75 u76 u77 u78 u79 u80 u81 u82 u83 u84 u85 u86 u87 u88 u89 u90 u91 u92 u93 u94 u95 u96 u97 u98 u99 u100 u101 u102 u103 u104 u105 u106 u107 u108 u109 u110 u111 u112 u113 u114 u115 u116 u117 u118 u119 u120 u121 u122 u123 u124 u125 u126 u127 u128 u129 : Value) (wx : World), Owns w1 wx [wrow g N (Su.rep (Su.joinStep s x) n Y)] → Q0 (.exit 8) ⟨#[c0, c1, c2, c3, .int .i64 (n : Nat), .slice (some ⟨g, 0, none⟩) N N, .int .i64 (s : Nat), .pointer (some ⟨g, s * 36, none⟩), c8, c9, c10, .int .i64 (x : Nat), u12, u13, u14, c15, c16, c17, c18, c19, c20, c21, c22, c23, c24, c25, c26, c27, c28, c29, c30, c31, c32, c33, c34, c35, c36, c37, c38, c39, c40, c41, c42, c43, c44, c45, c46, c47, c48, c49, c50, c51, c52, c53, c54, c55, c56, c57, c58, c59, c60, c61, c62, c63, c64, c65, c66, c67, c68, c69, c70, c71, c72, .int .i64 (n : Nat), u74, u75, u76, u77, u78, u79, u80, u81, u82, u83, u84, u85, u86, u87, u88, u89, u90, u91, u92, u93, u94, u95, u96, u97, u98, u99, u100, u101, u102, u103, u104, u105, u106, u107, u108, u109, u110, u111, u112, u113, u114, u115, u116, u117, u118, u119, u120, u121, u122, u123, u124, u125, u126, u127, u128, u129, c130, c131, c132, c133, c134, c135, c136, c137, c138, c139, c140, c141, c142, c143, c144, c145, c146, c147, c148, c149, c150, c151, c152, c153, c154, c155, c156, c157, c158, c159, c160, c161, c162, c163, c164, c165, c166, c167, c168, c169, c170, c171, c172, c173, c174, c175, c176, c177, c178, c179, c180, c181, c182, c183, c184, c185, c186, c187, c188, c189, c190, c191, c192, c193, c194, c195, c196, c197, c198, c199, c200, c201, c202, c203, c204, c205, c206, c207, c208, c209], df⟩ wx) :
    Code.wp Tryd.prog join_loop_code Q0 ⟨#[c0, c1, c2, c3, .int .i64 (n : Nat), .slice (some ⟨g, 0, none⟩) N N, .int .i64 (s : Nat), .pointer (some ⟨g, s * 36, none⟩), c8, c9, c10, .int .i64 (x : Nat), c12, c13, c14, c15, c16, c17, c18, c19, c20, c21, c22, c23, c24, c25, c26, c27, c28, c29, c30, c31, c32, c33, c34, c35, c36, c37, c38, c39, c40, c41, c42, c43, c44, c45, c46, c47, c48, c49, c50, c51, c52, c53, c54, c55, c56, c57, c58, c59, c60, c61, c62, c63, c64, c65, c66, c67, c68, c69, c70, c71, c72, .int .i64 (n : Nat), .int .i64 0, c75, c76, c77, c78, c79, c80, c81, c82, c83, c84, c85, c86, c87, c88, c89, c90, c91, c92, c93, c94, c95, c96, c97, c98, c99, c100, c101, c102, c103, c104, c105, c106, c107, c108, c109, c110, c111, c112, c113, c114, c115, c116, c117, c118, c119, c120, c121, c122, c123, c124, c125, c126, c127, c128, c129, c130, c131, c132, c133, c134, c135, c136, c137, c138, c139, c140, c141, c142, c143, c144, c145, c146, c147, c148, c149, c150, c151, c152, c153, c154, c155, c156, c157, c158, c159, c160, c161, c162, c163, c164, c165, c166, c167, c168, c169, c170, c171, c172, c173, c174, c175, c176, c177, c178, c179, c180, c181, c182, c183, c184, c185, c186, c187, c188, c189, c190, c191, c192, c193, c194, c195, c196, c197, c198, c199, c200, c201, c202, c203, c204, c205, c206, c207, c208, c209], df⟩ wr := by
  have HE := Lib.hid hexit
  clear hexit
  conv => arg 2; whnf
  dsimp only
  go_loopw [74] (fun vi wr => ∃ v : Nat, v ≤ n ∧ vi = .int .i64 v ∧ Hid (Owns w1 wr [wrow g N (Su.rep (Su.joinStep s x) v Y)])) (fun vi _ => n - (intOf vi).toNat)
  case atStart => exact ⟨0, Nat.zero_le _, rfl, HYO⟩
  case round =>
    obtain ⟨v, hv, rfl, HV2⟩ := hrel
    by_cases hlt4 : v < n
    · obtain ⟨Z, hZ⟩ : ∃ Z, Su.rep (Su.joinStep s x) v Y = Z := ⟨_, rfl⟩
      have hZl : Z.length = N * 12 := by rw [← hZ, Su.rep_len (Su.joinStep_len s x)]; exact hYl
      have hstep : Su.rep (Su.joinStep s x) (v + 1) Y = Su.joinStep s x v Z := by rw [Su.rep_succ, hZ]
      rw [hZ] at HV2
      have hv12 : v < 12 := by omega
      have ha := ways_at HV2.out hZl hxN hv12
      have hb := ways_at HV2.out hZl hrN hv12
      have hc := ways_at HV2.out hZl hlt hv12
      have hyes := Su.joinStep_yes (s := s) (half := x) (v := v) (W := Z)
      have hno := Su.joinStep_no (s := s) (half := x) (v := v) (W := Z)
      rw [HR.out] at hyes hno
      obtain ⟨ca, hca⟩ : ∃ a, (Su.get Z (x * 12 + v)).cost = a := ⟨_, rfl⟩
      obtain ⟨cb, hcb⟩ : ∃ b, (Su.get Z (r * 12 + v)).cost = b := ⟨_, rfl⟩
      obtain ⟨cc, hcc⟩ : ∃ c, (Su.get Z (s * 12 + v)).cost = c := ⟨_, rfl⟩
      rw [hca, hcb, hcc] at hyes hno
      obtain ⟨z, hz⟩ : ∃ z, Su.sum64 ca cb = z := ⟨_, rfl⟩
      rw [hz] at hyes hno
      have hz2 : wrap64 (ca + cb) = z := hz
      have HZ2 := Lib.hid hz2
      clear hz2
      have a0 := ha.c0
      have b0 := hb.c0
      obtain ⟨k0, k1, k2, j0, j1, j2⟩ := hc
      rw [hca] at a0
      rw [hcb] at b0
      rw [hcc] at k0
      have e2 : ¬ (12 : Int) ≤ (v : Int) := by omega
      rw [← hstep] at hyes hno
      have HYES := Lib.hid hyes
      have HNO := Lib.hid hno
      clear hyes hno hstep hZ ha hb hca hcb hcc hz
      have five : (¬ 0 ≤ ca) ∨ (0 ≤ ca ∧ ¬ 0 ≤ cb) ∨ (0 ≤ ca ∧ 0 ≤ cb ∧ cc < 0) ∨ (0 ≤ ca ∧ 0 ≤ cb ∧ ¬ cc < 0 ∧ z < cc) ∨ (0 ≤ ca ∧ 0 ≤ cb ∧ ¬ cc < 0 ∧ ¬ z < cc) := by omega
      rcases five with q1 | ⟨q1, q2⟩ | ⟨q1, q2, q3⟩ | ⟨q1, q2, q3, q4⟩ | ⟨q1, q2, q3, q4⟩
      · have HST := Lib.hid (HNO.out (fun e => q1 e.1))
        go_wp2_with fail
        go_quiet (fail)
        go_wp2_with fail
        clear a0 b0 k0 k1 k2 j0 j1 j2
        go_roundw
        case rel => exact ⟨v + 1, by omega, by go_num, Lib.hid (by rw [HST.out]; exact HV2.out.drewN _)⟩
        case measure => simp [intOf]; omega
      · have HST := Lib.hid (HNO.out (fun e => q2 e.2.1))
        go_wp2_with fail
        go_quiet (fail)
        go_wp2_with fail
        clear a0 b0 k0 k1 k2 j0 j1 j2
        go_roundw
        case rel => exact ⟨v + 1, by omega, by go_num, Lib.hid (by rw [HST.out]; exact HV2.out.drewN _)⟩
        case measure => simp [intOf]; omega
      · have HST := Lib.hid (HYES.out ⟨q1, q2, .inl q3⟩)
        go_wp2_with fail
        go_quiet (fail)
        have hz2 := HZ2.out
        go_wp2_with fail
        clear hz2 a0 b0 k0 k1 k2 j0 j1 j2
        go_roundw
        case rel => exact ⟨v + 1, by omega, by go_num, Lib.hid (by rw [HST.out]; exact ways_put (HV2.out.drewN _) s v z x (-1))⟩
        case measure => simp [intOf]; omega
      · have HST := Lib.hid (HYES.out ⟨q1, q2, .inr q4⟩)
        go_wp2_with fail
        go_quiet (fail)
        have hz2 := HZ2.out
        go_wp2_with fail
        clear hz2 a0 b0 k0 k1 k2 j0 j1 j2
        go_roundw
        case rel => exact ⟨v + 1, by omega, by go_num, Lib.hid (by rw [HST.out]; exact ways_put (HV2.out.drewN _) s v z x (-1))⟩
        case measure => simp [intOf]; omega
      · have HST := Lib.hid (HNO.out (fun e => by rcases e.2.2 with e | e; exact q3 e; exact q4 e))
        go_wp2_with fail
        go_quiet (fail)
        have hz2 := HZ2.out
        go_wp2_with fail
        clear hz2 a0 b0 k0 k1 k2 j0 j1 j2
        go_roundw
        case rel => exact ⟨v + 1, by omega, by go_num, Lib.hid (by rw [HST.out]; exact HV2.out.drewN _)⟩
        case measure => simp [intOf]; omega
    · obtain rfl : v = n := by omega
      go_wp2_with fail
      exact HE.out _ _ _ _ _ _ _ _ _ _ _ _ _ _ _ _ _ _ _ _ _ _ _ _ _ _ _ _ _ _ _ _ _ _ _ _ _ _ _ _ _ _ _ _ _ _ _ _ _ _ _ _ _ _ _ _ _ _ _ wr HV2.out
end Go.Proofs.YtenafgphaceidaaDoor

/- THE LOOPS OF ways, each a declaration of its own. -/
namespace Go.Proofs.YtenafgphaceidaaDoor
open Go.RowKit
theorem wp_atEnd' {P : Program} {c : Code} {Q : Exit → Act → World → Prop} {a : Act} {w : World} (h : Code.wp P c (AtEnd fun a w => Q .normal a w) a w) : Code.wp P c Q a w :=
  Code.wp_mono (fun e a w hr => by
    cases e with
    | normal => exact hr
    | _ => exact (hr : False).elim) h
theorem and_half {s x : Nat} (hs : s ≤ 256) (hx : 0 < x) (hxs : x ≤ s) : bits .and .i64 ((x : Int) - 1) (s : Int) = (((x - 1) &&& s : Nat) : Int) := by
  rw [show (x : Int) - 1 = ((x - 1 : Nat) : Int) by omega]
  exact and64 _ _ (by omega) (by omega)
noncomputable def half_loop_code : Code := ((Tryd.f34.body.bind (loopOf 22)).getD .skip)
set_option maxRecDepth 1000000 in
set_option maxHeartbeats 16000000 in
theorem half_loop (w1 wr : World) (g N n s h0 f0 : Nat) (hN : N ≤ 256) (hn12 : n ≤ 12) (hlt : s < N) (hh : h0 < s) (hf : h0 ≤ f0) (X2 X3 : List Su.Way) (hX2l : X2.length = N * 12) (HX3 : Hid (Su.halfLoop s n f0 h0 X2 = X3)) (HO : Hid (Owns w1 wr [wrow g N X2])) (c0 c1 c2 c3 c8 c9 c10 c12 c13 c14 c15 c16 c17 c18 c19 c20 c21 c22 c23 c24 c25 c26 c27 c28 c29 c30 c31 c32 c33 c34 c35 c36 c37 c38 c39 c40 c41 c42 c43 c44 c45 c46 c47 c48 c49 c50 c51 c52 c53 c54 c55 c56 c57 c58 c59 c60 c61 c62 c63 c64 c65 c66 c67 c68 c69 c70 c71 c72 c73 c74 c75 c76 c77 c78 c79 c80 c81 c82 c83 c84 c85 c86 c87 c88 c89 c90 c91 c92 c93 c94 c95 c96 c97 c98 c99 c100 c101 c102 c103 c104 c105 c106 c107 c108 c109 c110 c111 c112 c113 c114 c115 c116 c117 c118 c119 c120 c121 c122 c123 c124 c125 c126 c127 c128 c129 c130 c131 c132 c133 c134 c135 c136 c137 c138 c139 c140 c141 c142 c143 c144 c145 c146 c147 c148 c149 c150 c151 c152 c153 c154 c155 c156 c157 c158 c159 c160 c161 c162 c163 c164 c165 c166 c167 c168 c169 c170 c171 c172 c173 c174 c175 c176 c177 c178 c179 c180 c181 c182 c183 c184 c185 c186 c187 c188 c189 c190 c191 c192 c193 c194 c195 c196 c197 c198 c199 c200 c201 c202 c203 c204 c205 c206 c207 c208 c209 : Value) (df : List Deferred) (Q0 : Exit → Act → World → Prop)
    (hexit : ∀ (u11 u12 u13 u14 u67 u68 u69 u70 u71 u72 u73 u74 u75 u76 u77 u78 u79 u80 u81 u82 u83 u84 u85 u86 u87 u88 u89 u90 u91 u92 u93 u94 u95 u96 u97 u98 u99 u100 u101 u102 u103 u104 u105 u106 u107 u108 u109 u110 u111 u112 u113 u114 u115 u116 u117 u118 u119 u120 u121 u122 u123 u124 u125 u126 u127 u128 u129 : Value) (wx : World), Owns w1 wx [wrow g N X3] → Q0 (.exit 6) ⟨#[c0, c1, c2, c3, .int .i64 (n : Nat), .slice (some ⟨g, 0, none⟩) N N, .int .i64 (s : Nat), .pointer (some ⟨g, s * 36, none⟩), c8, c9, c10, u11, u12, u13, u14, c15, c16, c17, c18, c19, c20, c21, c22, c23, c24, c25, c26, c27, c28, c29, c30, c31, c32, c33, c34, c35, c36, c37, c38, c39, c40, c41, c42, c43, c44, c45, c46, c47, c48, c49, c50, c51, c52, c53, c54, c55, c56, c57, c58, c59, c60, c61, c62, c63, c64, c65, c66, u67, u68, u69, u70, u71, u72, u73, u74, u75, u76, u77, u78, u79, u80, u81, u82, u83, u84, u85, u86, u87, u88, u89, u90, u91, u92, u93, u94, u95, u96, u97, u98, u99, u100, u101, u102, u103, u104, u105, u106, u107, u108, u109, u110, u111, u112, u113, u114, u115, u116, u117, u118, u119, u120, u121, u122, u123, u124, u125, u126, u127, u128, u129, c130, c131, c132, c133, c134, c135, c136, c137, c138, c139, c140, c141, c142, c143, c144, c145, c146, c147, c148, c149, c150, c151, c152, c153, c154, c155, c156, c157, c158, c159, c160, c161, c162, c163, c164, c165, c166, c167, c168, c169, c170, c171, c172, c173, c174, c175, c176, c177, c178, c179, c180, c181, c182, c183, c184, c185, c186, c187, c188, c189, c190, c191, c192, c193, c194, c195, c196, c197, c198, c199, c200, c201, c202, c203, c204, c205, c206, c207, c208, c209], df⟩ wx) :
    Code.wp Tryd.prog half_loop_code Q0 ⟨#[c0, c1, c2, c3, .int .i64 (n : Nat), .slice (some ⟨g, 0, none⟩) N N, .int .i64 (s : Nat), .pointer (some ⟨g, s * 36, none⟩), c8, c9, c10, .int .i64 (h0 : Nat), c12, c13, c14, c15, c16, c17, c18, c19, c20, c21, c22, c23, c24, c25, c26, c27, c28, c29, c30, c31, c32, c33, c34, c35, c36, c37, c38, c39, c40, c41, c42, c43, c44, c45, c46, c47, c48, c49, c50, c51, c52, c53, c54, c55, c56, c57, c58, c59, c60, c61, c62, c63, c64, c65, c66, c67, c68, c69, c70, c71, c72, c73, c74, c75, c76, c77, c78, c79, c80, c81, c82, c83, c84, c85, c86, c87, c88, c89, c90, c91, c92, c93, c94, c95, c96, c97, c98, c99, c100, c101, c102, c103, c104, c105, c106, c107, c108, c109, c110, c111, c112, c113, c114, c115, c116, c117, c118, c119, c120, c121, c122, c123, c124, c125, c126, c127, c128, c129, c130, c131, c132, c133, c134, c135, c136, c137, c138, c139, c140, c141, c142, c143, c144, c145, c146, c147, c148, c149, c150, c151, c152, c153, c154, c155, c156, c157, c158, c159, c160, c161, c162, c163, c164, c165, c166, c167, c168, c169, c170, c171, c172, c173, c174, c175, c176, c177, c178, c179, c180, c181, c182, c183, c184, c185, c186, c187, c188, c189, c190, c191, c192, c193, c194, c195, c196, c197, c198, c199, c200, c201, c202, c203, c204, c205, c206, c207, c208, c209], df⟩ wr := by
  have HE := Lib.hid hexit
  clear hexit
  conv => arg 2; whnf
  dsimp only
  go_loopw [11] (fun vh wr => ∃ (x f : Nat) (Y : List Su.Way), x ≤ f ∧ x < s ∧ vh = .int .i64 x ∧ Hid (Owns w1 wr [wrow g N Y] ∧ Y.length = N * 12 ∧ Su.halfLoop s n f x Y = X3)) (fun vh _ => (intOf vh).toNat)
  case atStart => exact ⟨h0, f0, X2, hf, hh, rfl, Lib.hid ⟨HO.out, hX2l, HX3.out⟩⟩
  case round =>
    obtain ⟨x, f, Y, hxf, hxs, rfl, HY⟩ := hrel
    by_cases hx0 : 0 < x
    · have hl3 := Su.halfLoop_next (s := s) (n := n) (W := Y) hx0 hxf
      rw [HY.out.2.2] at hl3
      have hYl := HY.out.2.1
      have HYO := Lib.hid HY.out.1
      obtain ⟨r, hr⟩ : ∃ r, s - x = r := ⟨_, rfl⟩
      have hsx : (s : Int) - (x : Int) = (r : Int) := by omega
      have hrN : r < N := by omega
      have hxN : x < N := by omega
      have HR := Lib.hid hr
      have hand2 := and_half (s := s) (x := x) (Nat.le_trans (Nat.le_of_lt hlt) hN) hx0 (Nat.le_of_lt hxs)
      have hle := Su.and_small (x - 1) s
      obtain ⟨y, hy⟩ : ∃ y, (x - 1) &&& s = y := ⟨_, rfl⟩
      rw [hy] at hand2 hle hl3
      have HL4 := Lib.hid hl3.symm
      have hYl2 : (Su.rep (Su.joinStep s x) n Y).length = N * 12 := by rw [Su.rep_len (Su.joinStep_len s x)]; exact hYl
      clear hl3 hr hy HY
      go_wp2_with fail
      refine join_loop w1 wr g N n s x r hN hn12 hlt hxN hrN hsx HR Y hYl HYO _ _ _ _ _ _ _ _ _ _ _ _ _ _ _ _ _ _ _ _ _ _ _ _ _ _ _ _ _ _ _ _ _ _ _ _ _ _ _ _ _ _ _ _ _ _ _ _ _ _ _ _ _ _ _ _ _ _ _ _ _ _ _ _ _ _ _ _ _ _ _ _ _ _ _ _ _ _ _ _ _ _ _ _ _ _ _ _ _ _ _ _ _ _ _ _ _ _ _ _ _ _ _ _ _ _ _ _ _ _ _ _ _ _ _ _ _ _ _ _ _ _ _ _ _ _ _ _ _ _ _ _ _ _ _ _ _ _ _ _ _ _ _ _ _ _ _ _ _ _ _ _ _ _ _ _ _ _ _ _ _ _ _ _ _ _ _ _ _ _ _ _ _ _ _ _ _ _ _ _ _ _ _ _ _ _ _ _ _ _ _ _ _ _ _ _ _ _ _ _ _ _ _ _ _ ?_
      intro u12 u13 u14 u74 u75 u76 u77 u78 u79 u80 u81 u82 u83 u84 u85 u86 u87 u88 u89 u90 u91 u92 u93 u94 u95 u96 u97 u98 u99 u100 u101 u102 u103 u104 u105 u106 u107 u108 u109 u110 u111 u112 u113 u114 u115 u116 u117 u118 u119 u120 u121 u122 u123 u124 u125 u126 u127 u128 u129 wx hx
      have HX := Lib.hid hx
      clear hx
      go_wp2_with fail
      go_roundw
      case rel => exact ⟨y, f - 1, Su.rep (Su.joinStep s x) n Y, by omega, by omega, rfl, Lib.hid ⟨HX.out, hYl2, HL4.out⟩⟩
      case measure => simp [intOf]; omega
    · obtain rfl : x = 0 := by omega
      have hYX : Y = X3 := by rw [← HY.out.2.2, Su.halfLoop_end]
      have hO := HY.out.1
      rw [hYX] at hO
      have HO2 := Lib.hid hO
      clear hO HY
      go_wp2_with fail
      exact HE.out _ _ _ _ _ _ _ _ _ _ _ _ _ _ _ _ _ _ _ _ _ _ _ _ _ _ _ _ _ _ _ _ _ _ _ _ _ _ _ _ _ _ _ _ _ _ _ _ _ _ _ _ _ _ _ _ _ _ _ _ _ _ _ _ _ _ _ wr HO2.out
noncomputable def mv_loop_code : Code := ((Tryd.f34.body.bind (loopOf 39)).getD .skip)
set_option maxRecDepth 1000000 in
set_option maxHeartbeats 16000000 in
theorem mv_loop (w1 wr : World) (h : Su.Ha) (A : Option Addr) (B g N n s c : Nat) (hn12 : n ≤ 12) (hl1 : n ≤ 9223372036854775807) (hlt : s < N) (hd0 : w1.cell? ⟨B, 0, none⟩ = some (.slice A n c)) (HG : Hid (Rs (Rs RI) w1 (.slice A n c) h.pr)) (HK : Hid (Su.Ok h ∧ h.pr.length = n)) (u : Nat) (hun : u < n) (X5 : List Su.Way) (hX5l : X5.length = N * 12) (HO : Hid (Owns w1 wr [wrow g N X5])) (c0 c2 c3 c4 c5 c6 c8 c9 c10 c11 c12 c13 c14 c16 c17 c18 c19 c20 c21 c22 c23 c24 c25 c26 c27 c28 c29 c30 c31 c32 c33 c34 c35 c36 c37 c38 c39 c40 c41 c42 c43 c44 c45 c46 c47 c48 c49 c50 c51 c52 c53 c54 c55 c56 c57 c58 c59 c60 c61 c62 c63 c64 c65 c66 c67 c68 c69 c70 c71 c72 c73 c74 c75 c76 c77 c78 c79 c80 c81 c82 c83 c84 c85 c86 c87 c88 c89 c90 c91 c92 c93 c94 c95 c96 c97 c98 c99 c100 c101 c102 c103 c104 c105 c106 c107 c108 c109 c110 c111 c112 c113 c114 c115 c116 c117 c118 c119 c120 c121 c122 c123 c124 c125 c126 c127 c128 c129 c130 c131 c132 c133 c134 c135 c136 c139 c140 c141 c142 c143 c144 c145 c146 c147 c148 c149 c150 c151 c152 c153 c154 c155 c156 c157 c158 c159 c160 c161 c162 c163 c164 c165 c166 c167 c168 c169 c170 c171 c172 c173 c174 c175 c176 c177 c178 c179 c180 c181 c182 c183 c184 c185 c186 c187 c188 c189 c190 c191 c192 c193 c194 c195 c196 c197 c198 c199 c200 c201 c202 c203 c204 c205 c206 c207 c208 c209 : Value) (df : List Deferred) (Q0 : Exit → Act → World → Prop)
    (hexit : ∀ (u16 u17 u138 u139 u140 u141 u142 u143 u144 u145 u146 u147 u148 u149 u150 u151 u152 u153 u154 u155 u156 u157 u158 u159 u160 u161 u162 u163 u164 u165 u166 u167 u168 u169 u170 u171 u172 u173 u174 u175 u176 u177 u178 u179 u180 u181 u182 u183 u184 u185 u186 u187 u188 u189 u190 u191 u192 u193 u194 u195 u196 u197 u198 u199 u200 u201 u202 u203 u204 u205 : Value) (wx : World), Owns w1 wx [wrow g N (Su.rep (fun v W => Su.moveStep h s u v W) n X5)] → Q0 (.exit 14) ⟨#[c0, .pointer (some ⟨B, 0, none⟩), c2, c3, c4, c5, c6, .pointer (some ⟨g, s * 36, none⟩), c8, c9, c10, c11, c12, c13, c14, .int .i64 (u : Nat), u16, u17, c18, c19, c20, c21, c22, c23, c24, c25, c26, c27, c28, c29, c30, c31, c32, c33, c34, c35, c36, c37, c38, c39, c40, c41, c42, c43, c44, c45, c46, c47, c48, c49, c50, c51, c52, c53, c54, c55, c56, c57, c58, c59, c60, c61, c62, c63, c64, c65, c66, c67, c68, c69, c70, c71, c72, c73, c74, c75, c76, c77, c78, c79, c80, c81, c82, c83, c84, c85, c86, c87, c88, c89, c90, c91, c92, c93, c94, c95, c96, c97, c98, c99, c100, c101, c102, c103, c104, c105, c106, c107, c108, c109, c110, c111, c112, c113, c114, c115, c116, c117, c118, c119, c120, c121, c122, c123, c124, c125, c126, c127, c128, c129, c130, c131, c132, c133, c134, c135, c136, .int .i64 (n : Nat), u138, u139, u140, u141, u142, u143, u144, u145, u146, u147, u148, u149, u150, u151, u152, u153, u154, u155, u156, u157, u158, u159, u160, u161, u162, u163, u164, u165, u166, u167, u168, u169, u170, u171, u172, u173, u174, u175, u176, u177, u178, u179, u180, u181, u182, u183, u184, u185, u186, u187, u188, u189, u190, u191, u192, u193, u194, u195, u196, u197, u198, u199, u200, u201, u202, u203, u204, u205, c206, c207, c208, c209], df⟩ wx) :
    Code.wp Tryd.prog mv_loop_code Q0 ⟨#[c0, .pointer (some ⟨B, 0, none⟩), c2, c3, c4, c5, c6, .pointer (some ⟨g, s * 36, none⟩), c8, c9, c10, c11, c12, c13, c14, .int .i64 (u : Nat), c16, c17, c18, c19, c20, c21, c22, c23, c24, c25, c26, c27, c28, c29, c30, c31, c32, c33, c34, c35, c36, c37, c38, c39, c40, c41, c42, c43, c44, c45, c46, c47, c48, c49, c50, c51, c52, c53, c54, c55, c56, c57, c58, c59, c60, c61, c62, c63, c64, c65, c66, c67, c68, c69, c70, c71, c72, c73, c74, c75, c76, c77, c78, c79, c80, c81, c82, c83, c84, c85, c86, c87, c88, c89, c90, c91, c92, c93, c94, c95, c96, c97, c98, c99, c100, c101, c102, c103, c104, c105, c106, c107, c108, c109, c110, c111, c112, c113, c114, c115, c116, c117, c118, c119, c120, c121, c122, c123, c124, c125, c126, c127, c128, c129, c130, c131, c132, c133, c134, c135, c136, .int .i64 (n : Nat), .int .i64 0, c139, c140, c141, c142, c143, c144, c145, c146, c147, c148, c149, c150, c151, c152, c153, c154, c155, c156, c157, c158, c159, c160, c161, c162, c163, c164, c165, c166, c167, c168, c169, c170, c171, c172, c173, c174, c175, c176, c177, c178, c179, c180, c181, c182, c183, c184, c185, c186, c187, c188, c189, c190, c191, c192, c193, c194, c195, c196, c197, c198, c199, c200, c201, c202, c203, c204, c205, c206, c207, c208, c209], df⟩ wr := by
  have HE := Lib.hid hexit
  clear hexit
  conv => arg 2; whnf
  dsimp only
  go_loopw [138] (fun vi wr => ∃ v : Nat, v ≤ n ∧ vi = .int .i64 v ∧ Hid (Owns w1 wr [wrow g N (Su.rep (fun v W => Su.moveStep h s u v W) v X5)])) (fun vi _ => n - (intOf vi).toNat)
  case atStart => exact ⟨0, Nat.zero_le _, rfl, HO⟩
  case round =>
    obtain ⟨v, hv2, rfl, HI3⟩ := hrel
    by_cases hlt7 : v < n
    case neg =>
      obtain rfl : v = n := by omega
      go_wp2_with fail
      exact HE.out _ _ _ _ _ _ _ _ _ _ _ _ _ _ _ _ _ _ _ _ _ _ _ _ _ _ _ _ _ _ _ _ _ _ _ _ _ _ _ _ _ _ _ _ _ _ _ _ _ _ _ _ _ _ _ _ _ _ _ _ _ _ _ _ _ _ _ _ _ _ wr HI3.out
    case pos =>
      obtain ⟨Z, hZ⟩ : ∃ Z, Su.rep (fun v W => Su.moveStep h s u v W) v X5 = Z := ⟨_, rfl⟩
      have hZl : Z.length = N * 12 := by rw [← hZ, Su.rep_len (fun v W => Su.moveStep_len h s u v W)]; exact hX5l
      have hstep : Su.rep (fun v W => Su.moveStep h s u v W) (v + 1) X5 = Su.moveStep h s u v Z := by rw [Su.rep_succ, hZ]
      rw [hZ] at HI3
      have hu12 : u < 12 := by omega
      have hv12 : v < 12 := by omega
      have ha := (ways_at HI3.out hZl hlt hu12).c0
      have hc := (ways_at HI3.out hZl hlt hv12).c0
      have hyes := Su.moveStep_yes (h := h) (s := s) (u := u) (v := v) (W := Z)
      have hno := Su.moveStep_no (h := h) (s := s) (u := u) (v := v) (W := Z)
      obtain ⟨ad1, ad2, ccp, hA, g1, g2⟩ := price_at HG.out HK.out.1 HK.out.2 hun hlt7
      have g1' := HI3.out.ext.cell g1
      have g2' := HI3.out.ext.cell g2
      obtain ⟨cu, hcu⟩ : ∃ a, (Su.get Z (s * 12 + u)).cost = a := ⟨_, rfl⟩
      obtain ⟨cv, hcv⟩ : ∃ c, (Su.get Z (s * 12 + v)).cost = c := ⟨_, rfl⟩
      obtain ⟨p, hp⟩ : ∃ p, Su.price h u v = p := ⟨_, rfl⟩
      obtain ⟨z, hz⟩ : ∃ z, Su.sum64 cu p = z := ⟨_, rfl⟩
      rw [hcu, hcv, hp, hz] at hyes hno
      rw [hp] at g2'
      rw [hcu] at ha
      rw [hcv] at hc
      have hz2 : IntKind.i64.wrap (cu + p) = z := by rw [← hz, IntKind.wrap_i64]; unfold Su.sum64 wrap64; rfl
      have HZ2 := Lib.hid hz2
      rw [← hstep] at hyes hno
      have HYES := Lib.hid hyes
      have HNO := Lib.hid hno
      have HCU := Lib.hid hcu
      have d0 := HI3.out.ext.cell hd0
      rw [hA] at d0
      clear hz2 hyes hno hstep hZ hcu hcv hp hz hA g1 g2
      by_cases q0 : u = v
      case pos =>
        have e0 : ((u : Int) != (v : Int)) = false := by rw [q0]; simp
        have HST := Lib.hid (HNO.out (fun e => e.1 q0))
        clear q0
        go_wp2_with fail
        refine wp_atEnd (mv_A _ u v e0 _ _ _ _ _ _ _ _ _ _ _ _ _ _ _ _ _ _ _ _ _ _ _ _ _ _ _ _ _ _ _ _ _ _ _ _ _ _ _ _ _ _ _ _ _ _ _ _ _ _ _ _ _ _ _ _ _ _ _ _ _ _ _ _ _ _ _ _ _ _ _ _ _ _ _ _ _ _ _ _ _ _ _ _ _ _ _ _ _ _ _ _ _ _ _ _ _ _ _ _ _ _ _ _ _ _ _ _ _ _ _ _ _ _ _ _ _ _ _ _ _ _ _ _ _ _ _ _ _ _ _ _ _ _ _ _ _ _ _ _ _ _ _ _ _ _ _ _ _ _ _ _ _ _ _ _ _ _ _ _ _ _ _ _ _ _ _ _ _ _ _ _ _ _ _ _ _ _ _ _ _ _ _ _ _ _ _ _ _ _ _ _ _ _ _ _ _ _ _ _ _ _ _ _ _ _ _ _ _ _ ?_)
        intro u149 u150 u151 u152 u153 u154 u155 u156 u157 u158 u159 u160 u161 u162 u163 u164 u165 u166 u167 u168 u169 u170 u171 u172 u173 u174 u175 u176 u177 u178 u179 u180 u181 u182 u183 u184 u185 u186 u187 u188 u189 wx hx
        have HX9 := Lib.hid hx
        clear hx
        go_wp2_with fail
        clear g1' g2' d0 ha hc
        go_roundw
        case rel => exact ⟨v + 1, by omega, by go_num, Lib.hid (by rw [HST.out]; exact HI3.out.next HX9.out)⟩
        case measure => simp [intOf]; omega
      case neg =>
      have e0 : ((u : Int) != (v : Int)) = true := by rw [bne_iff_ne]; omega
      have six : (p < 0) ∨ (¬ p < 0 ∧ cu < 0) ∨ (¬ p < 0 ∧ ¬ cu < 0 ∧ cv < 0) ∨ (¬ p < 0 ∧ ¬ cu < 0 ∧ ¬ cv < 0 ∧ z < cv) ∨ (¬ p < 0 ∧ ¬ cu < 0 ∧ ¬ cv < 0 ∧ ¬ z < cv) := by omega
      rcases six with q1 | ⟨q1, q2⟩ | ⟨q1, q2, q3⟩ | ⟨q1, q2, q3, q4⟩ | ⟨q1, q2, q3, q4⟩
      · have HST := Lib.hid (HNO.out (fun e => by have := e.2.1; omega))
        go_wp2_with fail
        refine wp_atEnd (mv_B _ u v e0 p q1 _ _ _ _ _ _ _ _ _ _ _ _ _ _ _ _ _ _ _ _ _ _ _ _ _ _ _ _ _ _ _ _ _ _ _ _ _ _ _ _ _ _ _ _ _ _ _ _ _ _ _ _ _ _ _ _ _ _ _ _ _ _ _ _ _ _ _ _ _ _ _ _ _ _ _ _ _ _ _ _ _ _ _ _ _ _ _ _ _ _ _ _ _ _ _ _ _ _ _ _ _ _ _ _ _ _ _ _ _ _ _ _ _ _ _ _ _ _ _ _ _ _ _ _ _ _ _ _ _ _ _ _ _ _ _ _ _ _ _ _ _ _ _ _ _ _ _ _ _ _ _ _ _ _ _ _ _ _ _ _ _ _ _ _ _ _ _ _ _ _ _ _ _ _ _ _ _ _ _ _ _ _ _ _ _ _ _ _ _ _ _ _ _ _ _ _ _ _ _ _ _ _ _ _ _ _ _ _ _ ?_)
        intro u149 u150 u151 u152 u153 u154 u155 u156 u157 u158 u159 u160 u161 u162 u163 u164 u165 u166 u167 u168 u169 u170 u171 u172 u173 u174 u175 u176 u177 u178 u179 u180 u181 u182 u183 u184 u185 u186 u187 u188 u189 wx hx
        have HX9 := Lib.hid hx
        clear hx
        go_wp2_with fail
        clear g1' g2' d0 ha hc
        go_roundw
        case rel => exact ⟨v + 1, by omega, by go_num, Lib.hid (by rw [HST.out]; exact HI3.out.next HX9.out)⟩
        case measure => simp [intOf]; omega
      · have HST := Lib.hid (HNO.out (fun e => by have := e.2.2.1; omega))
        go_wp2_with fail
        refine wp_atEnd (mv_C _ u v e0 p (by omega) g s hu12 cu ha (by omega) _ _ _ _ _ _ _ _ _ _ _ _ _ _ _ _ _ _ _ _ _ _ _ _ _ _ _ _ _ _ _ _ _ _ _ _ _ _ _ _ _ _ _ _ _ _ _ _ _ _ _ _ _ _ _ _ _ _ _ _ _ _ _ _ _ _ _ _ _ _ _ _ _ _ _ _ _ _ _ _ _ _ _ _ _ _ _ _ _ _ _ _ _ _ _ _ _ _ _ _ _ _ _ _ _ _ _ _ _ _ _ _ _ _ _ _ _ _ _ _ _ _ _ _ _ _ _ _ _ _ _ _ _ _ _ _ _ _ _ _ _ _ _ _ _ _ _ _ _ _ _ _ _ _ _ _ _ _ _ _ _ _ _ _ _ _ _ _ _ _ _ _ _ _ _ _ _ _ _ _ _ _ _ _ _ _ _ _ _ _ _ _ _ _ _ _ _ _ _ _ _ _ _ _ _ _ _ _ ?_)
        intro u149 u150 u151 u152 u153 u154 u155 u156 u157 u158 u159 u160 u161 u162 u163 u164 u165 u166 u167 u168 u169 u170 u171 u172 u173 u174 u175 u176 u177 u178 u179 u180 u181 u182 u183 u184 u185 u186 u187 u188 u189 wx hx
        have HX9 := Lib.hid hx
        clear hx
        go_wp2_with fail
        clear g1' g2' d0 ha hc
        go_roundw
        case rel => exact ⟨v + 1, by omega, by go_num, Lib.hid (by rw [HST.out]; exact HI3.out.next HX9.out)⟩
        case measure => simp [intOf]; omega
      · have HST := Lib.hid (HYES.out ⟨q0, by omega, by omega, .inl q3⟩)
        go_wp2_with fail
        refine wp_atEnd (mv_D _ u v e0 p (by omega) g s hu12 cu ha (by omega) hv12 cv hc (by omega) _ _ _ _ _ _ _ _ _ _ _ _ _ _ _ _ _ _ _ _ _ _ _ _ _ _ _ _ _ _ _ _ _ _ _ _ _ _ _ _ _ _ _ _ _ _ _ _ _ _ _ _ _ _ _ _ _ _ _ _ _ _ _ _ _ _ _ _ _ _ _ _ _ _ _ _ _ _ _ _ _ _ _ _ _ _ _ _ _ _ _ _ _ _ _ _ _ _ _ _ _ _ _ _ _ _ _ _ _ _ _ _ _ _ _ _ _ _ _ _ _ _ _ _ _ _ _ _ _ _ _ _ _ _ _ _ _ _ _ _ _ _ _ _ _ _ _ _ _ _ _ _ _ _ _ _ _ _ _ _ _ _ _ _ _ _ _ _ _ _ _ _ _ _ _ _ _ _ _ _ _ _ _ _ _ _ _ _ _ _ _ _ _ _ _ _ _ _ _ _ _ _ _ _ _ _ _ _ ?_)
        intro u149 u150 u151 u152 u153 u154 u155 u156 u157 u158 u159 u160 u161 u162 u163 u164 u165 u166 u167 u168 u169 u170 u171 u172 u173 u174 u175 u176 u177 u178 u179 u180 u181 u182 u183 u184 u185 u186 u187 u188 u189 wx hx
        have HX9 := Lib.hid hx
        clear hx
        go_wp2_with fail
        refine wp_atEnd' (mv_store w1 _ u v g s N hlt hu12 hv12 Z hZl cu p z HCU.out HZ2.out (Lib.hid (HI3.out.next HX9.out)) _ _ _ _ _ _ _ _ _ _ _ _ _ _ _ _ _ _ _ _ _ _ _ _ _ _ _ _ _ _ _ _ _ _ _ _ _ _ _ _ _ _ _ _ _ _ _ _ _ _ _ _ _ _ _ _ _ _ _ _ _ _ _ _ _ _ _ _ _ _ _ _ _ _ _ _ _ _ _ _ _ _ _ _ _ _ _ _ _ _ _ _ _ _ _ _ _ _ _ _ _ _ _ _ _ _ _ _ _ _ _ _ _ _ _ _ _ _ _ _ _ _ _ _ _ _ _ _ _ _ _ _ _ _ _ _ _ _ _ _ _ _ _ _ _ _ _ _ _ _ _ _ _ _ _ _ _ _ _ _ _ _ _ _ _ _ _ _ _ _ _ _ _ _ _ _ _ _ _ _ _ _ _ _ _ _ _ _ _ _ _ _ _ _ _ _ _ _ _ _ _ _ _ _ _ _ _ _ ?_)
        intro u191 u192 u193 u194 u195 u196 u197 u198 u199 u200 u201 u202 u203 u204 wy hy
        have HY9 := Lib.hid hy
        clear hy
        go_wp2_with fail
        clear g1' g2' d0 ha hc
        go_roundw
        case rel => exact ⟨v + 1, by omega, by go_num, Lib.hid (by rw [HST.out]; exact HY9.out)⟩
        case measure => simp [intOf]; omega
      · have HST := Lib.hid (HYES.out ⟨q0, by omega, by omega, .inr q4⟩)
        go_wp2_with fail
        refine wp_atEnd (mv_E _ u v e0 p (by omega) g s hu12 cu ha (by omega) hv12 cv hc (by omega) z HZ2.out (by omega) _ _ _ _ _ _ _ _ _ _ _ _ _ _ _ _ _ _ _ _ _ _ _ _ _ _ _ _ _ _ _ _ _ _ _ _ _ _ _ _ _ _ _ _ _ _ _ _ _ _ _ _ _ _ _ _ _ _ _ _ _ _ _ _ _ _ _ _ _ _ _ _ _ _ _ _ _ _ _ _ _ _ _ _ _ _ _ _ _ _ _ _ _ _ _ _ _ _ _ _ _ _ _ _ _ _ _ _ _ _ _ _ _ _ _ _ _ _ _ _ _ _ _ _ _ _ _ _ _ _ _ _ _ _ _ _ _ _ _ _ _ _ _ _ _ _ _ _ _ _ _ _ _ _ _ _ _ _ _ _ _ _ _ _ _ _ _ _ _ _ _ _ _ _ _ _ _ _ _ _ _ _ _ _ _ _ _ _ _ _ _ _ _ _ _ _ _ _ _ _ _ _ _ _ _ _ _ _ ?_)
        intro u149 u150 u151 u152 u153 u154 u155 u156 u157 u158 u159 u160 u161 u162 u163 u164 u165 u166 u167 u168 u169 u170 u171 u172 u173 u174 u175 u176 u177 u178 u179 u180 u181 u182 u183 u184 u185 u186 u187 u188 u189 wx hx
        have HX9 := Lib.hid hx
        clear hx
        go_wp2_with fail
        refine wp_atEnd' (mv_store w1 _ u v g s N hlt hu12 hv12 Z hZl cu p z HCU.out HZ2.out (Lib.hid (HI3.out.next HX9.out)) _ _ _ _ _ _ _ _ _ _ _ _ _ _ _ _ _ _ _ _ _ _ _ _ _ _ _ _ _ _ _ _ _ _ _ _ _ _ _ _ _ _ _ _ _ _ _ _ _ _ _ _ _ _ _ _ _ _ _ _ _ _ _ _ _ _ _ _ _ _ _ _ _ _ _ _ _ _ _ _ _ _ _ _ _ _ _ _ _ _ _ _ _ _ _ _ _ _ _ _ _ _ _ _ _ _ _ _ _ _ _ _ _ _ _ _ _ _ _ _ _ _ _ _ _ _ _ _ _ _ _ _ _ _ _ _ _ _ _ _ _ _ _ _ _ _ _ _ _ _ _ _ _ _ _ _ _ _ _ _ _ _ _ _ _ _ _ _ _ _ _ _ _ _ _ _ _ _ _ _ _ _ _ _ _ _ _ _ _ _ _ _ _ _ _ _ _ _ _ _ _ _ _ _ _ _ _ _ ?_)
        intro u191 u192 u193 u194 u195 u196 u197 u198 u199 u200 u201 u202 u203 u204 wy hy
        have HY9 := Lib.hid hy
        clear hy
        go_wp2_with fail
        clear g1' g2' d0 ha hc
        go_roundw
        case rel => exact ⟨v + 1, by omega, by go_num, Lib.hid (by rw [HST.out]; exact HY9.out)⟩
        case measure => simp [intOf]; omega
      · have HST := Lib.hid (HNO.out (fun e => by rcases e.2.2.2 with e | e <;> omega))
        go_wp2_with fail
        refine wp_atEnd (mv_F _ u v e0 p (by omega) g s hu12 cu ha (by omega) hv12 cv hc (by omega) z HZ2.out (by omega) _ _ _ _ _ _ _ _ _ _ _ _ _ _ _ _ _ _ _ _ _ _ _ _ _ _ _ _ _ _ _ _ _ _ _ _ _ _ _ _ _ _ _ _ _ _ _ _ _ _ _ _ _ _ _ _ _ _ _ _ _ _ _ _ _ _ _ _ _ _ _ _ _ _ _ _ _ _ _ _ _ _ _ _ _ _ _ _ _ _ _ _ _ _ _ _ _ _ _ _ _ _ _ _ _ _ _ _ _ _ _ _ _ _ _ _ _ _ _ _ _ _ _ _ _ _ _ _ _ _ _ _ _ _ _ _ _ _ _ _ _ _ _ _ _ _ _ _ _ _ _ _ _ _ _ _ _ _ _ _ _ _ _ _ _ _ _ _ _ _ _ _ _ _ _ _ _ _ _ _ _ _ _ _ _ _ _ _ _ _ _ _ _ _ _ _ _ _ _ _ _ _ _ _ _ _ _ _ ?_)
        intro u149 u150 u151 u152 u153 u154 u155 u156 u157 u158 u159 u160 u161 u162 u163 u164 u165 u166 u167 u168 u169 u170 u171 u172 u173 u174 u175 u176 u177 u178 u179 u180 u181 u182 u183 u184 u185 u186 u187 u188 u189 wx hx
        have HX9 := Lib.hid hx
        clear hx
        go_wp2_with fail
        clear g1' g2' d0 ha hc
        go_roundw
        case rel => exact ⟨v + 1, by omega, by go_num, Lib.hid (by rw [HST.out]; exact HI3.out.next HX9.out)⟩
        case measure => simp [intOf]; omega
noncomputable def u_loop_code : Code := ((Tryd.f34.body.bind (loopOf 34)).getD .skip)
set_option maxRecDepth 1000000 in
set_option maxHeartbeats 16000000 in
theorem u_loop (w1 wr : World) (h : Su.Ha) (A : Option Addr) (B g N n s c : Nat) (hn12 : n ≤ 12) (hl1 : n ≤ 9223372036854775807) (hlt : s < N) (hd0 : w1.cell? ⟨B, 0, none⟩ = some (.slice A n c)) (HG : Hid (Rs (Rs RI) w1 (.slice A n c) h.pr)) (HK : Hid (Su.Ok h ∧ h.pr.length = n)) (X4 : List Su.Way) (hX4l : X4.length = N * 12) (HO : Hid (Owns w1 wr [wrow g N X4])) (c0 c2 c3 c5 c6 c8 c9 c10 c11 c12 c13 c14 c15 c16 c17 c18 c19 c20 c21 c22 c23 c24 c25 c26 c27 c28 c29 c30 c31 c32 c33 c34 c35 c36 c37 c38 c39 c40 c41 c42 c43 c44 c45 c46 c47 c48 c49 c50 c51 c52 c53 c54 c55 c56 c57 c58 c59 c60 c61 c62 c63 c64 c65 c66 c67 c68 c69 c70 c71 c72 c73 c74 c75 c76 c77 c78 c79 c80 c81 c82 c83 c84 c85 c86 c87 c88 c89 c90 c91 c92 c93 c94 c95 c96 c97 c98 c99 c100 c101 c102 c103 c104 c105 c106 c107 c108 c109 c110 c111 c112 c113 c114 c115 c116 c117 c118 c119 c120 c121 c122 c123 c124 c125 c126 c127 c128 c129 c130 c131 c132 c135 c136 c137 c138 c139 c140 c141 c142 c143 c144 c145 c146 c147 c148 c149 c150 c151 c152 c153 c154 c155 c156 c157 c158 c159 c160 c161 c162 c163 c164 c165 c166 c167 c168 c169 c170 c171 c172 c173 c174 c175 c176 c177 c178 c179 c180 c181 c182 c183 c184 c185 c186 c187 c188 c189 c190 c191 c192 c193 c194 c195 c196 c197 c198 c199 c200 c201 c202 c203 c204 c205 c206 c207 c208 c209 : Value) (df : List Deferred) (Q0 : Exit → Act → World → Prop)
    (hexit : ∀ (u15 u16 u17 u134 u135 u136 u137 u138 u139 u140 u141 u142 u143 u144 u145 u146 u147 u148 u149 u150 u151 u152 u153 u154 u155 u156 u157 u158 u159 u160 u161 u162 u163 u164 u165 u166 u167 u168 u169 u170 u171 u172 u173 u174 u175 u176 u177 u178 u179 u180 u181 u182 u183 u184 u185 u186 u187 u188 u189 u190 u191 u192 u193 u194 u195 u196 u197 u198 u199 u200 u201 u202 u203 u204 u205 u206 : Value) (wx : World), Owns w1 wx [wrow g N (Su.rep (fun u W => Su.rep (fun v W => Su.moveStep h s u v W) n W) n X4)] → Q0 (.exit 12) ⟨#[c0, .pointer (some ⟨B, 0, none⟩), c2, c3, .int .i64 (n : Nat), c5, c6, .pointer (some ⟨g, s * 36, none⟩), c8, c9, c10, c11, c12, c13, c14, u15, u16, u17, c18, c19, c20, c21, c22, c23, c24, c25, c26, c27, c28, c29, c30, c31, c32, c33, c34, c35, c36, c37, c38, c39, c40, c41, c42, c43, c44, c45, c46, c47, c48, c49, c50, c51, c52, c53, c54, c55, c56, c57, c58, c59, c60, c61, c62, c63, c64, c65, c66, c67, c68, c69, c70, c71, c72, c73, c74, c75, c76, c77, c78, c79, c80, c81, c82, c83, c84, c85, c86, c87, c88, c89, c90, c91, c92, c93, c94, c95, c96, c97, c98, c99, c100, c101, c102, c103, c104, c105, c106, c107, c108, c109, c110, c111, c112, c113, c114, c115, c116, c117, c118, c119, c120, c121, c122, c123, c124, c125, c126, c127, c128, c129, c130, c131, c132, .int .i64 (n : Nat), u134, u135, u136, u137, u138, u139, u140, u141, u142, u143, u144, u145, u146, u147, u148, u149, u150, u151, u152, u153, u154, u155, u156, u157, u158, u159, u160, u161, u162, u163, u164, u165, u166, u167, u168, u169, u170, u171, u172, u173, u174, u175, u176, u177, u178, u179, u180, u181, u182, u183, u184, u185, u186, u187, u188, u189, u190, u191, u192, u193, u194, u195, u196, u197, u198, u199, u200, u201, u202, u203, u204, u205, u206, c207, c208, c209], df⟩ wx) :
    Code.wp Tryd.prog u_loop_code Q0 ⟨#[c0, .pointer (some ⟨B, 0, none⟩), c2, c3, .int .i64 (n : Nat), c5, c6, .pointer (some ⟨g, s * 36, none⟩), c8, c9, c10, c11, c12, c13, c14, c15, c16, c17, c18, c19, c20, c21, c22, c23, c24, c25, c26, c27, c28, c29, c30, c31, c32, c33, c34, c35, c36, c37, c38, c39, c40, c41, c42, c43, c44, c45, c46, c47, c48, c49, c50, c51, c52, c53, c54, c55, c56, c57, c58, c59, c60, c61, c62, c63, c64, c65, c66, c67, c68, c69, c70, c71, c72, c73, c74, c75, c76, c77, c78, c79, c80, c81, c82, c83, c84, c85, c86, c87, c88, c89, c90, c91, c92, c93, c94, c95, c96, c97, c98, c99, c100, c101, c102, c103, c104, c105, c106, c107, c108, c109, c110, c111, c112, c113, c114, c115, c116, c117, c118, c119, c120, c121, c122, c123, c124, c125, c126, c127, c128, c129, c130, c131, c132, .int .i64 (n : Nat), .int .i64 0, c135, c136, c137, c138, c139, c140, c141, c142, c143, c144, c145, c146, c147, c148, c149, c150, c151, c152, c153, c154, c155, c156, c157, c158, c159, c160, c161, c162, c163, c164, c165, c166, c167, c168, c169, c170, c171, c172, c173, c174, c175, c176, c177, c178, c179, c180, c181, c182, c183, c184, c185, c186, c187, c188, c189, c190, c191, c192, c193, c194, c195, c196, c197, c198, c199, c200, c201, c202, c203, c204, c205, c206, c207, c208, c209], df⟩ wr := by
  have HE := Lib.hid hexit
  clear hexit
  conv => arg 2; whnf
  dsimp only
  go_loopw [134] (fun vi wr => ∃ k : Nat, k ≤ n ∧ vi = .int .i64 k ∧ Hid (Owns w1 wr [wrow g N (Su.rep (fun u W => Su.rep (fun v W => Su.moveStep h s u v W) n W) k X4)])) (fun vi _ => n - (intOf vi).toNat)
  case atStart => exact ⟨0, Nat.zero_le _, rfl, HO⟩
  case round =>
    obtain ⟨k, hk2, rfl, HI2⟩ := hrel
    by_cases hlt6 : k < n
    case neg =>
      obtain rfl : k = n := by omega
      go_wp2_with fail
      exact HE.out _ _ _ _ _ _ _ _ _ _ _ _ _ _ _ _ _ _ _ _ _ _ _ _ _ _ _ _ _ _ _ _ _ _ _ _ _ _ _ _ _ _ _ _ _ _ _ _ _ _ _ _ _ _ _ _ _ _ _ _ _ _ _ _ _ _ _ _ _ _ _ _ _ _ _ _ wr HI2.out
    case pos =>
      obtain ⟨X5, hX5⟩ : ∃ X, Su.rep (fun u W => Su.rep (fun v W => Su.moveStep h s u v W) n W) k X4 = X := ⟨_, rfl⟩
      have hX5l : X5.length = N * 12 := by rw [← hX5, Su.rep_len (fun u W => Su.rep_len (fun v W => Su.moveStep_len h s u v W) n W)]; exact hX4l
      have hst5 : Su.rep (fun u W => Su.rep (fun v W => Su.moveStep h s u v W) n W) (k + 1) X4 = Su.rep (fun v W => Su.moveStep h s k v W) n X5 := by rw [Su.rep_succ, hX5]
      rw [hX5] at HI2
      have HS5 := Lib.hid hst5
      clear hX5 hst5
      go_wp2_with fail
      refine mv_loop w1 wr h A B g N n s c hn12 hl1 hlt hd0 HG HK k hlt6 X5 hX5l HI2 _ _ _ _ _ _ _ _ _ _ _ _ _ _ _ _ _ _ _ _ _ _ _ _ _ _ _ _ _ _ _ _ _ _ _ _ _ _ _ _ _ _ _ _ _ _ _ _ _ _ _ _ _ _ _ _ _ _ _ _ _ _ _ _ _ _ _ _ _ _ _ _ _ _ _ _ _ _ _ _ _ _ _ _ _ _ _ _ _ _ _ _ _ _ _ _ _ _ _ _ _ _ _ _ _ _ _ _ _ _ _ _ _ _ _ _ _ _ _ _ _ _ _ _ _ _ _ _ _ _ _ _ _ _ _ _ _ _ _ _ _ _ _ _ _ _ _ _ _ _ _ _ _ _ _ _ _ _ _ _ _ _ _ _ _ _ _ _ _ _ _ _ _ _ _ _ _ _ _ _ _ _ _ _ _ _ _ _ _ _ _ _ _ _ _ _ _ _ _ _ _ _ _ _ _ _ _ ?_
      intro u16 u17 u138 u139 u140 u141 u142 u143 u144 u145 u146 u147 u148 u149 u150 u151 u152 u153 u154 u155 u156 u157 u158 u159 u160 u161 u162 u163 u164 u165 u166 u167 u168 u169 u170 u171 u172 u173 u174 u175 u176 u177 u178 u179 u180 u181 u182 u183 u184 u185 u186 u187 u188 u189 u190 u191 u192 u193 u194 u195 u196 u197 u198 u199 u200 u201 u202 u203 u204 u205 wx hx
      have HX := Lib.hid hx
      clear hx
      go_wp2_with fail
      go_roundw
      case rel => exact ⟨k + 1, by omega, by go_num, Lib.hid (by rw [HS5.out]; exact HX.out)⟩
      case measure => simp [intOf]; omega
noncomputable def i_loop_code : Code := ((Tryd.f34.body.bind (loopOf 32)).getD .skip)
set_option maxRecDepth 1000000 in
set_option maxHeartbeats 16000000 in
theorem i_loop (w1 wr : World) (h : Su.Ha) (A : Option Addr) (B g N n s c : Nat) (hn12 : n ≤ 12) (hl1 : n ≤ 9223372036854775807) (hlt : s < N) (hd0 : w1.cell? ⟨B, 0, none⟩ = some (.slice A n c)) (HG : Hid (Rs (Rs RI) w1 (.slice A n c) h.pr)) (HK : Hid (Su.Ok h ∧ h.pr.length = n)) (X4 : List Su.Way) (hX4l : X4.length = N * 12) (HO : Hid (Owns w1 wr [wrow g N X4])) (c0 c2 c3 c5 c6 c8 c9 c10 c11 c12 c13 c14 c15 c16 c17 c18 c19 c20 c21 c22 c23 c24 c25 c26 c27 c28 c29 c30 c31 c32 c33 c34 c35 c36 c37 c38 c39 c40 c41 c42 c43 c44 c45 c46 c47 c48 c49 c50 c51 c52 c53 c54 c55 c56 c57 c58 c59 c60 c61 c62 c63 c64 c65 c66 c67 c68 c69 c70 c71 c72 c73 c74 c75 c76 c77 c78 c79 c80 c81 c82 c83 c84 c85 c86 c87 c88 c89 c90 c91 c92 c93 c94 c95 c96 c97 c98 c99 c100 c101 c102 c103 c104 c105 c106 c107 c108 c109 c110 c111 c112 c113 c114 c115 c116 c117 c118 c119 c120 c121 c122 c123 c124 c125 c126 c127 c128 c129 c132 c133 c134 c135 c136 c137 c138 c139 c140 c141 c142 c143 c144 c145 c146 c147 c148 c149 c150 c151 c152 c153 c154 c155 c156 c157 c158 c159 c160 c161 c162 c163 c164 c165 c166 c167 c168 c169 c170 c171 c172 c173 c174 c175 c176 c177 c178 c179 c180 c181 c182 c183 c184 c185 c186 c187 c188 c189 c190 c191 c192 c193 c194 c195 c196 c197 c198 c199 c200 c201 c202 c203 c204 c205 c206 c207 c208 c209 : Value) (df : List Deferred) (Q0 : Exit → Act → World → Prop)
    (hexit : ∀ (u15 u16 u17 u131 u132 u133 u134 u135 u136 u137 u138 u139 u140 u141 u142 u143 u144 u145 u146 u147 u148 u149 u150 u151 u152 u153 u154 u155 u156 u157 u158 u159 u160 u161 u162 u163 u164 u165 u166 u167 u168 u169 u170 u171 u172 u173 u174 u175 u176 u177 u178 u179 u180 u181 u182 u183 u184 u185 u186 u187 u188 u189 u190 u191 u192 u193 u194 u195 u196 u197 u198 u199 u200 u201 u202 u203 u204 u205 u206 u207 : Value) (wx : World), Owns w1 wx [wrow g N (Su.rep (fun _ W => Su.rep (fun u W => Su.rep (fun v W => Su.moveStep h s u v W) n W) n W) n X4)] → Q0 (.exit 10) ⟨#[c0, .pointer (some ⟨B, 0, none⟩), c2, c3, .int .i64 (n : Nat), c5, c6, .pointer (some ⟨g, s * 36, none⟩), c8, c9, c10, c11, c12, c13, c14, u15, u16, u17, c18, c19, c20, c21, c22, c23, c24, c25, c26, c27, c28, c29, c30, c31, c32, c33, c34, c35, c36, c37, c38, c39, c40, c41, c42, c43, c44, c45, c46, c47, c48, c49, c50, c51, c52, c53, c54, c55, c56, c57, c58, c59, c60, c61, c62, c63, c64, c65, c66, c67, c68, c69, c70, c71, c72, c73, c74, c75, c76, c77, c78, c79, c80, c81, c82, c83, c84, c85, c86, c87, c88, c89, c90, c91, c92, c93, c94, c95, c96, c97, c98, c99, c100, c101, c102, c103, c104, c105, c106, c107, c108, c109, c110, c111, c112, c113, c114, c115, c116, c117, c118, c119, c120, c121, c122, c123, c124, c125, c126, c127, c128, c129, .int .i64 (n : Nat), u131, u132, u133, u134, u135, u136, u137, u138, u139, u140, u141, u142, u143, u144, u145, u146, u147, u148, u149, u150, u151, u152, u153, u154, u155, u156, u157, u158, u159, u160, u161, u162, u163, u164, u165, u166, u167, u168, u169, u170, u171, u172, u173, u174, u175, u176, u177, u178, u179, u180, u181, u182, u183, u184, u185, u186, u187, u188, u189, u190, u191, u192, u193, u194, u195, u196, u197, u198, u199, u200, u201, u202, u203, u204, u205, u206, u207, c208, c209], df⟩ wx) :
    Code.wp Tryd.prog i_loop_code Q0 ⟨#[c0, .pointer (some ⟨B, 0, none⟩), c2, c3, .int .i64 (n : Nat), c5, c6, .pointer (some ⟨g, s * 36, none⟩), c8, c9, c10, c11, c12, c13, c14, c15, c16, c17, c18, c19, c20, c21, c22, c23, c24, c25, c26, c27, c28, c29, c30, c31, c32, c33, c34, c35, c36, c37, c38, c39, c40, c41, c42, c43, c44, c45, c46, c47, c48, c49, c50, c51, c52, c53, c54, c55, c56, c57, c58, c59, c60, c61, c62, c63, c64, c65, c66, c67, c68, c69, c70, c71, c72, c73, c74, c75, c76, c77, c78, c79, c80, c81, c82, c83, c84, c85, c86, c87, c88, c89, c90, c91, c92, c93, c94, c95, c96, c97, c98, c99, c100, c101, c102, c103, c104, c105, c106, c107, c108, c109, c110, c111, c112, c113, c114, c115, c116, c117, c118, c119, c120, c121, c122, c123, c124, c125, c126, c127, c128, c129, .int .i64 (n : Nat), .int .i64 0, c132, c133, c134, c135, c136, c137, c138, c139, c140, c141, c142, c143, c144, c145, c146, c147, c148, c149, c150, c151, c152, c153, c154, c155, c156, c157, c158, c159, c160, c161, c162, c163, c164, c165, c166, c167, c168, c169, c170, c171, c172, c173, c174, c175, c176, c177, c178, c179, c180, c181, c182, c183, c184, c185, c186, c187, c188, c189, c190, c191, c192, c193, c194, c195, c196, c197, c198, c199, c200, c201, c202, c203, c204, c205, c206, c207, c208, c209], df⟩ wr := by
  have HE := Lib.hid hexit
  clear hexit
  conv => arg 2; whnf
  dsimp only
  go_loopw [131] (fun vi wr => ∃ k : Nat, k ≤ n ∧ vi = .int .i64 k ∧ Hid (Owns w1 wr [wrow g N (Su.rep (fun _ W => Su.rep (fun u W => Su.rep (fun v W => Su.moveStep h s u v W) n W) n W) k X4)])) (fun vi _ => n - (intOf vi).toNat)
  case atStart => exact ⟨0, Nat.zero_le _, rfl, HO⟩
  case round =>
    obtain ⟨k, hk2, rfl, HI2⟩ := hrel
    by_cases hlt6 : k < n
    case neg =>
      obtain rfl : k = n := by omega
      go_wp2_with fail
      exact HE.out _ _ _ _ _ _ _ _ _ _ _ _ _ _ _ _ _ _ _ _ _ _ _ _ _ _ _ _ _ _ _ _ _ _ _ _ _ _ _ _ _ _ _ _ _ _ _ _ _ _ _ _ _ _ _ _ _ _ _ _ _ _ _ _ _ _ _ _ _ _ _ _ _ _ _ _ _ _ _ _ wr HI2.out
    case pos =>
      obtain ⟨X5, hX5⟩ : ∃ X, Su.rep (fun _ W => Su.rep (fun u W => Su.rep (fun v W => Su.moveStep h s u v W) n W) n W) k X4 = X := ⟨_, rfl⟩
      have hX5l : X5.length = N * 12 := by rw [← hX5, Su.rep_len (fun _ W => Su.rep_len (fun u W => Su.rep_len (fun v W => Su.moveStep_len h s u v W) n W) n W)]; exact hX4l
      have hst5 : Su.rep (fun _ W => Su.rep (fun u W => Su.rep (fun v W => Su.moveStep h s u v W) n W) n W) (k + 1) X4 = Su.rep (fun u W => Su.rep (fun v W => Su.moveStep h s u v W) n W) n X5 := by rw [Su.rep_succ, hX5]
      rw [hX5] at HI2
      have HS5 := Lib.hid hst5
      clear hX5 hst5
      go_wp2_with fail
      refine u_loop w1 wr h A B g N n s c hn12 hl1 hlt hd0 HG HK X5 hX5l HI2 _ _ _ _ _ _ _ _ _ _ _ _ _ _ _ _ _ _ _ _ _ _ _ _ _ _ _ _ _ _ _ _ _ _ _ _ _ _ _ _ _ _ _ _ _ _ _ _ _ _ _ _ _ _ _ _ _ _ _ _ _ _ _ _ _ _ _ _ _ _ _ _ _ _ _ _ _ _ _ _ _ _ _ _ _ _ _ _ _ _ _ _ _ _ _ _ _ _ _ _ _ _ _ _ _ _ _ _ _ _ _ _ _ _ _ _ _ _ _ _ _ _ _ _ _ _ _ _ _ _ _ _ _ _ _ _ _ _ _ _ _ _ _ _ _ _ _ _ _ _ _ _ _ _ _ _ _ _ _ _ _ _ _ _ _ _ _ _ _ _ _ _ _ _ _ _ _ _ _ _ _ _ _ _ _ _ _ _ _ _ _ _ _ _ _ _ _ _ _ _ _ _ _ _ _ _ _ ?_
      intro u15 u16 u17 u134 u135 u136 u137 u138 u139 u140 u141 u142 u143 u144 u145 u146 u147 u148 u149 u150 u151 u152 u153 u154 u155 u156 u157 u158 u159 u160 u161 u162 u163 u164 u165 u166 u167 u168 u169 u170 u171 u172 u173 u174 u175 u176 u177 u178 u179 u180 u181 u182 u183 u184 u185 u186 u187 u188 u189 u190 u191 u192 u193 u194 u195 u196 u197 u198 u199 u200 u201 u202 u203 u204 u205 u206 wx hx
      have HX := Lib.hid hx
      clear hx
      go_wp2_with fail
      go_roundw
      case rel => exact ⟨k + 1, by omega, by go_num, Lib.hid (by rw [HS5.out]; exact HX.out)⟩
      case measure => simp [intOf]; omega
end Go.Proofs.YtenafgphaceidaaDoor
