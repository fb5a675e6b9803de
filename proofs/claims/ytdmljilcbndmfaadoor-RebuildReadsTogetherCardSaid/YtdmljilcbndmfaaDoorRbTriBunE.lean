/- What the program's functions do, step by step: part E of the texts for this claim; no condition beyond what each theorem states. -/
import Derived.Lib.AppendStr
import Derived.Deep.RegionHeld3
import Derived.Test.YtdmljilcbndmfaaDoorRbTriBunA
import Derived.Test.YtdmljilcbndmfaaDoorRbTriBunB
import Derived.Test.YtdmljilcbndmfaaDoorRbTriBunC
import Derived.Test.YtdmljilcbndmfaaDoorRbTriBunD
/- THE DRAWN REGION 13 of sanity of the laws of rebuild. -/
namespace Go.Proofs.YtdmljilcbndmfaaDoor
open Go.RowKit Go.Shelf
theorem sSame_self (r : Rb.Rec) (v u : Value) (w : World) (ha : RRec w v r) (hb : RRec w u r) : Calls Tryd.prog 18 #[v, u] w fun e w' => e = .returned (.bool true) ∧ Ext w w' := by
  have h := sSame_any r r v u w ha hb
  rw [decide_eq_true rfl] at h
  exact h
theorem sSameAll_self (r : List Rb.Rec) (v u : Value) (w : World) (ha : RRs w v r) (hb : RRs w u r) : Calls Tryd.prog 19 #[v, u] w fun e w' => e = .returned (.bool true) ∧ Ext w w' := by
  have h := sSameAll_any r r v u w ha hb
  rw [decide_eq_true rfl] at h
  exact h
theorem run_build2_int (w : World) (a : Act) (o : Oper) (x y : Int) (ho : o.op = .buildSlice 27 2 #[(0, .const (.int .i64 x)), (1, .const (.int .i64 y))]) : (execOp a.eval o).run Tryd.prog w = .ok (.value (.slice (some ⟨w.heap.size, 0, none⟩) 2 2)) (w.alloc (.cells #[.int .i64 x, .int .i64 y] 3)) := by
  unfold execOp
  simp only [ho]
  go_simp
theorem run_build2_u8 (w : World) (a : Act) (o : Oper) (x y : Int) (ho : o.op = .buildSlice 28 2 #[(0, .const (.int .u8 x)), (1, .const (.int .u8 y))]) : (execOp a.eval o).run Tryd.prog w = .ok (.value (.slice (some ⟨w.heap.size, 0, none⟩) 2 2)) (w.alloc (.cells #[.int .u8 x, .int .u8 y] 5)) := by
  unfold execOp
  simp only [ho]
  go_simp
noncomputable def san_near_code : Code := ((Tryd.f11.body.bind (regionOf 13)).getD .skip)
def san_near_dsts : List (Option Nat) := [some 121, some 122, some 123, some 124, some 125, some 126, some 127, some 128, some 129, some 130, some 131, some 132, some 133, some 134, some 135, some 136, some 137, some 138, some 139, some 140, some 141, some 142, some 143, some 144, some 23]
theorem san_near_apart : apartD san_near_dsts = true := by decide +kernel
set_option maxRecDepth 1000000 in
set_option maxHeartbeats 16000000 in
theorem san_near (Qa Qb Ql XF cL : Nat) (LA FAa CAa FAb CAb FAl CAl FAz CAz : Option Addr) (fca cca fcb ccb fcl ccl fcz ccz : Nat) (wr : World) (hCa : Cells wr Qa [.int .i64 0, .slice FAa 2 fca, .slice CAa 2 cca]) (hCb : Cells wr Qb [.int .i64 0, .slice FAb 4 fcb, .slice CAb 4 ccb]) (hCl : Cells wr Ql [.int .i64 5, .slice FAl 2 fcl, .slice CAl 2 ccl]) (hC0 : Cells wr XF [.int .i64 0, .slice FAz 4 fcz, .slice CAz 4 ccz]) (hRa : RRec wr (.agg #[.int .i64 0, .slice FAa 2 fca, .slice CAa 2 cca]) ⟨0, [1, 4], [1, 1]⟩) (hRb : RRec wr (.agg #[.int .i64 0, .slice FAb 4 fcb, .slice CAb 4 ccb]) ⟨0, [1, 2, 3, 6], [2, 4, 8, 1]⟩) (hRl : RRec wr (.agg #[.int .i64 5, .slice FAl 2 fcl, .slice CAl 2 ccl]) ⟨5, [2, 3], [1, 1]⟩) (hR0 : RRec wr (.agg #[.int .i64 0, .slice FAz 4 fcz, .slice CAz 4 ccz]) ⟨0, [1, 2, 3, 6], [2, 4, 8, 1]⟩) (hAL : RRs wr (.slice LA 3 cL) [⟨0, [1, 2, 3, 6], [2, 4, 8, 1]⟩, ⟨0, [1, 2, 5, 6], [2, 12, 8, 1]⟩, ⟨0, [1, 3, 5, 6], [2, 12, 4, 1]⟩]) (hFAR : RRs wr (.slice (some ⟨XF, 0, none⟩) 3 3) [⟨0, [1, 2, 3, 6], [2, 4, 8, 1]⟩, ⟨0, [1, 2, 5, 6], [2, 12, 8, 1]⟩, ⟨0, [1, 3, 5, 6], [2, 12, 4, 1]⟩]) (c0 c1 c3 c5 c6 c7 c9 c11 c12 c13 c14 c15 c16 c17 c18 c19 c20 c21 c23 c24 c25 c26 c27 c28 c29 c30 c31 c32 c33 c34 c35 c36 c37 c38 c39 c40 c41 c42 c43 c44 c45 c46 c47 c48 c49 c50 c51 c52 c53 c54 c55 c56 c57 c58 c59 c60 c61 c62 c63 c64 c65 c66 c67 c68 c69 c70 c71 c72 c73 c74 c75 c76 c77 c78 c79 c80 c81 c82 c83 c84 c85 c86 c87 c88 c89 c90 c91 c92 c93 c94 c95 c96 c97 c98 c99 c100 c101 c102 c103 c104 c105 c106 c107 c108 c109 c110 c111 c112 c113 c114 c115 c116 c117 c118 c119 c120 c121 c122 c123 c124 c125 c126 c127 c128 c129 c130 c131 c132 c133 c134 c135 c136 c137 c138 c139 c140 c141 c142 c143 c144 c145 c146 c147 c148 c149 c150 c151 c152 c153 c154 c155 c156 c157 c158 c159 c160 c161 c162 c163 c164 c165 c166 c167 c168 c169 c170 c171 c172 c173 : Value) (df : List Deferred) (K : Act → World → Prop)
    (hK : ∀  (u121 u122 u123 u124 u125 u126 u127 u128 u129 u130 u131 u132 u133 u134 u135 u136 u137 u138 u139 u140 u141 u142 u143 u144 : Value) (wx : World), Ext wr wx → K ⟨#[c0, c1, .pointer (some ⟨Qa, 0, none⟩), c3, .slice LA 3 cL, c5, c6, c7, .pointer (some ⟨Qb, 0, none⟩), c9, .pointer (some ⟨Ql, 0, none⟩), c11, c12, c13, c14, c15, c16, c17, c18, c19, c20, c21, .slice (some ⟨XF, 0, none⟩) 3 3, .bool true, c24, c25, c26, c27, c28, c29, c30, c31, c32, c33, c34, c35, c36, c37, c38, c39, c40, c41, c42, c43, c44, c45, c46, c47, c48, c49, c50, c51, c52, c53, c54, c55, c56, c57, c58, c59, c60, c61, c62, c63, c64, c65, c66, c67, c68, c69, c70, c71, c72, c73, c74, c75, c76, c77, c78, c79, c80, c81, c82, c83, c84, c85, c86, c87, c88, c89, c90, c91, c92, c93, c94, c95, c96, c97, c98, c99, c100, c101, c102, c103, c104, c105, c106, c107, c108, c109, c110, c111, c112, c113, c114, c115, c116, c117, c118, c119, c120, u121, u122, u123, u124, u125, u126, u127, u128, u129, u130, u131, u132, u133, u134, u135, u136, u137, u138, u139, u140, u141, u142, u143, u144, c145, c146, c147, c148, c149, c150, c151, c152, c153, c154, c155, c156, c157, c158, c159, c160, c161, c162, c163, c164, c165, c166, c167, c168, c169, c170, c171, c172, c173], df⟩ wx) :
    Code.wp Tryd.prog san_near_code (AtEnd K) ⟨#[c0, c1, .pointer (some ⟨Qa, 0, none⟩), c3, .slice LA 3 cL, c5, c6, c7, .pointer (some ⟨Qb, 0, none⟩), c9, .pointer (some ⟨Ql, 0, none⟩), c11, c12, c13, c14, c15, c16, c17, c18, c19, c20, c21, .slice (some ⟨XF, 0, none⟩) 3 3, c23, c24, c25, c26, c27, c28, c29, c30, c31, c32, c33, c34, c35, c36, c37, c38, c39, c40, c41, c42, c43, c44, c45, c46, c47, c48, c49, c50, c51, c52, c53, c54, c55, c56, c57, c58, c59, c60, c61, c62, c63, c64, c65, c66, c67, c68, c69, c70, c71, c72, c73, c74, c75, c76, c77, c78, c79, c80, c81, c82, c83, c84, c85, c86, c87, c88, c89, c90, c91, c92, c93, c94, c95, c96, c97, c98, c99, c100, c101, c102, c103, c104, c105, c106, c107, c108, c109, c110, c111, c112, c113, c114, c115, c116, c117, c118, c119, c120, c121, c122, c123, c124, c125, c126, c127, c128, c129, c130, c131, c132, c133, c134, c135, c136, c137, c138, c139, c140, c141, c142, c143, c144, c145, c146, c147, c148, c149, c150, c151, c152, c153, c154, c155, c156, c157, c158, c159, c160, c161, c162, c163, c164, c165, c166, c167, c168, c169, c170, c171, c172, c173], df⟩ wr := by
  conv => arg 2; whnf
  refine region_inv (by kernel_rfl) [[], [], [], [1, 2], [0, 3, 3], [4, 4], [5], [5], [6, 7, 5, 5], [5, 8], [9, 8], [10], [10], [12, 10], [13, 10], [11, 14, 10, 10], [10, 15], [16, 15], [17], [17], [17], [19, 20, 17, 17], [18, 21, 21, 17], [17, 22], [23, 22, 0, 1, 2, 3, 4, 5, 6, 7, 8, 9, 10, 11, 12, 13, 14, 15, 16, 17, 18, 19, 20, 21, 22, 23]] (by kernel_rfl) [0, 1, 2, 3, 4, 5, 6, 7, 8, 9, 10, 11, 12, 13, 14, 15, 16, 17, 18, 19, 20, 21, 22, 23, 24] (by decide +kernel) (by decide +kernel) (by decide +kernel) (fun L a wc => ∃ (ga : Nat) (gb : Nat) (gd : Nat) (ge : Nat), Inv san_near_dsts [.agg #[.int .i64 0, .slice FAa 2 fca, .slice CAa 2 cca], .slice (some ⟨ga, 0, none⟩) 2 2, .slice (some ⟨gb, 0, none⟩) 2 2, .agg #[.int .i64 0, .slice (some ⟨ga, 0, none⟩) 2 2, .slice (some ⟨gb, 0, none⟩) 2 2], .bool true, .bool true, .slice LA 3 cL, .slice (some ⟨XF, 0, none⟩) 3 3, .bool true, .bool true, .bool true, .agg #[.int .i64 0, .slice FAb 4 fcb, .slice CAb 4 ccb], .slice (some ⟨XF, 0, none⟩) 3 3, .pointer (some ⟨XF, 0, none⟩), .agg #[.int .i64 0, .slice FAz 4 fcz, .slice CAz 4 ccz], .bool true, .bool true, .bool true, .agg #[.int .i64 5, .slice FAl 2 fcl, .slice CAl 2 ccl], .slice (some ⟨gd, 0, none⟩) 2 2, .slice (some ⟨ge, 0, none⟩) 2 2, .agg #[.int .i64 5, .slice (some ⟨gd, 0, none⟩) 2 2, .slice (some ⟨ge, 0, none⟩) 2 2], .bool true, .bool true, .bool true] ⟨#[c0, c1, .pointer (some ⟨Qa, 0, none⟩), c3, .slice LA 3 cL, c5, c6, c7, .pointer (some ⟨Qb, 0, none⟩), c9, .pointer (some ⟨Ql, 0, none⟩), c11, c12, c13, c14, c15, c16, c17, c18, c19, c20, c21, .slice (some ⟨XF, 0, none⟩) 3 3, c23, c24, c25, c26, c27, c28, c29, c30, c31, c32, c33, c34, c35, c36, c37, c38, c39, c40, c41, c42, c43, c44, c45, c46, c47, c48, c49, c50, c51, c52, c53, c54, c55, c56, c57, c58, c59, c60, c61, c62, c63, c64, c65, c66, c67, c68, c69, c70, c71, c72, c73, c74, c75, c76, c77, c78, c79, c80, c81, c82, c83, c84, c85, c86, c87, c88, c89, c90, c91, c92, c93, c94, c95, c96, c97, c98, c99, c100, c101, c102, c103, c104, c105, c106, c107, c108, c109, c110, c111, c112, c113, c114, c115, c116, c117, c118, c119, c120, c121, c122, c123, c124, c125, c126, c127, c128, c129, c130, c131, c132, c133, c134, c135, c136, c137, c138, c139, c140, c141, c142, c143, c144, c145, c146, c147, c148, c149, c150, c151, c152, c153, c154, c155, c156, c157, c158, c159, c160, c161, c162, c163, c164, c165, c166, c167, c168, c169, c170, c171, c172, c173], df⟩ L a ∧ Hid (Ext wr wc ∧ (L 1 = true → Cells wc ga [.int .i64 1, .int .i64 4]) ∧ (L 2 = true → Cells wc gb [.int .u8 1, .int .u8 1]) ∧ (L 19 = true → Cells wc gd [.int .i64 2, .int .i64 3]) ∧ (L 20 = true → Cells wc ge [.int .u8 1, .int .u8 1]))) ⟨0, 0, 0, 0, Inv.start, Lib.hid ⟨(Ext.refl wr).drew, fun h => (by cases h), fun h => (by cases h), fun h => (by cases h), fun h => by cases h⟩⟩ ?_ ?_
  · refine ⟨?_, ?_, ?_, ?_, ?_, ?_, ?_, ?_, ?_, ?_, ?_, ?_, ?_, ?_, ?_, ?_, ?_, ?_, ?_, ?_, ?_, ?_, ?_, ?_, ?_, trivial⟩
    ·
      rintro L a wc ⟨ga, gb, gd, ge, hv, HO⟩ hL hc hd
      have e0 : wc.cell? ⟨Qa, 0, none⟩ = some (.int .i64 0) := HO.out.1.cell (hCa 0 _ rfl)
      have e1 : wc.cell? ⟨Qa, 1, none⟩ = some (.slice FAa 2 fca) := HO.out.1.cell (hCa 1 _ rfl)
      have e2 : wc.cell? ⟨Qa, 2, none⟩ = some (.slice CAa 2 cca) := HO.out.1.cell (hCa 2 _ rfl)
      exact wpOp_val rfl rfl (ex_load rfl ((hv.fixed 2 (by decide)).trans rfl) (by go_simp)) ⟨ga, gb, gd, ge, hv.put san_near_apart 0 rfl (lb rfl) (lb rfl) rfl, HO⟩
    ·
      rintro L a wc ⟨ga, gb, gd, ge, hv, HO⟩ hL hc hd
      have n3 : L 3 = false := Bool.eq_false_iff.2 fun h => Bool.false_ne_true (hL.symm.trans (hc 3 h 1 (by decide)))
      have hv := hv.reset 3 n3 (.agg #[.int .i64 0, .slice (some ⟨wc.heap.size, 0, none⟩) 2 2, .slice (some ⟨gb, 0, none⟩) 2 2])
      have hx : Ext wc (wc.alloc (.cells #[.int .i64 1, .int .i64 4] 3)) := (Ext.refl wc).alloc _
      exact wpOp_val rfl rfl (run_build2_int wc a _ _ _ rfl) ⟨wc.heap.size, gb, gd, ge, hv.put san_near_apart 1 rfl (lb rfl) (lb rfl) rfl, Lib.hid ⟨HO.out.1.trans hx, fun _ => cells_new wc #[.int .i64 1, .int .i64 4] 3, fun h => (HO.out.2.2.1 h).ext hx, fun h => (HO.out.2.2.2.1 h).ext hx, fun h => (HO.out.2.2.2.2 h).ext hx⟩⟩
    ·
      rintro L a wc ⟨ga, gb, gd, ge, hv, HO⟩ hL hc hd
      have n3 : L 3 = false := Bool.eq_false_iff.2 fun h => Bool.false_ne_true (hL.symm.trans (hc 3 h 2 (by decide)))
      have hv := hv.reset 3 n3 (.agg #[.int .i64 0, .slice (some ⟨ga, 0, none⟩) 2 2, .slice (some ⟨wc.heap.size, 0, none⟩) 2 2])
      have hx : Ext wc (wc.alloc (.cells #[.int .u8 1, .int .u8 1] 5)) := (Ext.refl wc).alloc _
      exact wpOp_val rfl rfl (run_build2_u8 wc a _ _ _ rfl) ⟨ga, wc.heap.size, gd, ge, hv.put san_near_apart 2 rfl (lb rfl) (lb rfl) rfl, Lib.hid ⟨HO.out.1.trans hx, fun h => (HO.out.2.1 h).ext hx, fun _ => cells_new wc #[.int .u8 1, .int .u8 1] 5, fun h => (HO.out.2.2.2.1 h).ext hx, fun h => (HO.out.2.2.2.2 h).ext hx⟩⟩
    ·
      rintro L a wc ⟨ga, gb, gd, ge, hv, HO⟩ hL hc hd
      refine wpOp_call (R := fun v w1 => v = .agg #[.int .i64 0, .slice (some ⟨ga, 0, none⟩) 2 2, .slice (some ⟨gb, 0, none⟩) 2 2] ∧ Ext wc w1) rfl rfl (ex_call rfl rfl (by simp only [List.map_toArray, List.map_cons, List.map_nil, (hv.get 1 rfl rfl (hd 1 (by decide))), (hv.get 2 rfl rfl (hd 2 (by decide)))]; rfl) (enters_of Tryd.func37 (by kernel_rfl) rfl _ _)) ((recipe8_any 0 _ _ 2 2 2 2 _ _ wc rfl rfl).mono (fun e w' h => ⟨_, h.1, rfl, h.2⟩)) ?_
      rintro v w' ⟨rfl, hx⟩
      exact ⟨ga, gb, gd, ge, hv.put san_near_apart 3 rfl (lb rfl) (lb rfl) rfl, Lib.hid ⟨HO.out.1.trans hx, fun h => (HO.out.2.1 h).ext hx, fun h => (HO.out.2.2.1 h).ext hx, fun h => (HO.out.2.2.2.1 h).ext hx, fun h => (HO.out.2.2.2.2 h).ext hx⟩⟩
    ·
      rintro L a wc ⟨ga, gb, gd, ge, hv, HO⟩ hL hc hd
      refine wpOp_call (R := fun v w1 => v = .bool true ∧ Ext wc w1) rfl rfl (ex_call rfl rfl (by simp only [List.map_toArray, List.map_cons, List.map_nil, (hv.get 0 rfl rfl (hd 0 (by decide))), (hv.get 3 rfl rfl (hd 3 (by decide)))]; rfl) (enters_of Tryd.func18 (by kernel_rfl) rfl _ _)) ((sSame_self ⟨0, [1, 4], [1, 1]⟩ _ _ wc (RRec.ext _ _ _ _ HO.out.1 hRa) (⟨_, _, rfl, rs_lit (l := [1, 4]) (HO.out.2.1 (hc 3 (hd 3 (by decide)) 1 (by decide))) rfl (by decide), rb_lit (l := [1, 1]) (HO.out.2.2.1 (hc 3 (hd 3 (by decide)) 2 (by decide))) (by decide)⟩ : RRec wc (.agg #[.int .i64 0, .slice (some ⟨ga, 0, none⟩) 2 2, .slice (some ⟨gb, 0, none⟩) 2 2]) ⟨0, [1, 4], [1, 1]⟩)).mono (fun e w' h => ⟨_, h.1, rfl, h.2⟩)) ?_
      rintro v w' ⟨rfl, hx⟩
      exact ⟨ga, gb, gd, ge, hv.put san_near_apart 4 rfl (lb rfl) (lb rfl) rfl, Lib.hid ⟨HO.out.1.trans hx, fun h => (HO.out.2.1 h).ext hx, fun h => (HO.out.2.2.1 h).ext hx, fun h => (HO.out.2.2.2.1 h).ext hx, fun h => (HO.out.2.2.2.2 h).ext hx⟩⟩
    ·
      rintro L a wc ⟨ga, gb, gd, ge, hv, HO⟩ hL hc hd
      exact wpOp_val rfl rfl (ex_move rfl (hv.get 4 rfl rfl (hd 4 (by decide)))) ⟨ga, gb, gd, ge, hv.put san_near_apart 5 rfl (lb rfl) (lb rfl) rfl, HO⟩
    ·
      rintro L a wc ⟨ga, gb, gd, ge, hv, HO⟩ hL hc hd
      exact wpOp_val rfl ((wanted_at rfl rfl (hv.get 5 rfl rfl (hd 5 (by decide)))).trans rfl) (ex_move rfl ((hv.fixed 4 (by decide)).trans rfl)) ⟨ga, gb, gd, ge, hv.put san_near_apart 6 rfl (lb rfl) (lb rfl) rfl, HO⟩
    ·
      rintro L a wc ⟨ga, gb, gd, ge, hv, HO⟩ hL hc hd
      exact wpOp_val rfl ((wanted_at rfl rfl (hv.get 5 rfl rfl (hd 5 (by decide)))).trans rfl) (ex_move rfl ((hv.fixed 22 (by decide)).trans rfl)) ⟨ga, gb, gd, ge, hv.put san_near_apart 7 rfl (lb rfl) (lb rfl) rfl, HO⟩
    ·
      rintro L a wc ⟨ga, gb, gd, ge, hv, HO⟩ hL hc hd
      refine wpOp_callw (R := fun v w1 => v = .bool true ∧ Ext wc w1) rfl ((wanted_at rfl rfl (hv.get 5 rfl rfl (hd 5 (by decide)))).trans rfl) (ex_call rfl rfl (by simp only [List.map_toArray, List.map_cons, List.map_nil, (hv.get 6 rfl rfl (hd 6 (by decide))), (hv.get 7 rfl rfl (hd 7 (by decide)))]; rfl) (enters_of Tryd.func19 (by kernel_rfl) rfl _ _)) ((sSameAll_self [⟨0, [1, 2, 3, 6], [2, 4, 8, 1]⟩, ⟨0, [1, 2, 5, 6], [2, 12, 8, 1]⟩, ⟨0, [1, 3, 5, 6], [2, 12, 4, 1]⟩] _ _ wc (RRs.ext _ _ _ _ HO.out.1 hAL) (RRs.ext _ _ _ _ HO.out.1 hFAR)).mono (fun e w' h => ⟨_, h.1, rfl, h.2⟩)) ?_
      rintro v w' ⟨rfl, hx⟩
      exact ⟨ga, gb, gd, ge, hv.put san_near_apart 8 rfl (lb rfl) (lb rfl) rfl, Lib.hid ⟨HO.out.1.trans hx, fun h => (HO.out.2.1 h).ext hx, fun h => (HO.out.2.2.1 h).ext hx, fun h => (HO.out.2.2.2.1 h).ext hx, fun h => (HO.out.2.2.2.2 h).ext hx⟩⟩
    ·
      rintro L a wc ⟨ga, gb, gd, ge, hv, HO⟩ hL hc hd
      exact wpOp_val rfl rfl (ex_pick rfl (hv.get 5 rfl rfl (hd 5 (by decide))) (hv.get 8 rfl rfl (hd 8 (by decide)))) ⟨ga, gb, gd, ge, hv.put san_near_apart 9 rfl (lb rfl) (lb rfl) rfl, HO⟩
    ·
      rintro L a wc ⟨ga, gb, gd, ge, hv, HO⟩ hL hc hd
      exact wpOp_val rfl rfl (ex_move rfl (hv.get 9 rfl rfl (hd 9 (by decide)))) ⟨ga, gb, gd, ge, hv.put san_near_apart 10 rfl (lb rfl) (lb rfl) rfl, HO⟩
    ·
      rintro L a wc ⟨ga, gb, gd, ge, hv, HO⟩ hL hc hd
      have e0 : wc.cell? ⟨Qb, 0, none⟩ = some (.int .i64 0) := HO.out.1.cell (hCb 0 _ rfl)
      have e1 : wc.cell? ⟨Qb, 1, none⟩ = some (.slice FAb 4 fcb) := HO.out.1.cell (hCb 1 _ rfl)
      have e2 : wc.cell? ⟨Qb, 2, none⟩ = some (.slice CAb 4 ccb) := HO.out.1.cell (hCb 2 _ rfl)
      exact wpOp_val rfl ((wanted_at rfl rfl (hv.get 10 rfl rfl (hd 10 (by decide)))).trans rfl) (ex_load rfl ((hv.fixed 8 (by decide)).trans rfl) (by go_simp)) ⟨ga, gb, gd, ge, hv.put san_near_apart 11 rfl (lb rfl) (lb rfl) rfl, HO⟩
    ·
      rintro L a wc ⟨ga, gb, gd, ge, hv, HO⟩ hL hc hd
      exact wpOp_val rfl ((wanted_at rfl rfl (hv.get 10 rfl rfl (hd 10 (by decide)))).trans rfl) (ex_move rfl ((hv.fixed 22 (by decide)).trans rfl)) ⟨ga, gb, gd, ge, hv.put san_near_apart 12 rfl (lb rfl) (lb rfl) rfl, HO⟩
    ·
      rintro L a wc ⟨ga, gb, gd, ge, hv, HO⟩ hL hc hd
      have u1 : (0 : Int) ≤ (0 : Int) := by omega
      have u2 : (0 : Int) < (3 : Int) := by omega
      exact wpOp_val rfl ((wanted_at rfl rfl (hv.get 10 rfl rfl (hd 10 (by decide)))).trans rfl) (ex_index rfl (hv.get 12 rfl rfl (hd 12 (by decide))) rfl (by go_simp)) ⟨ga, gb, gd, ge, hv.put san_near_apart 13 rfl (lb rfl) (lb rfl) rfl, HO⟩
    ·
      rintro L a wc ⟨ga, gb, gd, ge, hv, HO⟩ hL hc hd
      have e0 : wc.cell? ⟨XF, 0, none⟩ = some (.int .i64 0) := HO.out.1.cell (hC0 0 _ rfl)
      have e1 : wc.cell? ⟨XF, 1, none⟩ = some (.slice FAz 4 fcz) := HO.out.1.cell (hC0 1 _ rfl)
      have e2 : wc.cell? ⟨XF, 2, none⟩ = some (.slice CAz 4 ccz) := HO.out.1.cell (hC0 2 _ rfl)
      exact wpOp_val rfl ((wanted_at rfl rfl (hv.get 10 rfl rfl (hd 10 (by decide)))).trans rfl) (ex_load rfl (hv.get 13 rfl rfl (hd 13 (by decide))) (by go_simp)) ⟨ga, gb, gd, ge, hv.put san_near_apart 14 rfl (lb rfl) (lb rfl) rfl, HO⟩
    ·
      rintro L a wc ⟨ga, gb, gd, ge, hv, HO⟩ hL hc hd
      refine wpOp_callw (R := fun v w1 => v = .bool true ∧ Ext wc w1) rfl ((wanted_at rfl rfl (hv.get 10 rfl rfl (hd 10 (by decide)))).trans rfl) (ex_call rfl rfl (by simp only [List.map_toArray, List.map_cons, List.map_nil, (hv.get 11 rfl rfl (hd 11 (by decide))), (hv.get 14 rfl rfl (hd 14 (by decide)))]; rfl) (enters_of Tryd.func18 (by kernel_rfl) rfl _ _)) ((sSame_self ⟨0, [1, 2, 3, 6], [2, 4, 8, 1]⟩ _ _ wc (RRec.ext _ _ _ _ HO.out.1 hRb) (RRec.ext _ _ _ _ HO.out.1 hR0)).mono (fun e w' h => ⟨_, h.1, rfl, h.2⟩)) ?_
      rintro v w' ⟨rfl, hx⟩
      exact ⟨ga, gb, gd, ge, hv.put san_near_apart 15 rfl (lb rfl) (lb rfl) rfl, Lib.hid ⟨HO.out.1.trans hx, fun h => (HO.out.2.1 h).ext hx, fun h => (HO.out.2.2.1 h).ext hx, fun h => (HO.out.2.2.2.1 h).ext hx, fun h => (HO.out.2.2.2.2 h).ext hx⟩⟩
    ·
      rintro L a wc ⟨ga, gb, gd, ge, hv, HO⟩ hL hc hd
      exact wpOp_val rfl rfl (ex_pick rfl (hv.get 10 rfl rfl (hd 10 (by decide))) (hv.get 15 rfl rfl (hd 15 (by decide)))) ⟨ga, gb, gd, ge, hv.put san_near_apart 16 rfl (lb rfl) (lb rfl) rfl, HO⟩
    ·
      rintro L a wc ⟨ga, gb, gd, ge, hv, HO⟩ hL hc hd
      exact wpOp_val rfl rfl (ex_move rfl (hv.get 16 rfl rfl (hd 16 (by decide)))) ⟨ga, gb, gd, ge, hv.put san_near_apart 17 rfl (lb rfl) (lb rfl) rfl, HO⟩
    ·
      rintro L a wc ⟨ga, gb, gd, ge, hv, HO⟩ hL hc hd
      have e0 : wc.cell? ⟨Ql, 0, none⟩ = some (.int .i64 5) := HO.out.1.cell (hCl 0 _ rfl)
      have e1 : wc.cell? ⟨Ql, 1, none⟩ = some (.slice FAl 2 fcl) := HO.out.1.cell (hCl 1 _ rfl)
      have e2 : wc.cell? ⟨Ql, 2, none⟩ = some (.slice CAl 2 ccl) := HO.out.1.cell (hCl 2 _ rfl)
      exact wpOp_val rfl ((wanted_at rfl rfl (hv.get 17 rfl rfl (hd 17 (by decide)))).trans rfl) (ex_load rfl ((hv.fixed 10 (by decide)).trans rfl) (by go_simp)) ⟨ga, gb, gd, ge, hv.put san_near_apart 18 rfl (lb rfl) (lb rfl) rfl, HO⟩
    ·
      rintro L a wc ⟨ga, gb, gd, ge, hv, HO⟩ hL hc hd
      have n21 : L 21 = false := Bool.eq_false_iff.2 fun h => Bool.false_ne_true (hL.symm.trans (hc 21 h 19 (by decide)))
      have hv := hv.reset 21 n21 (.agg #[.int .i64 5, .slice (some ⟨wc.heap.size, 0, none⟩) 2 2, .slice (some ⟨ge, 0, none⟩) 2 2])
      have hx : Ext wc (wc.alloc (.cells #[.int .i64 2, .int .i64 3] 3)) := (Ext.refl wc).alloc _
      exact wpOp_val rfl ((wanted_at rfl rfl (hv.get 17 rfl rfl (hd 17 (by decide)))).trans rfl) (run_build2_int wc a _ _ _ rfl) ⟨ga, gb, wc.heap.size, ge, hv.put san_near_apart 19 rfl (lb rfl) (lb rfl) rfl, Lib.hid ⟨HO.out.1.trans hx, fun h => (HO.out.2.1 h).ext hx, fun h => (HO.out.2.2.1 h).ext hx, fun _ => cells_new wc #[.int .i64 2, .int .i64 3] 3, fun h => (HO.out.2.2.2.2 h).ext hx⟩⟩
    ·
      rintro L a wc ⟨ga, gb, gd, ge, hv, HO⟩ hL hc hd
      have n21 : L 21 = false := Bool.eq_false_iff.2 fun h => Bool.false_ne_true (hL.symm.trans (hc 21 h 20 (by decide)))
      have hv := hv.reset 21 n21 (.agg #[.int .i64 5, .slice (some ⟨gd, 0, none⟩) 2 2, .slice (some ⟨wc.heap.size, 0, none⟩) 2 2])
      have hx : Ext wc (wc.alloc (.cells #[.int .u8 1, .int .u8 1] 5)) := (Ext.refl wc).alloc _
      exact wpOp_val rfl ((wanted_at rfl rfl (hv.get 17 rfl rfl (hd 17 (by decide)))).trans rfl) (run_build2_u8 wc a _ _ _ rfl) ⟨ga, gb, gd, wc.heap.size, hv.put san_near_apart 20 rfl (lb rfl) (lb rfl) rfl, Lib.hid ⟨HO.out.1.trans hx, fun h => (HO.out.2.1 h).ext hx, fun h => (HO.out.2.2.1 h).ext hx, fun h => (HO.out.2.2.2.1 h).ext hx, fun _ => cells_new wc #[.int .u8 1, .int .u8 1] 5⟩⟩
    ·
      rintro L a wc ⟨ga, gb, gd, ge, hv, HO⟩ hL hc hd
      refine wpOp_callw (R := fun v w1 => v = .agg #[.int .i64 5, .slice (some ⟨gd, 0, none⟩) 2 2, .slice (some ⟨ge, 0, none⟩) 2 2] ∧ Ext wc w1) rfl ((wanted_at rfl rfl (hv.get 17 rfl rfl (hd 17 (by decide)))).trans rfl) (ex_call rfl rfl (by simp only [List.map_toArray, List.map_cons, List.map_nil, (hv.get 19 rfl rfl (hd 19 (by decide))), (hv.get 20 rfl rfl (hd 20 (by decide)))]; rfl) (enters_of Tryd.func37 (by kernel_rfl) rfl _ _)) ((recipe8_any 5 _ _ 2 2 2 2 _ _ wc rfl rfl).mono (fun e w' h => ⟨_, h.1, rfl, h.2⟩)) ?_
      rintro v w' ⟨rfl, hx⟩
      exact ⟨ga, gb, gd, ge, hv.put san_near_apart 21 rfl (lb rfl) (lb rfl) rfl, Lib.hid ⟨HO.out.1.trans hx, fun h => (HO.out.2.1 h).ext hx, fun h => (HO.out.2.2.1 h).ext hx, fun h => (HO.out.2.2.2.1 h).ext hx, fun h => (HO.out.2.2.2.2 h).ext hx⟩⟩
    ·
      rintro L a wc ⟨ga, gb, gd, ge, hv, HO⟩ hL hc hd
      refine wpOp_callw (R := fun v w1 => v = .bool true ∧ Ext wc w1) rfl ((wanted_at rfl rfl (hv.get 17 rfl rfl (hd 17 (by decide)))).trans rfl) (ex_call rfl rfl (by simp only [List.map_toArray, List.map_cons, List.map_nil, (hv.get 18 rfl rfl (hd 18 (by decide))), (hv.get 21 rfl rfl (hd 21 (by decide)))]; rfl) (enters_of Tryd.func18 (by kernel_rfl) rfl _ _)) ((sSame_self ⟨5, [2, 3], [1, 1]⟩ _ _ wc (RRec.ext _ _ _ _ HO.out.1 hRl) (⟨_, _, rfl, rs_lit (l := [2, 3]) (HO.out.2.2.2.1 (hc 21 (hd 21 (by decide)) 19 (by decide))) rfl (by decide), rb_lit (l := [1, 1]) (HO.out.2.2.2.2 (hc 21 (hd 21 (by decide)) 20 (by decide))) (by decide)⟩ : RRec wc (.agg #[.int .i64 5, .slice (some ⟨gd, 0, none⟩) 2 2, .slice (some ⟨ge, 0, none⟩) 2 2]) ⟨5, [2, 3], [1, 1]⟩)).mono (fun e w' h => ⟨_, h.1, rfl, h.2⟩)) ?_
      rintro v w' ⟨rfl, hx⟩
      exact ⟨ga, gb, gd, ge, hv.put san_near_apart 22 rfl (lb rfl) (lb rfl) rfl, Lib.hid ⟨HO.out.1.trans hx, fun h => (HO.out.2.1 h).ext hx, fun h => (HO.out.2.2.1 h).ext hx, fun h => (HO.out.2.2.2.1 h).ext hx, fun h => (HO.out.2.2.2.2 h).ext hx⟩⟩
    ·
      rintro L a wc ⟨ga, gb, gd, ge, hv, HO⟩ hL hc hd
      exact wpOp_val rfl rfl (ex_pick rfl (hv.get 17 rfl rfl (hd 17 (by decide))) (hv.get 22 rfl rfl (hd 22 (by decide)))) ⟨ga, gb, gd, ge, hv.put san_near_apart 23 rfl (lb rfl) (lb rfl) rfl, HO⟩
    ·
      rintro L a wc ⟨ga, gb, gd, ge, hv, HO⟩ hL hc hd
      exact wpOp_val rfl rfl (ex_assign rfl (hv.get 23 rfl rfl (hd 23 (by decide)))) ⟨ga, gb, gd, ge, hv.put san_near_apart 24 rfl (lb rfl) (lb rfl) rfl, HO⟩
  · rintro L a wc ⟨ga, gb, gd, ge, hv, HO⟩ hall
    show K a wc
    have ha := act_lit a
    rw [hv.size, hv.defers] at ha
    have hl : ∀ f : Nat → Value, ((List.range (⟨#[c0, c1, .pointer (some ⟨Qa, 0, none⟩), c3, .slice LA 3 cL, c5, c6, c7, .pointer (some ⟨Qb, 0, none⟩), c9, .pointer (some ⟨Ql, 0, none⟩), c11, c12, c13, c14, c15, c16, c17, c18, c19, c20, c21, .slice (some ⟨XF, 0, none⟩) 3 3, c23, c24, c25, c26, c27, c28, c29, c30, c31, c32, c33, c34, c35, c36, c37, c38, c39, c40, c41, c42, c43, c44, c45, c46, c47, c48, c49, c50, c51, c52, c53, c54, c55, c56, c57, c58, c59, c60, c61, c62, c63, c64, c65, c66, c67, c68, c69, c70, c71, c72, c73, c74, c75, c76, c77, c78, c79, c80, c81, c82, c83, c84, c85, c86, c87, c88, c89, c90, c91, c92, c93, c94, c95, c96, c97, c98, c99, c100, c101, c102, c103, c104, c105, c106, c107, c108, c109, c110, c111, c112, c113, c114, c115, c116, c117, c118, c119, c120, c121, c122, c123, c124, c125, c126, c127, c128, c129, c130, c131, c132, c133, c134, c135, c136, c137, c138, c139, c140, c141, c142, c143, c144, c145, c146, c147, c148, c149, c150, c151, c152, c153, c154, c155, c156, c157, c158, c159, c160, c161, c162, c163, c164, c165, c166, c167, c168, c169, c170, c171, c172, c173], df⟩ : Act).tmps.size).map f).toArray = #[f 0, f 1, f 2, f 3, f 4, f 5, f 6, f 7, f 8, f 9, f 10, f 11, f 12, f 13, f 14, f 15, f 16, f 17, f 18, f 19, f 20, f 21, f 22, f 23, f 24, f 25, f 26, f 27, f 28, f 29, f 30, f 31, f 32, f 33, f 34, f 35, f 36, f 37, f 38, f 39, f 40, f 41, f 42, f 43, f 44, f 45, f 46, f 47, f 48, f 49, f 50, f 51, f 52, f 53, f 54, f 55, f 56, f 57, f 58, f 59, f 60, f 61, f 62, f 63, f 64, f 65, f 66, f 67, f 68, f 69, f 70, f 71, f 72, f 73, f 74, f 75, f 76, f 77, f 78, f 79, f 80, f 81, f 82, f 83, f 84, f 85, f 86, f 87, f 88, f 89, f 90, f 91, f 92, f 93, f 94, f 95, f 96, f 97, f 98, f 99, f 100, f 101, f 102, f 103, f 104, f 105, f 106, f 107, f 108, f 109, f 110, f 111, f 112, f 113, f 114, f 115, f 116, f 117, f 118, f 119, f 120, f 121, f 122, f 123, f 124, f 125, f 126, f 127, f 128, f 129, f 130, f 131, f 132, f 133, f 134, f 135, f 136, f 137, f 138, f 139, f 140, f 141, f 142, f 143, f 144, f 145, f 146, f 147, f 148, f 149, f 150, f 151, f 152, f 153, f 154, f 155, f 156, f 157, f 158, f 159, f 160, f 161, f 162, f 163, f 164, f 165, f 166, f 167, f 168, f 169, f 170, f 171, f 172, f 173] := fun _ => rfl
    rw [hl] at ha
    simp only [hv.fixed 0 (by decide), hv.fixed 1 (by decide), hv.fixed 2 (by decide), hv.fixed 3 (by decide), hv.fixed 4 (by decide), hv.fixed 5 (by decide), hv.fixed 6 (by decide), hv.fixed 7 (by decide), hv.fixed 8 (by decide), hv.fixed 9 (by decide), hv.fixed 10 (by decide), hv.fixed 11 (by decide), hv.fixed 12 (by decide), hv.fixed 13 (by decide), hv.fixed 14 (by decide), hv.fixed 15 (by decide), hv.fixed 16 (by decide), hv.fixed 17 (by decide), hv.fixed 18 (by decide), hv.fixed 19 (by decide), hv.fixed 20 (by decide), hv.fixed 21 (by decide), hv.fixed 22 (by decide), hv.fixed 24 (by decide), hv.fixed 25 (by decide), hv.fixed 26 (by decide), hv.fixed 27 (by decide), hv.fixed 28 (by decide), hv.fixed 29 (by decide), hv.fixed 30 (by decide), hv.fixed 31 (by decide), hv.fixed 32 (by decide), hv.fixed 33 (by decide), hv.fixed 34 (by decide), hv.fixed 35 (by decide), hv.fixed 36 (by decide), hv.fixed 37 (by decide), hv.fixed 38 (by decide), hv.fixed 39 (by decide), hv.fixed 40 (by decide), hv.fixed 41 (by decide), hv.fixed 42 (by decide), hv.fixed 43 (by decide), hv.fixed 44 (by decide), hv.fixed 45 (by decide), hv.fixed 46 (by decide), hv.fixed 47 (by decide), hv.fixed 48 (by decide), hv.fixed 49 (by decide), hv.fixed 50 (by decide), hv.fixed 51 (by decide), hv.fixed 52 (by decide), hv.fixed 53 (by decide), hv.fixed 54 (by decide), hv.fixed 55 (by decide), hv.fixed 56 (by decide), hv.fixed 57 (by decide), hv.fixed 58 (by decide), hv.fixed 59 (by decide), hv.fixed 60 (by decide), hv.fixed 61 (by decide), hv.fixed 62 (by decide), hv.fixed 63 (by decide), hv.fixed 64 (by decide), hv.fixed 65 (by decide), hv.fixed 66 (by decide), hv.fixed 67 (by decide), hv.fixed 68 (by decide), hv.fixed 69 (by decide), hv.fixed 70 (by decide), hv.fixed 71 (by decide), hv.fixed 72 (by decide), hv.fixed 73 (by decide), hv.fixed 74 (by decide), hv.fixed 75 (by decide), hv.fixed 76 (by decide), hv.fixed 77 (by decide), hv.fixed 78 (by decide), hv.fixed 79 (by decide), hv.fixed 80 (by decide), hv.fixed 81 (by decide), hv.fixed 82 (by decide), hv.fixed 83 (by decide), hv.fixed 84 (by decide), hv.fixed 85 (by decide), hv.fixed 86 (by decide), hv.fixed 87 (by decide), hv.fixed 88 (by decide), hv.fixed 89 (by decide), hv.fixed 90 (by decide), hv.fixed 91 (by decide), hv.fixed 92 (by decide), hv.fixed 93 (by decide), hv.fixed 94 (by decide), hv.fixed 95 (by decide), hv.fixed 96 (by decide), hv.fixed 97 (by decide), hv.fixed 98 (by decide), hv.fixed 99 (by decide), hv.fixed 100 (by decide), hv.fixed 101 (by decide), hv.fixed 102 (by decide), hv.fixed 103 (by decide), hv.fixed 104 (by decide), hv.fixed 105 (by decide), hv.fixed 106 (by decide), hv.fixed 107 (by decide), hv.fixed 108 (by decide), hv.fixed 109 (by decide), hv.fixed 110 (by decide), hv.fixed 111 (by decide), hv.fixed 112 (by decide), hv.fixed 113 (by decide), hv.fixed 114 (by decide), hv.fixed 115 (by decide), hv.fixed 116 (by decide), hv.fixed 117 (by decide), hv.fixed 118 (by decide), hv.fixed 119 (by decide), hv.fixed 120 (by decide), hv.fixed 145 (by decide), hv.fixed 146 (by decide), hv.fixed 147 (by decide), hv.fixed 148 (by decide), hv.fixed 149 (by decide), hv.fixed 150 (by decide), hv.fixed 151 (by decide), hv.fixed 152 (by decide), hv.fixed 153 (by decide), hv.fixed 154 (by decide), hv.fixed 155 (by decide), hv.fixed 156 (by decide), hv.fixed 157 (by decide), hv.fixed 158 (by decide), hv.fixed 159 (by decide), hv.fixed 160 (by decide), hv.fixed 161 (by decide), hv.fixed 162 (by decide), hv.fixed 163 (by decide), hv.fixed 164 (by decide), hv.fixed 165 (by decide), hv.fixed 166 (by decide), hv.fixed 167 (by decide), hv.fixed 168 (by decide), hv.fixed 169 (by decide), hv.fixed 170 (by decide), hv.fixed 171 (by decide), hv.fixed 172 (by decide), hv.fixed 173 (by decide), hv.get 24 (d := 23) rfl rfl (hall 24 (by decide))] at ha
    rw [ha]
    exact hK _ _ _ _ _ _ _ _ _ _ _ _ _ _ _ _ _ _ _ _ _ _ _ _ wc HO.out.1
end Go.Proofs.YtdmljilcbndmfaaDoor

/- THE WALK over before of the laws of rebuild; what a list of rows holds. -/
namespace Go.Proofs.YtdmljilcbndmfaaDoor
open Go.RowKit Go.Shelf
/-- What lies in a list, value by value. -/
theorem Rs.vals {α : Type} {R : World → Value → α → Prop} {w : World} {A : Option Addr} {n c : Nat} {xs : List α} (h : Rs R w (.slice A n c) xs) :
    ∃ us : List Value, us.length = xs.length ∧ Rd w A us ∧ ∀ i (hi : i < xs.length), R w (us.getD i (.slice none 0 0)) xs[i] := by
  have hx : ∀ i : Nat, ∃ u : Value, ∀ hi : i < xs.length, (∃ ad, A = some ad ∧ w.cell? (ad.add i) = some u) ∧ R w u xs[i] := fun i => by
    by_cases hi : i < xs.length
    · obtain ⟨ad, u, h1, h2, h3⟩ := h.at hi
      exact ⟨u, fun _ => ⟨⟨ad, h1, h2⟩, h3⟩⟩
    · exact ⟨.slice none 0 0, fun hi' => absurd hi' hi⟩
  obtain ⟨g, hg⟩ := Classical.axiomOfChoice hx
  refine ⟨(List.range xs.length).map g, by simp, fun k x hk => ?_, fun i hi => ?_⟩
  · rw [List.getElem?_map] at hk
    cases hr : (List.range xs.length)[k]? with
    | none => rw [hr] at hk; cases hk
    | some j =>
      rw [hr] at hk
      have hk2 := (List.getElem?_eq_some_iff.1 hr).1
      rw [List.length_range] at hk2
      have hj : j = k := by
        rw [List.getElem?_range hk2] at hr
        injection hr with hr; exact hr.symm
      subst hj
      injection hk with hk
      subst hk
      obtain ⟨⟨ad, h1, h2⟩, _⟩ := hg j hk2
      exact ⟨ad, h1, by have := lt_of_cell h2; rwa [block_add] at this, h2⟩
  · rw [List.getD_eq_getElem?_getD, List.getElem?_map, List.getElem?_range hi]
    exact (hg i hi).2
/-- Some rows of a matrix, named by their places. -/
theorem rows_of {w : World} {A : Option Addr} {c : Nat} {us : List Value} {R : Mx.Mat} {f : List Int} (hrd : Rd w A (f.map fun i : Int => us.getD i.toNat (.slice none 0 0))) (hv : ∀ i (hi : i < R.length), Rs RB w (us.getD i (.slice none 0 0)) R[i])
    (hb : ∀ x ∈ f, 0 ≤ x ∧ x < (R.length : Int)) (hl : f.length ≤ 9223372036854775807) : Rs (Rs RB) w (.slice A f.length c) (Rb.rowsAt R f) := by
  refine ⟨A, c, by rw [Rb.rowsAt_length], by rw [Rb.rowsAt_length]; exact hl, fun i x hi => ?_⟩
  unfold Rb.rowsAt at hi
  rw [List.getElem?_map] at hi
  cases hf : f[i]? with
  | none => rw [hf] at hi; cases hi
  | some y =>
    rw [hf] at hi
    injection hi with hi
    obtain ⟨ad, h1, _, h2⟩ := hrd i (us.getD y.toNat (.slice none 0 0)) (by rw [List.getElem?_map, hf]; rfl)
    have hy := hb y (List.mem_of_getElem? hf)
    have hy2 : y.toNat < R.length := by omega
    refine ⟨ad, _, h1, h2, ?_⟩
    have := hv y.toNat hy2
    have hg : R.getD y.toNat [] = R[y.toNat] := by rw [List.getD_eq_getElem?_getD, List.getElem?_eq_getElem hy2]; rfl
    rw [show x = R[y.toNat] from hi.symm.trans hg]
    exact this
end Go.Proofs.YtdmljilcbndmfaaDoor

/- THE DRAWN REGION of RebuildReadsTogether. -/
namespace Go.Proofs.YtdmljilcbndmfaaDoor
open Go.RowKit Go.Shelf
theorem via2 {T G : Prop} (h : T → G) (t : T) : G := h t
theorem wanted_undef {ops : Array Oper} {o : Oper} {a : Act} {g t : Nat} {want : Bool} (hg : o.guard = some (g, want)) (hd : (ops[g]?).bind (·.dst) = some t) (he : a.eval (.tmp t) = undef) : Region.wanted o (yielded ops a.tmps) = false := by
  have ht : yielded ops a.tmps g = none := by
    unfold yielded
    rw [hd]
    simp only [Act.eval, Array.getD_eq_getD_getElem?] at he
    cases h : a.tmps[t]? with
    | none => simp [h]
    | some v => rw [h] at he; simp at he; simp [h, he, undef]
  unfold Region.wanted
  rw [hg]
  simp [ht]
noncomputable def tg_ne_code : Code := ((Tryd.f8.body.bind (regionOf 35)).getD .skip)
def tg_ne_dsts : List (Option Nat) := [some 168, some 169, some 170, some 171, some 172, some 173, some 174, some 175, some 176, some 177, some 178, some 179, some 180, some 181, some 182, some 183, some 184, some 185, some 186, some 187, some 188, some 189, some 190, some 191, some 192]
theorem tg_ne_apart : apartD tg_ne_dsts = true := by decide +kernel
set_option maxRecDepth 1000000 in
set_option maxHeartbeats 16000000 in
theorem tg_ne (wr : World) (B LL P O c k M nr wca nf fc QR : Nat) (d gl : Int) (gs : List (List Int)) (A FA : Option Addr) (data : List UInt8) (hk : k ≤ 24) (HM : Hid (IntKind.i64.wrap (2 ^ k) = (M : Int))) (HB : Hid (Cells wr B [.int .i64 d, .slice A gs.length c, .int .i64 gl, .string (sb data), .int .i64 (LL : Nat), .int .i64 (P : Nat), .int .i64 (O : Nat)])) (ad : Option Addr) (HL : Hid (((LL : Int) == (M : Int)) = false)) (c0 c2 c3 c4 c5 c6 c7 c10 c11 c12 c13 c14 c16 c17 c18 c20 c21 c22 c23 c24 c25 c26 c27 c28 c29 c30 c31 c32 c33 c34 c35 c36 c37 c38 c39 c40 c41 c42 c43 c44 c45 c46 c47 c48 c49 c50 c51 c52 c53 c54 c55 c56 c57 c58 c59 c60 c61 c62 c63 c64 c65 c66 c67 c68 c69 c70 c71 c72 c73 c74 c75 c76 c77 c78 c79 c80 c81 c82 c83 c84 c85 c86 c87 c88 c89 c90 c91 c92 c93 c94 c95 c96 c97 c98 c99 c100 c101 c102 c103 c104 c105 c106 c107 c108 c109 c110 c111 c112 c113 c114 c115 c116 c117 c118 c119 c120 c121 c122 c123 c124 c125 c126 c127 c128 c129 c130 c131 c132 c133 c134 c135 c136 c137 c138 c139 c140 c141 c142 c143 c144 c145 c146 c147 c148 c149 c150 c151 c152 c153 c154 c155 c156 c157 c158 c159 c160 c161 c162 c163 c164 c165 c166 c167 c168 c169 c170 c171 c172 c173 c174 c175 c176 c177 c178 c179 c180 c181 c182 c183 c184 c185 c186 c187 c188 c189 c190 c191 c192 c193 c194 c195 c196 c197 c198 c199 c200 c201 c202 c203 c204 c205 c206 c207 c208 c209 c210 c211 c212 c213 c214 c215 c216 c217 c218 c219 c220 c221 c222 c223 c224 c225 c226 c227 c228 c229 c230 c231 c232 c233 c234 c235 c236 c237 c238 c239 c240 c241 c242 c243 c244 c245 c246 c247 c248 c249 c250 c251 c252 c253 c254 c255 c256 c257 c258 : Value) (df : List Deferred) (K : Act → World → Prop)
    (hK : ∀  (u168 u169 u170 u171 u172 u173 u174 u175 u176 u177 u178 u179 u180 u181 u182 u183 u184 u185 u186 u187 u188 u189 u190 u191 : Value) (wx : World), Ext wr wx → K ⟨#[c0, .pointer (some ⟨B, 0, none⟩), c2, c3, c4, c5, c6, c7, .slice FA nf fc, .slice ad nr wca, c10, c11, c12, c13, c14, .int .i64 (k : Nat), c16, c17, c18, .pointer (some ⟨QR, 0, none⟩), c20, c21, c22, c23, c24, c25, c26, c27, c28, c29, c30, c31, c32, c33, c34, c35, c36, c37, c38, c39, c40, c41, c42, c43, c44, c45, c46, c47, c48, c49, c50, c51, c52, c53, c54, c55, c56, c57, c58, c59, c60, c61, c62, c63, c64, c65, c66, c67, c68, c69, c70, c71, c72, c73, c74, c75, c76, c77, c78, c79, c80, c81, c82, c83, c84, c85, c86, c87, c88, c89, c90, c91, c92, c93, c94, c95, c96, c97, c98, c99, c100, c101, c102, c103, c104, c105, c106, c107, c108, c109, c110, c111, c112, c113, c114, c115, c116, c117, c118, c119, c120, c121, c122, c123, c124, c125, c126, c127, c128, c129, c130, c131, c132, c133, c134, c135, c136, c137, c138, c139, c140, c141, c142, c143, c144, c145, c146, c147, c148, c149, c150, c151, c152, c153, c154, c155, c156, c157, c158, c159, c160, c161, c162, c163, c164, c165, c166, c167, u168, u169, u170, u171, u172, u173, u174, u175, u176, u177, u178, u179, u180, u181, u182, u183, u184, u185, u186, u187, u188, u189, u190, u191, .bool false, c193, c194, c195, c196, c197, c198, c199, c200, c201, c202, c203, c204, c205, c206, c207, c208, c209, c210, c211, c212, c213, c214, c215, c216, c217, c218, c219, c220, c221, c222, c223, c224, c225, c226, c227, c228, c229, c230, c231, c232, c233, c234, c235, c236, c237, c238, c239, c240, c241, c242, c243, c244, c245, c246, c247, c248, c249, c250, c251, c252, c253, c254, c255, c256, c257, c258], df⟩ wx) :
    Code.wp Tryd.prog tg_ne_code (AtEnd K) ⟨#[c0, .pointer (some ⟨B, 0, none⟩), c2, c3, c4, c5, c6, c7, .slice FA nf fc, .slice ad nr wca, c10, c11, c12, c13, c14, .int .i64 (k : Nat), c16, c17, c18, .pointer (some ⟨QR, 0, none⟩), c20, c21, c22, c23, c24, c25, c26, c27, c28, c29, c30, c31, c32, c33, c34, c35, c36, c37, c38, c39, c40, c41, c42, c43, c44, c45, c46, c47, c48, c49, c50, c51, c52, c53, c54, c55, c56, c57, c58, c59, c60, c61, c62, c63, c64, c65, c66, c67, c68, c69, c70, c71, c72, c73, c74, c75, c76, c77, c78, c79, c80, c81, c82, c83, c84, c85, c86, c87, c88, c89, c90, c91, c92, c93, c94, c95, c96, c97, c98, c99, c100, c101, c102, c103, c104, c105, c106, c107, c108, c109, c110, c111, c112, c113, c114, c115, c116, c117, c118, c119, c120, c121, c122, c123, c124, c125, c126, c127, c128, c129, c130, c131, c132, c133, c134, c135, c136, c137, c138, c139, c140, c141, c142, c143, c144, c145, c146, c147, c148, c149, c150, c151, c152, c153, c154, c155, c156, c157, c158, c159, c160, c161, c162, c163, c164, c165, c166, c167, c168, c169, c170, c171, c172, c173, c174, c175, c176, c177, c178, c179, c180, c181, c182, c183, c184, c185, c186, c187, c188, c189, c190, c191, c192, c193, c194, c195, c196, c197, c198, c199, c200, c201, c202, c203, c204, c205, c206, c207, c208, c209, c210, c211, c212, c213, c214, c215, c216, c217, c218, c219, c220, c221, c222, c223, c224, c225, c226, c227, c228, c229, c230, c231, c232, c233, c234, c235, c236, c237, c238, c239, c240, c241, c242, c243, c244, c245, c246, c247, c248, c249, c250, c251, c252, c253, c254, c255, c256, c257, c258], df⟩ wr := by
  conv => arg 2; whnf
  refine region_inv (by kernel_rfl) [[], [0], [], [2], [1, 3], [4], [5], [5], [7, 5], [6, 8, 5, 5], [9, 5], [10, 9, 5], [11], [12, 11], [13, 11], [11, 14, 5], [15, 11, 5], [16], [17, 16], [18, 16], [16], [19, 20, 16, 16], [21, 16], [16, 22, 5], [5, 23]] (by kernel_rfl) [0, 1, 2, 3, 4, 5, 6, 7, 8, 9, 10, 11, 12, 13, 14, 15, 16, 17, 18, 19, 20, 21, 22, 23, 24] (by decide +kernel) (by decide +kernel) (by decide +kernel) (fun L a wc => Inv tg_ne_dsts [.pointer (some ⟨B, 4, none⟩), .int .i64 (LL : Nat), .int .i64 (k : Nat), .int .i64 (M : Nat), .bool false, .bool false, undef, undef, undef, undef, undef, undef, undef, undef, undef, undef, undef, undef, undef, undef, undef, undef, undef, undef, .bool false] ⟨#[c0, .pointer (some ⟨B, 0, none⟩), c2, c3, c4, c5, c6, c7, .slice FA nf fc, .slice ad nr wca, c10, c11, c12, c13, c14, .int .i64 (k : Nat), c16, c17, c18, .pointer (some ⟨QR, 0, none⟩), c20, c21, c22, c23, c24, c25, c26, c27, c28, c29, c30, c31, c32, c33, c34, c35, c36, c37, c38, c39, c40, c41, c42, c43, c44, c45, c46, c47, c48, c49, c50, c51, c52, c53, c54, c55, c56, c57, c58, c59, c60, c61, c62, c63, c64, c65, c66, c67, c68, c69, c70, c71, c72, c73, c74, c75, c76, c77, c78, c79, c80, c81, c82, c83, c84, c85, c86, c87, c88, c89, c90, c91, c92, c93, c94, c95, c96, c97, c98, c99, c100, c101, c102, c103, c104, c105, c106, c107, c108, c109, c110, c111, c112, c113, c114, c115, c116, c117, c118, c119, c120, c121, c122, c123, c124, c125, c126, c127, c128, c129, c130, c131, c132, c133, c134, c135, c136, c137, c138, c139, c140, c141, c142, c143, c144, c145, c146, c147, c148, c149, c150, c151, c152, c153, c154, c155, c156, c157, c158, c159, c160, c161, c162, c163, c164, c165, c166, c167, c168, c169, c170, c171, c172, c173, c174, c175, c176, c177, c178, c179, c180, c181, c182, c183, c184, c185, c186, c187, c188, c189, c190, c191, c192, c193, c194, c195, c196, c197, c198, c199, c200, c201, c202, c203, c204, c205, c206, c207, c208, c209, c210, c211, c212, c213, c214, c215, c216, c217, c218, c219, c220, c221, c222, c223, c224, c225, c226, c227, c228, c229, c230, c231, c232, c233, c234, c235, c236, c237, c238, c239, c240, c241, c242, c243, c244, c245, c246, c247, c248, c249, c250, c251, c252, c253, c254, c255, c256, c257, c258], df⟩ L a ∧ Hid (Ext wr wc)) ⟨Inv.start, Lib.hid ((Ext.refl wr).drew)⟩ ?_ ?_
  · refine ⟨?_, ?_, ?_, ?_, ?_, ?_, ?_, ?_, ?_, ?_, ?_, ?_, ?_, ?_, ?_, ?_, ?_, ?_, ?_, ?_, ?_, ?_, ?_, ?_, ?_, trivial⟩
    ·
      rintro L a wc ⟨hv, HO⟩ hL hc hd
      exact wpOp_val rfl rfl (ex_field rfl ((hv.fixed 1 (by decide)).trans rfl) (by go_simp)) ⟨hv.put tg_ne_apart 0 rfl (lb rfl) (lb rfl) rfl, HO⟩
    ·
      rintro L a wc ⟨hv, HO⟩ hL hc hd
      have h0 : wc.cell? ⟨B, 4, none⟩ = some (.int .i64 (LL : Nat)) := HO.out.cell (HB.out 4 _ rfl)
      exact wpOp_val rfl rfl (ex_load rfl (hv.get 0 rfl rfl (hd 0 (by decide))) (by go_simp)) ⟨hv.put tg_ne_apart 1 rfl (lb rfl) (lb rfl) rfl, HO⟩
    ·
      rintro L a wc ⟨hv, HO⟩ hL hc hd
      exact wpOp_val rfl rfl (ex_move rfl ((hv.fixed 15 (by decide)).trans rfl)) ⟨hv.put tg_ne_apart 2 rfl (lb rfl) (lb rfl) rfl, HO⟩
    ·
      rintro L a wc ⟨hv, HO⟩ hL hc hd
      have u := HM.out
      exact wpOp_val rfl rfl (ex_bin rfl rfl (hv.get 2 rfl rfl (hd 2 (by decide))) (by go_simp)) ⟨hv.put tg_ne_apart 3 rfl (lb rfl) (lb rfl) rfl, HO⟩
    ·
      rintro L a wc ⟨hv, HO⟩ hL hc hd
      have u := HL.out
      exact wpOp_val rfl rfl (ex_bin rfl (hv.get 1 rfl rfl (hd 1 (by decide))) (hv.get 3 rfl rfl (hd 3 (by decide))) (by go_simp)) ⟨hv.put tg_ne_apart 4 rfl (lb rfl) (lb rfl) rfl, HO⟩
    ·
      rintro L a wc ⟨hv, HO⟩ hL hc hd
      exact wpOp_val rfl rfl (ex_move rfl (hv.get 4 rfl rfl (hd 4 (by decide)))) ⟨hv.put tg_ne_apart 5 rfl (lb rfl) (lb rfl) rfl, HO⟩
    ·
      rintro L a wc ⟨hv, HO⟩ hL hc hd
      exact wpOp_off rfl ((wanted_at rfl rfl (hv.get 5 rfl rfl (hd 5 (by decide)))).trans rfl) ⟨hv.put tg_ne_apart 6 rfl (lb rfl) (lb rfl) rfl, HO⟩
    ·
      rintro L a wc ⟨hv, HO⟩ hL hc hd
      exact wpOp_off rfl ((wanted_at rfl rfl (hv.get 5 rfl rfl (hd 5 (by decide)))).trans rfl) ⟨hv.put tg_ne_apart 7 rfl (lb rfl) (lb rfl) rfl, HO⟩
    ·
      rintro L a wc ⟨hv, HO⟩ hL hc hd
      exact wpOp_off rfl ((wanted_at rfl rfl (hv.get 5 rfl rfl (hd 5 (by decide)))).trans rfl) ⟨hv.put tg_ne_apart 8 rfl (lb rfl) (lb rfl) rfl, HO⟩
    ·
      rintro L a wc ⟨hv, HO⟩ hL hc hd
      exact wpOp_off rfl ((wanted_at rfl rfl (hv.get 5 rfl rfl (hd 5 (by decide)))).trans rfl) ⟨hv.put tg_ne_apart 9 rfl (lb rfl) (lb rfl) rfl, HO⟩
    ·
      rintro L a wc ⟨hv, HO⟩ hL hc hd
      exact wpOp_off rfl ((wanted_at rfl rfl (hv.get 5 rfl rfl (hd 5 (by decide)))).trans rfl) ⟨hv.put tg_ne_apart 10 rfl (lb rfl) (lb rfl) rfl, HO⟩
    ·
      rintro L a wc ⟨hv, HO⟩ hL hc hd
      exact wpOp_off rfl ((wanted_at rfl rfl (hv.get 5 rfl rfl (hd 5 (by decide)))).trans rfl) ⟨hv.put tg_ne_apart 11 rfl (lb rfl) (lb rfl) rfl, HO⟩
    ·
      rintro L a wc ⟨hv, HO⟩ hL hc hd
      exact wpOp_off rfl (wanted_undef rfl rfl (hv.get 11 rfl rfl (hd 11 (by decide)))) ⟨hv.put tg_ne_apart 12 rfl (lb rfl) (lb rfl) rfl, HO⟩
    ·
      rintro L a wc ⟨hv, HO⟩ hL hc hd
      exact wpOp_off rfl (wanted_undef rfl rfl (hv.get 11 rfl rfl (hd 11 (by decide)))) ⟨hv.put tg_ne_apart 13 rfl (lb rfl) (lb rfl) rfl, HO⟩
    ·
      rintro L a wc ⟨hv, HO⟩ hL hc hd
      exact wpOp_off rfl (wanted_undef rfl rfl (hv.get 11 rfl rfl (hd 11 (by decide)))) ⟨hv.put tg_ne_apart 14 rfl (lb rfl) (lb rfl) rfl, HO⟩
    ·
      rintro L a wc ⟨hv, HO⟩ hL hc hd
      exact wpOp_off rfl ((wanted_at rfl rfl (hv.get 5 rfl rfl (hd 5 (by decide)))).trans rfl) ⟨hv.put tg_ne_apart 15 rfl (lb rfl) (lb rfl) rfl, HO⟩
    ·
      rintro L a wc ⟨hv, HO⟩ hL hc hd
      exact wpOp_off rfl ((wanted_at rfl rfl (hv.get 5 rfl rfl (hd 5 (by decide)))).trans rfl) ⟨hv.put tg_ne_apart 16 rfl (lb rfl) (lb rfl) rfl, HO⟩
    ·
      rintro L a wc ⟨hv, HO⟩ hL hc hd
      exact wpOp_off rfl (wanted_undef rfl rfl (hv.get 16 rfl rfl (hd 16 (by decide)))) ⟨hv.put tg_ne_apart 17 rfl (lb rfl) (lb rfl) rfl, HO⟩
    ·
      rintro L a wc ⟨hv, HO⟩ hL hc hd
      exact wpOp_off rfl (wanted_undef rfl rfl (hv.get 16 rfl rfl (hd 16 (by decide)))) ⟨hv.put tg_ne_apart 18 rfl (lb rfl) (lb rfl) rfl, HO⟩
    ·
      rintro L a wc ⟨hv, HO⟩ hL hc hd
      exact wpOp_off rfl (wanted_undef rfl rfl (hv.get 16 rfl rfl (hd 16 (by decide)))) ⟨hv.put tg_ne_apart 19 rfl (lb rfl) (lb rfl) rfl, HO⟩
    ·
      rintro L a wc ⟨hv, HO⟩ hL hc hd
      exact wpOp_off rfl (wanted_undef rfl rfl (hv.get 16 rfl rfl (hd 16 (by decide)))) ⟨hv.put tg_ne_apart 20 rfl (lb rfl) (lb rfl) rfl, HO⟩
    ·
      rintro L a wc ⟨hv, HO⟩ hL hc hd
      exact wpOp_off rfl (wanted_undef rfl rfl (hv.get 16 rfl rfl (hd 16 (by decide)))) ⟨hv.put tg_ne_apart 21 rfl (lb rfl) (lb rfl) rfl, HO⟩
    ·
      rintro L a wc ⟨hv, HO⟩ hL hc hd
      exact wpOp_off rfl (wanted_undef rfl rfl (hv.get 16 rfl rfl (hd 16 (by decide)))) ⟨hv.put tg_ne_apart 22 rfl (lb rfl) (lb rfl) rfl, HO⟩
    ·
      rintro L a wc ⟨hv, HO⟩ hL hc hd
      exact wpOp_off rfl ((wanted_at rfl rfl (hv.get 5 rfl rfl (hd 5 (by decide)))).trans rfl) ⟨hv.put tg_ne_apart 23 rfl (lb rfl) (lb rfl) rfl, HO⟩
    ·
      rintro L a wc ⟨hv, HO⟩ hL hc hd
      exact wpOp_val rfl rfl (ex_pick rfl (hv.get 5 rfl rfl (hd 5 (by decide))) rfl) ⟨hv.put tg_ne_apart 24 rfl (lb rfl) (lb rfl) rfl, HO⟩
  · rintro L a wc ⟨hv, HO⟩ hall
    show K a wc
    have ha := act_lit a
    rw [hv.size, hv.defers] at ha
    have hl : ∀ f : Nat → Value, ((List.range (⟨#[c0, .pointer (some ⟨B, 0, none⟩), c2, c3, c4, c5, c6, c7, .slice FA nf fc, .slice ad nr wca, c10, c11, c12, c13, c14, .int .i64 (k : Nat), c16, c17, c18, .pointer (some ⟨QR, 0, none⟩), c20, c21, c22, c23, c24, c25, c26, c27, c28, c29, c30, c31, c32, c33, c34, c35, c36, c37, c38, c39, c40, c41, c42, c43, c44, c45, c46, c47, c48, c49, c50, c51, c52, c53, c54, c55, c56, c57, c58, c59, c60, c61, c62, c63, c64, c65, c66, c67, c68, c69, c70, c71, c72, c73, c74, c75, c76, c77, c78, c79, c80, c81, c82, c83, c84, c85, c86, c87, c88, c89, c90, c91, c92, c93, c94, c95, c96, c97, c98, c99, c100, c101, c102, c103, c104, c105, c106, c107, c108, c109, c110, c111, c112, c113, c114, c115, c116, c117, c118, c119, c120, c121, c122, c123, c124, c125, c126, c127, c128, c129, c130, c131, c132, c133, c134, c135, c136, c137, c138, c139, c140, c141, c142, c143, c144, c145, c146, c147, c148, c149, c150, c151, c152, c153, c154, c155, c156, c157, c158, c159, c160, c161, c162, c163, c164, c165, c166, c167, c168, c169, c170, c171, c172, c173, c174, c175, c176, c177, c178, c179, c180, c181, c182, c183, c184, c185, c186, c187, c188, c189, c190, c191, c192, c193, c194, c195, c196, c197, c198, c199, c200, c201, c202, c203, c204, c205, c206, c207, c208, c209, c210, c211, c212, c213, c214, c215, c216, c217, c218, c219, c220, c221, c222, c223, c224, c225, c226, c227, c228, c229, c230, c231, c232, c233, c234, c235, c236, c237, c238, c239, c240, c241, c242, c243, c244, c245, c246, c247, c248, c249, c250, c251, c252, c253, c254, c255, c256, c257, c258], df⟩ : Act).tmps.size).map f).toArray = #[f 0, f 1, f 2, f 3, f 4, f 5, f 6, f 7, f 8, f 9, f 10, f 11, f 12, f 13, f 14, f 15, f 16, f 17, f 18, f 19, f 20, f 21, f 22, f 23, f 24, f 25, f 26, f 27, f 28, f 29, f 30, f 31, f 32, f 33, f 34, f 35, f 36, f 37, f 38, f 39, f 40, f 41, f 42, f 43, f 44, f 45, f 46, f 47, f 48, f 49, f 50, f 51, f 52, f 53, f 54, f 55, f 56, f 57, f 58, f 59, f 60, f 61, f 62, f 63, f 64, f 65, f 66, f 67, f 68, f 69, f 70, f 71, f 72, f 73, f 74, f 75, f 76, f 77, f 78, f 79, f 80, f 81, f 82, f 83, f 84, f 85, f 86, f 87, f 88, f 89, f 90, f 91, f 92, f 93, f 94, f 95, f 96, f 97, f 98, f 99, f 100, f 101, f 102, f 103, f 104, f 105, f 106, f 107, f 108, f 109, f 110, f 111, f 112, f 113, f 114, f 115, f 116, f 117, f 118, f 119, f 120, f 121, f 122, f 123, f 124, f 125, f 126, f 127, f 128, f 129, f 130, f 131, f 132, f 133, f 134, f 135, f 136, f 137, f 138, f 139, f 140, f 141, f 142, f 143, f 144, f 145, f 146, f 147, f 148, f 149, f 150, f 151, f 152, f 153, f 154, f 155, f 156, f 157, f 158, f 159, f 160, f 161, f 162, f 163, f 164, f 165, f 166, f 167, f 168, f 169, f 170, f 171, f 172, f 173, f 174, f 175, f 176, f 177, f 178, f 179, f 180, f 181, f 182, f 183, f 184, f 185, f 186, f 187, f 188, f 189, f 190, f 191, f 192, f 193, f 194, f 195, f 196, f 197, f 198, f 199, f 200, f 201, f 202, f 203, f 204, f 205, f 206, f 207, f 208, f 209, f 210, f 211, f 212, f 213, f 214, f 215, f 216, f 217, f 218, f 219, f 220, f 221, f 222, f 223, f 224, f 225, f 226, f 227, f 228, f 229, f 230, f 231, f 232, f 233, f 234, f 235, f 236, f 237, f 238, f 239, f 240, f 241, f 242, f 243, f 244, f 245, f 246, f 247, f 248, f 249, f 250, f 251, f 252, f 253, f 254, f 255, f 256, f 257, f 258] := fun _ => rfl
    rw [hl] at ha
    simp only [hv.fixed 0 (by decide), hv.fixed 1 (by decide), hv.fixed 2 (by decide), hv.fixed 3 (by decide), hv.fixed 4 (by decide), hv.fixed 5 (by decide), hv.fixed 6 (by decide), hv.fixed 7 (by decide), hv.fixed 8 (by decide), hv.fixed 9 (by decide), hv.fixed 10 (by decide), hv.fixed 11 (by decide), hv.fixed 12 (by decide), hv.fixed 13 (by decide), hv.fixed 14 (by decide), hv.fixed 15 (by decide), hv.fixed 16 (by decide), hv.fixed 17 (by decide), hv.fixed 18 (by decide), hv.fixed 19 (by decide), hv.fixed 20 (by decide), hv.fixed 21 (by decide), hv.fixed 22 (by decide), hv.fixed 23 (by decide), hv.fixed 24 (by decide), hv.fixed 25 (by decide), hv.fixed 26 (by decide), hv.fixed 27 (by decide), hv.fixed 28 (by decide), hv.fixed 29 (by decide), hv.fixed 30 (by decide), hv.fixed 31 (by decide), hv.fixed 32 (by decide), hv.fixed 33 (by decide), hv.fixed 34 (by decide), hv.fixed 35 (by decide), hv.fixed 36 (by decide), hv.fixed 37 (by decide), hv.fixed 38 (by decide), hv.fixed 39 (by decide), hv.fixed 40 (by decide), hv.fixed 41 (by decide), hv.fixed 42 (by decide), hv.fixed 43 (by decide), hv.fixed 44 (by decide), hv.fixed 45 (by decide), hv.fixed 46 (by decide), hv.fixed 47 (by decide), hv.fixed 48 (by decide), hv.fixed 49 (by decide), hv.fixed 50 (by decide), hv.fixed 51 (by decide), hv.fixed 52 (by decide), hv.fixed 53 (by decide), hv.fixed 54 (by decide), hv.fixed 55 (by decide), hv.fixed 56 (by decide), hv.fixed 57 (by decide), hv.fixed 58 (by decide), hv.fixed 59 (by decide), hv.fixed 60 (by decide), hv.fixed 61 (by decide), hv.fixed 62 (by decide), hv.fixed 63 (by decide), hv.fixed 64 (by decide), hv.fixed 65 (by decide), hv.fixed 66 (by decide), hv.fixed 67 (by decide), hv.fixed 68 (by decide), hv.fixed 69 (by decide), hv.fixed 70 (by decide), hv.fixed 71 (by decide), hv.fixed 72 (by decide), hv.fixed 73 (by decide), hv.fixed 74 (by decide), hv.fixed 75 (by decide), hv.fixed 76 (by decide), hv.fixed 77 (by decide), hv.fixed 78 (by decide), hv.fixed 79 (by decide), hv.fixed 80 (by decide), hv.fixed 81 (by decide), hv.fixed 82 (by decide), hv.fixed 83 (by decide), hv.fixed 84 (by decide), hv.fixed 85 (by decide), hv.fixed 86 (by decide), hv.fixed 87 (by decide), hv.fixed 88 (by decide), hv.fixed 89 (by decide), hv.fixed 90 (by decide), hv.fixed 91 (by decide), hv.fixed 92 (by decide), hv.fixed 93 (by decide), hv.fixed 94 (by decide), hv.fixed 95 (by decide), hv.fixed 96 (by decide), hv.fixed 97 (by decide), hv.fixed 98 (by decide), hv.fixed 99 (by decide), hv.fixed 100 (by decide), hv.fixed 101 (by decide), hv.fixed 102 (by decide), hv.fixed 103 (by decide), hv.fixed 104 (by decide), hv.fixed 105 (by decide), hv.fixed 106 (by decide), hv.fixed 107 (by decide), hv.fixed 108 (by decide), hv.fixed 109 (by decide), hv.fixed 110 (by decide), hv.fixed 111 (by decide), hv.fixed 112 (by decide), hv.fixed 113 (by decide), hv.fixed 114 (by decide), hv.fixed 115 (by decide), hv.fixed 116 (by decide), hv.fixed 117 (by decide), hv.fixed 118 (by decide), hv.fixed 119 (by decide), hv.fixed 120 (by decide), hv.fixed 121 (by decide), hv.fixed 122 (by decide), hv.fixed 123 (by decide), hv.fixed 124 (by decide), hv.fixed 125 (by decide), hv.fixed 126 (by decide), hv.fixed 127 (by decide), hv.fixed 128 (by decide), hv.fixed 129 (by decide), hv.fixed 130 (by decide), hv.fixed 131 (by decide), hv.fixed 132 (by decide), hv.fixed 133 (by decide), hv.fixed 134 (by decide), hv.fixed 135 (by decide), hv.fixed 136 (by decide), hv.fixed 137 (by decide), hv.fixed 138 (by decide), hv.fixed 139 (by decide), hv.fixed 140 (by decide), hv.fixed 141 (by decide), hv.fixed 142 (by decide), hv.fixed 143 (by decide), hv.fixed 144 (by decide), hv.fixed 145 (by decide), hv.fixed 146 (by decide), hv.fixed 147 (by decide), hv.fixed 148 (by decide), hv.fixed 149 (by decide), hv.fixed 150 (by decide), hv.fixed 151 (by decide), hv.fixed 152 (by decide), hv.fixed 153 (by decide), hv.fixed 154 (by decide), hv.fixed 155 (by decide), hv.fixed 156 (by decide), hv.fixed 157 (by decide), hv.fixed 158 (by decide), hv.fixed 159 (by decide), hv.fixed 160 (by decide), hv.fixed 161 (by decide), hv.fixed 162 (by decide), hv.fixed 163 (by decide), hv.fixed 164 (by decide), hv.fixed 165 (by decide), hv.fixed 166 (by decide), hv.fixed 167 (by decide), hv.fixed 193 (by decide), hv.fixed 194 (by decide), hv.fixed 195 (by decide), hv.fixed 196 (by decide), hv.fixed 197 (by decide), hv.fixed 198 (by decide), hv.fixed 199 (by decide), hv.fixed 200 (by decide), hv.fixed 201 (by decide), hv.fixed 202 (by decide), hv.fixed 203 (by decide), hv.fixed 204 (by decide), hv.fixed 205 (by decide), hv.fixed 206 (by decide), hv.fixed 207 (by decide), hv.fixed 208 (by decide), hv.fixed 209 (by decide), hv.fixed 210 (by decide), hv.fixed 211 (by decide), hv.fixed 212 (by decide), hv.fixed 213 (by decide), hv.fixed 214 (by decide), hv.fixed 215 (by decide), hv.fixed 216 (by decide), hv.fixed 217 (by decide), hv.fixed 218 (by decide), hv.fixed 219 (by decide), hv.fixed 220 (by decide), hv.fixed 221 (by decide), hv.fixed 222 (by decide), hv.fixed 223 (by decide), hv.fixed 224 (by decide), hv.fixed 225 (by decide), hv.fixed 226 (by decide), hv.fixed 227 (by decide), hv.fixed 228 (by decide), hv.fixed 229 (by decide), hv.fixed 230 (by decide), hv.fixed 231 (by decide), hv.fixed 232 (by decide), hv.fixed 233 (by decide), hv.fixed 234 (by decide), hv.fixed 235 (by decide), hv.fixed 236 (by decide), hv.fixed 237 (by decide), hv.fixed 238 (by decide), hv.fixed 239 (by decide), hv.fixed 240 (by decide), hv.fixed 241 (by decide), hv.fixed 242 (by decide), hv.fixed 243 (by decide), hv.fixed 244 (by decide), hv.fixed 245 (by decide), hv.fixed 246 (by decide), hv.fixed 247 (by decide), hv.fixed 248 (by decide), hv.fixed 249 (by decide), hv.fixed 250 (by decide), hv.fixed 251 (by decide), hv.fixed 252 (by decide), hv.fixed 253 (by decide), hv.fixed 254 (by decide), hv.fixed 255 (by decide), hv.fixed 256 (by decide), hv.fixed 257 (by decide), hv.fixed 258 (by decide), hv.get 24 (d := 192) rfl rfl (hall 24 (by decide))] at ha
    rw [ha]
    exact hK _ _ _ _ _ _ _ _ _ _ _ _ _ _ _ _ _ _ _ _ _ _ _ _ wc HO.out
noncomputable def tg_eq_code : Code := ((Tryd.f8.body.bind (regionOf 35)).getD .skip)
def tg_eq_dsts : List (Option Nat) := [some 168, some 169, some 170, some 171, some 172, some 173, some 174, some 175, some 176, some 177, some 178, some 179, some 180, some 181, some 182, some 183, some 184, some 185, some 186, some 187, some 188, some 189, some 190, some 191, some 192]
theorem tg_eq_apart : apartD tg_eq_dsts = true := by decide +kernel
set_option maxRecDepth 1000000 in
set_option maxHeartbeats 16000000 in
theorem tg_eq (wr : World) (B LL P O c k M nr wca nf fc QR nR mR fcR ccR n0 m0 fc0 cc0 : Nat) (d gl pR : Int) (gs : List (List Int)) (A FA FAR CAR : Option Addr) (data : List UInt8) (hk : k ≤ 24) (HM : Hid (IntKind.i64.wrap (2 ^ k) = (M : Int))) (HB : Hid (Cells wr B [.int .i64 d, .slice A gs.length c, .int .i64 gl, .string (sb data), .int .i64 (LL : Nat), .int .i64 (P : Nat), .int .i64 (O : Nat)])) (ad : Addr) (FA0 CA0 : Option Addr) (HL : Hid (((LL : Int) == (M : Int)) = true)) (hnr : nr = 1) (HC : Hid (Cells wr QR [.int .i64 pR, .slice FAR nR fcR, .slice CAR mR ccR])) (f : List Int) (rR : Rb.Rec) (a0 : wr.cell? ad = some (.int .i64 pR)) (a1 : wr.cell? ⟨ad.block, ad.off + 1, none⟩ = some (.slice FA0 n0 fc0)) (a2 : wr.cell? ⟨ad.block, ad.off + 2, none⟩ = some (.slice CA0 m0 cc0)) (HF : Hid (Rs RI wr (.slice FA nf fc) f)) (HFR : Hid (Rs RI wr (.slice FAR nR fcR) rR.src)) (HR : Hid (RRec wr (.agg #[.int .i64 pR, .slice FAR nR fcR, .slice CAR mR ccR]) rR)) (H0 : Hid (RRec wr (.agg #[.int .i64 pR, .slice FA0 n0 fc0, .slice CA0 m0 cc0]) rR)) (HEQ : Hid (f = rR.src)) (c0 c2 c3 c4 c5 c6 c7 c10 c11 c12 c13 c14 c16 c17 c18 c20 c21 c22 c23 c24 c25 c26 c27 c28 c29 c30 c31 c32 c33 c34 c35 c36 c37 c38 c39 c40 c41 c42 c43 c44 c45 c46 c47 c48 c49 c50 c51 c52 c53 c54 c55 c56 c57 c58 c59 c60 c61 c62 c63 c64 c65 c66 c67 c68 c69 c70 c71 c72 c73 c74 c75 c76 c77 c78 c79 c80 c81 c82 c83 c84 c85 c86 c87 c88 c89 c90 c91 c92 c93 c94 c95 c96 c97 c98 c99 c100 c101 c102 c103 c104 c105 c106 c107 c108 c109 c110 c111 c112 c113 c114 c115 c116 c117 c118 c119 c120 c121 c122 c123 c124 c125 c126 c127 c128 c129 c130 c131 c132 c133 c134 c135 c136 c137 c138 c139 c140 c141 c142 c143 c144 c145 c146 c147 c148 c149 c150 c151 c152 c153 c154 c155 c156 c157 c158 c159 c160 c161 c162 c163 c164 c165 c166 c167 c168 c169 c170 c171 c172 c173 c174 c175 c176 c177 c178 c179 c180 c181 c182 c183 c184 c185 c186 c187 c188 c189 c190 c191 c192 c193 c194 c195 c196 c197 c198 c199 c200 c201 c202 c203 c204 c205 c206 c207 c208 c209 c210 c211 c212 c213 c214 c215 c216 c217 c218 c219 c220 c221 c222 c223 c224 c225 c226 c227 c228 c229 c230 c231 c232 c233 c234 c235 c236 c237 c238 c239 c240 c241 c242 c243 c244 c245 c246 c247 c248 c249 c250 c251 c252 c253 c254 c255 c256 c257 c258 : Value) (df : List Deferred) (K : Act → World → Prop)
    (hK : ∀  (u168 u169 u170 u171 u172 u173 u174 u175 u176 u177 u178 u179 u180 u181 u182 u183 u184 u185 u186 u187 u188 u189 u190 u191 : Value) (wx : World), Ext wr wx → K ⟨#[c0, .pointer (some ⟨B, 0, none⟩), c2, c3, c4, c5, c6, c7, .slice FA nf fc, .slice (some ad) nr wca, c10, c11, c12, c13, c14, .int .i64 (k : Nat), c16, c17, c18, .pointer (some ⟨QR, 0, none⟩), c20, c21, c22, c23, c24, c25, c26, c27, c28, c29, c30, c31, c32, c33, c34, c35, c36, c37, c38, c39, c40, c41, c42, c43, c44, c45, c46, c47, c48, c49, c50, c51, c52, c53, c54, c55, c56, c57, c58, c59, c60, c61, c62, c63, c64, c65, c66, c67, c68, c69, c70, c71, c72, c73, c74, c75, c76, c77, c78, c79, c80, c81, c82, c83, c84, c85, c86, c87, c88, c89, c90, c91, c92, c93, c94, c95, c96, c97, c98, c99, c100, c101, c102, c103, c104, c105, c106, c107, c108, c109, c110, c111, c112, c113, c114, c115, c116, c117, c118, c119, c120, c121, c122, c123, c124, c125, c126, c127, c128, c129, c130, c131, c132, c133, c134, c135, c136, c137, c138, c139, c140, c141, c142, c143, c144, c145, c146, c147, c148, c149, c150, c151, c152, c153, c154, c155, c156, c157, c158, c159, c160, c161, c162, c163, c164, c165, c166, c167, u168, u169, u170, u171, u172, u173, u174, u175, u176, u177, u178, u179, u180, u181, u182, u183, u184, u185, u186, u187, u188, u189, u190, u191, .bool false, c193, c194, c195, c196, c197, c198, c199, c200, c201, c202, c203, c204, c205, c206, c207, c208, c209, c210, c211, c212, c213, c214, c215, c216, c217, c218, c219, c220, c221, c222, c223, c224, c225, c226, c227, c228, c229, c230, c231, c232, c233, c234, c235, c236, c237, c238, c239, c240, c241, c242, c243, c244, c245, c246, c247, c248, c249, c250, c251, c252, c253, c254, c255, c256, c257, c258], df⟩ wx) :
    Code.wp Tryd.prog tg_eq_code (AtEnd K) ⟨#[c0, .pointer (some ⟨B, 0, none⟩), c2, c3, c4, c5, c6, c7, .slice FA nf fc, .slice (some ad) nr wca, c10, c11, c12, c13, c14, .int .i64 (k : Nat), c16, c17, c18, .pointer (some ⟨QR, 0, none⟩), c20, c21, c22, c23, c24, c25, c26, c27, c28, c29, c30, c31, c32, c33, c34, c35, c36, c37, c38, c39, c40, c41, c42, c43, c44, c45, c46, c47, c48, c49, c50, c51, c52, c53, c54, c55, c56, c57, c58, c59, c60, c61, c62, c63, c64, c65, c66, c67, c68, c69, c70, c71, c72, c73, c74, c75, c76, c77, c78, c79, c80, c81, c82, c83, c84, c85, c86, c87, c88, c89, c90, c91, c92, c93, c94, c95, c96, c97, c98, c99, c100, c101, c102, c103, c104, c105, c106, c107, c108, c109, c110, c111, c112, c113, c114, c115, c116, c117, c118, c119, c120, c121, c122, c123, c124, c125, c126, c127, c128, c129, c130, c131, c132, c133, c134, c135, c136, c137, c138, c139, c140, c141, c142, c143, c144, c145, c146, c147, c148, c149, c150, c151, c152, c153, c154, c155, c156, c157, c158, c159, c160, c161, c162, c163, c164, c165, c166, c167, c168, c169, c170, c171, c172, c173, c174, c175, c176, c177, c178, c179, c180, c181, c182, c183, c184, c185, c186, c187, c188, c189, c190, c191, c192, c193, c194, c195, c196, c197, c198, c199, c200, c201, c202, c203, c204, c205, c206, c207, c208, c209, c210, c211, c212, c213, c214, c215, c216, c217, c218, c219, c220, c221, c222, c223, c224, c225, c226, c227, c228, c229, c230, c231, c232, c233, c234, c235, c236, c237, c238, c239, c240, c241, c242, c243, c244, c245, c246, c247, c248, c249, c250, c251, c252, c253, c254, c255, c256, c257, c258], df⟩ wr := by
  conv => arg 2; whnf
  refine region_inv (by kernel_rfl) [[], [0], [], [2], [1, 3], [4], [5], [5], [7, 5], [6, 8, 5, 5], [9, 5], [10, 9, 5], [11], [12, 11], [13, 11], [11, 14, 5], [15, 11, 5], [16], [17, 16], [18, 16], [16], [19, 20, 16, 16], [21, 16], [16, 22, 5], [5, 23]] (by kernel_rfl) [0, 1, 2, 3, 4, 5, 6, 7, 8, 9, 10, 11, 12, 13, 14, 15, 16, 17, 18, 19, 20, 21, 22, 23, 24] (by decide +kernel) (by decide +kernel) (by decide +kernel) (fun L a wc => Inv tg_eq_dsts [.pointer (some ⟨B, 4, none⟩), .int .i64 (LL : Nat), .int .i64 (k : Nat), .int .i64 (M : Nat), .bool true, .bool true, .slice FA nf fc, .pointer (some ⟨QR, 1, none⟩), .slice FAR nR fcR, .bool true, .bool false, .bool false, .slice (some ad) nr wca, .int .i64 (nr : Nat), .bool false, .bool false, .bool false, .slice (some ad) nr wca, .pointer (some (ad)), .agg #[.int .i64 pR, .slice FA0 n0 fc0, .slice CA0 m0 cc0], .agg #[.int .i64 pR, .slice FAR nR fcR, .slice CAR mR ccR], .bool true, .bool false, .bool false, .bool false] ⟨#[c0, .pointer (some ⟨B, 0, none⟩), c2, c3, c4, c5, c6, c7, .slice FA nf fc, .slice (some ad) nr wca, c10, c11, c12, c13, c14, .int .i64 (k : Nat), c16, c17, c18, .pointer (some ⟨QR, 0, none⟩), c20, c21, c22, c23, c24, c25, c26, c27, c28, c29, c30, c31, c32, c33, c34, c35, c36, c37, c38, c39, c40, c41, c42, c43, c44, c45, c46, c47, c48, c49, c50, c51, c52, c53, c54, c55, c56, c57, c58, c59, c60, c61, c62, c63, c64, c65, c66, c67, c68, c69, c70, c71, c72, c73, c74, c75, c76, c77, c78, c79, c80, c81, c82, c83, c84, c85, c86, c87, c88, c89, c90, c91, c92, c93, c94, c95, c96, c97, c98, c99, c100, c101, c102, c103, c104, c105, c106, c107, c108, c109, c110, c111, c112, c113, c114, c115, c116, c117, c118, c119, c120, c121, c122, c123, c124, c125, c126, c127, c128, c129, c130, c131, c132, c133, c134, c135, c136, c137, c138, c139, c140, c141, c142, c143, c144, c145, c146, c147, c148, c149, c150, c151, c152, c153, c154, c155, c156, c157, c158, c159, c160, c161, c162, c163, c164, c165, c166, c167, c168, c169, c170, c171, c172, c173, c174, c175, c176, c177, c178, c179, c180, c181, c182, c183, c184, c185, c186, c187, c188, c189, c190, c191, c192, c193, c194, c195, c196, c197, c198, c199, c200, c201, c202, c203, c204, c205, c206, c207, c208, c209, c210, c211, c212, c213, c214, c215, c216, c217, c218, c219, c220, c221, c222, c223, c224, c225, c226, c227, c228, c229, c230, c231, c232, c233, c234, c235, c236, c237, c238, c239, c240, c241, c242, c243, c244, c245, c246, c247, c248, c249, c250, c251, c252, c253, c254, c255, c256, c257, c258], df⟩ L a ∧ Hid (Ext wr wc)) ⟨Inv.start, Lib.hid ((Ext.refl wr).drew)⟩ ?_ ?_
  · refine ⟨?_, ?_, ?_, ?_, ?_, ?_, ?_, ?_, ?_, ?_, ?_, ?_, ?_, ?_, ?_, ?_, ?_, ?_, ?_, ?_, ?_, ?_, ?_, ?_, ?_, trivial⟩
    ·
      rintro L a wc ⟨hv, HO⟩ hL hc hd
      exact wpOp_val rfl rfl (ex_field rfl ((hv.fixed 1 (by decide)).trans rfl) (by go_simp)) ⟨hv.put tg_eq_apart 0 rfl (lb rfl) (lb rfl) rfl, HO⟩
    ·
      rintro L a wc ⟨hv, HO⟩ hL hc hd
      have h0 : wc.cell? ⟨B, 4, none⟩ = some (.int .i64 (LL : Nat)) := HO.out.cell (HB.out 4 _ rfl)
      exact wpOp_val rfl rfl (ex_load rfl (hv.get 0 rfl rfl (hd 0 (by decide))) (by go_simp)) ⟨hv.put tg_eq_apart 1 rfl (lb rfl) (lb rfl) rfl, HO⟩
    ·
      rintro L a wc ⟨hv, HO⟩ hL hc hd
      exact wpOp_val rfl rfl (ex_move rfl ((hv.fixed 15 (by decide)).trans rfl)) ⟨hv.put tg_eq_apart 2 rfl (lb rfl) (lb rfl) rfl, HO⟩
    ·
      rintro L a wc ⟨hv, HO⟩ hL hc hd
      have u := HM.out
      exact wpOp_val rfl rfl (ex_bin rfl rfl (hv.get 2 rfl rfl (hd 2 (by decide))) (by go_simp)) ⟨hv.put tg_eq_apart 3 rfl (lb rfl) (lb rfl) rfl, HO⟩
    ·
      rintro L a wc ⟨hv, HO⟩ hL hc hd
      have u := HL.out
      exact wpOp_val rfl rfl (ex_bin rfl (hv.get 1 rfl rfl (hd 1 (by decide))) (hv.get 3 rfl rfl (hd 3 (by decide))) (by go_simp)) ⟨hv.put tg_eq_apart 4 rfl (lb rfl) (lb rfl) rfl, HO⟩
    ·
      rintro L a wc ⟨hv, HO⟩ hL hc hd
      exact wpOp_val rfl rfl (ex_move rfl (hv.get 4 rfl rfl (hd 4 (by decide)))) ⟨hv.put tg_eq_apart 5 rfl (lb rfl) (lb rfl) rfl, HO⟩
    ·
      rintro L a wc ⟨hv, HO⟩ hL hc hd
      exact wpOp_val rfl ((wanted_at rfl rfl (hv.get 5 rfl rfl (hd 5 (by decide)))).trans rfl) (ex_move rfl ((hv.fixed 8 (by decide)).trans rfl)) ⟨hv.put tg_eq_apart 6 rfl (lb rfl) (lb rfl) rfl, HO⟩
    ·
      rintro L a wc ⟨hv, HO⟩ hL hc hd
      exact wpOp_val rfl ((wanted_at rfl rfl (hv.get 5 rfl rfl (hd 5 (by decide)))).trans rfl) (ex_field rfl ((hv.fixed 19 (by decide)).trans rfl) (by go_simp)) ⟨hv.put tg_eq_apart 7 rfl (lb rfl) (lb rfl) rfl, HO⟩
    ·
      rintro L a wc ⟨hv, HO⟩ hL hc hd
      have h0 : wc.cell? ⟨QR, 1, none⟩ = some (.slice FAR nR fcR) := HO.out.cell (HC.out 1 _ rfl)
      exact wpOp_val rfl ((wanted_at rfl rfl (hv.get 5 rfl rfl (hd 5 (by decide)))).trans rfl) (ex_load rfl (hv.get 7 rfl rfl (hd 7 (by decide))) (by go_simp)) ⟨hv.put tg_eq_apart 8 rfl (lb rfl) (lb rfl) rfl, HO⟩
    ·
      rintro L a wc ⟨hv, HO⟩ hL hc hd
      refine wpOp_callw (R := fun v w1 => v = .bool true ∧ Ext wc w1) rfl ((wanted_at rfl rfl (hv.get 5 rfl rfl (hd 5 (by decide)))).trans rfl) (ex_call rfl rfl (map2c (hv.get 6 rfl rfl (hd 6 (by decide))) (hv.get 8 rfl rfl (hd 8 (by decide)))) (enters_of Tryd.func22 (by kernel_rfl) rfl _ _)) ((sList8_any f rR.src _ _ wc (Rs.ext RI.ext _ _ _ _ HO.out HF.out) (Rs.ext RI.ext _ _ _ _ HO.out HFR.out)).mono (fun e w' h => ⟨_, h.1.trans (by rw [decide_eq_true HEQ.out]), rfl, h.2⟩)) ?_
      rintro v w' ⟨rfl, hx⟩
      exact ⟨hv.put tg_eq_apart 9 rfl (lb rfl) (lb rfl) rfl, Lib.hid (HO.out.trans hx)⟩
    ·
      rintro L a wc ⟨hv, HO⟩ hL hc hd
      exact wpOp_val rfl ((wanted_at rfl rfl (hv.get 5 rfl rfl (hd 5 (by decide)))).trans rfl) (ex_un rfl (hv.get 9 rfl rfl (hd 9 (by decide))) (by go_simp)) ⟨hv.put tg_eq_apart 10 rfl (lb rfl) (lb rfl) rfl, HO⟩
    ·
      rintro L a wc ⟨hv, HO⟩ hL hc hd
      exact wpOp_val rfl ((wanted_at rfl rfl (hv.get 5 rfl rfl (hd 5 (by decide)))).trans rfl) (ex_move rfl (hv.get 10 rfl rfl (hd 10 (by decide)))) ⟨hv.put tg_eq_apart 11 rfl (lb rfl) (lb rfl) rfl, HO⟩
    ·
      rintro L a wc ⟨hv, HO⟩ hL hc hd
      exact wpOp_val rfl ((wanted_at rfl rfl (hv.get 11 rfl rfl (hd 11 (by decide)))).trans rfl) (ex_move rfl ((hv.fixed 9 (by decide)).trans rfl)) ⟨hv.put tg_eq_apart 12 rfl (lb rfl) (lb rfl) rfl, HO⟩
    ·
      rintro L a wc ⟨hv, HO⟩ hL hc hd
      exact wpOp_val rfl ((wanted_at rfl rfl (hv.get 11 rfl rfl (hd 11 (by decide)))).trans rfl) (ex_len rfl (hv.get 12 rfl rfl (hd 12 (by decide))) (by go_simp)) ⟨hv.put tg_eq_apart 13 rfl (lb rfl) (lb rfl) rfl, HO⟩
    ·
      rintro L a wc ⟨hv, HO⟩ hL hc hd
      have u : (nr : Int) = 1 := by omega
      exact wpOp_val rfl ((wanted_at rfl rfl (hv.get 11 rfl rfl (hd 11 (by decide)))).trans rfl) (ex_bin rfl (hv.get 13 rfl rfl (hd 13 (by decide))) rfl (by go_simp)) ⟨hv.put tg_eq_apart 14 rfl (lb rfl) (lb rfl) rfl, HO⟩
    ·
      rintro L a wc ⟨hv, HO⟩ hL hc hd
      exact wpOp_val rfl ((wanted_at rfl rfl (hv.get 5 rfl rfl (hd 5 (by decide)))).trans rfl) (ex_pick rfl (hv.get 11 rfl rfl (hd 11 (by decide))) (hv.get 14 rfl rfl (hd 14 (by decide)))) ⟨hv.put tg_eq_apart 15 rfl (lb rfl) (lb rfl) rfl, HO⟩
    ·
      rintro L a wc ⟨hv, HO⟩ hL hc hd
      exact wpOp_val rfl ((wanted_at rfl rfl (hv.get 5 rfl rfl (hd 5 (by decide)))).trans rfl) (ex_move rfl (hv.get 15 rfl rfl (hd 15 (by decide)))) ⟨hv.put tg_eq_apart 16 rfl (lb rfl) (lb rfl) rfl, HO⟩
    ·
      rintro L a wc ⟨hv, HO⟩ hL hc hd
      exact wpOp_val rfl ((wanted_at rfl rfl (hv.get 16 rfl rfl (hd 16 (by decide)))).trans rfl) (ex_move rfl ((hv.fixed 9 (by decide)).trans rfl)) ⟨hv.put tg_eq_apart 17 rfl (lb rfl) (lb rfl) rfl, HO⟩
    ·
      rintro L a wc ⟨hv, HO⟩ hL hc hd
      have u2 : (0 : Int) < (nr : Int) := by omega
      have u3 : ¬ nr = 0 := by omega
      exact wpOp_val rfl ((wanted_at rfl rfl (hv.get 16 rfl rfl (hd 16 (by decide)))).trans rfl) (ex_index rfl (hv.get 17 rfl rfl (hd 17 (by decide))) rfl (by go_simp)) ⟨hv.put tg_eq_apart 18 rfl (lb rfl) (lb rfl) rfl, HO⟩
    ·
      rintro L a wc ⟨hv, HO⟩ hL hc hd
      have h0 : wc.cell? ad = some (.int .i64 pR) := HO.out.cell a0
      have h1 : wc.cell? ⟨ad.block, ad.off + 1, none⟩ = some (.slice FA0 n0 fc0) := HO.out.cell a1
      have h2 : wc.cell? ⟨ad.block, ad.off + 2, none⟩ = some (.slice CA0 m0 cc0) := HO.out.cell a2
      exact wpOp_val rfl ((wanted_at rfl rfl (hv.get 16 rfl rfl (hd 16 (by decide)))).trans rfl) (ex_load rfl (hv.get 18 rfl rfl (hd 18 (by decide))) (by go_simp)) ⟨hv.put tg_eq_apart 19 rfl (lb rfl) (lb rfl) rfl, HO⟩
    ·
      rintro L a wc ⟨hv, HO⟩ hL hc hd
      have h0 : wc.cell? ⟨QR, 0, none⟩ = some (.int .i64 pR) := HO.out.cell (HC.out 0 _ rfl)
      have h1 : wc.cell? ⟨QR, 1, none⟩ = some (.slice FAR nR fcR) := HO.out.cell (HC.out 1 _ rfl)
      have h2 : wc.cell? ⟨QR, 2, none⟩ = some (.slice CAR mR ccR) := HO.out.cell (HC.out 2 _ rfl)
      exact wpOp_val rfl ((wanted_at rfl rfl (hv.get 16 rfl rfl (hd 16 (by decide)))).trans rfl) (ex_load rfl ((hv.fixed 19 (by decide)).trans rfl) (by go_simp)) ⟨hv.put tg_eq_apart 20 rfl (lb rfl) (lb rfl) rfl, HO⟩
    ·
      rintro L a wc ⟨hv, HO⟩ hL hc hd
      refine wpOp_callw (R := fun v w1 => v = .bool true ∧ Ext wc w1) rfl ((wanted_at rfl rfl (hv.get 16 rfl rfl (hd 16 (by decide)))).trans rfl) (ex_call rfl rfl (map2c (hv.get 19 rfl rfl (hd 19 (by decide))) (hv.get 20 rfl rfl (hd 20 (by decide)))) (enters_of Tryd.func18 (by kernel_rfl) rfl _ _)) ((sSame_self rR _ _ wc (RRec.ext _ _ _ _ HO.out H0.out) (RRec.ext _ _ _ _ HO.out HR.out)).mono (fun e w' h => ⟨_, h.1, rfl, h.2⟩)) ?_
      rintro v w' ⟨rfl, hx⟩
      exact ⟨hv.put tg_eq_apart 21 rfl (lb rfl) (lb rfl) rfl, Lib.hid (HO.out.trans hx)⟩
    ·
      rintro L a wc ⟨hv, HO⟩ hL hc hd
      exact wpOp_val rfl ((wanted_at rfl rfl (hv.get 16 rfl rfl (hd 16 (by decide)))).trans rfl) (ex_un rfl (hv.get 21 rfl rfl (hd 21 (by decide))) (by go_simp)) ⟨hv.put tg_eq_apart 22 rfl (lb rfl) (lb rfl) rfl, HO⟩
    ·
      rintro L a wc ⟨hv, HO⟩ hL hc hd
      exact wpOp_val rfl ((wanted_at rfl rfl (hv.get 5 rfl rfl (hd 5 (by decide)))).trans rfl) (ex_pick rfl (hv.get 16 rfl rfl (hd 16 (by decide))) (hv.get 22 rfl rfl (hd 22 (by decide)))) ⟨hv.put tg_eq_apart 23 rfl (lb rfl) (lb rfl) rfl, HO⟩
    ·
      rintro L a wc ⟨hv, HO⟩ hL hc hd
      exact wpOp_val rfl rfl (ex_pick rfl (hv.get 5 rfl rfl (hd 5 (by decide))) (hv.get 23 rfl rfl (hd 23 (by decide)))) ⟨hv.put tg_eq_apart 24 rfl (lb rfl) (lb rfl) rfl, HO⟩
  · rintro L a wc ⟨hv, HO⟩ hall
    show K a wc
    have ha := act_lit a
    rw [hv.size, hv.defers] at ha
    have hl : ∀ f : Nat → Value, ((List.range (⟨#[c0, .pointer (some ⟨B, 0, none⟩), c2, c3, c4, c5, c6, c7, .slice FA nf fc, .slice (some ad) nr wca, c10, c11, c12, c13, c14, .int .i64 (k : Nat), c16, c17, c18, .pointer (some ⟨QR, 0, none⟩), c20, c21, c22, c23, c24, c25, c26, c27, c28, c29, c30, c31, c32, c33, c34, c35, c36, c37, c38, c39, c40, c41, c42, c43, c44, c45, c46, c47, c48, c49, c50, c51, c52, c53, c54, c55, c56, c57, c58, c59, c60, c61, c62, c63, c64, c65, c66, c67, c68, c69, c70, c71, c72, c73, c74, c75, c76, c77, c78, c79, c80, c81, c82, c83, c84, c85, c86, c87, c88, c89, c90, c91, c92, c93, c94, c95, c96, c97, c98, c99, c100, c101, c102, c103, c104, c105, c106, c107, c108, c109, c110, c111, c112, c113, c114, c115, c116, c117, c118, c119, c120, c121, c122, c123, c124, c125, c126, c127, c128, c129, c130, c131, c132, c133, c134, c135, c136, c137, c138, c139, c140, c141, c142, c143, c144, c145, c146, c147, c148, c149, c150, c151, c152, c153, c154, c155, c156, c157, c158, c159, c160, c161, c162, c163, c164, c165, c166, c167, c168, c169, c170, c171, c172, c173, c174, c175, c176, c177, c178, c179, c180, c181, c182, c183, c184, c185, c186, c187, c188, c189, c190, c191, c192, c193, c194, c195, c196, c197, c198, c199, c200, c201, c202, c203, c204, c205, c206, c207, c208, c209, c210, c211, c212, c213, c214, c215, c216, c217, c218, c219, c220, c221, c222, c223, c224, c225, c226, c227, c228, c229, c230, c231, c232, c233, c234, c235, c236, c237, c238, c239, c240, c241, c242, c243, c244, c245, c246, c247, c248, c249, c250, c251, c252, c253, c254, c255, c256, c257, c258], df⟩ : Act).tmps.size).map f).toArray = #[f 0, f 1, f 2, f 3, f 4, f 5, f 6, f 7, f 8, f 9, f 10, f 11, f 12, f 13, f 14, f 15, f 16, f 17, f 18, f 19, f 20, f 21, f 22, f 23, f 24, f 25, f 26, f 27, f 28, f 29, f 30, f 31, f 32, f 33, f 34, f 35, f 36, f 37, f 38, f 39, f 40, f 41, f 42, f 43, f 44, f 45, f 46, f 47, f 48, f 49, f 50, f 51, f 52, f 53, f 54, f 55, f 56, f 57, f 58, f 59, f 60, f 61, f 62, f 63, f 64, f 65, f 66, f 67, f 68, f 69, f 70, f 71, f 72, f 73, f 74, f 75, f 76, f 77, f 78, f 79, f 80, f 81, f 82, f 83, f 84, f 85, f 86, f 87, f 88, f 89, f 90, f 91, f 92, f 93, f 94, f 95, f 96, f 97, f 98, f 99, f 100, f 101, f 102, f 103, f 104, f 105, f 106, f 107, f 108, f 109, f 110, f 111, f 112, f 113, f 114, f 115, f 116, f 117, f 118, f 119, f 120, f 121, f 122, f 123, f 124, f 125, f 126, f 127, f 128, f 129, f 130, f 131, f 132, f 133, f 134, f 135, f 136, f 137, f 138, f 139, f 140, f 141, f 142, f 143, f 144, f 145, f 146, f 147, f 148, f 149, f 150, f 151, f 152, f 153, f 154, f 155, f 156, f 157, f 158, f 159, f 160, f 161, f 162, f 163, f 164, f 165, f 166, f 167, f 168, f 169, f 170, f 171, f 172, f 173, f 174, f 175, f 176, f 177, f 178, f 179, f 180, f 181, f 182, f 183, f 184, f 185, f 186, f 187, f 188, f 189, f 190, f 191, f 192, f 193, f 194, f 195, f 196, f 197, f 198, f 199, f 200, f 201, f 202, f 203, f 204, f 205, f 206, f 207, f 208, f 209, f 210, f 211, f 212, f 213, f 214, f 215, f 216, f 217, f 218, f 219, f 220, f 221, f 222, f 223, f 224, f 225, f 226, f 227, f 228, f 229, f 230, f 231, f 232, f 233, f 234, f 235, f 236, f 237, f 238, f 239, f 240, f 241, f 242, f 243, f 244, f 245, f 246, f 247, f 248, f 249, f 250, f 251, f 252, f 253, f 254, f 255, f 256, f 257, f 258] := fun _ => rfl
    rw [hl] at ha
    simp only [hv.fixed 0 (by decide), hv.fixed 1 (by decide), hv.fixed 2 (by decide), hv.fixed 3 (by decide), hv.fixed 4 (by decide), hv.fixed 5 (by decide), hv.fixed 6 (by decide), hv.fixed 7 (by decide), hv.fixed 8 (by decide), hv.fixed 9 (by decide), hv.fixed 10 (by decide), hv.fixed 11 (by decide), hv.fixed 12 (by decide), hv.fixed 13 (by decide), hv.fixed 14 (by decide), hv.fixed 15 (by decide), hv.fixed 16 (by decide), hv.fixed 17 (by decide), hv.fixed 18 (by decide), hv.fixed 19 (by decide), hv.fixed 20 (by decide), hv.fixed 21 (by decide), hv.fixed 22 (by decide), hv.fixed 23 (by decide), hv.fixed 24 (by decide), hv.fixed 25 (by decide), hv.fixed 26 (by decide), hv.fixed 27 (by decide), hv.fixed 28 (by decide), hv.fixed 29 (by decide), hv.fixed 30 (by decide), hv.fixed 31 (by decide), hv.fixed 32 (by decide), hv.fixed 33 (by decide), hv.fixed 34 (by decide), hv.fixed 35 (by decide), hv.fixed 36 (by decide), hv.fixed 37 (by decide), hv.fixed 38 (by decide), hv.fixed 39 (by decide), hv.fixed 40 (by decide), hv.fixed 41 (by decide), hv.fixed 42 (by decide), hv.fixed 43 (by decide), hv.fixed 44 (by decide), hv.fixed 45 (by decide), hv.fixed 46 (by decide), hv.fixed 47 (by decide), hv.fixed 48 (by decide), hv.fixed 49 (by decide), hv.fixed 50 (by decide), hv.fixed 51 (by decide), hv.fixed 52 (by decide), hv.fixed 53 (by decide), hv.fixed 54 (by decide), hv.fixed 55 (by decide), hv.fixed 56 (by decide), hv.fixed 57 (by decide), hv.fixed 58 (by decide), hv.fixed 59 (by decide), hv.fixed 60 (by decide), hv.fixed 61 (by decide), hv.fixed 62 (by decide), hv.fixed 63 (by decide), hv.fixed 64 (by decide), hv.fixed 65 (by decide), hv.fixed 66 (by decide), hv.fixed 67 (by decide), hv.fixed 68 (by decide), hv.fixed 69 (by decide), hv.fixed 70 (by decide), hv.fixed 71 (by decide), hv.fixed 72 (by decide), hv.fixed 73 (by decide), hv.fixed 74 (by decide), hv.fixed 75 (by decide), hv.fixed 76 (by decide), hv.fixed 77 (by decide), hv.fixed 78 (by decide), hv.fixed 79 (by decide), hv.fixed 80 (by decide), hv.fixed 81 (by decide), hv.fixed 82 (by decide), hv.fixed 83 (by decide), hv.fixed 84 (by decide), hv.fixed 85 (by decide), hv.fixed 86 (by decide), hv.fixed 87 (by decide), hv.fixed 88 (by decide), hv.fixed 89 (by decide), hv.fixed 90 (by decide), hv.fixed 91 (by decide), hv.fixed 92 (by decide), hv.fixed 93 (by decide), hv.fixed 94 (by decide), hv.fixed 95 (by decide), hv.fixed 96 (by decide), hv.fixed 97 (by decide), hv.fixed 98 (by decide), hv.fixed 99 (by decide), hv.fixed 100 (by decide), hv.fixed 101 (by decide), hv.fixed 102 (by decide), hv.fixed 103 (by decide), hv.fixed 104 (by decide), hv.fixed 105 (by decide), hv.fixed 106 (by decide), hv.fixed 107 (by decide), hv.fixed 108 (by decide), hv.fixed 109 (by decide), hv.fixed 110 (by decide), hv.fixed 111 (by decide), hv.fixed 112 (by decide), hv.fixed 113 (by decide), hv.fixed 114 (by decide), hv.fixed 115 (by decide), hv.fixed 116 (by decide), hv.fixed 117 (by decide), hv.fixed 118 (by decide), hv.fixed 119 (by decide), hv.fixed 120 (by decide), hv.fixed 121 (by decide), hv.fixed 122 (by decide), hv.fixed 123 (by decide), hv.fixed 124 (by decide), hv.fixed 125 (by decide), hv.fixed 126 (by decide), hv.fixed 127 (by decide), hv.fixed 128 (by decide), hv.fixed 129 (by decide), hv.fixed 130 (by decide), hv.fixed 131 (by decide), hv.fixed 132 (by decide), hv.fixed 133 (by decide), hv.fixed 134 (by decide), hv.fixed 135 (by decide), hv.fixed 136 (by decide), hv.fixed 137 (by decide), hv.fixed 138 (by decide), hv.fixed 139 (by decide), hv.fixed 140 (by decide), hv.fixed 141 (by decide), hv.fixed 142 (by decide), hv.fixed 143 (by decide), hv.fixed 144 (by decide), hv.fixed 145 (by decide), hv.fixed 146 (by decide), hv.fixed 147 (by decide), hv.fixed 148 (by decide), hv.fixed 149 (by decide), hv.fixed 150 (by decide), hv.fixed 151 (by decide), hv.fixed 152 (by decide), hv.fixed 153 (by decide), hv.fixed 154 (by decide), hv.fixed 155 (by decide), hv.fixed 156 (by decide), hv.fixed 157 (by decide), hv.fixed 158 (by decide), hv.fixed 159 (by decide), hv.fixed 160 (by decide), hv.fixed 161 (by decide), hv.fixed 162 (by decide), hv.fixed 163 (by decide), hv.fixed 164 (by decide), hv.fixed 165 (by decide), hv.fixed 166 (by decide), hv.fixed 167 (by decide), hv.fixed 193 (by decide), hv.fixed 194 (by decide), hv.fixed 195 (by decide), hv.fixed 196 (by decide), hv.fixed 197 (by decide), hv.fixed 198 (by decide), hv.fixed 199 (by decide), hv.fixed 200 (by decide), hv.fixed 201 (by decide), hv.fixed 202 (by decide), hv.fixed 203 (by decide), hv.fixed 204 (by decide), hv.fixed 205 (by decide), hv.fixed 206 (by decide), hv.fixed 207 (by decide), hv.fixed 208 (by decide), hv.fixed 209 (by decide), hv.fixed 210 (by decide), hv.fixed 211 (by decide), hv.fixed 212 (by decide), hv.fixed 213 (by decide), hv.fixed 214 (by decide), hv.fixed 215 (by decide), hv.fixed 216 (by decide), hv.fixed 217 (by decide), hv.fixed 218 (by decide), hv.fixed 219 (by decide), hv.fixed 220 (by decide), hv.fixed 221 (by decide), hv.fixed 222 (by decide), hv.fixed 223 (by decide), hv.fixed 224 (by decide), hv.fixed 225 (by decide), hv.fixed 226 (by decide), hv.fixed 227 (by decide), hv.fixed 228 (by decide), hv.fixed 229 (by decide), hv.fixed 230 (by decide), hv.fixed 231 (by decide), hv.fixed 232 (by decide), hv.fixed 233 (by decide), hv.fixed 234 (by decide), hv.fixed 235 (by decide), hv.fixed 236 (by decide), hv.fixed 237 (by decide), hv.fixed 238 (by decide), hv.fixed 239 (by decide), hv.fixed 240 (by decide), hv.fixed 241 (by decide), hv.fixed 242 (by decide), hv.fixed 243 (by decide), hv.fixed 244 (by decide), hv.fixed 245 (by decide), hv.fixed 246 (by decide), hv.fixed 247 (by decide), hv.fixed 248 (by decide), hv.fixed 249 (by decide), hv.fixed 250 (by decide), hv.fixed 251 (by decide), hv.fixed 252 (by decide), hv.fixed 253 (by decide), hv.fixed 254 (by decide), hv.fixed 255 (by decide), hv.fixed 256 (by decide), hv.fixed 257 (by decide), hv.fixed 258 (by decide), hv.get 24 (d := 192) rfl rfl (hall 24 (by decide))] at ha
    rw [ha]
    exact hK _ _ _ _ _ _ _ _ _ _ _ _ _ _ _ _ _ _ _ _ _ _ _ _ wc HO.out
end Go.Proofs.YtdmljilcbndmfaaDoor

/- THE SPECIFICATION'S RANK of rows, in plain terms: it is the number of columns exactly if the rows span all. -/
namespace Cd
open Gf
/-- A row from which a multiple of another one was taken, so that it is 0 at a place. -/
def lessR (r o : List UInt8) (a : Nat) : List UInt8 := (List.range r.length).map fun k => r.getD k 0 ^^^ mul (mul (r.getD a 0) (inv (o.getD a 0))) (o.getD k 0)
theorem lessR_get {r o : List UInt8} {a k : Nat} (h : k < r.length) : (lessR r o a).getD k 0 = r.getD k 0 ^^^ mul (mul (r.getD a 0) (inv (o.getD a 0))) (o.getD k 0) := getD_map_range _ _ h
/-- The first row of the first k that is not 0 at a place. -/
def pivTo (l : List (List UInt8)) (a : Nat) : Nat → Option Nat
  | 0 => none
  | k + 1 => match pivTo l a k with
    | some p => some p
    | none => if (l.getD k []).getD a 0 = 0 then none else some k
/-- The rows but p, of the first m. -/
def restTo (l : List (List UInt8)) (p a : Nat) : Nat → List (List UInt8)
  | 0 => []
  | m + 1 => if m = p then restTo l p a m else restTo l p a m ++ [lessR (l.getD m []) (l.getD p []) a]
theorem restTo_skip (l : List (List UInt8)) (p a : Nat) : restTo l p a (p + 1) = restTo l p a p := by rw [restTo, if_pos rfl]
theorem restTo_next {l : List (List UInt8)} {p a m : Nat} (h : m ≠ p) : restTo l p a (m + 1) = restTo l p a m ++ [lessR (l.getD m []) (l.getD p []) a] := by rw [restTo, if_neg h]
theorem restTo_mem {l : List (List UInt8)} {p a : Nat} {x : List UInt8} : ∀ {m : Nat}, x ∈ restTo l p a m ↔ ∃ k, k < m ∧ k ≠ p ∧ x = lessR (l.getD k []) (l.getD p []) a
  | 0 => by simp [restTo]
  | m + 1 => by
    by_cases h : m = p
    · subst h
      rw [restTo_skip, restTo_mem]
      constructor
      · rintro ⟨k, h1, h2, h3⟩; exact ⟨k, by omega, h2, h3⟩
      · rintro ⟨k, h1, h2, h3⟩; exact ⟨k, by omega, h2, h3⟩
    · rw [restTo_next h, List.mem_append, List.mem_singleton, restTo_mem]
      constructor
      · rintro (⟨k, h1, h2, h3⟩ | h3)
        · exact ⟨k, by omega, h2, h3⟩
        · exact ⟨m, by omega, h, h3⟩
      · rintro ⟨k, h1, h2, h3⟩
        by_cases hk : k = m
        · subst hk; exact .inr h3
        · exact .inl ⟨k, by omega, h2, h3⟩
/-- The rows that are left, and the rank, after the first a columns. -/
def rankTo (l : List (List UInt8)) : Nat → List (List UInt8) × Nat
  | 0 => (l, 0)
  | a + 1 => match pivTo (rankTo l a).1 a (rankTo l a).1.length with
    | none => rankTo l a
    | some p => (restTo (rankTo l a).1 p a (rankTo l a).1.length, (rankTo l a).2 + 1)
theorem getD_mem {α : Type} {l : List α} {k : Nat} {x : α} (h : k < l.length) : l.getD k x ∈ l := by
  rw [List.getD_eq_getElem?_getD, List.getElem?_eq_getElem h]
  exact List.getElem_mem h
theorem SpanL.zero {n : Nat} {L : List (List UInt8)} {v : Nat → UInt8} (h : ∀ i, i < n → v i = 0) : SpanL n L v := InSpan.zero n _ _ h
theorem SpanL.sum {n : Nat} {L : List (List UInt8)} (c : Nat → UInt8) (us : Nat → Nat → UInt8) (k : Nat) (h : ∀ j, j < k → SpanL n L (us j)) : SpanL n L fun i => sm k fun j => mul (c j) (us j i) := InSpan.sum c us k h
theorem rest_split {n a p : Nat} {L : List (List UInt8)} (hL : ∀ r ∈ L, r.length = n) {x : List UInt8} (hx : x ∈ L) : ∃ c, SpanL n (restTo L p a L.length) fun i => vec x i ^^^ mul c ((L.getD p []).getD i 0) := by
  obtain ⟨k, hk, rfl⟩ := List.getElem_of_mem hx
  have e : L[k] = L.getD k [] := by rw [List.getD_eq_getElem?_getD, List.getElem?_eq_getElem hk]; rfl
  rw [e]
  by_cases hkp : k = p
  · subst hkp
    refine ⟨1, SpanL.zero fun i _ => ?_⟩
    rw [one_mul]
    exact UInt8.xor_self
  · refine ⟨mul ((L.getD k []).getD a 0) (inv ((L.getD p []).getD a 0)), (SpanL.mem (restTo_mem.2 ⟨k, hk, hkp, rfl⟩)).congr fun i hi => ?_⟩
    exact (lessR_get (by rw [hL _ (getD_mem hk)]; exact hi)).symm
theorem SpanL.rest {n a p : Nat} {L : List (List UInt8)} (hL : ∀ r ∈ L, r.length = n) {u : Nat → UInt8} (h : SpanL n L u) : ∃ c, SpanL n (restTo L p a L.length) fun i => u i ^^^ mul c ((L.getD p []).getD i 0) := by
  obtain ⟨c, hc⟩ := h
  have hd : ∃ d : Nat → UInt8, ∀ k, k < L.length → SpanL n (restTo L p a L.length) fun i => vec (L.getD k []) i ^^^ mul (d k) ((L.getD p []).getD i 0) := by
    refine ⟨fun k => if hk : k < L.length then (rest_split (p := p) (a := a) hL (getD_mem hk (x := []))).choose else 0, fun k hk => ?_⟩
    simp only [hk, ↓reduceDIte]
    exact (rest_split (p := p) (a := a) hL (getD_mem hk (x := []))).choose_spec
  obtain ⟨d, hd⟩ := hd
  refine ⟨sm L.length fun k => mul (c k) (d k), (SpanL.sum c _ L.length hd).congr fun i hi => ?_⟩
  show u i ^^^ mul _ _ = _
  rw [hc i hi, mul_comm (sm _ _), sm_mul, ← sm_add]
  refine sm_congr fun k _ => ?_
  rw [mul_xor]
  congr 1
  rw [mul_comm ((L.getD p []).getD i 0), mul_assoc]
attribute [irreducible] rankTo restTo pivTo lessR
end Cd

/- What the root words reach of other texts. -/
/- THE WALKS over the strings of the field's specification. -/
namespace Go.Proofs.YtdmljilcbndmfaaDoor
open Go.RowKit

end Go.Proofs.YtdmljilcbndmfaaDoor
/- THE SPECIFICATION'S CHECK of codes, in plain terms: it is the program's. -/
namespace Cd
/-- Is a number in one of the first g groups? -/
def prevHas (gs : List (List Int)) (g : Nat) (x : Int) : Bool := (List.range g).any fun h => decide (x ∈ gs.getD h [])
def refBad (d : Int) (gs : List (List Int)) (g k : Nat) : Bool :=
  decide ((gs.getD g []).getD k 0 < 0) || decide (d ≤ (gs.getD g []).getD k 0) || (decide (0 < k) && decide ((gs.getD g []).getD k 0 ≤ (gs.getD g []).getD (k - 1) 0)) || prevHas gs g ((gs.getD g []).getD k 0)
/-- The error of one group. -/
def refGroup (d : Int) (gs : List (List Int)) (g : Nat) : Int :=
  if gs.getD g [] = [] then 8 else if (List.range (gs.getD g []).length).any (refBad d gs g) then 1 else 0
theorem prevHas_true {gs : List (List Int)} {g h : Nat} {x : Int} (hh : h < g) (hx : x ∈ gs.getD h []) : prevHas gs g x = true := by
  unfold prevHas
  rw [List.any_eq_true]
  exact ⟨h, List.mem_range.2 hh, by simpa using hx⟩
theorem prevHas_false {gs : List (List Int)} {g : Nat} {x : Int} (h : ∀ j, j < g → x ∉ gs.getD j []) : prevHas gs g x = false := by
  unfold prevHas
  rw [List.any_eq_false]
  intro j hj
  simpa using h j (List.mem_range.1 hj)
theorem prevHas_succ (gs : List (List Int)) (g : Nat) (x : Int) : prevHas gs (g + 1) x = true ↔ prevHas gs g x = true ∨ x ∈ gs.getD g [] := by
  unfold prevHas
  rw [List.range_succ, List.any_append, Bool.or_eq_true]
  simp
theorem refGroup_none {d : Int} {gs : List (List Int)} {g : Nat} (h : gs.getD g [] = []) : refGroup d gs g = 8 := if_pos h
theorem refGroup_bad {d : Int} {gs : List (List Int)} {g k : Nat} (h : gs.getD g [] ≠ []) (hk : k < (gs.getD g []).length) (hb : refBad d gs g k = true) : refGroup d gs g = 1 := by
  unfold refGroup
  rw [if_neg h, if_pos]
  rw [List.any_eq_true]
  exact ⟨k, List.mem_range.2 hk, hb⟩
theorem refGroup_ok {d : Int} {gs : List (List Int)} {g : Nat} (h : gs.getD g [] ≠ []) (hb : ∀ k, k < (gs.getD g []).length → refBad d gs g k = false) : refGroup d gs g = 0 := by
  unfold refGroup
  rw [if_neg h, if_neg]
  rw [Bool.not_eq_true, List.any_eq_false]
  intro k hk
  rw [hb k (List.mem_range.1 hk)]
  simp
theorem refBad_def (d : Int) (gs : List (List Int)) (g k : Nat) : refBad d gs g k = (decide ((gs.getD g []).getD k 0 < 0) || decide (d ≤ (gs.getD g []).getD k 0) || (decide (0 < k) && decide ((gs.getD g []).getD k 0 ≤ (gs.getD g []).getD (k - 1) 0)) || prevHas gs g ((gs.getD g []).getD k 0)) := rfl
/-- A group is bad for the program exactly if it is for the specification. -/
theorem bad_ref {d : Int} {gs : List (List Int)} {g s : Nat} (hs : ∀ x : Nat, bitAt s x = 1 ↔ prevHas gs g x = true) : bad d s (gs.getD g []) = (List.range (gs.getD g []).length).any (refBad d gs g) := by
  have each : ∀ k, badAt d s (gs.getD g []) k = refBad d gs g k := fun k => by
    rw [badAt_def, refBad_def]
    obtain ⟨x, hx⟩ : ∃ x, (gs.getD g []).getD k 0 = x := ⟨_, rfl⟩
    rw [hx]
    by_cases h0 : x < 0
    · simp [h0]
    · have h1 := hs x.toNat
      rw [show ((x.toNat : Nat) : Int) = x from by omega] at h1
      cases hp : prevHas gs g x with
      | true => rw [h1.2 hp]; simp
      | false =>
        have : bitAt s x.toNat ≠ 1 := fun h => by rw [h1.1 h] at hp; cases hp
        rw [show (bitAt s x.toNat == 1) = false from by simpa using this]
  unfold bad
  congr 1
  funext k
  exact each k
theorem checkG_ref {d : Int} {gs : List (List Int)} : ∀ i, i ≤ gs.length → (∀ h, h < i → refGroup d gs h = 0) →
    ∃ s, checkG d 0 gs = checkG d s (gs.drop i) ∧ ∀ x : Nat, bitAt s x = 1 ↔ prevHas gs i x = true
  | 0, _, _ => ⟨0, rfl, fun x => by simp [bitAt, prevHas]⟩
  | i + 1, hi, h => by
    obtain ⟨s, h1, h2⟩ := checkG_ref i (by omega) (fun j hj => h j (by omega))
    have hl : i < gs.length := by omega
    have hg : gs.getD i [] = gs[i] := by rw [List.getD_eq_getElem?_getD, List.getElem?_eq_getElem hl]; rfl
    have hr := h i (by omega)
    have hne : gs.getD i [] ≠ [] := fun he => by rw [refGroup_none he] at hr; cases hr
    have hb := bad_ref (d := d) h2
    have hbf : bad d s (gs.getD i []) = false := by
      rw [hb]
      cases ha : (List.range (gs.getD i []).length).any (refBad d gs i) with
      | false => rfl
      | true =>
        unfold refGroup at hr
        rw [if_neg hne, if_pos ha] at hr
        cases hr
    refine ⟨setOf s gs[i], ?_, fun x => ?_⟩
    · rw [h1, drop_cons hl, checkG_next (by rw [← hg]; exact hne) (by rw [← hg]; exact hbf)]
    · rw [bit_set gs[i] s x (fun j hj => by rw [← hg] at hj; exact (bad_bounds hbf hj).1), h2 x, prevHas_succ, hg]
theorem checkG_err {d : Int} {gs : List (List Int)} {i : Nat} (hi : i < gs.length) (h : ∀ j, j < i → refGroup d gs j = 0) (he : refGroup d gs i ≠ 0) : checkG d 0 gs = refGroup d gs i := by
  obtain ⟨s, h1, h2⟩ := checkG_ref i (by omega) h
  have hg : gs.getD i [] = gs[i] := by rw [List.getD_eq_getElem?_getD, List.getElem?_eq_getElem hi]; rfl
  rw [h1, drop_cons hi, ← hg]
  by_cases hne : gs.getD i [] = []
  · rw [refGroup_none hne, hne, checkG_nil]
  · have hb := bad_ref (d := d) h2
    unfold refGroup at he ⊢
    rw [if_neg hne] at he ⊢
    cases ha : (List.range (gs.getD i []).length).any (refBad d gs i) with
    | false => rw [ha] at he; simp at he
    | true => rw [ha] at hb; rw [checkG_bad hne hb]; rfl
theorem checkR_err {d gl : Int} {gs : List (List Int)} (h1 : ¬ (d < 1 ∨ 16 < d ∨ gl < 0 ∨ 4 < gl)) (h2 : ¬ 24 < d + gs.length + gl) {i : Nat} (hi : i < gs.length) (h : ∀ j, j < i → refGroup d gs j = 0) (he : refGroup d gs i ≠ 0) : check d gs gl = refGroup d gs i := by
  rw [check_groups h1 (by omega), checkG_err hi h he]
theorem checkR_ok {d gl : Int} {gs : List (List Int)} (h1 : ¬ (d < 1 ∨ 16 < d ∨ gl < 0 ∨ 4 < gl)) (h2 : ¬ 24 < d + gs.length + gl) (h : ∀ j, j < gs.length → refGroup d gs j = 0) : check d gs gl = 0 := by
  obtain ⟨s, e, _⟩ := checkG_ref gs.length (Nat.le_refl _) h
  rw [check_groups h1 (by omega), e, List.drop_length, checkG_end]
attribute [irreducible] refGroup refBad prevHas
end Cd
/- THE WALKS over the specification of codes: Has, group, Check, Pieces, Size, Bit, In, IsSet. -/
namespace Go.Proofs.YtdmljilcbndmfaaDoor
open Go.RowKit
theorem rHas_any (l : List Int) (x : Int) (B : Option Addr) (n c : Nat) (w : World) (hB : Rs RI w (.slice B n c) l) :
    Calls Tryd.prog 99 #[.slice B n c, .int .i64 x] w fun e w' => e = .returned (.bool (decide (x ∈ l))) ∧ w = w' := by
  have hn := hB.len
  obtain ⟨_, _, e0, hl⟩ := hB.form
  have HB := Lib.hid hB
  have HN := Lib.hid hn
  have hl2 : n ≤ 9223372036854775807 := by omega
  clear hB hn e0 hl
  go_enter Tryd.func99, Tryd.ntmps99
  go_wp2_with fail
  go_loop [5] (fun vi => ∃ i : Nat, i ≤ n ∧ vi = .int .i64 i ∧ Hid (∀ j, j < i → l.getD j 0 ≠ x)) (fun vi => n - (intOf vi).toNat)
  case atStart => exact ⟨0, Nat.zero_le _, rfl, Lib.hid fun j hj => absurd hj (Nat.not_lt_zero j)⟩
  case round =>
    obtain ⟨i, hi, rfl, HJ⟩ := hrel
    by_cases hlt : i < n
    · have hll : i < l.length := by rw [← HN.out]; exact hlt
      obtain ⟨ad, u, rfl, hc, hu⟩ := HB.out.at hll
      obtain ⟨rfl, _, _⟩ := hu
      have hgd := getD_get (x := (0 : Int)) hll
      obtain ⟨y, hy⟩ : ∃ y, l[i] = y := ⟨_, rfl⟩
      rw [hy] at hc hgd
      have hm : y ∈ l := by rw [← hy]; exact List.getElem_mem hll
      have HM := Lib.hid (And.intro hgd hm)
      clear hgd hm hy
      by_cases h1 : y = x
      · have e1 : (y == x) = true := by rw [h1]; simp
        have hd : decide (x ∈ l) = true := by rw [decide_eq_true_eq, ← h1]; exact HM.out.2
        have HD := Lib.hid hd
        clear h1 hd
        go_wp2_with fail
        go_ret
        exact ⟨ret_bool HD.out.symm, rfl⟩
      · have e1 : (y == x) = false := by rw [beq_eq_false_iff_ne]; exact h1
        have H1 := Lib.hid h1
        clear h1
        go_wp2_with fail
        go_round
        case rel => exact ⟨i + 1, by omega, by go_num, Lib.hid fun j hj => by
          by_cases hji : j = i
          · rw [hji, HM.out.1]; exact H1.out
          · exact HJ.out j (by omega)⟩
        case measure => simp [intOf]; omega
    · obtain rfl : i = n := by omega
      have hd : decide (x ∈ l) = false := by
        rw [decide_eq_false_iff_not]
        intro hm
        obtain ⟨j, hj, he⟩ := List.getElem_of_mem hm
        have := HJ.out j (by rw [HN.out]; exact hj)
        rw [getD_get hj] at this
        exact this he
      have HD := Lib.hid hd
      clear hd
      go_wp2_with fail
      go_ret
      exact ⟨ret_bool HD.out.symm, rfl⟩

set_option maxHeartbeats 1000000 in
theorem rGroup_any (d gl : Int) (gs : List (List Int)) (g : Nat) (G : Value) (w : World) (hG : Rs (Rs RI) w G gs) (hg : g < gs.length) :
    Calls Tryd.prog 88 #[.agg #[.int .i64 d, G, .int .i64 gl], .int .i64 g] w fun e w' => e = .returned (.int .i64 (Cd.refGroup d gs g)) ∧ Ext w w' := by
  have hx0 := (Ext.refl w).alloc (.cells #[.int .i64 d, G, .int .i64 gl] 24)
  have hG1 := Rs.ext (Rs.ext RI.ext) _ _ _ _ hx0 hG
  obtain ⟨A, c, rfl, hl⟩ := hG.form
  obtain ⟨ad, u, rfl, hcell, hu⟩ := hG1.at hg
  obtain ⟨B, cB, rfl, hlB⟩ := hu.form
  have hgd := getD_get (x := ([] : List Int)) hg
  obtain ⟨p, hp⟩ : ∃ p, gs[g] = p := ⟨_, rfl⟩
  rw [hp] at hu hlB hgd hcell
  have HX := Lib.hid hx0
  have HG := Lib.hid hG1
  have HU := Lib.hid hu
  have HD := Lib.hid hgd
  clear hG hx0 hG1 hu hgd hp
  by_cases h0 : p = []
  · have h8 : Cd.refGroup d gs g = 8 := Cd.refGroup_none (by rw [HD.out]; exact h0)
    have H8 := Lib.hid h8
    have hl0 : p.length = 0 := by rw [h0]; rfl
    clear h8 h0
    go_enter Tryd.func88, Tryd.ntmps88
    go_wp2_with fail
    go_ret
    exact ⟨ret_int H8.out.symm, HX.out⟩
  · have hgl : p.length ≠ 0 := fun h => h0 (List.length_eq_zero_iff.1 h)
    have e0 : ((p.length : Int) == 0) = false := by rw [beq_eq_false_iff_ne]; omega
    have H0 := Lib.hid (show gs.getD g [] ≠ [] by rw [HD.out]; exact h0)
    clear h0 hgl
    go_enter Tryd.func88, Tryd.ntmps88
    go_wp2_with fail
    go_loop [5] (fun vk => ∃ k : Nat, k ≤ p.length ∧ vk = .int .i64 k ∧ Hid (∀ j, j < k → Cd.refBad d gs g j = false)) (fun vk => p.length - (intOf vk).toNat)
    case atStart => exact ⟨0, Nat.zero_le _, rfl, Lib.hid fun j hj => absurd hj (Nat.not_lt_zero j)⟩
    case round =>
      obtain ⟨k, hk, rfl, HB⟩ := hrel
      by_cases hkl : k < p.length
      · obtain ⟨bd, u, rfl, hbc, hu⟩ := HU.out.at hkl
        obtain ⟨rfl, hlo, hhi⟩ := hu
        have hgk := getD_get (x := (0 : Int)) hkl
        have hbd := Cd.refBad_def d gs g k
        rw [HD.out, hgk] at hbd
        obtain ⟨y, hy⟩ : ∃ y, p[k] = y := ⟨_, rfl⟩
        rw [hy] at hbd hbc hlo hhi
        have bad1 : Cd.refBad d gs g k = true → Cd.refGroup d gs g = 1 := fun h => Cd.refGroup_bad H0.out (by rw [HD.out]; exact hkl) h
        have BD := Lib.hid hbd
        have B1 := Lib.hid bad1
        clear hgk hbd bad1 hy
        by_cases c1 : y < 0
        · have H1 := Lib.hid (B1.out (by rw [BD.out]; simp [c1]))
          go_wp2_with fail
          go_ret
          exact ⟨ret_int H1.out.symm, HX.out⟩
        · by_cases c2 : d ≤ y
          · have H1 := Lib.hid (B1.out (by rw [BD.out]; simp [c2]))
            go_wp2_with fail
            go_ret
            exact ⟨ret_int H1.out.symm, HX.out⟩
          · by_cases ck : 0 < k
            · obtain ⟨bd2, u2, e2, hbc2, hu2⟩ := HU.out.at (i := k - 1) (by omega)
              injection e2 with e2
              subst e2
              obtain ⟨rfl, hlo2, hhi2⟩ := hu2
              have hgk2 := getD_get (x := (0 : Int)) (show k - 1 < p.length by omega)
              obtain ⟨z, hz⟩ : ∃ z, p[k - 1] = z := ⟨_, rfl⟩
              rw [hz] at hgk2 hbc2 hlo2 hhi2
              have HK2 := Lib.hid hgk2
              clear hgk2 hz
              by_cases c3 : y ≤ z
              · have H1 := Lib.hid (B1.out (by rw [BD.out, HK2.out]; simp [c3, ck]))
                go_wp2_with fail
                go_ret
                exact ⟨ret_int H1.out.symm, HX.out⟩
              · have hno : Cd.prevHas gs g y = false → Cd.refBad d gs g k = false := fun h => by rw [BD.out, HK2.out, h]; simp [c1, c2, c3]
                have hyes : Cd.prevHas gs g y = true → Cd.refGroup d gs g = 1 := fun h => B1.out (by rw [BD.out, h]; simp)
                have HNO := Lib.hid (And.intro hno hyes)
                clear hno hyes
                go_wp2_with fail
                go_loop [7] (fun vh => ∃ h : Nat, h ≤ g ∧ vh = .int .i64 h ∧ Hid (∀ j, j < h → y ∉ gs.getD j [])) (fun vh => g - (intOf vh).toNat)
                case atStart => exact ⟨0, Nat.zero_le _, rfl, Lib.hid fun j hj => absurd hj (Nat.not_lt_zero j)⟩
                case round =>
                  obtain ⟨h, hh, rfl, HH⟩ := hrel
                  by_cases hhl : h < g
                  · obtain ⟨ad2, v, e3, hvc, hv⟩ := HG.out.at (i := h) (by omega)
                    injection e3 with e3
                    subst e3
                    obtain ⟨B2, c2', rfl, hl2⟩ := hv.form
                    have hgh := getD_get (x := ([] : List Int)) (show h < gs.length by omega)
                    obtain ⟨q, hq⟩ : ∃ q, gs[h] = q := ⟨_, rfl⟩
                    rw [hq] at hv hl2 hgh hvc
                    have HV := Lib.hid hv
                    have HGH := Lib.hid hgh
                    clear hv hgh hq
                    by_cases hin : y ∈ q
                    · have e4 : decide (y ∈ q) = true := by simpa using hin
                      have H1 := Lib.hid (HNO.out.2 (Cd.prevHas_true hhl (by rw [HGH.out]; exact hin)))
                      clear hin
                      go_wp2_with fail
                      refine (rHas_any q y _ _ _ _ HV.out).mono ?_
                      rintro e w1 ⟨rfl, rfl⟩
                      rw [e4]
                      go_wp2_with fail
                      go_ret
                      exact ⟨ret_int H1.out.symm, HX.out⟩
                    · have e4 : decide (y ∈ q) = false := by simpa using hin
                      have HIN := Lib.hid hin
                      clear hin
                      go_wp2_with fail
                      refine (rHas_any q y _ _ _ _ HV.out).mono ?_
                      rintro e w1 ⟨rfl, rfl⟩
                      rw [e4]
                      go_wp2_with fail
                      go_round
                      case rel => exact ⟨h + 1, by omega, by go_num, Lib.hid fun j hj => by
                        by_cases hjh : j = h
                        · rw [hjh, HGH.out]; exact HIN.out
                        · exact HH.out j (by omega)⟩
                      case measure => simp [intOf]; omega
                  · obtain rfl : h = g := by omega
                    have H1 := Lib.hid (HNO.out.1 (Cd.prevHas_false HH.out))
                    go_wp2_with fail
                    go_round
                    case rel => exact ⟨k + 1, by omega, by go_num, Lib.hid fun j hj => by
                      by_cases hjk : j = k
                      · rw [hjk]; exact H1.out
                      · exact HB.out j (by omega)⟩
                    case measure => simp [intOf]; omega
            · have hno : Cd.prevHas gs g y = false → Cd.refBad d gs g k = false := fun h => by rw [BD.out, h]; simp [c1, c2, ck]
              have hyes : Cd.prevHas gs g y = true → Cd.refGroup d gs g = 1 := fun h => B1.out (by rw [BD.out, h]; simp)
              have HNO := Lib.hid (And.intro hno hyes)
              clear hno hyes
              go_wp2_with fail
              go_loop [7] (fun vh => ∃ h : Nat, h ≤ g ∧ vh = .int .i64 h ∧ Hid (∀ j, j < h → y ∉ gs.getD j [])) (fun vh => g - (intOf vh).toNat)
              case atStart => exact ⟨0, Nat.zero_le _, rfl, Lib.hid fun j hj => absurd hj (Nat.not_lt_zero j)⟩
              case round =>
                obtain ⟨h, hh, rfl, HH⟩ := hrel
                by_cases hhl : h < g
                · obtain ⟨ad2, v, e3, hvc, hv⟩ := HG.out.at (i := h) (by omega)
                  injection e3 with e3
                  subst e3
                  obtain ⟨B2, c2', rfl, hl2⟩ := hv.form
                  have hgh := getD_get (x := ([] : List Int)) (show h < gs.length by omega)
                  obtain ⟨q, hq⟩ : ∃ q, gs[h] = q := ⟨_, rfl⟩
                  rw [hq] at hv hl2 hgh hvc
                  have HV := Lib.hid hv
                  have HGH := Lib.hid hgh
                  clear hv hgh hq
                  by_cases hin : y ∈ q
                  · have e4 : decide (y ∈ q) = true := by simpa using hin
                    have H1 := Lib.hid (HNO.out.2 (Cd.prevHas_true hhl (by rw [HGH.out]; exact hin)))
                    clear hin
                    go_wp2_with fail
                    refine (rHas_any q y _ _ _ _ HV.out).mono ?_
                    rintro e w1 ⟨rfl, rfl⟩
                    rw [e4]
                    go_wp2_with fail
                    go_ret
                    exact ⟨ret_int H1.out.symm, HX.out⟩
                  · have e4 : decide (y ∈ q) = false := by simpa using hin
                    have HIN := Lib.hid hin
                    clear hin
                    go_wp2_with fail
                    refine (rHas_any q y _ _ _ _ HV.out).mono ?_
                    rintro e w1 ⟨rfl, rfl⟩
                    rw [e4]
                    go_wp2_with fail
                    go_round
                    case rel => exact ⟨h + 1, by omega, by go_num, Lib.hid fun j hj => by
                      by_cases hjh : j = h
                      · rw [hjh, HGH.out]; exact HIN.out
                      · exact HH.out j (by omega)⟩
                    case measure => simp [intOf]; omega
                · obtain rfl : h = g := by omega
                  have H1 := Lib.hid (HNO.out.1 (Cd.prevHas_false HH.out))
                  go_wp2_with fail
                  go_round
                  case rel => exact ⟨k + 1, by omega, by go_num, Lib.hid fun j hj => by
                    by_cases hjk : j = k
                    · rw [hjk]; exact H1.out
                    · exact HB.out j (by omega)⟩
                  case measure => simp [intOf]; omega
      · obtain rfl : k = p.length := by omega
        have hz : Cd.refGroup d gs g = 0 := Cd.refGroup_ok H0.out (by rw [HD.out]; exact HB.out)
        have HZ := Lib.hid hz
        clear hz
        go_wp2_with fail
        go_ret
        exact ⟨ret_int HZ.out.symm, HX.out⟩
end Go.Proofs.YtdmljilcbndmfaaDoor
/- THE WALKS over the specification of codes: Check, Pieces, Size, Bit, In, IsSet. -/
namespace Cd
end Cd
namespace Go.Proofs.YtdmljilcbndmfaaDoor
open Go.RowKit
set_option maxHeartbeats 4000000 in
theorem rCheck_any (d gl : Int) (gs : List (List Int)) (G : Value) (w : World) (hG : Rs (Rs RI) w G gs) (hn : gs.length ≤ 4611686018427387904) :
    Calls Tryd.prog 65 #[.agg #[.int .i64 d, G, .int .i64 gl]] w fun e w' => e = .returned (.int .i64 (Cd.check d gs gl)) ∧ Ext w w' := by
  have hx0 := (Ext.refl w).alloc (.cells #[.int .i64 d, G, .int .i64 gl] 24)
  have HX := Lib.hid (And.intro hx0 (Rs.ext (Rs.ext RI.ext) _ _ _ _ hx0 hG))
  by_cases h : d < 1 ∨ 16 < d ∨ gl < 0 ∨ 4 < gl
  · rw [Cd.check_range h]
    have four : d < 1 ∨ (¬ d < 1 ∧ 16 < d) ∨ (¬ d < 1 ∧ ¬ 16 < d ∧ gl < 0) ∨ (¬ d < 1 ∧ ¬ 16 < d ∧ ¬ gl < 0 ∧ 4 < gl) := by omega
    clear h hG hx0
    rcases four with g | ⟨g1, g⟩ | ⟨g1, g2, g⟩ | ⟨g1, g2, g3, g⟩
    all_goals
      go_enter Tryd.func65, Tryd.ntmps65
      go_wp2_with fail
      go_ret
      exact ⟨rfl, HX.out.1⟩
  · have h1 : 1 ≤ d := by omega
    have h2 : d ≤ 16 := by omega
    have h3 : 0 ≤ gl := by omega
    have h4 : gl ≤ 4 := by omega
    obtain ⟨A, c, rfl, hl⟩ := hG.form
    have H := Lib.hid h
    clear hG hx0 h
    by_cases hb : 24 < d + gs.length + gl
    · have hc := Cd.check_limit H.out (.inr hb)
      have HC := Lib.hid hc
      clear hc
      go_enter Tryd.func65, Tryd.ntmps65
      go_wp2_with fail
      go_ret
      exact ⟨ret_int HC.out.symm, HX.out.1⟩
    · have hb2 : d + gs.length + gl ≤ 24 := by omega
      clear hb
      go_enter Tryd.func65, Tryd.ntmps65
      go_wp2_with fail
      go_loopw [3] (fun vi wr => ∃ i : Nat, i ≤ gs.length ∧ vi = .int .i64 i ∧ Hid (Ext (w.alloc (.cells #[.int .i64 d, .slice A gs.length c, .int .i64 gl] 24)) wr ∧ ∀ j, j < i → Cd.refGroup d gs j = 0)) (fun vi _ => gs.length - (intOf vi).toNat)
      case atStart => exact ⟨0, Nat.zero_le _, rfl, Lib.hid (And.intro (Ext.refl _) fun j hj => absurd hj (Nat.not_lt_zero j))⟩
      case round =>
        obtain ⟨i, hi, rfl, HR⟩ := hrel
        have hc0 : wr.cell? ⟨w.heap.size, 0, none⟩ = some (.int .i64 d) := HR.out.1.cell (by go_simp)
        have hc1 : wr.cell? ⟨w.heap.size, 1, none⟩ = some (.slice A gs.length c) := HR.out.1.cell (by go_simp)
        have hc2 : wr.cell? ⟨w.heap.size, 2, none⟩ = some (.int .i64 gl) := HR.out.1.cell (by go_simp)
        by_cases hlt : i < gs.length
        · have hgr := Rs.ext (Rs.ext RI.ext) _ _ _ _ HR.out.1 HX.out.2
          have HG := Lib.hid hgr
          clear hgr
          by_cases he : Cd.refGroup d gs i = 0
          · have e1 : (Cd.refGroup d gs i != 0) = false := by rw [he]; rfl
            have HE := Lib.hid he
            clear he
            go_wp2_with fail
            refine (rGroup_any d gl gs i _ _ HG.out hlt).mono ?_
            rintro e w1 ⟨rfl, hx1⟩
            have HX1 := Lib.hid (HR.out.1.trans hx1)
            clear hx1 hc0 hc1 hc2
            go_wp2_with fail
            go_roundw
            case rel => exact ⟨i + 1, by omega, by go_num, Lib.hid (And.intro HX1.out fun j hj => by
              by_cases hji : j = i
              · rw [hji]; exact HE.out
              · exact HR.out.2 j (by omega))⟩
            case measure => simp [intOf]; omega
          · have e1 : (Cd.refGroup d gs i != 0) = true := by rw [bne_iff_ne]; exact he
            have hc := Cd.checkR_err H.out (by omega) hlt HR.out.2 he
            have HC := Lib.hid hc
            clear he hc
            go_wp2_with fail
            refine (rGroup_any d gl gs i _ _ HG.out hlt).mono ?_
            rintro e w1 ⟨rfl, hx1⟩
            have HX1 := Lib.hid (HR.out.1.trans hx1)
            clear hx1 hc0 hc1 hc2
            go_wp2_with fail
            go_ret
            exact ⟨ret_int HC.out.symm, HX.out.1.trans HX1.out⟩
        · obtain rfl : i = gs.length := by omega
          have hc := Cd.checkR_ok H.out (by omega) HR.out.2
          have HC := Lib.hid hc
          clear hc
          go_wp2_with fail
          go_ret
          exact ⟨ret_int HC.out.symm, HX.out.1.trans HR.out.1⟩
theorem rPieces_any (d gl : Int) (gs : List (List Int)) (G : Value) (w : World) (hG : Rs (Rs RI) w G gs) (hn : gs.length ≤ 4611686018427387904) :
    Calls Tryd.prog 29 #[.agg #[.int .i64 d, G, .int .i64 gl]] w fun e w' => e = .returned (.int .i64 (Cd.pieces d gs gl)) ∧ Ext w w' := by
  have hx0 := (Ext.refl w).alloc (.cells #[.int .i64 d, G, .int .i64 gl] 24)
  have HX := Lib.hid (And.intro hx0 (Rs.ext (Rs.ext RI.ext) _ _ _ _ hx0 hG))
  obtain ⟨A, c, rfl, hl⟩ := hG.form
  clear hG hx0
  by_cases h0 : Cd.check d gs gl = 0
  · have hp := Cd.pieces_ok h0
    have hk := Cd.check_ok h0
    have e1 : (Cd.check d gs gl != 0) = false := by rw [h0]; rfl
    have HP := Lib.hid hp
    clear h0 hp
    go_enter Tryd.func29, Tryd.ntmps29
    go_wp2_with fail
    refine (rCheck_any d gl gs _ _ HX.out.2 hn).mono ?_
    rintro e w1 ⟨rfl, hx1⟩
    have hc0 : w1.cell? ⟨w.heap.size, 0, none⟩ = some (.int .i64 d) := hx1.cell (by go_simp)
    have hc1 : w1.cell? ⟨w.heap.size, 1, none⟩ = some (.slice A gs.length c) := hx1.cell (by go_simp)
    have hc2 : w1.cell? ⟨w.heap.size, 2, none⟩ = some (.int .i64 gl) := hx1.cell (by go_simp)
    have HX1 := Lib.hid (HX.out.1.trans hx1)
    clear hx1
    go_wp2_with fail
    go_ret
    exact ⟨ret_int HP.out.symm, HX1.out⟩
  · have hp := Cd.pieces_no h0
    have e1 : (Cd.check d gs gl != 0) = true := by rw [bne_iff_ne]; exact h0
    have HP := Lib.hid hp
    clear h0 hp
    go_enter Tryd.func29, Tryd.ntmps29
    go_wp2_with fail
    refine (rCheck_any d gl gs _ _ HX.out.2 hn).mono ?_
    rintro e w1 ⟨rfl, hx1⟩
    have HX1 := Lib.hid (HX.out.1.trans hx1)
    clear hx1
    go_wp2_with fail
    go_ret
    exact ⟨ret_int HP.out.symm, HX1.out⟩
end Go.Proofs.YtdmljilcbndmfaaDoor
/- THE WALKS over the specification of codes: row, Rows, part. -/
namespace Cd
open Gf
/-- A coefficient of a piece's row. -/
def rowAt (d : Nat) (gs : List (List Int)) (k i : Nat) : UInt8 := if k < d then unitAt k i else if k < d + gs.length then inAt (setOf 0 (gs.getD (k - d) [])) i else gloAt (k - d - gs.length) i
attribute [irreducible] rowAt
end Cd
namespace Go.Proofs.YtdmljilcbndmfaaDoor
open Go.RowKit
theorem Rd.range {w : World} {A : Option Addr} {d : Nat} {g : Nat → UInt8} {l : List UInt8} (h : Rd w A (((List.range d).map g).map bv)) (hl : (List.range d).map g = l) : Rd w A (l.map bv) := hl ▸ h

end Go.Proofs.YtdmljilcbndmfaaDoor
/- THE WALKS over the specification of codes: Rows, part, Encode, SameRows, SameTexts, Few. -/
namespace Cd
end Cd
namespace Go.Proofs.YtdmljilcbndmfaaDoor
open Go.RowKit
/-- A row of bytes that a call has made. -/
def byteRow (A : Option Addr) (c : Nat) (r : List UInt8) : LRow := ⟨.slice A r.length c, 5, 1, r.length, r.map bv⟩
/-- Rows of bytes that a call has made, and the list of them. -/
def RowsOwn (w0 w : World) (A : Option Addr) (n c : Nat) (rs : List (List UInt8)) : Prop :=
  ∃ L : List LRow, n = rs.length ∧ L.length = rs.length ∧ (∀ (j : Nat) (r : List UInt8), rs[j]? = some r → ∃ A2 c2, L[j]? = some (byteRow A2 c2 r)) ∧ Owns w0 w (⟨.slice A n c, 28, 1, n, L.map (·.v)⟩ :: L)
/-- The same with one row more, that is not in the list yet. -/
def RowsMore (w0 w : World) (A : Option Addr) (n c : Nat) (rs : List (List UInt8)) (A2 : Option Addr) (c2 : Nat) (r : List UInt8) : Prop :=
  ∃ L : List LRow, n = rs.length ∧ L.length = rs.length ∧ (∀ (j : Nat) (r : List UInt8), rs[j]? = some r → ∃ A2 c2, L[j]? = some (byteRow A2 c2 r)) ∧ Owns w0 w ((⟨.slice A n c, 28, 1, n, L.map (·.v)⟩ :: L) ++ [byteRow A2 c2 r])
theorem RowsOwn.nil (w : World) : RowsOwn w w none 0 0 [] := ⟨[], rfl, rfl, fun j r h => by simp at h, Owns.start w (by intro r hr; simp at hr; subst hr; exact ⟨rfl, rfl, rfl⟩)⟩
theorem RowsOwn.next {w0 w w' : World} {A : Option Addr} {n c : Nat} {rs : List (List UInt8)} (h : RowsOwn w0 w A n c rs) (hx : Ext w w') : RowsOwn w0 w' A n c rs := by
  obtain ⟨L, h1, h2, h3, h4⟩ := h
  exact ⟨L, h1, h2, h3, h4.next hx⟩
theorem RowsOwn.ext {w0 w : World} {A : Option Addr} {n c : Nat} {rs : List (List UInt8)} (h : RowsOwn w0 w A n c rs) : Ext w0 w := by
  obtain ⟨L, h1, h2, h3, h4⟩ := h
  exact h4.ext
theorem RowsOwn.more {w0 w w2 : World} {A A2 : Option Addr} {n c c2 : Nat} {rs : List (List UInt8)} {r : List UInt8} (h : RowsOwn w0 w A n c rs) (hx : Ext w w2) (ho : w2.ownsRow w.heap.size 5 1 (.slice A2 r.length c2) r.length (r.map bv)) : RowsMore w0 w2 A n c rs A2 c2 r := by
  obtain ⟨L, h1, h2, h3, h4⟩ := h
  exact ⟨L, h1, h2, h3, h4.behind hx ho⟩
theorem RowsOwn.rs {w0 w : World} {A : Option Addr} {n c : Nat} {rs : List (List UInt8)} (h : RowsOwn w0 w A n c rs) (hl : rs.length ≤ 9223372036854775807) (hw : ∀ r ∈ rs, r.length ≤ 9223372036854775807) : Rs (Rs RB) w (.slice A n c) rs := by
  obtain ⟨L, rfl, h2, h3, h4⟩ := h
  refine ⟨A, c, rfl, hl, fun i r hi => ?_⟩
  obtain ⟨A2, c2, hL⟩ := h3 i r hi
  have hv : (L.map (·.v))[i]? = some (.slice A2 r.length c2) := by rw [List.getElem?_map, hL]; rfl
  obtain ⟨ad, e1, _, e3⟩ := h4.rd 0 rfl i _ hv
  exact ⟨ad, _, e1, e3, Rs.of_rd (h4.rd (i + 1) (n := r.length) hL) (hw r (List.mem_of_getElem? hi))⟩
end Go.Proofs.YtdmljilcbndmfaaDoor
/- THE WALKS over the specification of codes: SameRows, SameTexts, Few. -/
namespace Cd
/-- At most n groups of at most 20 elements. -/
def few (gs : List (List Int)) (n : Nat) : Bool := decide (gs.length ≤ n) && gs.all fun g => decide (g.length ≤ 20)
theorem few_big {gs : List (List Int)} {n : Nat} (h : ¬ gs.length ≤ n) : few gs n = false := by simp [few, h]
theorem few_bad {gs : List (List Int)} {n g : Nat} (h : g < gs.length) (h2 : ¬ (gs[g]).length ≤ 20) : few gs n = false := by
  unfold few
  rw [Bool.and_eq_false_iff]
  right
  rw [List.all_eq_false]
  exact ⟨gs[g], List.getElem_mem h, by simpa using h2⟩
theorem few_ok {gs : List (List Int)} {n : Nat} (h : gs.length ≤ n) (h2 : ∀ g, g < gs.length → (gs.getD g []).length ≤ 20) : few gs n = true := by
  unfold few
  rw [Bool.and_eq_true, List.all_eq_true]
  refine ⟨by simpa using h, fun g hg => ?_⟩
  obtain ⟨i, hi, rfl⟩ := List.getElem_of_mem hg
  have := h2 i hi
  rw [Go.Proofs.YtdmljilcbndmfaaDoor.getD_get hi] at this
  simpa using this
end Cd
namespace Go.Proofs.YtdmljilcbndmfaaDoor
open Go.RowKit
theorem rFew_any (d gl : Int) (gs : List (List Int)) (n : Nat) (G : Value) (w : World) (hG : Rs (Rs RI) w G gs) (hn : n ≤ 1000) :
    Calls Tryd.prog 35 #[.agg #[.int .i64 d, G, .int .i64 gl], .int .i64 n] w fun e w' => e = .returned (.bool (Cd.few gs n)) ∧ Ext w w' := by
  have hx0 := (Ext.refl w).alloc (.cells #[.int .i64 d, G, .int .i64 gl] 24)
  have HX := Lib.hid (And.intro hx0 (Rs.ext (Rs.ext RI.ext) _ _ _ _ hx0 hG))
  obtain ⟨GA, Gc, rfl, hgl⟩ := hG.form
  clear hG hx0
  by_cases h1 : gs.length ≤ n
  · have H1 := Lib.hid h1
    go_enter Tryd.func35, Tryd.ntmps35
    go_wp2_with fail
    go_loop [5] (fun vi => ∃ i : Nat, i ≤ gs.length ∧ vi = .int .i64 i ∧ Hid (∀ j, j < i → (gs.getD j []).length ≤ 20)) (fun vi => gs.length - (intOf vi).toNat)
    case atStart => exact ⟨0, Nat.zero_le _, rfl, Lib.hid fun j hj => absurd hj (Nat.not_lt_zero j)⟩
    case round =>
      obtain ⟨i, hi, rfl, HI⟩ := hrel
      by_cases hlt : i < gs.length
      · obtain ⟨ad, u, rfl, hcell, hu⟩ := HX.out.2.at hlt
        obtain ⟨B, cB, rfl, hlB⟩ := hu.form
        have hgd := getD_get (x := ([] : List Int)) hlt
        have hbad := fun h => Cd.few_bad (n := n) hlt h
        obtain ⟨g, hg⟩ : ∃ g, gs[i] = g := ⟨_, rfl⟩
        rw [hg] at hcell hu hlB hgd hbad
        have HB := Lib.hid (And.intro hgd hbad)
        clear hgd hbad hu hg
        by_cases h2 : g.length ≤ 20
        · go_wp2_with fail
          go_round
          case rel => exact ⟨i + 1, by omega, by go_num, Lib.hid fun j hj => by
            by_cases hji : j = i
            · rw [hji, HB.out.1]; exact h2
            · exact HI.out j (by omega)⟩
          case measure => simp [intOf]; omega
        · go_wp2_with fail
          go_ret
          exact ⟨ret_bool (HB.out.2 h2).symm, HX.out.1⟩
      · obtain rfl : i = gs.length := by omega
        go_wp2_with fail
        go_ret
        exact ⟨ret_bool (Cd.few_ok H1.out HI.out).symm, HX.out.1⟩
  · go_enter Tryd.func35, Tryd.ntmps35
    go_wp2_with fail
    go_ret
    exact ⟨ret_bool (Cd.few_big h1).symm, HX.out.1⟩
end Go.Proofs.YtdmljilcbndmfaaDoor
