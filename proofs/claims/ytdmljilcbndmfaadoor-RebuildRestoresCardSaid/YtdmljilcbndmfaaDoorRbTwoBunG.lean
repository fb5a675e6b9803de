/- What the program's functions do, step by step: part G of the texts for this claim; no condition beyond what each theorem states. -/
import Derived.Deep.Cut
import Derived.Deep.DeepCutAuto
import Derived.Deep.Matrix
import Derived.Lib.SmallJoins
import Derived.SizedLaws
import Derived.Deep.Slices
import Derived.Test.YtdmljilcbndmfaaDoorRbTwoBunA
import Derived.Test.YtdmljilcbndmfaaDoorRbTwoBunB
import Derived.Test.YtdmljilcbndmfaaDoorRbTwoBunC
import Derived.Test.YtdmljilcbndmfaaDoorRbTwoBunD
import Derived.Test.YtdmljilcbndmfaaDoorRbTwoBunE
import Derived.Test.YtdmljilcbndmfaaDoorRbTwoBunF
/- WHAT A SMALL LOSS IS, in plain terms. -/
namespace Rb
open Cd
theorem small_open {d gl : Int} {gs : List (List Int)} {data : List UInt8} {lost piece other : Int} {most : Nat} (h : Small d gl gs data lost piece other most) :
    check d gs gl = 0 ∧ pieces d gs gl = ((rowsOf d gs gl).length : Int) ∧ 0 < (rowsOf d gs gl).length ∧ (rowsOf d gs gl).length ≤ most ∧
      (∃ L P O : Nat, lost = (L : Int) ∧ piece = (P : Int) ∧ other = (O : Int) ∧ L < 2 ^ (rowsOf d gs gl).length ∧ O < 2 ^ (rowsOf d gs gl).length ∧ P < (rowsOf d gs gl).length) ∧ data.length ≤ 200 ∧ gs.length ≤ 30 := by
  obtain ⟨h1, h2, h3, h4, h5, h6, h7, h8, h9, h10⟩ := h
  have hc : check d gs gl = 0 := by
    by_cases hc : check d gs gl = 0
    · exact hc
    · exfalso; unfold pieces at h2; rw [if_neg hc] at h2; exact absurd h2 (by decide)
  have hp : pieces d gs gl = ((rowsOf d gs gl).length : Int) := by rw [pieces_ok hc, rowsOf_len hc]
  rw [hp] at h2 h3 h5 h7 h9
  rw [Int.toNat_natCast] at h5 h7
  have hg : gs.length ≤ 30 := by
    rw [Cd.few, Bool.and_eq_true, decide_eq_true_eq] at h1
    exact h1.1
  refine ⟨hc, hp, by omega, by omega, ⟨lost.toNat, piece.toNat, other.toNat, by omega, by omega, by omega, ?_, ?_, by omega⟩, h10, hg⟩
  · generalize 2 ^ (rowsOf d gs gl).length = M at h5 ⊢; omega
  · generalize 2 ^ (rowsOf d gs gl).length = M at h7 ⊢; omega
end Rb
namespace Rb
open Cd
end Rb

/- THE DRAWN REGION 13 of sanity of the laws of rebuild. -/
namespace Go.Proofs.YtdmljilcbndmfaaDoor
open Go.RowKit Go.Shelf
theorem sSame_self (r : Rb.Rec) (v u : Value) (w : World) (ha : RRec w v r) (hb : RRec w u r) : Calls Tryd.prog 18 #[v, u] w fun e w' => e = .returned (.bool true) ∧ Ext w w' := by
  have h := sSame_any r r v u w ha hb
  rw [decide_eq_true rfl] at h
  exact h
theorem sSameAll_self (r : List Rb.Rec) (v u : Value) (w : World) (ha : RRs w v r) (hb : RRs w u r) : Calls Tryd.prog 19 #[v, u] w fun e w' => e = .returned (.bool true) ∧ Ext w w' := by
  have h := sSameAll_any r r v u w ha hb
  rw [decide_eq_true rfl] at h
  exact h
theorem run_build2_int (w : World) (a : Act) (o : Oper) (x y : Int) (ho : o.op = .buildSlice 27 2 #[(0, .const (.int .i64 x)), (1, .const (.int .i64 y))]) : (execOp a.eval o).run Tryd.prog w = .ok (.value (.slice (some ⟨w.heap.size, 0, none⟩) 2 2)) (w.alloc (.cells #[.int .i64 x, .int .i64 y] 3)) := by
  unfold execOp
  simp only [ho]
  go_simp
theorem run_build2_u8 (w : World) (a : Act) (o : Oper) (x y : Int) (ho : o.op = .buildSlice 28 2 #[(0, .const (.int .u8 x)), (1, .const (.int .u8 y))]) : (execOp a.eval o).run Tryd.prog w = .ok (.value (.slice (some ⟨w.heap.size, 0, none⟩) 2 2)) (w.alloc (.cells #[.int .u8 x, .int .u8 y] 5)) := by
  unfold execOp
  simp only [ho]
  go_simp
noncomputable def san_near_code : Code := ((Tryd.f11.body.bind (regionOf 13)).getD .skip)
def san_near_dsts : List (Option Nat) := [some 121, some 122, some 123, some 124, some 125, some 126, some 127, some 128, some 129, some 130, some 131, some 132, some 133, some 134, some 135, some 136, some 137, some 138, some 139, some 140, some 141, some 142, some 143, some 144, some 23]
theorem san_near_apart : apartD san_near_dsts = true := by decide +kernel
set_option maxRecDepth 1000000 in
set_option maxHeartbeats 16000000 in
theorem san_near (Qa Qb Ql XF cL : Nat) (LA FAa CAa FAb CAb FAl CAl FAz CAz : Option Addr) (fca cca fcb ccb fcl ccl fcz ccz : Nat) (wr : World) (hCa : Cells wr Qa [.int .i64 0, .slice FAa 2 fca, .slice CAa 2 cca]) (hCb : Cells wr Qb [.int .i64 0, .slice FAb 4 fcb, .slice CAb 4 ccb]) (hCl : Cells wr Ql [.int .i64 5, .slice FAl 2 fcl, .slice CAl 2 ccl]) (hC0 : Cells wr XF [.int .i64 0, .slice FAz 4 fcz, .slice CAz 4 ccz]) (hRa : RRec wr (.agg #[.int .i64 0, .slice FAa 2 fca, .slice CAa 2 cca]) ⟨0, [1, 4], [1, 1]⟩) (hRb : RRec wr (.agg #[.int .i64 0, .slice FAb 4 fcb, .slice CAb 4 ccb]) ⟨0, [1, 2, 3, 6], [2, 4, 8, 1]⟩) (hRl : RRec wr (.agg #[.int .i64 5, .slice FAl 2 fcl, .slice CAl 2 ccl]) ⟨5, [2, 3], [1, 1]⟩) (hR0 : RRec wr (.agg #[.int .i64 0, .slice FAz 4 fcz, .slice CAz 4 ccz]) ⟨0, [1, 2, 3, 6], [2, 4, 8, 1]⟩) (hAL : RRs wr (.slice LA 3 cL) [⟨0, [1, 2, 3, 6], [2, 4, 8, 1]⟩, ⟨0, [1, 2, 5, 6], [2, 12, 8, 1]⟩, ⟨0, [1, 3, 5, 6], [2, 12, 4, 1]⟩]) (hFAR : RRs wr (.slice (some ⟨XF, 0, none⟩) 3 3) [⟨0, [1, 2, 3, 6], [2, 4, 8, 1]⟩, ⟨0, [1, 2, 5, 6], [2, 12, 8, 1]⟩, ⟨0, [1, 3, 5, 6], [2, 12, 4, 1]⟩]) (c0 c1 c3 c5 c6 c7 c9 c11 c12 c13 c14 c15 c16 c17 c18 c19 c20 c21 c23 c24 c25 c26 c27 c28 c29 c30 c31 c32 c33 c34 c35 c36 c37 c38 c39 c40 c41 c42 c43 c44 c45 c46 c47 c48 c49 c50 c51 c52 c53 c54 c55 c56 c57 c58 c59 c60 c61 c62 c63 c64 c65 c66 c67 c68 c69 c70 c71 c72 c73 c74 c75 c76 c77 c78 c79 c80 c81 c82 c83 c84 c85 c86 c87 c88 c89 c90 c91 c92 c93 c94 c95 c96 c97 c98 c99 c100 c101 c102 c103 c104 c105 c106 c107 c108 c109 c110 c111 c112 c113 c114 c115 c116 c117 c118 c119 c120 c121 c122 c123 c124 c125 c126 c127 c128 c129 c130 c131 c132 c133 c134 c135 c136 c137 c138 c139 c140 c141 c142 c143 c144 c145 c146 c147 c148 c149 c150 c151 c152 c153 c154 c155 c156 c157 c158 c159 c160 c161 c162 c163 c164 c165 c166 c167 c168 c169 c170 c171 c172 c173 : Value) (df : List Deferred) (K : Act → World → Prop)
    (hK : ∀  (u121 u122 u123 u124 u125 u126 u127 u128 u129 u130 u131 u132 u133 u134 u135 u136 u137 u138 u139 u140 u141 u142 u143 u144 : Value) (wx : World), Ext wr wx → K ⟨#[c0, c1, .pointer (some ⟨Qa, 0, none⟩), c3, .slice LA 3 cL, c5, c6, c7, .pointer (some ⟨Qb, 0, none⟩), c9, .pointer (some ⟨Ql, 0, none⟩), c11, c12, c13, c14, c15, c16, c17, c18, c19, c20, c21, .slice (some ⟨XF, 0, none⟩) 3 3, .bool true, c24, c25, c26, c27, c28, c29, c30, c31, c32, c33, c34, c35, c36, c37, c38, c39, c40, c41, c42, c43, c44, c45, c46, c47, c48, c49, c50, c51, c52, c53, c54, c55, c56, c57, c58, c59, c60, c61, c62, c63, c64, c65, c66, c67, c68, c69, c70, c71, c72, c73, c74, c75, c76, c77, c78, c79, c80, c81, c82, c83, c84, c85, c86, c87, c88, c89, c90, c91, c92, c93, c94, c95, c96, c97, c98, c99, c100, c101, c102, c103, c104, c105, c106, c107, c108, c109, c110, c111, c112, c113, c114, c115, c116, c117, c118, c119, c120, u121, u122, u123, u124, u125, u126, u127, u128, u129, u130, u131, u132, u133, u134, u135, u136, u137, u138, u139, u140, u141, u142, u143, u144, c145, c146, c147, c148, c149, c150, c151, c152, c153, c154, c155, c156, c157, c158, c159, c160, c161, c162, c163, c164, c165, c166, c167, c168, c169, c170, c171, c172, c173], df⟩ wx) :
    Code.wp Tryd.prog san_near_code (AtEnd K) ⟨#[c0, c1, .pointer (some ⟨Qa, 0, none⟩), c3, .slice LA 3 cL, c5, c6, c7, .pointer (some ⟨Qb, 0, none⟩), c9, .pointer (some ⟨Ql, 0, none⟩), c11, c12, c13, c14, c15, c16, c17, c18, c19, c20, c21, .slice (some ⟨XF, 0, none⟩) 3 3, c23, c24, c25, c26, c27, c28, c29, c30, c31, c32, c33, c34, c35, c36, c37, c38, c39, c40, c41, c42, c43, c44, c45, c46, c47, c48, c49, c50, c51, c52, c53, c54, c55, c56, c57, c58, c59, c60, c61, c62, c63, c64, c65, c66, c67, c68, c69, c70, c71, c72, c73, c74, c75, c76, c77, c78, c79, c80, c81, c82, c83, c84, c85, c86, c87, c88, c89, c90, c91, c92, c93, c94, c95, c96, c97, c98, c99, c100, c101, c102, c103, c104, c105, c106, c107, c108, c109, c110, c111, c112, c113, c114, c115, c116, c117, c118, c119, c120, c121, c122, c123, c124, c125, c126, c127, c128, c129, c130, c131, c132, c133, c134, c135, c136, c137, c138, c139, c140, c141, c142, c143, c144, c145, c146, c147, c148, c149, c150, c151, c152, c153, c154, c155, c156, c157, c158, c159, c160, c161, c162, c163, c164, c165, c166, c167, c168, c169, c170, c171, c172, c173], df⟩ wr := by
  conv => arg 2; whnf
  refine region_inv (by kernel_rfl) [[], [], [], [1, 2], [0, 3, 3], [4, 4], [5], [5], [6, 7, 5, 5], [5, 8], [9, 8], [10], [10], [12, 10], [13, 10], [11, 14, 10, 10], [10, 15], [16, 15], [17], [17], [17], [19, 20, 17, 17], [18, 21, 21, 17], [17, 22], [23, 22, 0, 1, 2, 3, 4, 5, 6, 7, 8, 9, 10, 11, 12, 13, 14, 15, 16, 17, 18, 19, 20, 21, 22, 23]] (by kernel_rfl) [0, 1, 2, 3, 4, 5, 6, 7, 8, 9, 10, 11, 12, 13, 14, 15, 16, 17, 18, 19, 20, 21, 22, 23, 24] (by decide +kernel) (by decide +kernel) (by decide +kernel) (fun L a wc => ∃ (ga : Nat) (gb : Nat) (gd : Nat) (ge : Nat), Inv san_near_dsts [.agg #[.int .i64 0, .slice FAa 2 fca, .slice CAa 2 cca], .slice (some ⟨ga, 0, none⟩) 2 2, .slice (some ⟨gb, 0, none⟩) 2 2, .agg #[.int .i64 0, .slice (some ⟨ga, 0, none⟩) 2 2, .slice (some ⟨gb, 0, none⟩) 2 2], .bool true, .bool true, .slice LA 3 cL, .slice (some ⟨XF, 0, none⟩) 3 3, .bool true, .bool true, .bool true, .agg #[.int .i64 0, .slice FAb 4 fcb, .slice CAb 4 ccb], .slice (some ⟨XF, 0, none⟩) 3 3, .pointer (some ⟨XF, 0, none⟩), .agg #[.int .i64 0, .slice FAz 4 fcz, .slice CAz 4 ccz], .bool true, .bool true, .bool true, .agg #[.int .i64 5, .slice FAl 2 fcl, .slice CAl 2 ccl], .slice (some ⟨gd, 0, none⟩) 2 2, .slice (some ⟨ge, 0, none⟩) 2 2, .agg #[.int .i64 5, .slice (some ⟨gd, 0, none⟩) 2 2, .slice (some ⟨ge, 0, none⟩) 2 2], .bool true, .bool true, .bool true] ⟨#[c0, c1, .pointer (some ⟨Qa, 0, none⟩), c3, .slice LA 3 cL, c5, c6, c7, .pointer (some ⟨Qb, 0, none⟩), c9, .pointer (some ⟨Ql, 0, none⟩), c11, c12, c13, c14, c15, c16, c17, c18, c19, c20, c21, .slice (some ⟨XF, 0, none⟩) 3 3, c23, c24, c25, c26, c27, c28, c29, c30, c31, c32, c33, c34, c35, c36, c37, c38, c39, c40, c41, c42, c43, c44, c45, c46, c47, c48, c49, c50, c51, c52, c53, c54, c55, c56, c57, c58, c59, c60, c61, c62, c63, c64, c65, c66, c67, c68, c69, c70, c71, c72, c73, c74, c75, c76, c77, c78, c79, c80, c81, c82, c83, c84, c85, c86, c87, c88, c89, c90, c91, c92, c93, c94, c95, c96, c97, c98, c99, c100, c101, c102, c103, c104, c105, c106, c107, c108, c109, c110, c111, c112, c113, c114, c115, c116, c117, c118, c119, c120, c121, c122, c123, c124, c125, c126, c127, c128, c129, c130, c131, c132, c133, c134, c135, c136, c137, c138, c139, c140, c141, c142, c143, c144, c145, c146, c147, c148, c149, c150, c151, c152, c153, c154, c155, c156, c157, c158, c159, c160, c161, c162, c163, c164, c165, c166, c167, c168, c169, c170, c171, c172, c173], df⟩ L a ∧ Hid (Ext wr wc ∧ (L 1 = true → Cells wc ga [.int .i64 1, .int .i64 4]) ∧ (L 2 = true → Cells wc gb [.int .u8 1, .int .u8 1]) ∧ (L 19 = true → Cells wc gd [.int .i64 2, .int .i64 3]) ∧ (L 20 = true → Cells wc ge [.int .u8 1, .int .u8 1]))) ⟨0, 0, 0, 0, Inv.start, Lib.hid ⟨(Ext.refl wr).drew, fun h => (by cases h), fun h => (by cases h), fun h => (by cases h), fun h => by cases h⟩⟩ ?_ ?_
  · refine ⟨?_, ?_, ?_, ?_, ?_, ?_, ?_, ?_, ?_, ?_, ?_, ?_, ?_, ?_, ?_, ?_, ?_, ?_, ?_, ?_, ?_, ?_, ?_, ?_, ?_, trivial⟩
    ·
      rintro L a wc ⟨ga, gb, gd, ge, hv, HO⟩ hL hc hd
      have e0 : wc.cell? ⟨Qa, 0, none⟩ = some (.int .i64 0) := HO.out.1.cell (hCa 0 _ rfl)
      have e1 : wc.cell? ⟨Qa, 1, none⟩ = some (.slice FAa 2 fca) := HO.out.1.cell (hCa 1 _ rfl)
      have e2 : wc.cell? ⟨Qa, 2, none⟩ = some (.slice CAa 2 cca) := HO.out.1.cell (hCa 2 _ rfl)
      exact wpOp_val rfl rfl (ex_load rfl ((hv.fixed 2 (by decide)).trans rfl) (by go_simp)) ⟨ga, gb, gd, ge, hv.put san_near_apart 0 rfl (lb rfl) (lb rfl) rfl, HO⟩
    ·
      rintro L a wc ⟨ga, gb, gd, ge, hv, HO⟩ hL hc hd
      have n3 : L 3 = false := Bool.eq_false_iff.2 fun h => Bool.false_ne_true (hL.symm.trans (hc 3 h 1 (by decide)))
      have hv := hv.reset 3 n3 (.agg #[.int .i64 0, .slice (some ⟨wc.heap.size, 0, none⟩) 2 2, .slice (some ⟨gb, 0, none⟩) 2 2])
      have hx : Ext wc (wc.alloc (.cells #[.int .i64 1, .int .i64 4] 3)) := (Ext.refl wc).alloc _
      exact wpOp_val rfl rfl (run_build2_int wc a _ _ _ rfl) ⟨wc.heap.size, gb, gd, ge, hv.put san_near_apart 1 rfl (lb rfl) (lb rfl) rfl, Lib.hid ⟨HO.out.1.trans hx, fun _ => cells_new wc #[.int .i64 1, .int .i64 4] 3, fun h => (HO.out.2.2.1 h).ext hx, fun h => (HO.out.2.2.2.1 h).ext hx, fun h => (HO.out.2.2.2.2 h).ext hx⟩⟩
    ·
      rintro L a wc ⟨ga, gb, gd, ge, hv, HO⟩ hL hc hd
      have n3 : L 3 = false := Bool.eq_false_iff.2 fun h => Bool.false_ne_true (hL.symm.trans (hc 3 h 2 (by decide)))
      have hv := hv.reset 3 n3 (.agg #[.int .i64 0, .slice (some ⟨ga, 0, none⟩) 2 2, .slice (some ⟨wc.heap.size, 0, none⟩) 2 2])
      have hx : Ext wc (wc.alloc (.cells #[.int .u8 1, .int .u8 1] 5)) := (Ext.refl wc).alloc _
      exact wpOp_val rfl rfl (run_build2_u8 wc a _ _ _ rfl) ⟨ga, wc.heap.size, gd, ge, hv.put san_near_apart 2 rfl (lb rfl) (lb rfl) rfl, Lib.hid ⟨HO.out.1.trans hx, fun h => (HO.out.2.1 h).ext hx, fun _ => cells_new wc #[.int .u8 1, .int .u8 1] 5, fun h => (HO.out.2.2.2.1 h).ext hx, fun h => (HO.out.2.2.2.2 h).ext hx⟩⟩
    ·
      rintro L a wc ⟨ga, gb, gd, ge, hv, HO⟩ hL hc hd
      refine wpOp_call (R := fun v w1 => v = .agg #[.int .i64 0, .slice (some ⟨ga, 0, none⟩) 2 2, .slice (some ⟨gb, 0, none⟩) 2 2] ∧ Ext wc w1) rfl rfl (ex_call rfl rfl (by simp only [List.map_toArray, List.map_cons, List.map_nil, (hv.get 1 rfl rfl (hd 1 (by decide))), (hv.get 2 rfl rfl (hd 2 (by decide)))]; rfl) (enters_of Tryd.func37 (by kernel_rfl) rfl _ _)) ((recipe8_any 0 _ _ 2 2 2 2 _ _ wc rfl rfl).mono (fun e w' h => ⟨_, h.1, rfl, h.2⟩)) ?_
      rintro v w' ⟨rfl, hx⟩
      exact ⟨ga, gb, gd, ge, hv.put san_near_apart 3 rfl (lb rfl) (lb rfl) rfl, Lib.hid ⟨HO.out.1.trans hx, fun h => (HO.out.2.1 h).ext hx, fun h => (HO.out.2.2.1 h).ext hx, fun h => (HO.out.2.2.2.1 h).ext hx, fun h => (HO.out.2.2.2.2 h).ext hx⟩⟩
    ·
      rintro L a wc ⟨ga, gb, gd, ge, hv, HO⟩ hL hc hd
      refine wpOp_call (R := fun v w1 => v = .bool true ∧ Ext wc w1) rfl rfl (ex_call rfl rfl (by simp only [List.map_toArray, List.map_cons, List.map_nil, (hv.get 0 rfl rfl (hd 0 (by decide))), (hv.get 3 rfl rfl (hd 3 (by decide)))]; rfl) (enters_of Tryd.func18 (by kernel_rfl) rfl _ _)) ((sSame_self ⟨0, [1, 4], [1, 1]⟩ _ _ wc (RRec.ext _ _ _ _ HO.out.1 hRa) (⟨_, _, rfl, rs_lit (l := [1, 4]) (HO.out.2.1 (hc 3 (hd 3 (by decide)) 1 (by decide))) rfl (by decide), rb_lit (l := [1, 1]) (HO.out.2.2.1 (hc 3 (hd 3 (by decide)) 2 (by decide))) (by decide)⟩ : RRec wc (.agg #[.int .i64 0, .slice (some ⟨ga, 0, none⟩) 2 2, .slice (some ⟨gb, 0, none⟩) 2 2]) ⟨0, [1, 4], [1, 1]⟩)).mono (fun e w' h => ⟨_, h.1, rfl, h.2⟩)) ?_
      rintro v w' ⟨rfl, hx⟩
      exact ⟨ga, gb, gd, ge, hv.put san_near_apart 4 rfl (lb rfl) (lb rfl) rfl, Lib.hid ⟨HO.out.1.trans hx, fun h => (HO.out.2.1 h).ext hx, fun h => (HO.out.2.2.1 h).ext hx, fun h => (HO.out.2.2.2.1 h).ext hx, fun h => (HO.out.2.2.2.2 h).ext hx⟩⟩
    ·
      rintro L a wc ⟨ga, gb, gd, ge, hv, HO⟩ hL hc hd
      exact wpOp_val rfl rfl (ex_move rfl (hv.get 4 rfl rfl (hd 4 (by decide)))) ⟨ga, gb, gd, ge, hv.put san_near_apart 5 rfl (lb rfl) (lb rfl) rfl, HO⟩
    ·
      rintro L a wc ⟨ga, gb, gd, ge, hv, HO⟩ hL hc hd
      exact wpOp_val rfl ((wanted_at rfl rfl (hv.get 5 rfl rfl (hd 5 (by decide)))).trans rfl) (ex_move rfl ((hv.fixed 4 (by decide)).trans rfl)) ⟨ga, gb, gd, ge, hv.put san_near_apart 6 rfl (lb rfl) (lb rfl) rfl, HO⟩
    ·
      rintro L a wc ⟨ga, gb, gd, ge, hv, HO⟩ hL hc hd
      exact wpOp_val rfl ((wanted_at rfl rfl (hv.get 5 rfl rfl (hd 5 (by decide)))).trans rfl) (ex_move rfl ((hv.fixed 22 (by decide)).trans rfl)) ⟨ga, gb, gd, ge, hv.put san_near_apart 7 rfl (lb rfl) (lb rfl) rfl, HO⟩
    ·
      rintro L a wc ⟨ga, gb, gd, ge, hv, HO⟩ hL hc hd
      refine wpOp_callw (R := fun v w1 => v = .bool true ∧ Ext wc w1) rfl ((wanted_at rfl rfl (hv.get 5 rfl rfl (hd 5 (by decide)))).trans rfl) (ex_call rfl rfl (by simp only [List.map_toArray, List.map_cons, List.map_nil, (hv.get 6 rfl rfl (hd 6 (by decide))), (hv.get 7 rfl rfl (hd 7 (by decide)))]; rfl) (enters_of Tryd.func19 (by kernel_rfl) rfl _ _)) ((sSameAll_self [⟨0, [1, 2, 3, 6], [2, 4, 8, 1]⟩, ⟨0, [1, 2, 5, 6], [2, 12, 8, 1]⟩, ⟨0, [1, 3, 5, 6], [2, 12, 4, 1]⟩] _ _ wc (RRs.ext _ _ _ _ HO.out.1 hAL) (RRs.ext _ _ _ _ HO.out.1 hFAR)).mono (fun e w' h => ⟨_, h.1, rfl, h.2⟩)) ?_
      rintro v w' ⟨rfl, hx⟩
      exact ⟨ga, gb, gd, ge, hv.put san_near_apart 8 rfl (lb rfl) (lb rfl) rfl, Lib.hid ⟨HO.out.1.trans hx, fun h => (HO.out.2.1 h).ext hx, fun h => (HO.out.2.2.1 h).ext hx, fun h => (HO.out.2.2.2.1 h).ext hx, fun h => (HO.out.2.2.2.2 h).ext hx⟩⟩
    ·
      rintro L a wc ⟨ga, gb, gd, ge, hv, HO⟩ hL hc hd
      exact wpOp_val rfl rfl (ex_pick rfl (hv.get 5 rfl rfl (hd 5 (by decide))) (hv.get 8 rfl rfl (hd 8 (by decide)))) ⟨ga, gb, gd, ge, hv.put san_near_apart 9 rfl (lb rfl) (lb rfl) rfl, HO⟩
    ·
      rintro L a wc ⟨ga, gb, gd, ge, hv, HO⟩ hL hc hd
      exact wpOp_val rfl rfl (ex_move rfl (hv.get 9 rfl rfl (hd 9 (by decide)))) ⟨ga, gb, gd, ge, hv.put san_near_apart 10 rfl (lb rfl) (lb rfl) rfl, HO⟩
    ·
      rintro L a wc ⟨ga, gb, gd, ge, hv, HO⟩ hL hc hd
      have e0 : wc.cell? ⟨Qb, 0, none⟩ = some (.int .i64 0) := HO.out.1.cell (hCb 0 _ rfl)
      have e1 : wc.cell? ⟨Qb, 1, none⟩ = some (.slice FAb 4 fcb) := HO.out.1.cell (hCb 1 _ rfl)
      have e2 : wc.cell? ⟨Qb, 2, none⟩ = some (.slice CAb 4 ccb) := HO.out.1.cell (hCb 2 _ rfl)
      exact wpOp_val rfl ((wanted_at rfl rfl (hv.get 10 rfl rfl (hd 10 (by decide)))).trans rfl) (ex_load rfl ((hv.fixed 8 (by decide)).trans rfl) (by go_simp)) ⟨ga, gb, gd, ge, hv.put san_near_apart 11 rfl (lb rfl) (lb rfl) rfl, HO⟩
    ·
      rintro L a wc ⟨ga, gb, gd, ge, hv, HO⟩ hL hc hd
      exact wpOp_val rfl ((wanted_at rfl rfl (hv.get 10 rfl rfl (hd 10 (by decide)))).trans rfl) (ex_move rfl ((hv.fixed 22 (by decide)).trans rfl)) ⟨ga, gb, gd, ge, hv.put san_near_apart 12 rfl (lb rfl) (lb rfl) rfl, HO⟩
    ·
      rintro L a wc ⟨ga, gb, gd, ge, hv, HO⟩ hL hc hd
      have u1 : (0 : Int) ≤ (0 : Int) := by omega
      have u2 : (0 : Int) < (3 : Int) := by omega
      exact wpOp_val rfl ((wanted_at rfl rfl (hv.get 10 rfl rfl (hd 10 (by decide)))).trans rfl) (ex_index rfl (hv.get 12 rfl rfl (hd 12 (by decide))) rfl (by go_simp)) ⟨ga, gb, gd, ge, hv.put san_near_apart 13 rfl (lb rfl) (lb rfl) rfl, HO⟩
    ·
      rintro L a wc ⟨ga, gb, gd, ge, hv, HO⟩ hL hc hd
      have e0 : wc.cell? ⟨XF, 0, none⟩ = some (.int .i64 0) := HO.out.1.cell (hC0 0 _ rfl)
      have e1 : wc.cell? ⟨XF, 1, none⟩ = some (.slice FAz 4 fcz) := HO.out.1.cell (hC0 1 _ rfl)
      have e2 : wc.cell? ⟨XF, 2, none⟩ = some (.slice CAz 4 ccz) := HO.out.1.cell (hC0 2 _ rfl)
      exact wpOp_val rfl ((wanted_at rfl rfl (hv.get 10 rfl rfl (hd 10 (by decide)))).trans rfl) (ex_load rfl (hv.get 13 rfl rfl (hd 13 (by decide))) (by go_simp)) ⟨ga, gb, gd, ge, hv.put san_near_apart 14 rfl (lb rfl) (lb rfl) rfl, HO⟩
    ·
      rintro L a wc ⟨ga, gb, gd, ge, hv, HO⟩ hL hc hd
      refine wpOp_callw (R := fun v w1 => v = .bool true ∧ Ext wc w1) rfl ((wanted_at rfl rfl (hv.get 10 rfl rfl (hd 10 (by decide)))).trans rfl) (ex_call rfl rfl (by simp only [List.map_toArray, List.map_cons, List.map_nil, (hv.get 11 rfl rfl (hd 11 (by decide))), (hv.get 14 rfl rfl (hd 14 (by decide)))]; rfl) (enters_of Tryd.func18 (by kernel_rfl) rfl _ _)) ((sSame_self ⟨0, [1, 2, 3, 6], [2, 4, 8, 1]⟩ _ _ wc (RRec.ext _ _ _ _ HO.out.1 hRb) (RRec.ext _ _ _ _ HO.out.1 hR0)).mono (fun e w' h => ⟨_, h.1, rfl, h.2⟩)) ?_
      rintro v w' ⟨rfl, hx⟩
      exact ⟨ga, gb, gd, ge, hv.put san_near_apart 15 rfl (lb rfl) (lb rfl) rfl, Lib.hid ⟨HO.out.1.trans hx, fun h => (HO.out.2.1 h).ext hx, fun h => (HO.out.2.2.1 h).ext hx, fun h => (HO.out.2.2.2.1 h).ext hx, fun h => (HO.out.2.2.2.2 h).ext hx⟩⟩
    ·
      rintro L a wc ⟨ga, gb, gd, ge, hv, HO⟩ hL hc hd
      exact wpOp_val rfl rfl (ex_pick rfl (hv.get 10 rfl rfl (hd 10 (by decide))) (hv.get 15 rfl rfl (hd 15 (by decide)))) ⟨ga, gb, gd, ge, hv.put san_near_apart 16 rfl (lb rfl) (lb rfl) rfl, HO⟩
    ·
      rintro L a wc ⟨ga, gb, gd, ge, hv, HO⟩ hL hc hd
      exact wpOp_val rfl rfl (ex_move rfl (hv.get 16 rfl rfl (hd 16 (by decide)))) ⟨ga, gb, gd, ge, hv.put san_near_apart 17 rfl (lb rfl) (lb rfl) rfl, HO⟩
    ·
      rintro L a wc ⟨ga, gb, gd, ge, hv, HO⟩ hL hc hd
      have e0 : wc.cell? ⟨Ql, 0, none⟩ = some (.int .i64 5) := HO.out.1.cell (hCl 0 _ rfl)
      have e1 : wc.cell? ⟨Ql, 1, none⟩ = some (.slice FAl 2 fcl) := HO.out.1.cell (hCl 1 _ rfl)
      have e2 : wc.cell? ⟨Ql, 2, none⟩ = some (.slice CAl 2 ccl) := HO.out.1.cell (hCl 2 _ rfl)
      exact wpOp_val rfl ((wanted_at rfl rfl (hv.get 17 rfl rfl (hd 17 (by decide)))).trans rfl) (ex_load rfl ((hv.fixed 10 (by decide)).trans rfl) (by go_simp)) ⟨ga, gb, gd, ge, hv.put san_near_apart 18 rfl (lb rfl) (lb rfl) rfl, HO⟩
    ·
      rintro L a wc ⟨ga, gb, gd, ge, hv, HO⟩ hL hc hd
      have n21 : L 21 = false := Bool.eq_false_iff.2 fun h => Bool.false_ne_true (hL.symm.trans (hc 21 h 19 (by decide)))
      have hv := hv.reset 21 n21 (.agg #[.int .i64 5, .slice (some ⟨wc.heap.size, 0, none⟩) 2 2, .slice (some ⟨ge, 0, none⟩) 2 2])
      have hx : Ext wc (wc.alloc (.cells #[.int .i64 2, .int .i64 3] 3)) := (Ext.refl wc).alloc _
      exact wpOp_val rfl ((wanted_at rfl rfl (hv.get 17 rfl rfl (hd 17 (by decide)))).trans rfl) (run_build2_int wc a _ _ _ rfl) ⟨ga, gb, wc.heap.size, ge, hv.put san_near_apart 19 rfl (lb rfl) (lb rfl) rfl, Lib.hid ⟨HO.out.1.trans hx, fun h => (HO.out.2.1 h).ext hx, fun h => (HO.out.2.2.1 h).ext hx, fun _ => cells_new wc #[.int .i64 2, .int .i64 3] 3, fun h => (HO.out.2.2.2.2 h).ext hx⟩⟩
    ·
      rintro L a wc ⟨ga, gb, gd, ge, hv, HO⟩ hL hc hd
      have n21 : L 21 = false := Bool.eq_false_iff.2 fun h => Bool.false_ne_true (hL.symm.trans (hc 21 h 20 (by decide)))
      have hv := hv.reset 21 n21 (.agg #[.int .i64 5, .slice (some ⟨gd, 0, none⟩) 2 2, .slice (some ⟨wc.heap.size, 0, none⟩) 2 2])
      have hx : Ext wc (wc.alloc (.cells #[.int .u8 1, .int .u8 1] 5)) := (Ext.refl wc).alloc _
      exact wpOp_val rfl ((wanted_at rfl rfl (hv.get 17 rfl rfl (hd 17 (by decide)))).trans rfl) (run_build2_u8 wc a _ _ _ rfl) ⟨ga, gb, gd, wc.heap.size, hv.put san_near_apart 20 rfl (lb rfl) (lb rfl) rfl, Lib.hid ⟨HO.out.1.trans hx, fun h => (HO.out.2.1 h).ext hx, fun h => (HO.out.2.2.1 h).ext hx, fun h => (HO.out.2.2.2.1 h).ext hx, fun _ => cells_new wc #[.int .u8 1, .int .u8 1] 5⟩⟩
    ·
      rintro L a wc ⟨ga, gb, gd, ge, hv, HO⟩ hL hc hd
      refine wpOp_callw (R := fun v w1 => v = .agg #[.int .i64 5, .slice (some ⟨gd, 0, none⟩) 2 2, .slice (some ⟨ge, 0, none⟩) 2 2] ∧ Ext wc w1) rfl ((wanted_at rfl rfl (hv.get 17 rfl rfl (hd 17 (by decide)))).trans rfl) (ex_call rfl rfl (by simp only [List.map_toArray, List.map_cons, List.map_nil, (hv.get 19 rfl rfl (hd 19 (by decide))), (hv.get 20 rfl rfl (hd 20 (by decide)))]; rfl) (enters_of Tryd.func37 (by kernel_rfl) rfl _ _)) ((recipe8_any 5 _ _ 2 2 2 2 _ _ wc rfl rfl).mono (fun e w' h => ⟨_, h.1, rfl, h.2⟩)) ?_
      rintro v w' ⟨rfl, hx⟩
      exact ⟨ga, gb, gd, ge, hv.put san_near_apart 21 rfl (lb rfl) (lb rfl) rfl, Lib.hid ⟨HO.out.1.trans hx, fun h => (HO.out.2.1 h).ext hx, fun h => (HO.out.2.2.1 h).ext hx, fun h => (HO.out.2.2.2.1 h).ext hx, fun h => (HO.out.2.2.2.2 h).ext hx⟩⟩
    ·
      rintro L a wc ⟨ga, gb, gd, ge, hv, HO⟩ hL hc hd
      refine wpOp_callw (R := fun v w1 => v = .bool true ∧ Ext wc w1) rfl ((wanted_at rfl rfl (hv.get 17 rfl rfl (hd 17 (by decide)))).trans rfl) (ex_call rfl rfl (by simp only [List.map_toArray, List.map_cons, List.map_nil, (hv.get 18 rfl rfl (hd 18 (by decide))), (hv.get 21 rfl rfl (hd 21 (by decide)))]; rfl) (enters_of Tryd.func18 (by kernel_rfl) rfl _ _)) ((sSame_self ⟨5, [2, 3], [1, 1]⟩ _ _ wc (RRec.ext _ _ _ _ HO.out.1 hRl) (⟨_, _, rfl, rs_lit (l := [2, 3]) (HO.out.2.2.2.1 (hc 21 (hd 21 (by decide)) 19 (by decide))) rfl (by decide), rb_lit (l := [1, 1]) (HO.out.2.2.2.2 (hc 21 (hd 21 (by decide)) 20 (by decide))) (by decide)⟩ : RRec wc (.agg #[.int .i64 5, .slice (some ⟨gd, 0, none⟩) 2 2, .slice (some ⟨ge, 0, none⟩) 2 2]) ⟨5, [2, 3], [1, 1]⟩)).mono (fun e w' h => ⟨_, h.1, rfl, h.2⟩)) ?_
      rintro v w' ⟨rfl, hx⟩
      exact ⟨ga, gb, gd, ge, hv.put san_near_apart 22 rfl (lb rfl) (lb rfl) rfl, Lib.hid ⟨HO.out.1.trans hx, fun h => (HO.out.2.1 h).ext hx, fun h => (HO.out.2.2.1 h).ext hx, fun h => (HO.out.2.2.2.1 h).ext hx, fun h => (HO.out.2.2.2.2 h).ext hx⟩⟩
    ·
      rintro L a wc ⟨ga, gb, gd, ge, hv, HO⟩ hL hc hd
      exact wpOp_val rfl rfl (ex_pick rfl (hv.get 17 rfl rfl (hd 17 (by decide))) (hv.get 22 rfl rfl (hd 22 (by decide)))) ⟨ga, gb, gd, ge, hv.put san_near_apart 23 rfl (lb rfl) (lb rfl) rfl, HO⟩
    ·
      rintro L a wc ⟨ga, gb, gd, ge, hv, HO⟩ hL hc hd
      exact wpOp_val rfl rfl (ex_assign rfl (hv.get 23 rfl rfl (hd 23 (by decide)))) ⟨ga, gb, gd, ge, hv.put san_near_apart 24 rfl (lb rfl) (lb rfl) rfl, HO⟩
  · rintro L a wc ⟨ga, gb, gd, ge, hv, HO⟩ hall
    show K a wc
    have ha := act_lit a
    rw [hv.size, hv.defers] at ha
    have hl : ∀ f : Nat → Value, ((List.range (⟨#[c0, c1, .pointer (some ⟨Qa, 0, none⟩), c3, .slice LA 3 cL, c5, c6, c7, .pointer (some ⟨Qb, 0, none⟩), c9, .pointer (some ⟨Ql, 0, none⟩), c11, c12, c13, c14, c15, c16, c17, c18, c19, c20, c21, .slice (some ⟨XF, 0, none⟩) 3 3, c23, c24, c25, c26, c27, c28, c29, c30, c31, c32, c33, c34, c35, c36, c37, c38, c39, c40, c41, c42, c43, c44, c45, c46, c47, c48, c49, c50, c51, c52, c53, c54, c55, c56, c57, c58, c59, c60, c61, c62, c63, c64, c65, c66, c67, c68, c69, c70, c71, c72, c73, c74, c75, c76, c77, c78, c79, c80, c81, c82, c83, c84, c85, c86, c87, c88, c89, c90, c91, c92, c93, c94, c95, c96, c97, c98, c99, c100, c101, c102, c103, c104, c105, c106, c107, c108, c109, c110, c111, c112, c113, c114, c115, c116, c117, c118, c119, c120, c121, c122, c123, c124, c125, c126, c127, c128, c129, c130, c131, c132, c133, c134, c135, c136, c137, c138, c139, c140, c141, c142, c143, c144, c145, c146, c147, c148, c149, c150, c151, c152, c153, c154, c155, c156, c157, c158, c159, c160, c161, c162, c163, c164, c165, c166, c167, c168, c169, c170, c171, c172, c173], df⟩ : Act).tmps.size).map f).toArray = #[f 0, f 1, f 2, f 3, f 4, f 5, f 6, f 7, f 8, f 9, f 10, f 11, f 12, f 13, f 14, f 15, f 16, f 17, f 18, f 19, f 20, f 21, f 22, f 23, f 24, f 25, f 26, f 27, f 28, f 29, f 30, f 31, f 32, f 33, f 34, f 35, f 36, f 37, f 38, f 39, f 40, f 41, f 42, f 43, f 44, f 45, f 46, f 47, f 48, f 49, f 50, f 51, f 52, f 53, f 54, f 55, f 56, f 57, f 58, f 59, f 60, f 61, f 62, f 63, f 64, f 65, f 66, f 67, f 68, f 69, f 70, f 71, f 72, f 73, f 74, f 75, f 76, f 77, f 78, f 79, f 80, f 81, f 82, f 83, f 84, f 85, f 86, f 87, f 88, f 89, f 90, f 91, f 92, f 93, f 94, f 95, f 96, f 97, f 98, f 99, f 100, f 101, f 102, f 103, f 104, f 105, f 106, f 107, f 108, f 109, f 110, f 111, f 112, f 113, f 114, f 115, f 116, f 117, f 118, f 119, f 120, f 121, f 122, f 123, f 124, f 125, f 126, f 127, f 128, f 129, f 130, f 131, f 132, f 133, f 134, f 135, f 136, f 137, f 138, f 139, f 140, f 141, f 142, f 143, f 144, f 145, f 146, f 147, f 148, f 149, f 150, f 151, f 152, f 153, f 154, f 155, f 156, f 157, f 158, f 159, f 160, f 161, f 162, f 163, f 164, f 165, f 166, f 167, f 168, f 169, f 170, f 171, f 172, f 173] := fun _ => rfl
    rw [hl] at ha
    simp only [hv.fixed 0 (by decide), hv.fixed 1 (by decide), hv.fixed 2 (by decide), hv.fixed 3 (by decide), hv.fixed 4 (by decide), hv.fixed 5 (by decide), hv.fixed 6 (by decide), hv.fixed 7 (by decide), hv.fixed 8 (by decide), hv.fixed 9 (by decide), hv.fixed 10 (by decide), hv.fixed 11 (by decide), hv.fixed 12 (by decide), hv.fixed 13 (by decide), hv.fixed 14 (by decide), hv.fixed 15 (by decide), hv.fixed 16 (by decide), hv.fixed 17 (by decide), hv.fixed 18 (by decide), hv.fixed 19 (by decide), hv.fixed 20 (by decide), hv.fixed 21 (by decide), hv.fixed 22 (by decide), hv.fixed 24 (by decide), hv.fixed 25 (by decide), hv.fixed 26 (by decide), hv.fixed 27 (by decide), hv.fixed 28 (by decide), hv.fixed 29 (by decide), hv.fixed 30 (by decide), hv.fixed 31 (by decide), hv.fixed 32 (by decide), hv.fixed 33 (by decide), hv.fixed 34 (by decide), hv.fixed 35 (by decide), hv.fixed 36 (by decide), hv.fixed 37 (by decide), hv.fixed 38 (by decide), hv.fixed 39 (by decide), hv.fixed 40 (by decide), hv.fixed 41 (by decide), hv.fixed 42 (by decide), hv.fixed 43 (by decide), hv.fixed 44 (by decide), hv.fixed 45 (by decide), hv.fixed 46 (by decide), hv.fixed 47 (by decide), hv.fixed 48 (by decide), hv.fixed 49 (by decide), hv.fixed 50 (by decide), hv.fixed 51 (by decide), hv.fixed 52 (by decide), hv.fixed 53 (by decide), hv.fixed 54 (by decide), hv.fixed 55 (by decide), hv.fixed 56 (by decide), hv.fixed 57 (by decide), hv.fixed 58 (by decide), hv.fixed 59 (by decide), hv.fixed 60 (by decide), hv.fixed 61 (by decide), hv.fixed 62 (by decide), hv.fixed 63 (by decide), hv.fixed 64 (by decide), hv.fixed 65 (by decide), hv.fixed 66 (by decide), hv.fixed 67 (by decide), hv.fixed 68 (by decide), hv.fixed 69 (by decide), hv.fixed 70 (by decide), hv.fixed 71 (by decide), hv.fixed 72 (by decide), hv.fixed 73 (by decide), hv.fixed 74 (by decide), hv.fixed 75 (by decide), hv.fixed 76 (by decide), hv.fixed 77 (by decide), hv.fixed 78 (by decide), hv.fixed 79 (by decide), hv.fixed 80 (by decide), hv.fixed 81 (by decide), hv.fixed 82 (by decide), hv.fixed 83 (by decide), hv.fixed 84 (by decide), hv.fixed 85 (by decide), hv.fixed 86 (by decide), hv.fixed 87 (by decide), hv.fixed 88 (by decide), hv.fixed 89 (by decide), hv.fixed 90 (by decide), hv.fixed 91 (by decide), hv.fixed 92 (by decide), hv.fixed 93 (by decide), hv.fixed 94 (by decide), hv.fixed 95 (by decide), hv.fixed 96 (by decide), hv.fixed 97 (by decide), hv.fixed 98 (by decide), hv.fixed 99 (by decide), hv.fixed 100 (by decide), hv.fixed 101 (by decide), hv.fixed 102 (by decide), hv.fixed 103 (by decide), hv.fixed 104 (by decide), hv.fixed 105 (by decide), hv.fixed 106 (by decide), hv.fixed 107 (by decide), hv.fixed 108 (by decide), hv.fixed 109 (by decide), hv.fixed 110 (by decide), hv.fixed 111 (by decide), hv.fixed 112 (by decide), hv.fixed 113 (by decide), hv.fixed 114 (by decide), hv.fixed 115 (by decide), hv.fixed 116 (by decide), hv.fixed 117 (by decide), hv.fixed 118 (by decide), hv.fixed 119 (by decide), hv.fixed 120 (by decide), hv.fixed 145 (by decide), hv.fixed 146 (by decide), hv.fixed 147 (by decide), hv.fixed 148 (by decide), hv.fixed 149 (by decide), hv.fixed 150 (by decide), hv.fixed 151 (by decide), hv.fixed 152 (by decide), hv.fixed 153 (by decide), hv.fixed 154 (by decide), hv.fixed 155 (by decide), hv.fixed 156 (by decide), hv.fixed 157 (by decide), hv.fixed 158 (by decide), hv.fixed 159 (by decide), hv.fixed 160 (by decide), hv.fixed 161 (by decide), hv.fixed 162 (by decide), hv.fixed 163 (by decide), hv.fixed 164 (by decide), hv.fixed 165 (by decide), hv.fixed 166 (by decide), hv.fixed 167 (by decide), hv.fixed 168 (by decide), hv.fixed 169 (by decide), hv.fixed 170 (by decide), hv.fixed 171 (by decide), hv.fixed 172 (by decide), hv.fixed 173 (by decide), hv.get 24 (d := 23) rfl rfl (hall 24 (by decide))] at ha
    rw [ha]
    exact hK _ _ _ _ _ _ _ _ _ _ _ _ _ _ _ _ _ _ _ _ _ _ _ _ wc HO.out.1
end Go.Proofs.YtdmljilcbndmfaaDoor

/- THE WALK over sanity of the laws of rebuild. -/
namespace Go.Proofs.YtdmljilcbndmfaaDoor
open Go.RowKit Go.Shelf
set_option maxRecDepth 100000 in
set_option maxHeartbeats 16000000 in
theorem sanity_any (w : World) (hT : Tab w) :
    Calls Tryd.prog 11 #[] w fun e w' => e = .returned (.bool true) ∧ Ext w w' := by
  have HT := Lib.hid hT
  clear hT
  go_enter Tryd.func11, Tryd.ntmps11
  go_wp2_with fail
  refine (example_any _).mono ?_
  rintro e w1 ⟨gG, rfl, hG, hx1⟩
  have HB := Lib.hid (cells_new w1 #[.int .i64 4, .slice (some ⟨gG, 0, none⟩) 2 2, .int .i64 1] 24)
  obtain ⟨B, hB⟩ : ∃ B, w1.heap.size = B := ⟨_, rfl⟩
  rw [hB] at HB
  have HX := Lib.hid (hx1.trans ((Ext.refl w1).alloc (.cells #[.int .i64 4, .slice (some ⟨gG, 0, none⟩) 2 2, .int .i64 1] 24)))
  have HG := Lib.hid (Rs.ext (Rs.ext RI.ext) _ _ _ _ ((Ext.refl w1).alloc (.cells #[.int .i64 4, .slice (some ⟨gG, 0, none⟩) 2 2, .int .i64 1] 24)) hG)
  have HT := Lib.hid (HT.out.ext HX.out)
  go_upto_region 2 with fail
  obtain ⟨w2, hw2⟩ : ∃ w2, w1.alloc (.cells #[.int .i64 4, .slice (some ⟨gG, 0, none⟩) 2 2, .int .i64 1] 24) = w2 := ⟨_, rfl⟩
  rw [hw2] at HB HX HG HT ⊢
  clear hG hx1 hw2 hB
  have b0 : w2.cell? ⟨B, 0, none⟩ = some (.int .i64 4) := HB.out 0 _ rfl
  have b1 : w2.cell? ⟨B, 1, none⟩ = some (.slice (some ⟨gG, 0, none⟩) 2 2) := HB.out 1 _ rfl
  have b2 : w2.cell? ⟨B, 2, none⟩ = some (.int .i64 1) := HB.out 2 _ rfl
  have hBl : B < w2.heap.size := lt_of_cell b0
  go_wp2_with fail
  refine (bBest_any 4 1 Rb.exG 1 0 _ _ HT.out HG.out).mono ?_
  rintro e w3 ⟨v, rfl, hv, hx⟩
  rw [Rb.ex_best1.2] at hv
  rw [Rb.ex_best1.1]
  obtain ⟨Fa, Ca, hvv, hF, hC⟩ := hv
  have hvv : v = .agg #[.int .i64 0, Fa, Ca] := hvv
  subst hvv
  obtain ⟨FAa, fca, rfl⟩ : ∃ FA fc, Fa = .slice FA 2 fc := by
    obtain ⟨FA, fc, h, _⟩ := hF.form
    exact ⟨FA, fc, h⟩
  obtain ⟨CAa, cca, rfl⟩ : ∃ CA cc, Ca = .slice CA 2 cc := by
    obtain ⟨CA, cc, h, _⟩ := hC.form
    exact ⟨CA, cc, h⟩
  have hxa : Ext w3 (w3.alloc (.cells #[.int .i64 0, .slice FAa 2 fca, .slice CAa 2 cca] 30)) := (Ext.refl w3).alloc _
  have hx2 := hx.trans hxa
  have HX := Lib.hid (HX.out.trans hx2)
  have HT := Lib.hid (HT.out.ext hx2)
  have HG := Lib.hid (Rs.ext (Rs.ext RI.ext) _ _ _ _ hx2 HG.out)
  have HB := Lib.hid (HB.out.ext hx2)
  have HCa := Lib.hid (cells_new w3 #[.int .i64 0, .slice FAa 2 fca, .slice CAa 2 cca] 30)
  have HFa := Lib.hid (And.intro (Rs.ext RI.ext _ _ _ _ hxa hF) (Rs.ext RB.ext _ _ _ _ hxa hC))
  clear hF hC hx hxa hx2 b0 b1 b2 hBl
  go_upto_region 3 with fail
  obtain ⟨Qa, hQa⟩ : ∃ Q, w3.heap.size = Q := ⟨_, rfl⟩
  rw [hQa] at HCa
  try rw [hQa]
  obtain ⟨w4, hw2⟩ : ∃ x, w3.alloc (.cells #[.int .i64 0, .slice FAa 2 fca, .slice CAa 2 cca] 30) = x := ⟨_, rfl⟩
  rw [hw2] at HX HT HG HB HCa HFa ⊢
  clear hw2 hQa
  have b0 : w4.cell? ⟨B, 0, none⟩ = some (.int .i64 4) := HB.out 0 _ rfl
  have b1 : w4.cell? ⟨B, 1, none⟩ = some (.slice (some ⟨gG, 0, none⟩) 2 2) := HB.out 1 _ rfl
  have b2 : w4.cell? ⟨B, 2, none⟩ = some (.int .i64 1) := HB.out 2 _ rfl
  have hBl : B < w4.heap.size := lt_of_cell b0
  go_wp2_with fail
  refine (bAll_any 4 1 Rb.exG 17 0 _ _ HT.out HG.out).mono ?_
  rintro e w5 ⟨v, rfl, hv, _, hx⟩
  rw [Rb.ex_all.2] at hv
  rw [Rb.ex_all.1]
  obtain ⟨LA, cL, rfl⟩ : ∃ A c, v = .slice A 3 c := by
    obtain ⟨A, c, h, _⟩ := hv.form
    exact ⟨A, c, h⟩
  have HX := Lib.hid (HX.out.trans hx)
  have HT := Lib.hid (HT.out.ext hx)
  have HG := Lib.hid (Rs.ext (Rs.ext RI.ext) _ _ _ _ hx HG.out)
  have HB := Lib.hid (HB.out.ext hx)
  have HCa := Lib.hid (HCa.out.ext hx)
  have HFa := Lib.hid (And.intro (Rs.ext RI.ext _ _ _ _ hx HFa.out.1) (Rs.ext RB.ext _ _ _ _ hx HFa.out.2))
  have HAL := Lib.hid hv
  clear hv hx b0 b1 b2 hBl
  go_upto_region 4 with fail
  have b0 : w5.cell? ⟨B, 0, none⟩ = some (.int .i64 4) := HB.out 0 _ rfl
  have b1 : w5.cell? ⟨B, 1, none⟩ = some (.slice (some ⟨gG, 0, none⟩) 2 2) := HB.out 1 _ rfl
  have b2 : w5.cell? ⟨B, 2, none⟩ = some (.int .i64 1) := HB.out 2 _ rfl
  have hBl : B < w5.heap.size := lt_of_cell b0
  go_wp2_with fail
  refine (bBest_any 4 1 Rb.exG 19 0 _ _ HT.out HG.out).mono ?_
  rintro e w6 ⟨v, rfl, hv, hx⟩
  rw [Rb.ex_best19.2] at hv
  rw [Rb.ex_best19.1]
  obtain ⟨Fn, Cn, hvv, hF, hC⟩ := hv
  have hvv : v = .agg #[.int .i64 0, Fn, Cn] := hvv
  subst hvv
  obtain ⟨FAn, fcn, rfl⟩ : ∃ FA fc, Fn = .slice FA 0 fc := by
    obtain ⟨FA, fc, h, _⟩ := hF.form
    exact ⟨FA, fc, h⟩
  obtain ⟨CAn, ccn, rfl⟩ : ∃ CA cc, Cn = .slice CA 0 cc := by
    obtain ⟨CA, cc, h, _⟩ := hC.form
    exact ⟨CA, cc, h⟩
  have hxa : Ext w6 (w6.alloc (.cells #[.int .i64 0, .slice FAn 0 fcn, .slice CAn 0 ccn] 30)) := (Ext.refl w6).alloc _
  have hx2 := hx.trans hxa
  have HX := Lib.hid (HX.out.trans hx2)
  have HT := Lib.hid (HT.out.ext hx2)
  have HG := Lib.hid (Rs.ext (Rs.ext RI.ext) _ _ _ _ hx2 HG.out)
  have HB := Lib.hid (HB.out.ext hx2)
  have HCa := Lib.hid (HCa.out.ext hx2)
  have HFa := Lib.hid (And.intro (Rs.ext RI.ext _ _ _ _ hx2 HFa.out.1) (Rs.ext RB.ext _ _ _ _ hx2 HFa.out.2))
  have HAL := Lib.hid (RRs.ext _ _ _ _ hx2 HAL.out)
  have HCn := Lib.hid (cells_new w6 #[.int .i64 0, .slice FAn 0 fcn, .slice CAn 0 ccn] 30)
  have HFn := Lib.hid (And.intro (Rs.ext RI.ext _ _ _ _ hxa hF) (Rs.ext RB.ext _ _ _ _ hxa hC))
  clear hF hC hx hxa hx2 b0 b1 b2 hBl
  go_upto_region 5 with fail
  obtain ⟨Qn, hQn⟩ : ∃ Q, w6.heap.size = Q := ⟨_, rfl⟩
  rw [hQn] at HCn
  try rw [hQn]
  obtain ⟨w7, hw2⟩ : ∃ x, w6.alloc (.cells #[.int .i64 0, .slice FAn 0 fcn, .slice CAn 0 ccn] 30) = x := ⟨_, rfl⟩
  rw [hw2] at HX HT HG HB HCa HFa HAL HCn HFn ⊢
  clear hw2 hQn
  have b0 : w7.cell? ⟨B, 0, none⟩ = some (.int .i64 4) := HB.out 0 _ rfl
  have b1 : w7.cell? ⟨B, 1, none⟩ = some (.slice (some ⟨gG, 0, none⟩) 2 2) := HB.out 1 _ rfl
  have b2 : w7.cell? ⟨B, 2, none⟩ = some (.int .i64 1) := HB.out 2 _ rfl
  have hBl : B < w7.heap.size := lt_of_cell b0
  go_wp2_with fail
  refine (bBest_any 4 1 Rb.exG 17 0 _ _ HT.out HG.out).mono ?_
  rintro e w8 ⟨v, rfl, hv, hx⟩
  rw [Rb.ex_best17.2] at hv
  rw [Rb.ex_best17.1]
  obtain ⟨Fb, Cb, hvv, hF, hC⟩ := hv
  have hvv : v = .agg #[.int .i64 0, Fb, Cb] := hvv
  subst hvv
  obtain ⟨FAb, fcb, rfl⟩ : ∃ FA fc, Fb = .slice FA 4 fc := by
    obtain ⟨FA, fc, h, _⟩ := hF.form
    exact ⟨FA, fc, h⟩
  obtain ⟨CAb, ccb, rfl⟩ : ∃ CA cc, Cb = .slice CA 4 cc := by
    obtain ⟨CA, cc, h, _⟩ := hC.form
    exact ⟨CA, cc, h⟩
  have hxa : Ext w8 (w8.alloc (.cells #[.int .i64 0, .slice FAb 4 fcb, .slice CAb 4 ccb] 30)) := (Ext.refl w8).alloc _
  have hx2 := hx.trans hxa
  have HX := Lib.hid (HX.out.trans hx2)
  have HT := Lib.hid (HT.out.ext hx2)
  have HG := Lib.hid (Rs.ext (Rs.ext RI.ext) _ _ _ _ hx2 HG.out)
  have HB := Lib.hid (HB.out.ext hx2)
  have HCa := Lib.hid (HCa.out.ext hx2)
  have HFa := Lib.hid (And.intro (Rs.ext RI.ext _ _ _ _ hx2 HFa.out.1) (Rs.ext RB.ext _ _ _ _ hx2 HFa.out.2))
  have HAL := Lib.hid (RRs.ext _ _ _ _ hx2 HAL.out)
  have HCn := Lib.hid (HCn.out.ext hx2)
  have HFn := Lib.hid (And.intro (Rs.ext RI.ext _ _ _ _ hx2 HFn.out.1) (Rs.ext RB.ext _ _ _ _ hx2 HFn.out.2))
  have HCb := Lib.hid (cells_new w8 #[.int .i64 0, .slice FAb 4 fcb, .slice CAb 4 ccb] 30)
  have HFb := Lib.hid (And.intro (Rs.ext RI.ext _ _ _ _ hxa hF) (Rs.ext RB.ext _ _ _ _ hxa hC))
  clear hF hC hx hxa hx2 b0 b1 b2 hBl
  go_upto_region 6 with fail
  obtain ⟨Qb, hQb⟩ : ∃ Q, w8.heap.size = Q := ⟨_, rfl⟩
  rw [hQb] at HCb
  try rw [hQb]
  obtain ⟨w9, hw2⟩ : ∃ x, w8.alloc (.cells #[.int .i64 0, .slice FAb 4 fcb, .slice CAb 4 ccb] 30) = x := ⟨_, rfl⟩
  rw [hw2] at HX HT HG HB HCa HFa HAL HCn HFn HCb HFb ⊢
  clear hw2 hQb
  have b0 : w9.cell? ⟨B, 0, none⟩ = some (.int .i64 4) := HB.out 0 _ rfl
  have b1 : w9.cell? ⟨B, 1, none⟩ = some (.slice (some ⟨gG, 0, none⟩) 2 2) := HB.out 1 _ rfl
  have b2 : w9.cell? ⟨B, 2, none⟩ = some (.int .i64 1) := HB.out 2 _ rfl
  have hBl : B < w9.heap.size := lt_of_cell b0
  go_wp2_with fail
  refine (bLocal_any 4 1 Rb.exG 5 _ _ HT.out HG.out).mono ?_
  rintro e w10 ⟨v, rfl, hv, hx⟩
  rw [Rb.ex_local.2.1] at hv
  rw [Rb.ex_local.1]
  obtain ⟨Fl, Cl, hvv, hF, hC⟩ := hv
  have hvv : v = .agg #[.int .i64 5, Fl, Cl] := hvv
  subst hvv
  obtain ⟨FAl, fcl, rfl⟩ : ∃ FA fc, Fl = .slice FA 2 fc := by
    obtain ⟨FA, fc, h, _⟩ := hF.form
    exact ⟨FA, fc, h⟩
  obtain ⟨CAl, ccl, rfl⟩ : ∃ CA cc, Cl = .slice CA 2 cc := by
    obtain ⟨CA, cc, h, _⟩ := hC.form
    exact ⟨CA, cc, h⟩
  have hxa : Ext w10 (w10.alloc (.cells #[.int .i64 5, .slice FAl 2 fcl, .slice CAl 2 ccl] 30)) := (Ext.refl w10).alloc _
  have hx2 := hx.trans hxa
  have HX := Lib.hid (HX.out.trans hx2)
  have HT := Lib.hid (HT.out.ext hx2)
  have HG := Lib.hid (Rs.ext (Rs.ext RI.ext) _ _ _ _ hx2 HG.out)
  have HB := Lib.hid (HB.out.ext hx2)
  have HCa := Lib.hid (HCa.out.ext hx2)
  have HFa := Lib.hid (And.intro (Rs.ext RI.ext _ _ _ _ hx2 HFa.out.1) (Rs.ext RB.ext _ _ _ _ hx2 HFa.out.2))
  have HAL := Lib.hid (RRs.ext _ _ _ _ hx2 HAL.out)
  have HCn := Lib.hid (HCn.out.ext hx2)
  have HFn := Lib.hid (And.intro (Rs.ext RI.ext _ _ _ _ hx2 HFn.out.1) (Rs.ext RB.ext _ _ _ _ hx2 HFn.out.2))
  have HCb := Lib.hid (HCb.out.ext hx2)
  have HFb := Lib.hid (And.intro (Rs.ext RI.ext _ _ _ _ hx2 HFb.out.1) (Rs.ext RB.ext _ _ _ _ hx2 HFb.out.2))
  have HCl := Lib.hid (cells_new w10 #[.int .i64 5, .slice FAl 2 fcl, .slice CAl 2 ccl] 30)
  have HFl := Lib.hid (And.intro (Rs.ext RI.ext _ _ _ _ hxa hF) (Rs.ext RB.ext _ _ _ _ hxa hC))
  clear hF hC hx hxa hx2 b0 b1 b2 hBl
  go_upto_region 7 with fail
  obtain ⟨Ql, hQl⟩ : ∃ Q, w10.heap.size = Q := ⟨_, rfl⟩
  rw [hQl] at HCl
  try rw [hQl]
  obtain ⟨w11, hw2⟩ : ∃ x, w10.alloc (.cells #[.int .i64 5, .slice FAl 2 fcl, .slice CAl 2 ccl] 30) = x := ⟨_, rfl⟩
  rw [hw2] at HX HT HG HB HCa HFa HAL HCn HFn HCb HFb HCl HFl ⊢
  clear hw2 hQl
  have b0 : w11.cell? ⟨B, 0, none⟩ = some (.int .i64 4) := HB.out 0 _ rfl
  have b1 : w11.cell? ⟨B, 1, none⟩ = some (.slice (some ⟨gG, 0, none⟩) 2 2) := HB.out 1 _ rfl
  have b2 : w11.cell? ⟨B, 2, none⟩ = some (.int .i64 1) := HB.out 2 _ rfl
  have hBl : B < w11.heap.size := lt_of_cell b0
  go_wp2_with fail
  refine (bLocal_any 4 1 Rb.exG 6 _ _ HT.out HG.out).mono ?_
  rintro e w12 ⟨v, rfl, hv, hx⟩
  rw [Rb.ex_local.2.2.2] at hv
  rw [Rb.ex_local.2.2.1]
  obtain ⟨Fm, Cm, hvv, hF, hC⟩ := hv
  have hvv : v = .agg #[.int .i64 0, Fm, Cm] := hvv
  subst hvv
  obtain ⟨FAm, fcm, rfl⟩ : ∃ FA fc, Fm = .slice FA 0 fc := by
    obtain ⟨FA, fc, h, _⟩ := hF.form
    exact ⟨FA, fc, h⟩
  obtain ⟨CAm, ccm, rfl⟩ : ∃ CA cc, Cm = .slice CA 0 cc := by
    obtain ⟨CA, cc, h, _⟩ := hC.form
    exact ⟨CA, cc, h⟩
  have hxa : Ext w12 (w12.alloc (.cells #[.int .i64 0, .slice FAm 0 fcm, .slice CAm 0 ccm] 30)) := (Ext.refl w12).alloc _
  have hx2 := hx.trans hxa
  have HX := Lib.hid (HX.out.trans hx2)
  have HT := Lib.hid (HT.out.ext hx2)
  have HG := Lib.hid (Rs.ext (Rs.ext RI.ext) _ _ _ _ hx2 HG.out)
  have HB := Lib.hid (HB.out.ext hx2)
  have HCa := Lib.hid (HCa.out.ext hx2)
  have HFa := Lib.hid (And.intro (Rs.ext RI.ext _ _ _ _ hx2 HFa.out.1) (Rs.ext RB.ext _ _ _ _ hx2 HFa.out.2))
  have HAL := Lib.hid (RRs.ext _ _ _ _ hx2 HAL.out)
  have HCn := Lib.hid (HCn.out.ext hx2)
  have HFn := Lib.hid (And.intro (Rs.ext RI.ext _ _ _ _ hx2 HFn.out.1) (Rs.ext RB.ext _ _ _ _ hx2 HFn.out.2))
  have HCb := Lib.hid (HCb.out.ext hx2)
  have HFb := Lib.hid (And.intro (Rs.ext RI.ext _ _ _ _ hx2 HFb.out.1) (Rs.ext RB.ext _ _ _ _ hx2 HFb.out.2))
  have HCl := Lib.hid (HCl.out.ext hx2)
  have HFl := Lib.hid (And.intro (Rs.ext RI.ext _ _ _ _ hx2 HFl.out.1) (Rs.ext RB.ext _ _ _ _ hx2 HFl.out.2))
  have HCm := Lib.hid (cells_new w12 #[.int .i64 0, .slice FAm 0 fcm, .slice CAm 0 ccm] 30)
  have HFm := Lib.hid (And.intro (Rs.ext RI.ext _ _ _ _ hxa hF) (Rs.ext RB.ext _ _ _ _ hxa hC))
  clear hF hC hx hxa hx2 b0 b1 b2 hBl
  go_upto_region 8 with fail
  obtain ⟨Qm, hQm⟩ : ∃ Q, w12.heap.size = Q := ⟨_, rfl⟩
  rw [hQm] at HCm
  try rw [hQm]
  obtain ⟨w13, hw2⟩ : ∃ x, w12.alloc (.cells #[.int .i64 0, .slice FAm 0 fcm, .slice CAm 0 ccm] 30) = x := ⟨_, rfl⟩
  rw [hw2] at HX HT HG HB HCa HFa HAL HCn HFn HCb HFb HCl HFl HCm HFm ⊢
  clear hw2 hQm
  have b0 : w13.cell? ⟨B, 0, none⟩ = some (.int .i64 4) := HB.out 0 _ rfl
  have b1 : w13.cell? ⟨B, 1, none⟩ = some (.slice (some ⟨gG, 0, none⟩) 2 2) := HB.out 1 _ rfl
  have b2 : w13.cell? ⟨B, 2, none⟩ = some (.int .i64 1) := HB.out 2 _ rfl
  have hBl : B < w13.heap.size := lt_of_cell b0
  go_wp2_with fail
  refine (bJoint_any 4 1 Rb.exG 5 _ _ HT.out HG.out).mono ?_
  rintro e w14 ⟨v1, v2, rfl, h1, h2, hx⟩
  rw [Rb.ex_joint.2] at h1 h2
  rw [Rb.ex_joint.1]
  have h1 : Rs RI w14 v1 [1, 3, 4, 5] := h1
  have h2 : RRs w14 v2 [⟨0, [1, 4], [1, 1]⟩, ⟨2, [3, 5], [1, 1]⟩] := h2
  obtain ⟨JA, cJ, rfl⟩ : ∃ A c, v1 = .slice A 4 c := by
    obtain ⟨A, c, h, _⟩ := h1.form
    exact ⟨A, c, h⟩
  obtain ⟨JB, dJ, rfl⟩ : ∃ A c, v2 = .slice A 2 c := by
    obtain ⟨A, c, h, _⟩ := h2.form
    exact ⟨A, c, h⟩
  have HX := Lib.hid (HX.out.trans hx)
  have HT := Lib.hid (HT.out.ext hx)
  have HG := Lib.hid (Rs.ext (Rs.ext RI.ext) _ _ _ _ hx HG.out)
  have HB := Lib.hid (HB.out.ext hx)
  have HCa := Lib.hid (HCa.out.ext hx)
  have HFa := Lib.hid (And.intro (Rs.ext RI.ext _ _ _ _ hx HFa.out.1) (Rs.ext RB.ext _ _ _ _ hx HFa.out.2))
  have HAL := Lib.hid (RRs.ext _ _ _ _ hx HAL.out)
  have HCn := Lib.hid (HCn.out.ext hx)
  have HFn := Lib.hid (And.intro (Rs.ext RI.ext _ _ _ _ hx HFn.out.1) (Rs.ext RB.ext _ _ _ _ hx HFn.out.2))
  have HCb := Lib.hid (HCb.out.ext hx)
  have HFb := Lib.hid (And.intro (Rs.ext RI.ext _ _ _ _ hx HFb.out.1) (Rs.ext RB.ext _ _ _ _ hx HFb.out.2))
  have HCl := Lib.hid (HCl.out.ext hx)
  have HFl := Lib.hid (And.intro (Rs.ext RI.ext _ _ _ _ hx HFl.out.1) (Rs.ext RB.ext _ _ _ _ hx HFl.out.2))
  have HCm := Lib.hid (HCm.out.ext hx)
  have HFm := Lib.hid (And.intro (Rs.ext RI.ext _ _ _ _ hx HFm.out.1) (Rs.ext RB.ext _ _ _ _ hx HFm.out.2))
  have HJ := Lib.hid (And.intro h1 h2)
  clear h1 h2 hx b0 b1 b2 hBl
  clear HG HB HCn HFn HCm HFm
  go_upto_region 9 with fail
  go_wp2_with fail
  refine (recipe8_any 0 _ _ 2 2 2 2 _ _ _ rfl rfl).mono ?_
  rintro e w15 ⟨rfl, hx⟩
  have hci := (cells_new w14 #[.int .i64 1, .int .i64 4] 3).ext (((Ext.refl _).alloc (.cells #[.int .u8 1, .int .u8 1] 5)).trans hx)
  have hcb := (cells_new (w14.alloc (.cells #[.int .i64 1, .int .i64 4] 3)) #[.int .u8 1, .int .u8 1] 5).ext hx
  rw [World.size_alloc] at hcb
  have hx2 := Ext.trans ((((Ext.refl w14).alloc _).alloc _)) hx
  have HX := Lib.hid (HX.out.trans hx2)
  have HT := Lib.hid (HT.out.ext hx2)
  have HCa := Lib.hid (HCa.out.ext hx2)
  have HFa := Lib.hid (And.intro (Rs.ext RI.ext _ _ _ _ hx2 HFa.out.1) (Rs.ext RB.ext _ _ _ _ hx2 HFa.out.2))
  have HAL := Lib.hid (RRs.ext _ _ _ _ hx2 HAL.out)
  have HCb := Lib.hid (HCb.out.ext hx2)
  have HFb := Lib.hid (And.intro (Rs.ext RI.ext _ _ _ _ hx2 HFb.out.1) (Rs.ext RB.ext _ _ _ _ hx2 HFb.out.2))
  have HCl := Lib.hid (HCl.out.ext hx2)
  have HFl := Lib.hid (And.intro (Rs.ext RI.ext _ _ _ _ hx2 HFl.out.1) (Rs.ext RB.ext _ _ _ _ hx2 HFl.out.2))
  have HJ := Lib.hid (And.intro (Rs.ext RI.ext _ _ _ _ hx2 HJ.out.1) (RRs.ext _ _ _ _ hx2 HJ.out.2))
  obtain ⟨Xp, hXp⟩ : ∃ X, w14.heap.size = X := ⟨_, rfl⟩
  rw [hXp] at hci hcb
  try rw [hXp]
  have HRp : Hid (RRec w15 (.agg #[.int .i64 0, .slice (some ⟨Xp, 0, none⟩) 2 2, .slice (some ⟨Xp + 1, 0, none⟩) 2 2]) ⟨0, [1, 4], [1, 1]⟩) := Lib.hid ⟨_, _, rfl, rs_lit (l := [1, 4]) hci rfl (by decide), rb_lit (l := [1, 1]) hcb (by decide)⟩
  clear hci hcb hx hx2 hXp
  go_wp2_with fail
  have htx : Rs RS (w15.alloc (.cells #[.string { data := #[3, 4] }, .string { data := #[2, 6] }] 9)) (.slice (some ⟨w15.heap.size, 0, none⟩) 2 2) [[3, 4], [2, 6]] := rt_lit (l := [[3, 4], [2, 6]]) (cells_new w15 #[.string { data := #[3, 4] }, .string { data := #[2, 6] }] 9) (by decide)
  have hxa : Ext w15 (w15.alloc (.cells #[.string { data := #[3, 4] }, .string { data := #[2, 6] }] 9)) := (Ext.refl _).alloc _
  refine (bApply_any ⟨0, [1, 4], [1, 1]⟩ [[3, 4], [2, 6]] _ _ _ (HT.out.ext hxa) (RRec.ext _ _ _ _ hxa HRp.out) htx (by decide) (by decide) (by decide)).mono ?_
  rintro e w16 ⟨rfl, hx⟩
  rw [Rb.ex_apply.1, Rb.ex_apply.2.1, show sb [1, 2] = ({ data := #[1, 2] } : ByteArray) from rfl]
  have hx2 := Ext.trans hxa hx
  have HX := Lib.hid (HX.out.trans hx2)
  have HT := Lib.hid (HT.out.ext hx2)
  have HCa := Lib.hid (HCa.out.ext hx2)
  have HFa := Lib.hid (And.intro (Rs.ext RI.ext _ _ _ _ hx2 HFa.out.1) (Rs.ext RB.ext _ _ _ _ hx2 HFa.out.2))
  have HAL := Lib.hid (RRs.ext _ _ _ _ hx2 HAL.out)
  have HCb := Lib.hid (HCb.out.ext hx2)
  have HFb := Lib.hid (And.intro (Rs.ext RI.ext _ _ _ _ hx2 HFb.out.1) (Rs.ext RB.ext _ _ _ _ hx2 HFb.out.2))
  have HCl := Lib.hid (HCl.out.ext hx2)
  have HFl := Lib.hid (And.intro (Rs.ext RI.ext _ _ _ _ hx2 HFl.out.1) (Rs.ext RB.ext _ _ _ _ hx2 HFl.out.2))
  have HJ := Lib.hid (And.intro (Rs.ext RI.ext _ _ _ _ hx2 HJ.out.1) (RRs.ext _ _ _ _ hx2 HJ.out.2))
  have HRp := Lib.hid (RRec.ext _ _ _ _ hx2 HRp.out)
  clear htx hxa hx hx2
  clear HRp
  go_upto_region 10 with fail
  go_wp2_with fail
  refine (recipe8_any 0 _ _ 2 2 2 2 _ _ _ rfl rfl).mono ?_
  rintro e w17 ⟨rfl, hx⟩
  have hci := (cells_new w16 #[.int .i64 1, .int .i64 4] 3).ext (((Ext.refl _).alloc (.cells #[.int .u8 1, .int .u8 1] 5)).trans hx)
  have hcb := (cells_new (w16.alloc (.cells #[.int .i64 1, .int .i64 4] 3)) #[.int .u8 1, .int .u8 1] 5).ext hx
  rw [World.size_alloc] at hcb
  have hx2 := Ext.trans ((((Ext.refl w16).alloc _).alloc _)) hx
  have HX := Lib.hid (HX.out.trans hx2)
  have HT := Lib.hid (HT.out.ext hx2)
  have HCa := Lib.hid (HCa.out.ext hx2)
  have HFa := Lib.hid (And.intro (Rs.ext RI.ext _ _ _ _ hx2 HFa.out.1) (Rs.ext RB.ext _ _ _ _ hx2 HFa.out.2))
  have HAL := Lib.hid (RRs.ext _ _ _ _ hx2 HAL.out)
  have HCb := Lib.hid (HCb.out.ext hx2)
  have HFb := Lib.hid (And.intro (Rs.ext RI.ext _ _ _ _ hx2 HFb.out.1) (Rs.ext RB.ext _ _ _ _ hx2 HFb.out.2))
  have HCl := Lib.hid (HCl.out.ext hx2)
  have HFl := Lib.hid (And.intro (Rs.ext RI.ext _ _ _ _ hx2 HFl.out.1) (Rs.ext RB.ext _ _ _ _ hx2 HFl.out.2))
  have HJ := Lib.hid (And.intro (Rs.ext RI.ext _ _ _ _ hx2 HJ.out.1) (RRs.ext _ _ _ _ hx2 HJ.out.2))
  obtain ⟨Xq, hXq⟩ : ∃ X, w16.heap.size = X := ⟨_, rfl⟩
  rw [hXq] at hci hcb
  try rw [hXq]
  have HRq : Hid (RRec w17 (.agg #[.int .i64 0, .slice (some ⟨Xq, 0, none⟩) 2 2, .slice (some ⟨Xq + 1, 0, none⟩) 2 2]) ⟨0, [1, 4], [1, 1]⟩) := Lib.hid ⟨_, _, rfl, rs_lit (l := [1, 4]) hci rfl (by decide), rb_lit (l := [1, 1]) hcb (by decide)⟩
  clear hci hcb hx hx2 hXq
  go_wp2_with fail
  have htx : Rs RS (w17.alloc (.cells #[.string { data := #[97] }, .string { data := #[98, 99] }] 9)) (.slice (some ⟨w17.heap.size, 0, none⟩) 2 2) [[97], [98, 99]] := rt_lit (l := [[97], [98, 99]]) (cells_new w17 #[.string { data := #[97] }, .string { data := #[98, 99] }] 9) (by decide)
  have hxa : Ext w17 (w17.alloc (.cells #[.string { data := #[97] }, .string { data := #[98, 99] }] 9)) := (Ext.refl _).alloc _
  refine (bApply_any ⟨0, [1, 4], [1, 1]⟩ [[97], [98, 99]] _ _ _ (HT.out.ext hxa) (RRec.ext _ _ _ _ hxa HRq.out) htx (by decide) (by decide) (by decide)).mono ?_
  rintro e w18 ⟨rfl, hx⟩
  rw [Rb.ex_apply.2.2.1]
  have hx2 := Ext.trans hxa hx
  have HX := Lib.hid (HX.out.trans hx2)
  have HT := Lib.hid (HT.out.ext hx2)
  have HCa := Lib.hid (HCa.out.ext hx2)
  have HFa := Lib.hid (And.intro (Rs.ext RI.ext _ _ _ _ hx2 HFa.out.1) (Rs.ext RB.ext _ _ _ _ hx2 HFa.out.2))
  have HAL := Lib.hid (RRs.ext _ _ _ _ hx2 HAL.out)
  have HCb := Lib.hid (HCb.out.ext hx2)
  have HFb := Lib.hid (And.intro (Rs.ext RI.ext _ _ _ _ hx2 HFb.out.1) (Rs.ext RB.ext _ _ _ _ hx2 HFb.out.2))
  have HCl := Lib.hid (HCl.out.ext hx2)
  have HFl := Lib.hid (And.intro (Rs.ext RI.ext _ _ _ _ hx2 HFl.out.1) (Rs.ext RB.ext _ _ _ _ hx2 HFl.out.2))
  have HJ := Lib.hid (And.intro (Rs.ext RI.ext _ _ _ _ hx2 HJ.out.1) (RRs.ext _ _ _ _ hx2 HJ.out.2))
  have HRq := Lib.hid (RRec.ext _ _ _ _ hx2 HRq.out)
  clear htx hxa hx hx2
  clear HRq
  go_upto_region 11 with fail
  go_upto_region 12 with fail
  go_wp2_with fail
  refine (recipe8_any 0 _ _ 4 4 4 4 _ _ _ rfl rfl).mono ?_
  rintro e w19 ⟨rfl, hx⟩
  have hci := (cells_new w18 #[.int .i64 1, .int .i64 2, .int .i64 3, .int .i64 6] 3).ext (((Ext.refl _).alloc (.cells #[.int .u8 2, .int .u8 4, .int .u8 8, .int .u8 1] 5)).trans hx)
  have hcb := (cells_new (w18.alloc (.cells #[.int .i64 1, .int .i64 2, .int .i64 3, .int .i64 6] 3)) #[.int .u8 2, .int .u8 4, .int .u8 8, .int .u8 1] 5).ext hx
  rw [World.size_alloc] at hcb
  have hx2 := Ext.trans ((((Ext.refl w18).alloc _).alloc _)) hx
  have HX := Lib.hid (HX.out.trans hx2)
  have HT := Lib.hid (HT.out.ext hx2)
  have HCa := Lib.hid (HCa.out.ext hx2)
  have HFa := Lib.hid (And.intro (Rs.ext RI.ext _ _ _ _ hx2 HFa.out.1) (Rs.ext RB.ext _ _ _ _ hx2 HFa.out.2))
  have HAL := Lib.hid (RRs.ext _ _ _ _ hx2 HAL.out)
  have HCb := Lib.hid (HCb.out.ext hx2)
  have HFb := Lib.hid (And.intro (Rs.ext RI.ext _ _ _ _ hx2 HFb.out.1) (Rs.ext RB.ext _ _ _ _ hx2 HFb.out.2))
  have HCl := Lib.hid (HCl.out.ext hx2)
  have HFl := Lib.hid (And.intro (Rs.ext RI.ext _ _ _ _ hx2 HFl.out.1) (Rs.ext RB.ext _ _ _ _ hx2 HFl.out.2))
  have HJ := Lib.hid (And.intro (Rs.ext RI.ext _ _ _ _ hx2 HJ.out.1) (RRs.ext _ _ _ _ hx2 HJ.out.2))
  obtain ⟨Xu, hXu⟩ : ∃ X, w18.heap.size = X := ⟨_, rfl⟩
  rw [hXu] at hci hcb
  try rw [hXu]
  have HRu : Hid (RRec w19 (.agg #[.int .i64 0, .slice (some ⟨Xu, 0, none⟩) 4 4, .slice (some ⟨Xu + 1, 0, none⟩) 4 4]) ⟨0, [1, 2, 3, 6], [2, 4, 8, 1]⟩) := Lib.hid ⟨_, _, rfl, rs_lit (l := [1, 2, 3, 6]) hci rfl (by decide), rb_lit (l := [2, 4, 8, 1]) hcb (by decide)⟩
  clear hci hcb hx hx2 hXu
  go_wp2_with fail
  refine (recipe8_any 0 _ _ 4 4 4 4 _ _ _ rfl rfl).mono ?_
  rintro e w20 ⟨rfl, hx⟩
  have hci := (cells_new w19 #[.int .i64 1, .int .i64 2, .int .i64 5, .int .i64 6] 3).ext (((Ext.refl _).alloc (.cells #[.int .u8 2, .int .u8 12, .int .u8 8, .int .u8 1] 5)).trans hx)
  have hcb := (cells_new (w19.alloc (.cells #[.int .i64 1, .int .i64 2, .int .i64 5, .int .i64 6] 3)) #[.int .u8 2, .int .u8 12, .int .u8 8, .int .u8 1] 5).ext hx
  rw [World.size_alloc] at hcb
  have hx2 := Ext.trans ((((Ext.refl w19).alloc _).alloc _)) hx
  have HX := Lib.hid (HX.out.trans hx2)
  have HT := Lib.hid (HT.out.ext hx2)
  have HCa := Lib.hid (HCa.out.ext hx2)
  have HFa := Lib.hid (And.intro (Rs.ext RI.ext _ _ _ _ hx2 HFa.out.1) (Rs.ext RB.ext _ _ _ _ hx2 HFa.out.2))
  have HAL := Lib.hid (RRs.ext _ _ _ _ hx2 HAL.out)
  have HCb := Lib.hid (HCb.out.ext hx2)
  have HFb := Lib.hid (And.intro (Rs.ext RI.ext _ _ _ _ hx2 HFb.out.1) (Rs.ext RB.ext _ _ _ _ hx2 HFb.out.2))
  have HCl := Lib.hid (HCl.out.ext hx2)
  have HFl := Lib.hid (And.intro (Rs.ext RI.ext _ _ _ _ hx2 HFl.out.1) (Rs.ext RB.ext _ _ _ _ hx2 HFl.out.2))
  have HJ := Lib.hid (And.intro (Rs.ext RI.ext _ _ _ _ hx2 HJ.out.1) (RRs.ext _ _ _ _ hx2 HJ.out.2))
  have HRu := Lib.hid (RRec.ext _ _ _ _ hx2 HRu.out)
  obtain ⟨Xx, hXx⟩ : ∃ X, w19.heap.size = X := ⟨_, rfl⟩
  rw [hXx] at hci hcb
  try rw [hXx]
  have HRx : Hid (RRec w20 (.agg #[.int .i64 0, .slice (some ⟨Xx, 0, none⟩) 4 4, .slice (some ⟨Xx + 1, 0, none⟩) 4 4]) ⟨0, [1, 2, 5, 6], [2, 12, 8, 1]⟩) := Lib.hid ⟨_, _, rfl, rs_lit (l := [1, 2, 5, 6]) hci rfl (by decide), rb_lit (l := [2, 12, 8, 1]) hcb (by decide)⟩
  clear hci hcb hx hx2 hXx
  go_wp2_with fail
  refine (recipe8_any 0 _ _ 4 4 4 4 _ _ _ rfl rfl).mono ?_
  rintro e w21 ⟨rfl, hx⟩
  have hci := (cells_new w20 #[.int .i64 1, .int .i64 3, .int .i64 5, .int .i64 6] 3).ext (((Ext.refl _).alloc (.cells #[.int .u8 2, .int .u8 12, .int .u8 4, .int .u8 1] 5)).trans hx)
  have hcb := (cells_new (w20.alloc (.cells #[.int .i64 1, .int .i64 3, .int .i64 5, .int .i64 6] 3)) #[.int .u8 2, .int .u8 12, .int .u8 4, .int .u8 1] 5).ext hx
  rw [World.size_alloc] at hcb
  have hx2 := Ext.trans ((((Ext.refl w20).alloc _).alloc _)) hx
  have HX := Lib.hid (HX.out.trans hx2)
  have HT := Lib.hid (HT.out.ext hx2)
  have HCa := Lib.hid (HCa.out.ext hx2)
  have HFa := Lib.hid (And.intro (Rs.ext RI.ext _ _ _ _ hx2 HFa.out.1) (Rs.ext RB.ext _ _ _ _ hx2 HFa.out.2))
  have HAL := Lib.hid (RRs.ext _ _ _ _ hx2 HAL.out)
  have HCb := Lib.hid (HCb.out.ext hx2)
  have HFb := Lib.hid (And.intro (Rs.ext RI.ext _ _ _ _ hx2 HFb.out.1) (Rs.ext RB.ext _ _ _ _ hx2 HFb.out.2))
  have HCl := Lib.hid (HCl.out.ext hx2)
  have HFl := Lib.hid (And.intro (Rs.ext RI.ext _ _ _ _ hx2 HFl.out.1) (Rs.ext RB.ext _ _ _ _ hx2 HFl.out.2))
  have HJ := Lib.hid (And.intro (Rs.ext RI.ext _ _ _ _ hx2 HJ.out.1) (RRs.ext _ _ _ _ hx2 HJ.out.2))
  have HRu := Lib.hid (RRec.ext _ _ _ _ hx2 HRu.out)
  have HRx := Lib.hid (RRec.ext _ _ _ _ hx2 HRx.out)
  obtain ⟨Xy, hXy⟩ : ∃ X, w20.heap.size = X := ⟨_, rfl⟩
  rw [hXy] at hci hcb
  try rw [hXy]
  have HRy : Hid (RRec w21 (.agg #[.int .i64 0, .slice (some ⟨Xy, 0, none⟩) 4 4, .slice (some ⟨Xy + 1, 0, none⟩) 4 4]) ⟨0, [1, 3, 5, 6], [2, 12, 4, 1]⟩) := Lib.hid ⟨_, _, rfl, rs_lit (l := [1, 3, 5, 6]) hci rfl (by decide), rb_lit (l := [2, 12, 4, 1]) hcb (by decide)⟩
  clear hci hcb hx hx2 hXy
  have hxa : Ext w21 (w21.alloc (.cells #[.int .i64 0, .slice (some ⟨Xu, 0, none⟩) 4 4, .slice (some ⟨Xu + 1, 0, none⟩) 4 4, .int .i64 0, .slice (some ⟨Xx, 0, none⟩) 4 4, .slice (some ⟨Xx + 1, 0, none⟩) 4 4, .int .i64 0, .slice (some ⟨Xy, 0, none⟩) 4 4, .slice (some ⟨Xy + 1, 0, none⟩) 4 4] 30)) := (Ext.refl _).alloc _
  have hlit : RRs (w21.alloc (.cells #[.int .i64 0, .slice (some ⟨Xu, 0, none⟩) 4 4, .slice (some ⟨Xu + 1, 0, none⟩) 4 4, .int .i64 0, .slice (some ⟨Xx, 0, none⟩) 4 4, .slice (some ⟨Xx + 1, 0, none⟩) 4 4, .int .i64 0, .slice (some ⟨Xy, 0, none⟩) 4 4, .slice (some ⟨Xy + 1, 0, none⟩) 4 4] 30)) (.slice (some ⟨w21.heap.size, 0, none⟩) 3 3) [⟨0, [1, 2, 3, 6], [2, 4, 8, 1]⟩, ⟨0, [1, 2, 5, 6], [2, 12, 8, 1]⟩, ⟨0, [1, 3, 5, 6], [2, 12, 4, 1]⟩] := rrs_lit (l := [(⟨0, [1, 2, 3, 6], [2, 4, 8, 1]⟩, .slice (some ⟨Xu, 0, none⟩) 4 4, .slice (some ⟨Xu + 1, 0, none⟩) 4 4), (⟨0, [1, 2, 5, 6], [2, 12, 8, 1]⟩, .slice (some ⟨Xx, 0, none⟩) 4 4, .slice (some ⟨Xx + 1, 0, none⟩) 4 4), (⟨0, [1, 3, 5, 6], [2, 12, 4, 1]⟩, .slice (some ⟨Xy, 0, none⟩) 4 4, .slice (some ⟨Xy + 1, 0, none⟩) 4 4)]) (cells_new w21 #[.int .i64 0, .slice (some ⟨Xu, 0, none⟩) 4 4, .slice (some ⟨Xu + 1, 0, none⟩) 4 4, .int .i64 0, .slice (some ⟨Xx, 0, none⟩) 4 4, .slice (some ⟨Xx + 1, 0, none⟩) 4 4, .int .i64 0, .slice (some ⟨Xy, 0, none⟩) 4 4, .slice (some ⟨Xy + 1, 0, none⟩) 4 4] 30) (fun y hy => by
    simp only [List.mem_cons, List.not_mem_nil, or_false] at hy
    rcases hy with rfl | rfl | rfl
    · exact rec_rows (RRec.ext _ _ _ _ hxa HRu.out)
    · exact rec_rows (RRec.ext _ _ _ _ hxa HRx.out)
    · exact rec_rows (RRec.ext _ _ _ _ hxa HRy.out)
    ) (by simp)
  go_upto_region 13 with fail
  have HFAR := Lib.hid hlit
  have hcf := cells_new w21 #[.int .i64 0, .slice (some ⟨Xu, 0, none⟩) 4 4, .slice (some ⟨Xu + 1, 0, none⟩) 4 4, .int .i64 0, .slice (some ⟨Xx, 0, none⟩) 4 4, .slice (some ⟨Xx + 1, 0, none⟩) 4 4, .int .i64 0, .slice (some ⟨Xy, 0, none⟩) 4 4, .slice (some ⟨Xy + 1, 0, none⟩) 4 4] 30
  have HC0 : Hid (Cells (w21.alloc (.cells #[.int .i64 0, .slice (some ⟨Xu, 0, none⟩) 4 4, .slice (some ⟨Xu + 1, 0, none⟩) 4 4, .int .i64 0, .slice (some ⟨Xx, 0, none⟩) 4 4, .slice (some ⟨Xx + 1, 0, none⟩) 4 4, .int .i64 0, .slice (some ⟨Xy, 0, none⟩) 4 4, .slice (some ⟨Xy + 1, 0, none⟩) 4 4] 30)) w21.heap.size [.int .i64 0, .slice (some ⟨Xu, 0, none⟩) 4 4, .slice (some ⟨Xu + 1, 0, none⟩) 4 4]) := Lib.hid fun i v hi => hcf i v (by
    match i, hi with
    | 0, hi => exact hi
    | 1, hi => exact hi
    | 2, hi => exact hi
    | i + 3, hi => simp at hi)
  have HX := Lib.hid (HX.out.trans hxa)
  have HT := Lib.hid (HT.out.ext hxa)
  have HCa := Lib.hid (HCa.out.ext hxa)
  have HFa := Lib.hid (And.intro (Rs.ext RI.ext _ _ _ _ hxa HFa.out.1) (Rs.ext RB.ext _ _ _ _ hxa HFa.out.2))
  have HAL := Lib.hid (RRs.ext _ _ _ _ hxa HAL.out)
  have HCb := Lib.hid (HCb.out.ext hxa)
  have HFb := Lib.hid (And.intro (Rs.ext RI.ext _ _ _ _ hxa HFb.out.1) (Rs.ext RB.ext _ _ _ _ hxa HFb.out.2))
  have HCl := Lib.hid (HCl.out.ext hxa)
  have HFl := Lib.hid (And.intro (Rs.ext RI.ext _ _ _ _ hxa HFl.out.1) (Rs.ext RB.ext _ _ _ _ hxa HFl.out.2))
  have HJ := Lib.hid (And.intro (Rs.ext RI.ext _ _ _ _ hxa HJ.out.1) (RRs.ext _ _ _ _ hxa HJ.out.2))
  have HRu := Lib.hid (RRec.ext _ _ _ _ hxa HRu.out)
  have HRx := Lib.hid (RRec.ext _ _ _ _ hxa HRx.out)
  have HRy := Lib.hid (RRec.ext _ _ _ _ hxa HRy.out)
  obtain ⟨XF, hXF⟩ : ∃ X, w21.heap.size = X := ⟨_, rfl⟩
  rw [hXF] at HFAR HC0
  try rw [hXF]
  obtain ⟨ws, hws⟩ : ∃ x, w21.alloc (.cells #[.int .i64 0, .slice (some ⟨Xu, 0, none⟩) 4 4, .slice (some ⟨Xu + 1, 0, none⟩) 4 4, .int .i64 0, .slice (some ⟨Xx, 0, none⟩) 4 4, .slice (some ⟨Xx + 1, 0, none⟩) 4 4, .int .i64 0, .slice (some ⟨Xy, 0, none⟩) 4 4, .slice (some ⟨Xy + 1, 0, none⟩) 4 4] 30) = x := ⟨_, rfl⟩
  rw [hws] at HFAR HC0 HX HT HCa HFa HAL HCb HFb HCl HFl HJ HRu HRx HRy ⊢
  clear hcf hlit hxa hws hXF
  refine wp_atEnd' (san_near Qa Qb Ql XF cL LA FAa CAa FAb CAb FAl CAl (some ⟨Xu, 0, none⟩) (some ⟨Xu + 1, 0, none⟩) fca cca fcb ccb fcl ccl 4 4 ws HCa.out HCb.out HCl.out HC0.out ⟨_, _, rfl, HFa.out.1, HFa.out.2⟩ ⟨_, _, rfl, HFb.out.1, HFb.out.2⟩ ⟨_, _, rfl, HFl.out.1, HFl.out.2⟩ HRu.out HAL.out HFAR.out _ _ _ _ _ _ _ _ _ _ _ _ _ _ _ _ _ _ _ _ _ _ _ _ _ _ _ _ _ _ _ _ _ _ _ _ _ _ _ _ _ _ _ _ _ _ _ _ _ _ _ _ _ _ _ _ _ _ _ _ _ _ _ _ _ _ _ _ _ _ _ _ _ _ _ _ _ _ _ _ _ _ _ _ _ _ _ _ _ _ _ _ _ _ _ _ _ _ _ _ _ _ _ _ _ _ _ _ _ _ _ _ _ _ _ _ _ _ _ _ _ _ _ _ _ _ _ _ _ _ _ _ _ _ _ _ _ _ _ _ _ _ _ _ _ _ _ _ _ _ _ _ _ _ _ _ _ _ _ _ _ _ _ _ _ _ _ _ _ _ _ ?_)
  rintro u121 u122 u123 u124 u125 u126 u127 u128 u129 u130 u131 u132 u133 u134 u135 u136 u137 u138 u139 u140 u141 u142 u143 u144 wx hx
  have HX := Lib.hid (HX.out.trans hx)
  have HT := Lib.hid (HT.out.ext hx)
  have HCa := Lib.hid (HCa.out.ext hx)
  have HFa := Lib.hid (And.intro (Rs.ext RI.ext _ _ _ _ hx HFa.out.1) (Rs.ext RB.ext _ _ _ _ hx HFa.out.2))
  have HJ := Lib.hid (And.intro (Rs.ext RI.ext _ _ _ _ hx HJ.out.1) (RRs.ext _ _ _ _ hx HJ.out.2))
  clear hx
  go_wp2_with fail
  have hxa : Ext wx (wx.alloc (.cells #[.int .i64 1, .int .i64 3, .int .i64 4, .int .i64 5] 3)) := (Ext.refl _).alloc _
  have htx : Rs RI (wx.alloc (.cells #[.int .i64 1, .int .i64 3, .int .i64 4, .int .i64 5] 3)) (.slice (some ⟨wx.heap.size, 0, none⟩) 4 4) [1, 3, 4, 5] := rs_lit (l := [1, 3, 4, 5]) (cells_new wx #[.int .i64 1, .int .i64 3, .int .i64 4, .int .i64 5] 3) rfl (by decide)
  refine (sList8_any [1, 3, 4, 5] [1, 3, 4, 5] _ _ _ (Rs.ext RI.ext _ _ _ _ hxa HJ.out.1) htx).mono ?_
  rintro e wa ⟨rfl, hx⟩
  rw [decide_eq_true rfl]
  have hx2 := Ext.trans hxa hx
  have HX := Lib.hid (HX.out.trans hx2)
  have HT := Lib.hid (HT.out.ext hx2)
  have HCa := Lib.hid (HCa.out.ext hx2)
  have HFa := Lib.hid (And.intro (Rs.ext RI.ext _ _ _ _ hx2 HFa.out.1) (Rs.ext RB.ext _ _ _ _ hx2 HFa.out.2))
  have HJ := Lib.hid (And.intro (Rs.ext RI.ext _ _ _ _ hx2 HJ.out.1) (RRs.ext _ _ _ _ hx2 HJ.out.2))
  clear hxa htx hx hx2
  go_wp2_with fail
  refine (recipe8_any 0 _ _ 2 2 2 2 _ _ _ rfl rfl).mono ?_
  rintro e w22 ⟨rfl, hx⟩
  have hci := (cells_new wa #[.int .i64 1, .int .i64 4] 3).ext (((Ext.refl _).alloc (.cells #[.int .u8 1, .int .u8 1] 5)).trans hx)
  have hcb := (cells_new (wa.alloc (.cells #[.int .i64 1, .int .i64 4] 3)) #[.int .u8 1, .int .u8 1] 5).ext hx
  rw [World.size_alloc] at hcb
  have hx2 := Ext.trans ((((Ext.refl wa).alloc _).alloc _)) hx
  have HX := Lib.hid (HX.out.trans hx2)
  have HT := Lib.hid (HT.out.ext hx2)
  have HCa := Lib.hid (HCa.out.ext hx2)
  have HFa := Lib.hid (And.intro (Rs.ext RI.ext _ _ _ _ hx2 HFa.out.1) (Rs.ext RB.ext _ _ _ _ hx2 HFa.out.2))
  have HJ := Lib.hid (And.intro (Rs.ext RI.ext _ _ _ _ hx2 HJ.out.1) (RRs.ext _ _ _ _ hx2 HJ.out.2))
  obtain ⟨Xv, hXv⟩ : ∃ X, wa.heap.size = X := ⟨_, rfl⟩
  rw [hXv] at hci hcb
  try rw [hXv]
  have HRv : Hid (RRec w22 (.agg #[.int .i64 0, .slice (some ⟨Xv, 0, none⟩) 2 2, .slice (some ⟨Xv + 1, 0, none⟩) 2 2]) ⟨0, [1, 4], [1, 1]⟩) := Lib.hid ⟨_, _, rfl, rs_lit (l := [1, 4]) hci rfl (by decide), rb_lit (l := [1, 1]) hcb (by decide)⟩
  clear hci hcb hx hx2 hXv
  go_wp2_with fail
  refine (recipe8_any 2 _ _ 2 2 2 2 _ _ _ rfl rfl).mono ?_
  rintro e w23 ⟨rfl, hx⟩
  have hci := (cells_new w22 #[.int .i64 3, .int .i64 5] 3).ext (((Ext.refl _).alloc (.cells #[.int .u8 1, .int .u8 1] 5)).trans hx)
  have hcb := (cells_new (w22.alloc (.cells #[.int .i64 3, .int .i64 5] 3)) #[.int .u8 1, .int .u8 1] 5).ext hx
  rw [World.size_alloc] at hcb
  have hx2 := Ext.trans ((((Ext.refl w22).alloc _).alloc _)) hx
  have HX := Lib.hid (HX.out.trans hx2)
  have HT := Lib.hid (HT.out.ext hx2)
  have HCa := Lib.hid (HCa.out.ext hx2)
  have HFa := Lib.hid (And.intro (Rs.ext RI.ext _ _ _ _ hx2 HFa.out.1) (Rs.ext RB.ext _ _ _ _ hx2 HFa.out.2))
  have HJ := Lib.hid (And.intro (Rs.ext RI.ext _ _ _ _ hx2 HJ.out.1) (RRs.ext _ _ _ _ hx2 HJ.out.2))
  have HRv := Lib.hid (RRec.ext _ _ _ _ hx2 HRv.out)
  obtain ⟨Xt, hXt⟩ : ∃ X, w22.heap.size = X := ⟨_, rfl⟩
  rw [hXt] at hci hcb
  try rw [hXt]
  have HRt : Hid (RRec w23 (.agg #[.int .i64 2, .slice (some ⟨Xt, 0, none⟩) 2 2, .slice (some ⟨Xt + 1, 0, none⟩) 2 2]) ⟨2, [3, 5], [1, 1]⟩) := Lib.hid ⟨_, _, rfl, rs_lit (l := [3, 5]) hci rfl (by decide), rb_lit (l := [1, 1]) hcb (by decide)⟩
  clear hci hcb hx hx2 hXt
  go_wp2_with fail
  have hxa : Ext w23 (w23.alloc (.cells #[.int .i64 0, .slice (some ⟨Xv, 0, none⟩) 2 2, .slice (some ⟨Xv + 1, 0, none⟩) 2 2, .int .i64 2, .slice (some ⟨Xt, 0, none⟩) 2 2, .slice (some ⟨Xt + 1, 0, none⟩) 2 2] 30)) := (Ext.refl _).alloc _
  have hlit : RRs (w23.alloc (.cells #[.int .i64 0, .slice (some ⟨Xv, 0, none⟩) 2 2, .slice (some ⟨Xv + 1, 0, none⟩) 2 2, .int .i64 2, .slice (some ⟨Xt, 0, none⟩) 2 2, .slice (some ⟨Xt + 1, 0, none⟩) 2 2] 30)) (.slice (some ⟨w23.heap.size, 0, none⟩) 2 2) [⟨0, [1, 4], [1, 1]⟩, ⟨2, [3, 5], [1, 1]⟩] := rrs_lit (l := [(⟨0, [1, 4], [1, 1]⟩, .slice (some ⟨Xv, 0, none⟩) 2 2, .slice (some ⟨Xv + 1, 0, none⟩) 2 2), (⟨2, [3, 5], [1, 1]⟩, .slice (some ⟨Xt, 0, none⟩) 2 2, .slice (some ⟨Xt + 1, 0, none⟩) 2 2)]) (cells_new w23 #[.int .i64 0, .slice (some ⟨Xv, 0, none⟩) 2 2, .slice (some ⟨Xv + 1, 0, none⟩) 2 2, .int .i64 2, .slice (some ⟨Xt, 0, none⟩) 2 2, .slice (some ⟨Xt + 1, 0, none⟩) 2 2] 30) (fun y hy => by
    simp only [List.mem_cons, List.not_mem_nil, or_false] at hy
    rcases hy with rfl | rfl
    · exact rec_rows (RRec.ext _ _ _ _ hxa HRv.out)
    · exact rec_rows (RRec.ext _ _ _ _ hxa HRt.out)
    ) (by simp)
  refine (sSameAll_self [⟨0, [1, 4], [1, 1]⟩, ⟨2, [3, 5], [1, 1]⟩] _ _ _ (RRs.ext _ _ _ _ hxa HJ.out.2) hlit).mono ?_
  rintro e wb ⟨rfl, hx⟩
  have hx2 := Ext.trans hxa hx
  have HX := Lib.hid (HX.out.trans hx2)
  have HT := Lib.hid (HT.out.ext hx2)
  have HCa := Lib.hid (HCa.out.ext hx2)
  have HFa := Lib.hid (And.intro (Rs.ext RI.ext _ _ _ _ hx2 HFa.out.1) (Rs.ext RB.ext _ _ _ _ hx2 HFa.out.2))
  have HJ := Lib.hid (And.intro (Rs.ext RI.ext _ _ _ _ hx2 HJ.out.1) (RRs.ext _ _ _ _ hx2 HJ.out.2))
  have HRv := Lib.hid (RRec.ext _ _ _ _ hx2 HRv.out)
  have HRt := Lib.hid (RRec.ext _ _ _ _ hx2 HRt.out)
  clear hxa hlit hx hx2
  have q0 : wb.cell? ⟨Qa, 0, none⟩ = some (.int .i64 0) := HCa.out 0 _ rfl
  have q1 : wb.cell? ⟨Qa, 1, none⟩ = some (.slice FAa 2 fca) := HCa.out 1 _ rfl
  have q2 : wb.cell? ⟨Qa, 2, none⟩ = some (.slice CAa 2 cca) := HCa.out 2 _ rfl
  go_wp2_with fail
  refine (bCheck_any ⟨0, [1, 4], [1, 1]⟩ _ _ ⟨_, _, rfl, HFa.out.1, HFa.out.2⟩ (by decide)).mono ?_
  rintro e wc ⟨rfl, hx⟩
  rw [Rb.ex_apply.2.2.2]
  have HX := Lib.hid (HX.out.trans hx)
  clear hx q0 q1 q2
  go_wp2_with fail
  go_ret
  exact ⟨rfl, HX.out⟩
end Go.Proofs.YtdmljilcbndmfaaDoor

/- THE WALK over before of the laws of rebuild; what a list of rows holds. -/
namespace Go.Proofs.YtdmljilcbndmfaaDoor
open Go.RowKit Go.Shelf
/-- What lies in a list, value by value. -/
theorem Rs.vals {α : Type} {R : World → Value → α → Prop} {w : World} {A : Option Addr} {n c : Nat} {xs : List α} (h : Rs R w (.slice A n c) xs) :
    ∃ us : List Value, us.length = xs.length ∧ Rd w A us ∧ ∀ i (hi : i < xs.length), R w (us.getD i (.slice none 0 0)) xs[i] := by
  have hx : ∀ i : Nat, ∃ u : Value, ∀ hi : i < xs.length, (∃ ad, A = some ad ∧ w.cell? (ad.add i) = some u) ∧ R w u xs[i] := fun i => by
    by_cases hi : i < xs.length
    · obtain ⟨ad, u, h1, h2, h3⟩ := h.at hi
      exact ⟨u, fun _ => ⟨⟨ad, h1, h2⟩, h3⟩⟩
    · exact ⟨.slice none 0 0, fun hi' => absurd hi' hi⟩
  obtain ⟨g, hg⟩ := Classical.axiomOfChoice hx
  refine ⟨(List.range xs.length).map g, by simp, fun k x hk => ?_, fun i hi => ?_⟩
  · rw [List.getElem?_map] at hk
    cases hr : (List.range xs.length)[k]? with
    | none => rw [hr] at hk; cases hk
    | some j =>
      rw [hr] at hk
      have hk2 := (List.getElem?_eq_some_iff.1 hr).1
      rw [List.length_range] at hk2
      have hj : j = k := by
        rw [List.getElem?_range hk2] at hr
        injection hr with hr; exact hr.symm
      subst hj
      injection hk with hk
      subst hk
      obtain ⟨⟨ad, h1, h2⟩, _⟩ := hg j hk2
      exact ⟨ad, h1, by have := lt_of_cell h2; rwa [block_add] at this, h2⟩
  · rw [List.getD_eq_getElem?_getD, List.getElem?_map, List.getElem?_range hi]
    exact (hg i hi).2
/-- Some rows of a matrix, named by their places. -/
theorem rows_of {w : World} {A : Option Addr} {c : Nat} {us : List Value} {R : Mx.Mat} {f : List Int} (hrd : Rd w A (f.map fun i : Int => us.getD i.toNat (.slice none 0 0))) (hv : ∀ i (hi : i < R.length), Rs RB w (us.getD i (.slice none 0 0)) R[i])
    (hb : ∀ x ∈ f, 0 ≤ x ∧ x < (R.length : Int)) (hl : f.length ≤ 9223372036854775807) : Rs (Rs RB) w (.slice A f.length c) (Rb.rowsAt R f) := by
  refine ⟨A, c, by rw [Rb.rowsAt_length], by rw [Rb.rowsAt_length]; exact hl, fun i x hi => ?_⟩
  unfold Rb.rowsAt at hi
  rw [List.getElem?_map] at hi
  cases hf : f[i]? with
  | none => rw [hf] at hi; cases hi
  | some y =>
    rw [hf] at hi
    injection hi with hi
    obtain ⟨ad, h1, _, h2⟩ := hrd i (us.getD y.toNat (.slice none 0 0)) (by rw [List.getElem?_map, hf]; rfl)
    have hy := hb y (List.mem_of_getElem? hf)
    have hy2 : y.toNat < R.length := by omega
    refine ⟨ad, _, h1, h2, ?_⟩
    have := hv y.toNat hy2
    have hg : R.getD y.toNat [] = R[y.toNat] := by rw [List.getD_eq_getElem?_getD, List.getElem?_eq_getElem hy2]; rfl
    rw [show x = R[y.toNat] from hi.symm.trans hg]
    exact this
end Go.Proofs.YtdmljilcbndmfaaDoor

/- THE WALKS over Size and Encode. -/
namespace Go.Proofs.YtdmljilcbndmfaaDoor
open Go.RowKit
theorem cSize_any (d gl n : Int) (gs : List (List Int)) (G : Value) (w : World) (hG : Rs (Rs RI) w G gs) :
    Calls Tryd.prog 71 #[.agg #[.int .i64 d, G, .int .i64 gl], .int .i64 n] w fun e w' => e = .returned (.int .i64 (Cd.sizeOf d gl gs n)) ∧ Ext w w' := by
  have hx0 := (Ext.refl w).alloc (.cells #[.int .i64 d, G, .int .i64 gl] 24)
  have HX := Lib.hid (And.intro hx0 (Rs.ext (Rs.ext RI.ext) _ _ _ _ hx0 hG))
  obtain ⟨A, c, rfl, hl⟩ := hG.form
  clear hG hx0
  by_cases h1 : n < 0
  · have hz := Cd.sizeOf_no (d := d) (gl := gl) (gs := gs) (.inl h1)
    have HZ := Lib.hid hz
    clear hz
    go_enter Tryd.func71, Tryd.ntmps71
    go_wp2_with fail
    go_ret
    exact ⟨ret_int HZ.out.symm, HX.out.1⟩
  · by_cases h2 : 4096 < n
    · have hz := Cd.sizeOf_no (d := d) (gl := gl) (gs := gs) (.inr (.inl h2))
      have HZ := Lib.hid hz
      clear hz
      go_enter Tryd.func71, Tryd.ntmps71
      go_wp2_with fail
      go_ret
      exact ⟨ret_int HZ.out.symm, HX.out.1⟩
    · go_enter Tryd.func71, Tryd.ntmps71
      go_wp2_with fail
      refine (cCheck_any d gl gs _ _ HX.out.2).mono ?_
      rintro e w1 ⟨rfl, hx1⟩
      have hc0 : w1.cell? ⟨w.heap.size, 0, none⟩ = some (.int .i64 d) := hx1.cell (by go_simp)
      have HX1 := Lib.hid (HX.out.1.trans hx1)
      clear hx1
      by_cases h0 : Cd.check d gs gl = 0
      · have hk := Cd.check_ok h0
        have hz := Cd.sizeOf_ok (d := d) (gl := gl) (gs := gs) (n := n) (by omega) (by omega) h0
        have e1 : (Cd.check d gs gl != 0) = false := by rw [h0]; rfl
        have HZ := Lib.hid hz
        have e3 : d ≠ 0 := by omega
        clear hz h0
        go_wp2_with fail
        go_ret
        exact ⟨ret_int HZ.out.symm, HX1.out⟩
      · have hz := Cd.sizeOf_no (d := d) (gl := gl) (gs := gs) (n := n) (.inr (.inr h0))
        have e1 : (Cd.check d gs gl != 0) = true := by rw [bne_iff_ne]; exact h0
        have HZ := Lib.hid hz
        clear hz h0
        go_wp2_with fail
        go_ret
        exact ⟨ret_int HZ.out.symm, HX1.out⟩
theorem cEncode_no (d gl : Int) (gs : List (List Int)) (data : List UInt8) (G : Value) (w : World) (hT : Tab w) (hG : Rs (Rs RI) w G gs) (h0 : Cd.check d gs gl ≠ 0) :
    Calls Tryd.prog 32 #[.agg #[.int .i64 d, G, .int .i64 gl], .string (sb data)] w fun e w' => e = .returned (.tuple #[.slice none 0 0, .int .i64 (Cd.check d gs gl)]) ∧ Ext w w' := by
  have hx0 := (Ext.refl w).alloc (.cells #[.int .i64 d, G, .int .i64 gl] 24)
  have HX := Lib.hid (And.intro hx0 (Rs.ext (Rs.ext RI.ext) _ _ _ _ hx0 hG))
  have HT := Lib.hid (hT.ext hx0)
  obtain ⟨A, c, rfl, hl⟩ := hG.form
  have e1 : (Cd.check d gs gl != 0) = true := by rw [bne_iff_ne]; exact h0
  clear hG hx0 hT h0
  go_enter Tryd.func32, Tryd.ntmps32
  go_wp2_with fail
  refine (cRows_any d gl gs _ _ HT.out HX.out.2).mono ?_
  rintro e w1 ⟨v, rfl, hv, hx1⟩
  have HX1 := Lib.hid (HX.out.1.trans hx1)
  clear hx1 hv
  go_wp2_with fail
  go_ret2
  exact ⟨rfl, HX1.out⟩
theorem cEncode_big (d gl : Int) (gs : List (List Int)) (data : List UInt8) (G : Value) (w : World) (hT : Tab w) (hG : Rs (Rs RI) w G gs) (h0 : Cd.check d gs gl = 0) (hb : 4096 < data.length) (hl : data.length ≤ 9223372036854775807) :
    Calls Tryd.prog 32 #[.agg #[.int .i64 d, G, .int .i64 gl], .string (sb data)] w fun e w' => e = .returned (.tuple #[.slice none 0 0, .int .i64 2]) ∧ Ext w w' := by
  have hx0 := (Ext.refl w).alloc (.cells #[.int .i64 d, G, .int .i64 gl] 24)
  have HX := Lib.hid (And.intro hx0 (Rs.ext (Rs.ext RI.ext) _ _ _ _ hx0 hG))
  have HT := Lib.hid (hT.ext hx0)
  obtain ⟨A, c, rfl, _⟩ := hG.form
  have e1 : (Cd.check d gs gl != 0) = false := by rw [h0]; rfl
  clear hG hx0 hT h0
  go_enter Tryd.func32, Tryd.ntmps32
  go_wp2_with fail
  refine (cRows_any d gl gs _ _ HT.out HX.out.2).mono ?_
  rintro e w1 ⟨v, rfl, hv, hx1⟩
  have HX1 := Lib.hid (HX.out.1.trans hx1)
  clear hx1 hv
  go_wp2_with fail
  go_ret2
  exact ⟨rfl, HX1.out⟩
theorem bytes_zero (N : Nat) : (List.replicate N (Value.int .u8 0)) = (List.replicate N (0 : UInt8)).map bv := by rw [List.map_replicate]; rfl
theorem fill_cells {N : Nat} {data : List UInt8} : data.map bv ++ (List.replicate N (Value.int .u8 0)).drop data.length = (Cd.fill N data).map bv := by
  rw [Cd.fill, List.map_append, List.drop_replicate, bytes_zero]
/-- A part of a row of bytes reads as the part of the list. -/
theorem Rd.part {w : World} {g n size i d : Nat} {full : List UInt8} {A : Option Addr} (h : Rd w (some ⟨g, 0, none⟩) (full.map bv)) (hi : i < d)
    (hA : A = (if n = i * size then some ⟨g, 0, none⟩ else some ((⟨g, 0, none⟩ : Addr).add (i * size)))) (hn : n = d * size) : Rd w A ((Cd.cutAt size full i).map bv) := by
  by_cases hs : size = 0
  · have : Cd.cutAt size full i = [] := by rw [Cd.cutAt, hs]; simp
    rw [this]
    exact Rd.nil _ _
  · have h1 : (i + 1) * size ≤ d * size := Nat.mul_le_mul_right size hi
    rw [Nat.succ_mul] at h1
    rw [if_neg (by omega)] at hA
    subst hA
    intro k x hx
    rw [List.getElem?_map, Cd.cutAt, List.getElem?_take] at hx
    by_cases hk : k < size
    · rw [if_pos hk, List.getElem?_drop] at hx
      obtain ⟨ad, e1, e2, e3⟩ := h (i * size + k) x (by rw [List.getElem?_map]; exact hx)
      injection e1 with e1
      subst e1
      refine ⟨_, rfl, by rw [block_add]; exact e2, ?_⟩
      have ea : ∀ o i : Nat, (⟨g, o, none⟩ : Addr).add i = ⟨g, o + i, none⟩ := fun o i => by unfold Addr.add; split <;> simp_all
      have e4 : ((⟨g, 0, none⟩ : Addr).add (i * size)).add k = (⟨g, 0, none⟩ : Addr).add (i * size + k) := by rw [ea, ea, ea, Nat.add_assoc]
      rw [e4]; exact e3
    · rw [if_neg hk] at hx; cases hx
theorem info_u8s : (Tryd.prog.info? 5).map (·.size) = some 1 := by kernel_rfl
theorem Rs.of_rdS {w : World} {A : Option Addr} {c : Nat} {l : List (List UInt8)} (h : Rd w A (l.map sv)) (hl : l.length ≤ 9223372036854775807) : Rs RS w (.slice A l.length c) l :=
  ⟨A, c, rfl, hl, fun i x hi => by
    obtain ⟨ad, h1, _, h3⟩ := h i (sv x) (by rw [List.getElem?_map, hi]; rfl)
    exact ⟨ad, _, h1, h3, rfl⟩⟩
theorem Owns.older {w w2 wr : World} {L : List LRow} (h : Owns w2 wr L) (hx : Ext w w2) : Owns w wr L where
  ext := hx.trans h.ext
  ok i r hr := by
    have h1 := h.ok i r hr
    refine ⟨h1.1, ?_⟩
    rcases h1.2 with h2 | ⟨g, cap, cur, hv, hB, rest⟩
    · exact .inl h2
    · exact .inr ⟨g, cap, cur, hv, Nat.le_trans hx.size hB, rest⟩
  far := h.far
set_option maxRecDepth 100000 in
set_option maxHeartbeats 8000000 in
theorem cEncode_ok (d gl : Nat) (gs : List (List Int)) (data : List UInt8) (G : Value) (w : World) (hT : Tab w) (hG : Rs (Rs RI) w G gs) (h0 : Cd.check d gs gl = 0) (hb : data.length ≤ 4096) :
    Calls Tryd.prog 32 #[.agg #[.int .i64 d, G, .int .i64 gl], .string (sb data)] w fun e w' => ∃ v, e = .returned (.tuple #[v, .int .i64 0]) ∧ Rs RS w' v (Cd.encode d gl gs data) ∧ Owns w w' [⟨v, 9, 1, (Cd.encode d gl gs data).length, (Cd.encode d gl gs data).map sv⟩] := by
  have hx0 := (Ext.refl w).alloc (.cells #[.int .i64 d, G, .int .i64 gl] 24)
  have hk := Cd.check_ok h0
  have HX := Lib.hid (And.intro hx0 (Rs.ext (Rs.ext RI.ext) _ _ _ _ hx0 hG))
  have HT := Lib.hid (hT.ext hx0)
  obtain ⟨A, c, rfl, _⟩ := hG.form
  have e1 : (Cd.check d gs gl != 0) = false := by rw [h0]; rfl
  have HC := Lib.hid h0
  have hsz := Cd.size_le (d := d) (by omega) data.length
  have hge := Cd.size_ge (d := d) (by omega) data.length
  obtain ⟨sz, hsze⟩ : ∃ sz, Cd.sizeN d data.length = sz := ⟨_, rfl⟩
  have hso := Cd.sizeOf_nat (d := d) (gl := gl) (gs := gs) hb h0
  rw [hsze] at hsz hge hso
  obtain ⟨N, hN⟩ : ∃ N, d * sz = N := ⟨_, rfl⟩
  have hNle : N ≤ 65536 := by
    have := Nat.mul_le_mul (show d ≤ 16 by omega) hsz
    rw [← hN]
    omega
  have hmul : (d : Int) * (sz : Int) = (N : Int) := by rw [← hN, Int.natCast_mul]
  rw [hN] at hge
  obtain ⟨full, hfull⟩ : ∃ full, Cd.fill N data = full := ⟨_, rfl⟩
  have hfl : full.length = d * sz := by rw [← hfull, hN]; exact Cd.fill_len hge
  have hcuts : Cd.cuts d data = (List.range d).map (Cd.cutAt sz full) := by rw [Cd.cuts, hsze, hN, hfull]
  have HSO := Lib.hid hso
  have HF := Lib.hid (And.intro hfull (And.intro hfl (And.intro hcuts hN)))
  obtain ⟨i0, hi, hz0, hz1, hz2⟩ := info_parts info_u8
  have HZ2 := Lib.hid hz2
  clear hz2 hG hx0 hT h0 hfull hfl hcuts hN hso hsze
  go_enter Tryd.func32, Tryd.ntmps32
  go_wp2_with fail
  refine (cRows_any d gl gs _ _ HT.out HX.out.2).mono ?_
  rintro e w1 ⟨v, rfl, hv, hx1⟩
  obtain ⟨RA, cR, rfl, _⟩ := hv.form
  have hc0 : w1.cell? ⟨w.heap.size, 0, none⟩ = some (.int .i64 d) := hx1.cell (by go_simp)
  have hc1 : w1.cell? ⟨w.heap.size, 1, none⟩ = some (.slice A gs.length c) := hx1.cell (by go_simp)
  have hc2 : w1.cell? ⟨w.heap.size, 2, none⟩ = some (.int .i64 gl) := hx1.cell (by go_simp)
  have HX1 := Lib.hid (HX.out.1.trans hx1)
  have HT1 := Lib.hid (HT.out.ext hx1)
  have HG1 := Lib.hid (Rs.ext (Rs.ext RI.ext) _ _ _ _ hx1 HX.out.2)
  have HV := Lib.hid hv
  clear hx1 hv
  go_wp2_with fail
  clear hc1 hc2
  refine (cSize_any d gl data.length gs _ _ HG1.out).mono ?_
  rintro e w2 ⟨rfl, hx2⟩
  rw [HSO.out]
  have hc0' : w2.cell? ⟨w.heap.size, 0, none⟩ = some (.int .i64 d) := hx2.cell hc0
  have HX2 := Lib.hid (HX1.out.trans hx2)
  have HT2 := Lib.hid (HT1.out.ext hx2)
  have HV2 := Lib.hid (Rs.ext (Rs.ext RB.ext) _ _ _ _ hx2 HV.out)
  have HC0 := Lib.hid hc0'
  clear hx2 hc0
  go_wp2_with (first | (refine wpList_make_full _ rfl (.tmp 35) (.tmp 35) 28 rfl w2.heap.size 5 i0 (.int .u8 0) 1 Tryd.underlying28 hi hz0 hz1 _ _ _ _ N rfl rfl rfl rfl (by rw [HZ2.out]; omega) (by unfold maxLen; omega) (Nat.le_refl _) ?_; intro w3 hown hgrow; have hx3 : Ext w2 w3 := (Ext.refl w2).grown hgrow (fun k h => by cases h); have hO3 : Owns w2 w3 [⟨.slice (some ⟨w2.heap.size, 0, none⟩) N N, 5, 1, N, (madeCells (Value.int .u8 0).cells (N * 1)).toList⟩] := ((Owns.start w2 (L := []) (by simp)).behind hx3 hown); have HO3 := Lib.hid hO3; clear hown hgrow hx3 hO3) | (refine wpl_copy_str rfl (.tmp 37) (.tmp 38) 28 9 rfl Tryd.underlying28 info_u8s HO3.out 0 rfl rfl rfl hge ?_; intro w4 hO4; have HO4 := Lib.hid hO4; have hc4 : w4.cell? ⟨w.heap.size, 0, none⟩ = some (.int .i64 d) := hO4.ext.cell HC0.out; clear hO4))
  clear hc0' hc4
  have hO5 := HO4.out
  rw [show (madeCells (Value.int .u8 0).cells (N * 1)).toList = List.replicate N (Value.int .u8 0) from by rw [Nat.mul_one]; exact toList_madeCells_one _ _] at hO5
  have hO5' : Owns w2 w4 [⟨.slice (some ⟨w2.heap.size, 0, none⟩) N N, 5, 1, N, full.map bv⟩] := by
    rw [← HF.out.1, ← fill_cells]
    exact hO5
  have hO6 : Owns w2 w4 [⟨.slice (some ⟨w2.heap.size, 0, none⟩) N N, 5, 1, N, full.map bv⟩, nilRow 9, no] := (hO5'.wider.wider).put 1 (nilRow 9) hO5'.ext (nilRow_ok _ _ _) (fun _ _ _ _ _ _ => rfl) (fun _ _ _ _ => .inl rfl)
  have HO6 := Lib.hid hO6
  clear hO5 hO5' hO6
  go_loopw [10, 12, 42] (fun vp vi vx wr => ∃ (i ca : Nat) (B : Option Addr), i ≤ d ∧ vx = .int .i64 i ∧ vp = .slice B i ca ∧ Hid (Owns w2 wr [⟨.slice (some ⟨w2.heap.size, 0, none⟩) N N, 5, 1, N, full.map bv⟩, ⟨.slice B i ca, 9, 1, i, ((List.range i).map (Cd.cutAt sz full)).map sv⟩, no])) (fun _ _ vx _ => d - (intOf vx).toNat)
  case atStart => exact ⟨0, 0, none, Nat.zero_le _, rfl, rfl, HO6.out⟩
  case round =>
    obtain ⟨i, ca, B, hi2, rfl, rfl, HI⟩ := hrel
    by_cases hlt : i < d
    · obtain ⟨lo, hlo⟩ : ∃ lo, i * sz = lo := ⟨_, rfl⟩
      obtain ⟨hh, hhi⟩ : ∃ hh, (i + 1) * sz = hh := ⟨_, rfl⟩
      have q1 : (i : Int) * (sz : Int) = (lo : Int) := by rw [← hlo, Int.natCast_mul]
      have q2 : ((i : Int) + 1) * (sz : Int) = (hh : Int) := by rw [← hhi, Int.natCast_mul]; rfl
      have q3 : hh = lo + sz := by rw [← hhi, ← hlo, Nat.succ_mul]
      have q4 : hh ≤ N := by rw [← hhi, ← HF.out.2.2.2]; exact Nat.mul_le_mul_right sz hlt
      have q5 : hh - lo = sz := by omega
      have hcl := Cd.cutAt_len (size := sz) HF.out.2.1 hlt
      have hpart := fun (A : Option Addr) (hA : A = (if N = lo then some (⟨w2.heap.size, 0, none⟩ : Addr) else some ((⟨w2.heap.size, 0, none⟩ : Addr).add lo))) => Rd.part (n := N) (size := sz) (i := i) (d := d) (A := A) (HI.out.rd 0 rfl) hlt (by rw [hlo]; exact hA) HF.out.2.2.2.symm
      have hst : ((List.range (i + 1)).map (Cd.cutAt sz full)).map sv = ((List.range i).map (Cd.cutAt sz full)).map sv ++ [sv (Cd.cutAt sz full i)] := by simp [List.range_succ]
      obtain ⟨ct, hct⟩ : ∃ ct, Cd.cutAt sz full i = ct := ⟨_, rfl⟩
      rw [hct] at hcl hpart hst
      have HPART := Lib.hid hpart
      have HST := Lib.hid (And.intro hst (And.intro hcl q5))
      have hql : lo ≤ hh := by omega
      clear hpart hst hcl hlo hhi q3 q5 hct
      go_wp2_with (first | (refine wpl_part rfl 28 5 (.tmp 46) (.tmp 49) (.tmp 53) rfl Tryd.underlying28 info_u8s rfl rfl rfl hql q4 ?_; intro AA hAA; have hcv := str_u8 (w := wr) (c := N - lo) (n := hh - lo) (by rw [HST.out.2.2, HST.out.2.1]) (HPART.out AA hAA); clear hAA) | (have hB := HI.out.new 2 #[sv ct] 9 (by simp [maxLen]); refine wpl_append_owns (u := sv ct) 54 9 rfl (.tmp 45) (.tmp 56) rfl Tryd.underlying54 info_str rfl hB 1 rfl rfl rfl (hB.cell 2 rfl 0 rfl) rfl (by omega) (by decide) ?_; clear hB; intro g8 c8 w8 hO8 _))
      go_roundw
      case rel => exact ⟨i + 1, c8, _, by omega, by go_num, rfl, by rw [HST.out.1]; exact hO8.drop 2⟩
      case measure => simp [intOf]; omega
    · obtain rfl : i = d := by omega
      have hI := HI.out
      rw [← HF.out.2.2.1] at hI
      have hI2 := hI.wider.put 2 (nilRow 9) hI.ext (nilRow_ok _ _ _) (fun _ _ _ _ _ _ => rfl) (fun _ _ _ _ => .inl rfl)
      obtain ⟨parts, hparts⟩ : ∃ parts, Cd.cuts i data = parts := ⟨_, rfl⟩
      have hpl : parts.length = i := by rw [← hparts, Cd.cuts_len]
      have hps : ∀ p ∈ parts, p.length ≤ 140737488351232 := fun p hp => by
        rw [← hparts] at hp
        have h1 := Cd.cuts_all (by omega) data hp
        have h2 := Cd.size_le (d := i) (by omega) data.length
        omega
      rw [hparts] at hI2
      have HI2 := Lib.hid hI2
      have HP := Lib.hid (And.intro hparts (And.intro hpl hps))
      have hrl := Cd.rowsOf_len HC.out
      obtain ⟨R, hR⟩ : ∃ R, Cd.rowsOf (i : Int) gs (gl : Int) = R := ⟨_, rfl⟩
      have HV3 := HV2
      rw [hR] at HV3 hrl ⊢
      have HRR := Lib.hid hR
      clear hI hI2 hparts hpl hps hR
      go_wp2_with fail
      go_loopw [11, 61] (fun vo vx wr => ∃ (k co : Nat) (O : Option Addr), k ≤ R.length ∧ vx = .int .i64 k ∧ vo = .slice O k co ∧ Hid (Owns w2 wr [⟨.slice (some ⟨w2.heap.size, 0, none⟩) N N, 5, 1, N, full.map bv⟩, ⟨.slice B i ca, 9, 1, i, parts.map sv⟩, ⟨.slice O k co, 9, 1, k, (Cd.encRows (R.take k) parts).map sv⟩, no])) (fun _ vx _ => R.length - (intOf vx).toNat)
      case atStart => exact ⟨0, 0, none, Nat.zero_le _, rfl, rfl, HI2.out⟩
      case round =>
        obtain ⟨k, co, O, hk2, rfl, rfl, HJ⟩ := hrel
        by_cases hlt2 : k < R.length
        · obtain ⟨ad, u, rfl, hcell, hu⟩ := HV3.out.at (i := k) hlt2
          obtain ⟨RB', cRB, rfl, hrb⟩ := hu.form
          have hcell2 := HJ.out.ext.cell hcell
          have hurd := hu.rd
          have hst : (Cd.encRows (R.take (k + 1)) parts).map sv = (Cd.encRows (R.take k) parts).map sv ++ [sv (Gf.combS R[k] parts)] := by
            rw [Cd.encRows, List.take_succ_eq_append_getElem hlt2, List.map_append, List.map_append]; rfl
          have hrlen : R[k].length = i := by
            have hw := Cd.rowsOf_at (d := (i : Int)) (gl := (gl : Int)) (gs := gs) HC.out (k := k) (by rw [HRR.out]; exact hlt2)
            rw [HRR.out, List.getD_eq_getElem?_getD, List.getElem?_eq_getElem hlt2] at hw
            exact hw
          obtain ⟨r, hr⟩ : ∃ r, R[k] = r := ⟨_, rfl⟩
          rw [hr] at hst hurd hcell2 hrlen
          have HST := Lib.hid hst
          have HU := Lib.hid hurd
          have HRL := Lib.hid hrlen
          clear hst hurd hu hcell hr hrb hrlen
          go_wp2_with fail
          refine (combine_any r parts _ _ _ _ _ _ _ (HT2.out.ext HJ.out.ext) rfl HP.out.2.1.symm (by rw [HRL.out]; omega) HP.out.2.2 (HU.out.ext HJ.out.ext) (HJ.out.rd 1 rfl)).mono ?_
          rintro e w5 ⟨rfl, hx5⟩
          have HJ5 := Lib.hid (HJ.out.next hx5)
          clear hx5 hcell2
          go_wp2_with (have hB := HJ5.out.new 3 #[sv (Gf.combS r parts)] 9 (by simp [maxLen]); refine wpl_append_owns (u := sv (Gf.combS r parts)) 54 9 rfl (.tmp 71) (.tmp 73) rfl Tryd.underlying54 info_str rfl hB 2 rfl rfl rfl (hB.cell 3 rfl 0 rfl) rfl (by omega) (by decide) ?_; clear hB; intro g8 c8 w8 hO8 _)
          go_roundw
          case rel => exact ⟨k + 1, c8, _, by omega, by go_num, rfl, by rw [HST.out]; exact hO8.drop 3⟩
          case measure => simp [intOf]; omega
        · obtain rfl : k = R.length := by omega
          have hout : Rs RS wr (.slice O R.length co) (Cd.encode (i : Int) (gl : Int) gs data) := by
            have h1 := HJ.out.rd 2 rfl
            rw [List.take_length, ← HP.out.1, ← HRR.out] at h1
            have h2 := Cd.encode_len (i : Int) (gl : Int) gs data
            rw [HRR.out] at h2
            rw [← h2]
            exact Rs.of_rdS h1 (by rw [h2]; omega)
          have hxx : Owns w wr [⟨.slice O R.length co, 9, 1, (Cd.encode (i : Int) (gl : Int) gs data).length, (Cd.encode (i : Int) (gl : Int) gs data).map sv⟩] := by
            have h1 := HJ.out.older HX2.out
            have h2 := Cd.encode_len (i : Int) (gl : Int) gs data
            rw [HRR.out] at h2
            rw [List.take_length, ← HP.out.1, ← HRR.out] at h1
            rw [h2, ← HRR.out]
            exact h1.sublist (.cons _ (.cons _ (.cons_cons _ (List.nil_sublist _))))
          have HOUT := Lib.hid (And.intro hout hxx)
          clear hout hxx
          go_wp2_with fail
          go_ret2
          exact ⟨_, rfl, HOUT.out.1, HOUT.out.2⟩
/-- `Encode` of every chunk: its list is of the call's own. -/
theorem cEncode_own (d gl : Int) (gs : List (List Int)) (data : List UInt8) (G : Value) (w : World) (hT : Tab w) (hG : Rs (Rs RI) w G gs) (hl : data.length ≤ 9223372036854775807) :
    Calls Tryd.prog 32 #[.agg #[.int .i64 d, G, .int .i64 gl], .string (sb data)] w fun e w' => ∃ v, e = .returned (.tuple #[v, .int .i64 (Cd.encE d gl gs data)]) ∧ Rs RS w' v (Cd.encL d gl gs data) ∧ Owns w w' [⟨v, 9, 1, (Cd.encL d gl gs data).length, (Cd.encL d gl gs data).map sv⟩] := by
  have hnil : ∀ w', Ext w w' → Owns w w' [⟨.slice none 0 0, 9, 1, ([] : List (List UInt8)).length, ([] : List (List UInt8)).map sv⟩] := fun w' hx =>
    (Owns.start w (L := [⟨.slice none 0 0, 9, 1, 0, []⟩]) (by intro r hr; simp at hr; subst hr; exact ⟨rfl, rfl, rfl⟩)).next hx
  by_cases h0 : Cd.check d gs gl = 0
  · by_cases hb : data.length ≤ 4096
    · have hk := Cd.check_ok h0
      rw [Cd.encE_ok h0 hb, Cd.encL_ok h0 hb]
      obtain ⟨n, rfl⟩ : ∃ n : Nat, d = n := ⟨d.toNat, by omega⟩
      obtain ⟨m, rfl⟩ : ∃ m : Nat, gl = m := ⟨gl.toNat, by omega⟩
      exact cEncode_ok n m gs data G w hT hG h0 hb
    · rw [Cd.encE_big h0 (by omega), Cd.encL_big (by omega)]
      refine (cEncode_big d gl gs data G w hT hG h0 (by omega) hl).mono ?_
      rintro e w' ⟨rfl, hx⟩
      exact ⟨_, rfl, ⟨none, 0, rfl, by simp, fun i x h => by simp at h⟩, hnil w' hx⟩
  · rw [Cd.encE_no h0, Cd.encL_no h0]
    refine (cEncode_no d gl gs data G w hT hG h0).mono ?_
    rintro e w' ⟨rfl, hx⟩
    exact ⟨_, rfl, ⟨none, 0, rfl, by simp, fun i x h => by simp at h⟩, hnil w' hx⟩
/-- `Encode` of every chunk. -/
theorem cEncode_any (d gl : Int) (gs : List (List Int)) (data : List UInt8) (G : Value) (w : World) (hT : Tab w) (hG : Rs (Rs RI) w G gs) (hl : data.length ≤ 9223372036854775807) :
    Calls Tryd.prog 32 #[.agg #[.int .i64 d, G, .int .i64 gl], .string (sb data)] w fun e w' => ∃ v, e = .returned (.tuple #[v, .int .i64 (Cd.encE d gl gs data)]) ∧ Rs RS w' v (Cd.encL d gl gs data) ∧ Ext w w' :=
  (cEncode_own d gl gs data G w hT hG hl).mono fun _ _ ⟨v, h1, h2, h3⟩ => ⟨v, h1, h2, h3.ext⟩
end Go.Proofs.YtdmljilcbndmfaaDoor

/- REBUILD RESTORES: the walk. -/
namespace Go.Proofs.YtdmljilcbndmfaaDoor
open Go.RowKit Go.Shelf
set_option maxHeartbeats 8000000 in
set_option maxRecDepth 100000 in
theorem law_restores (d gl lost piece other : Int) (gs : List (List Int)) (data : List UInt8) (G : Value) (w : World) (hT : Tab w) (hG : Rs (Rs RI) w G gs) (hn : gs.length ≤ 4611686018427387904) :
    Calls Tryd.prog 9 #[.agg #[.int .i64 d, G, .int .i64 gl, .string (sb data), .int .i64 lost, .int .i64 piece, .int .i64 other]] w fun e w' => e = .returned (.bool true) ∧ Ext w w' := by
  obtain ⟨A, c, rfl, hl⟩ := hG.form
  have hx0 := (Ext.refl w).alloc (.cells #[.int .i64 d, .slice A gs.length c, .int .i64 gl, .string (sb data), .int .i64 lost, .int .i64 piece, .int .i64 other] 63)
  have HX := Lib.hid hx0
  have HT := Lib.hid (hT.ext hx0)
  have HG := Lib.hid (Rs.ext (Rs.ext RI.ext) _ _ _ _ hx0 hG)
  have HN := Lib.hid hn
  have HB := Lib.hid (cells_new w #[.int .i64 d, .slice A gs.length c, .int .i64 gl, .string (sb data), .int .i64 lost, .int .i64 piece, .int .i64 other] 63)
  have hm := small_any d gl lost piece other gs data 12 _ _ HG.out HN.out (by decide)
  clear hT hG hx0 hn
  go_enter Tryd.func9, Tryd.ntmps9
  go_wp2_with fail
  refine hm.mono ?_
  clear hm
  rintro e w1 ⟨rfl, hx1⟩
  replace HX := Lib.hid ((HX.out).trans hx1)
  replace HT := Lib.hid ((HT.out).ext hx1)
  replace HG := Lib.hid (Rs.ext (Rs.ext RI.ext) _ _ _ _ hx1 (HG.out))
  replace HB := Lib.hid ((HB.out).ext hx1)
  clear hx1
  by_cases hs : Rb.Small d gl gs data lost piece other (12 : Nat)
  case neg =>
    rw [decide_eq_false hs]
    clear hs
    go_wp2_with fail
    refine (sanity_any w1 HT.out).mono ?_
    rintro e w901 ⟨rfl, hxs⟩
    have HXS := Lib.hid (HX.out.trans hxs)
    clear hxs
    go_wp2_with fail
    go_ret
    exact ⟨rfl, HXS.out⟩
  case pos =>
  rw [decide_eq_true hs]
  obtain ⟨hck, hpc, hn0, hnm, ⟨L, P, O, rfl, rfl, rfl, hL, hO, hP⟩, hdl, hgl⟩ := Rb.small_open hs
  clear hs
  obtain ⟨n, hnn⟩ : ∃ n, (Cd.rowsOf d gs gl).length = n := ⟨_, rfl⟩
  rw [hnn] at hpc hn0 hnm hL hO hP
  have hn24 : n ≤ 12 := by omega
  have hM1 : 2 ^ n ≤ 4096 := show 2 ^ n ≤ 2 ^ 12 from Nat.pow_le_pow_right (by decide) (by omega)
  have hL2 : L < 4096 := by omega
  have hO2 : O < 4096 := by omega
  have HCK := Lib.hid hck
  have HPC := Lib.hid hpc
  have HNN := Lib.hid hnn
  have HLO := Lib.hid (And.intro hL hO)
  have HGN := Lib.hid hgl
  clear hck hpc hnn hL hO hM1 hgl hl
  have hE := Rb.err1_in (d := d) (gl := gl) (gs := gs) (lost := (L : Nat)) (piece := (P : Nat)) HCK.out (by rw [HNN.out]; omega) (by omega) (by rw [HNN.out]; have := HLO.out.1; omega) (by omega) (by rw [HNN.out]; omega)
  have HE := Lib.hid hE
  have h2w := Rb.leastE_two hE.2
  clear hE
  have b0 : w1.cell? ⟨w.heap.size, 0, none⟩ = some (.int .i64 d) := HB.out 0 _ rfl
  have b1 : w1.cell? ⟨w.heap.size, 1, none⟩ = some (.slice A gs.length c) := HB.out 1 _ rfl
  have b2 : w1.cell? ⟨w.heap.size, 2, none⟩ = some (.int .i64 gl) := HB.out 2 _ rfl
  have b3 : w1.cell? ⟨w.heap.size, 3, none⟩ = some (.string (sb data)) := HB.out 3 _ rfl
  go_wp2_with fail
  clear b0 b1 b2 b3
  refine (cEncode_any d gl gs data _ _ HT.out HG.out (by omega)).mono ?_
  rintro e w2 ⟨v, rfl, hv, hx⟩
  rw [Cd.encE_ok HCK.out (by omega)]
  rw [Cd.encL_ok HCK.out (by omega)] at hv
  have hEl := Cd.encode_len d gl gs data
  rw [HNN.out] at hEl
  obtain ⟨EA, ec, rfl, _⟩ := hv.form
  rw [hEl] at hv ⊢
  replace HX := Lib.hid ((HX.out).trans hx)
  replace HT := Lib.hid ((HT.out).ext hx)
  replace HG := Lib.hid (Rs.ext (Rs.ext RI.ext) _ _ _ _ hx (HG.out))
  replace HB := Lib.hid ((HB.out).ext hx)
  clear hx
  have HEN := Lib.hid hv
  clear hv hEl
  have b0 : w2.cell? ⟨w.heap.size, 0, none⟩ = some (.int .i64 d) := HB.out 0 _ rfl
  have b1 : w2.cell? ⟨w.heap.size, 1, none⟩ = some (.slice A gs.length c) := HB.out 1 _ rfl
  have b2 : w2.cell? ⟨w.heap.size, 2, none⟩ = some (.int .i64 gl) := HB.out 2 _ rfl
  go_wp2_with fail
  clear b0 b1 b2
  refine (cRows_any d gl gs _ _ HT.out HG.out).mono ?_
  rintro e w3 ⟨v, rfl, hv, hx⟩
  rw [HCK.out]
  obtain ⟨RA, cR, rfl, _⟩ := hv.form
  have hvl := HNN.out
  rw [HNN.out]
  replace HX := Lib.hid ((HX.out).trans hx)
  replace HT := Lib.hid ((HT.out).ext hx)
  replace HG := Lib.hid (Rs.ext (Rs.ext RI.ext) _ _ _ _ hx (HG.out))
  replace HB := Lib.hid ((HB.out).ext hx)
  replace HEN := Lib.hid (Rs.ext RS.ext _ _ _ _ hx (HEN.out))
  clear hx
  have HM := Lib.hid hv
  rw [HNN.out] at HM
  clear hv hvl
  have b0 : w3.cell? ⟨w.heap.size, 0, none⟩ = some (.int .i64 d) := HB.out 0 _ rfl
  have b1 : w3.cell? ⟨w.heap.size, 1, none⟩ = some (.slice A gs.length c) := HB.out 1 _ rfl
  have b2 : w3.cell? ⟨w.heap.size, 2, none⟩ = some (.int .i64 gl) := HB.out 2 _ rfl
  go_wp2_with fail
  clear b0 b1 b2
  refine (rPieces_any d gl gs _ _ HG.out (by have := HGN.out; omega)).mono ?_
  rintro e w4 ⟨rfl, hx⟩
  rw [HPC.out]
  replace HX := Lib.hid ((HX.out).trans hx)
  replace HT := Lib.hid ((HT.out).ext hx)
  replace HG := Lib.hid (Rs.ext (Rs.ext RI.ext) _ _ _ _ hx (HG.out))
  replace HB := Lib.hid ((HB.out).ext hx)
  replace HEN := Lib.hid (Rs.ext RS.ext _ _ _ _ hx (HEN.out))
  replace HM := Lib.hid (Rs.ext (Rs.ext RB.ext) _ _ _ _ hx (HM.out))
  clear hx
  have eL : ((n : Int) != (n : Int)) = false := by simp
  obtain ⟨us, hul, hud, huv⟩ := Rs.vals HM.out
  have HU := Lib.hid (And.intro hul (And.intro hud huv))
  clear hul hud huv
  go_wp2_with fail
  clear eL
  go_loopw [8, 65] (fun v8 vk wr => ∃ (k m c2 : Nat) (A2 : Option Addr), k ≤ n ∧ m ≤ k ∧ vk = .int .i64 (k : Nat) ∧ v8 = .slice A2 m c2 ∧ Hid (m = (Rb.avail k L (P : Nat)).length ∧ Owns w4 wr [⟨.slice A2 m c2, 28, 1, m, (Rb.avail k L (P : Nat)).map fun i : Int => us.getD i.toNat (.slice none 0 0)⟩])) (fun _ vk _ => n - (intOf vk).toNat)
  case atStart => exact ⟨0, 0, 0, none, Nat.zero_le _, Nat.le_refl _, rfl, rfl, Lib.hid ⟨rfl, Owns.nilled (L := []) (Owns.start w4 (fun r h => by cases h))⟩⟩
  case round =>
    obtain ⟨k, m, c2, A2, hk, hm, rfl, rfl, HI⟩ := hrel
    have hxr := HI.out.2.ext
    replace HX := Lib.hid ((HX.out).trans hxr)
    replace HT := Lib.hid ((HT.out).ext hxr)
    replace HG := Lib.hid (Rs.ext (Rs.ext RI.ext) _ _ _ _ hxr (HG.out))
    replace HB := Lib.hid ((HB.out).ext hxr)
    replace HEN := Lib.hid (Rs.ext RS.ext _ _ _ _ hxr (HEN.out))
    replace HM := Lib.hid (Rs.ext (Rs.ext RB.ext) _ _ _ _ hxr (HM.out))
    clear hxr
    by_cases hlt : k < n
    case pos =>
      have hkR : k < (Cd.rowsOf d gs gl).length := by rw [HNN.out]; exact hlt
      obtain ⟨ad, hA, _, hcu⟩ := (HU.out.2.1.ext HI.out.2.ext) k (us.getD k (.slice none 0 0)) (by rw [List.getD_eq_getElem?_getD, List.getElem?_eq_getElem (by rw [HU.out.1]; exact hkR)]; rfl)
      subst hA
      have hrow := HU.out.2.2 k hkR
      obtain ⟨rA, rc, hru, _⟩ := hrow.form
      obtain ⟨rl, hrl⟩ : ∃ x, (Cd.rowsOf d gs gl)[k].length = x := ⟨_, rfl⟩
      rw [hrl] at hru
      rw [hru] at hcu
      have HRU := Lib.hid hru
      clear hrow hru hrl
      have hb := bit_int16 L k (show L < 2 ^ 40 by omega)
      have hb2 : Cd.bitAt L k < 2 := Nat.mod_lt _ (by decide)
      obtain ⟨b, hbe⟩ : ∃ b, Cd.bitAt L k = b := ⟨_, rfl⟩
      rw [hbe] at hb hb2
      have HBO := Lib.hid hbe
      clear hbe
      have hkn : (k : Int) < (n : Int) := by omega
      have b4 : wr.cell? ⟨w.heap.size, 4, none⟩ = some (.int .i64 (L : Nat)) := HB.out 4 _ rfl
      have b5 : wr.cell? ⟨w.heap.size, 5, none⟩ = some (.int .i64 (P : Nat)) := HB.out 5 _ rfl
      by_cases hb0 : b = 0
      case neg =>
        have HS := Lib.hid (Rb.avail_off (k := k) (lost := L) (p := (P : Nat)) (fun e => hb0 (by rw [← HBO.out]; exact e.1)))
        obtain rfl : b = 1 := by omega
        clear hb0
        go_wp2_with fail
        go_roundw
        case rel => exact ⟨k + 1, m, c2, A2, by omega, by omega, by go_num, (by first | trivial | rfl), Lib.hid (by rw [HS.out]; exact HI.out)⟩
        case measure => simp [intOf]; omega
      case pos =>
        subst hb0
        by_cases hkp : (k : Int) = (P : Int)
        case pos =>
          have HS := Lib.hid (Rb.avail_off (k := k) (lost := L) (p := (P : Nat)) (fun e => e.2 hkp))
          obtain rfl : k = P := by omega
          have hne : ((k : Int) != (k : Int)) = false := by simp
          clear hkp
          go_wp2_with fail
          go_roundw
          case rel => exact ⟨k + 1, m, c2, A2, by omega, by omega, by go_num, (by first | trivial | rfl), Lib.hid (by rw [HS.out]; exact HI.out)⟩
          case measure => simp [intOf]; omega
        case neg =>
          have hne : ((k : Int) != (P : Int)) = true := by rw [bne_iff_ne]; exact hkp
          have HS := Lib.hid (Rb.avail_on (k := k) (lost := L) (p := (P : Nat)) HBO.out hkp)
          go_wp2_with (refine wpl_append_owns (u := .slice rA rl rc) 65 28 rfl (.tmp 82) (.tmp 84) rfl Tryd.underlying65 info_bytes rfl HI.out.2.push1 0 rfl rfl rfl (cell_of_row _ _ 0 _ _ (0, 0) (heap_new _ _)) rfl (by omega) (by decide) ?_; intro g8 c8 w8 hO8 hg8)
          have hfin : Owns w4 w8 [⟨.slice (some ⟨g8, 0, none⟩) (m + 1) c8, 28, 1, m + 1, (Rb.avail (k + 1) L (P : Nat)).map fun i : Int => us.getD i.toNat (.slice none 0 0)⟩] := by
            refine Owns.front (M := [⟨.slice (some ⟨wr.heap.size, 0, none⟩) 1 1, 28, 1, 1, [.slice rA rl rc]⟩]) ?_
            rw [HS.out, List.map_append, List.map_singleton, Int.toNat_natCast, HRU.out]
            exact hO8
          have HF := Lib.hid hfin
          clear hO8 hg8 hfin hb hne hkp b4 b5
          go_wp2_with fail
          go_roundw
          case rel => exact ⟨k + 1, m + 1, c8, some ⟨g8, 0, none⟩, by omega, by omega, by go_num, (by first | trivial | rfl), Lib.hid ⟨by rw [HS.out, List.length_append, ← HI.out.1]; rfl, HF.out⟩⟩
          case measure => simp [intOf]; omega
    case neg =>
      obtain rfl : n = k := by omega
      have hlr : Rs (Rs RB) wr (.slice A2 m c2) (Rb.rowsAt (Cd.rowsOf d gs gl) (Rb.avail n L (P : Nat))) := by
        have hrd := HI.out.2.rd 0 (A := A2) (n := m) (c := c2) (e := 28) rfl
        have h := rows_of (c := c2) hrd (fun i hi => Rs.ext RB.ext _ _ _ _ HI.out.2.ext (HU.out.2.2 i hi)) (fun x hx => by rw [HNN.out]; exact Rb.avail_bounds hx) (by rw [← HI.out.1]; omega)
        rw [← HI.out.1] at h
        exact h
      have HSL := Lib.hid hlr
      clear hlr
      have b0 : wr.cell? ⟨w.heap.size, 0, none⟩ = some (.int .i64 d) := HB.out 0 _ rfl
      have b1 : wr.cell? ⟨w.heap.size, 1, none⟩ = some (.slice A gs.length c) := HB.out 1 _ rfl
      have b2 : wr.cell? ⟨w.heap.size, 2, none⟩ = some (.int .i64 gl) := HB.out 2 _ rfl
      have b4 : wr.cell? ⟨w.heap.size, 4, none⟩ = some (.int .i64 (L : Nat)) := HB.out 4 _ rfl
      have b5 : wr.cell? ⟨w.heap.size, 5, none⟩ = some (.int .i64 (P : Nat)) := HB.out 5 _ rfl
      go_wp2_with fail
      clear b0 b1 b2 b4 b5
      refine (bBest_any d gl gs (L : Nat) (P : Nat) _ _ HT.out HG.out).mono ?_
      rintro e w5a ⟨v, rfl, hv, hx⟩
      obtain ⟨FR, CR, rfl, hF, hC⟩ := hv
      obtain ⟨FAR, fcR, rfl, hlR⟩ := hF.form
      obtain ⟨CAR, ccR, rfl, _⟩ := hC.form
      obtain ⟨rR, hrR⟩ : ∃ r, Rb.bestR d gl gs (L : Nat) (P : Nat) = r := ⟨_, rfl⟩
      rw [hrR] at hF hC
      try rw [hrR]
      have HRR := Lib.hid hrR
      obtain ⟨nR, hnR⟩ : ∃ n, rR.src.length = n := ⟨_, rfl⟩
      obtain ⟨mR, hmR⟩ : ∃ m, rR.coef.length = m := ⟨_, rfl⟩
      obtain ⟨pR, hpR⟩ : ∃ m, rR.piece = m := ⟨_, rfl⟩
      rw [hrR, hnR] at hlR
      rw [hnR] at hF
      rw [hmR] at hC
      try rw [hnR]
      try rw [hmR]
      try rw [hpR]
      have HSR := Lib.hid (And.intro hnR (And.intro hmR hpR))
      have hxa : Ext w5a (w5a.alloc (.cells #[.int .i64 pR, .slice FAR nR fcR, .slice CAR mR ccR] 30)) := (Ext.refl w5a).alloc _
      have hx2 := hx.trans hxa
      replace HX := Lib.hid ((HX.out).trans hx2)
      replace HT := Lib.hid ((HT.out).ext hx2)
      replace HG := Lib.hid (Rs.ext (Rs.ext RI.ext) _ _ _ _ hx2 (HG.out))
      replace HB := Lib.hid ((HB.out).ext hx2)
      replace HEN := Lib.hid (Rs.ext RS.ext _ _ _ _ hx2 (HEN.out))
      replace HM := Lib.hid (Rs.ext (Rs.ext RB.ext) _ _ _ _ hx2 (HM.out))
      replace HSL := Lib.hid (Rs.ext (Rs.ext RB.ext) _ _ _ _ hx2 (HSL.out))
      clear hx2
      have HCR := Lib.hid (cells_new w5a #[.int .i64 pR, .slice FAR nR fcR, .slice CAR mR ccR] 30)
      have HFR := Lib.hid (And.intro (Rs.ext RI.ext _ _ _ _ hxa hF) (Rs.ext RB.ext _ _ _ _ hxa hC))
      clear hF hC hx hxa hrR hnR hmR hpR
      go_upto_region 16 with fail
      obtain ⟨QR, hQ⟩ : ∃ Q, w5a.heap.size = Q := ⟨_, rfl⟩
      rw [hQ] at HCR
      try rw [hQ]
      obtain ⟨w5, hw⟩ : ∃ x, w5a.alloc (.cells #[.int .i64 pR, .slice FAR nR fcR, .slice CAR mR ccR] 30) = x := ⟨_, rfl⟩
      rw [hw] at HX HT HG HB HEN HM HSL HCR HFR ⊢
      clear hw
      clear hQ
      obtain ⟨E, hE⟩ : ∃ E, Rb.leastE d gl gs (L : Nat) (P : Nat) = E := ⟨_, rfl⟩
      rw [hE] at h2w ⊢
      have HEE := Lib.hid hE
      clear hE
      have hPR : P < (Cd.rowsOf d gs gl).length := by rw [HNN.out]; exact hP
      obtain ⟨ad, u, hA, hcu, hu⟩ := HM.out.at hPR
      subst hA
      obtain ⟨rA, rc, rfl, _⟩ := hu.form
      have hgd : (Cd.rowsOf d gs gl).getD P [] = (Cd.rowsOf d gs gl)[P] := by rw [List.getD_eq_getElem?_getD, List.getElem?_eq_getElem hPR]; rfl
      have hwid := rows_wide HCK.out (List.getElem_mem hPR)
      have hdb := Cd.check_ok HCK.out
      have hPi : (P : Int) < (n : Int) := by omega
      have hxp := xExpress_any (Rb.rowsAt (Cd.rowsOf d gs gl) (Rb.avail n L (P : Nat))) (Cd.rowsOf d gs gl)[P] _ _ w5 HT.out HSL.out hu (fun r hr => by
        obtain ⟨x, hx, rfl⟩ := List.mem_map.mp hr
        have hb := Rb.avail_bounds hx
        have hxl : x.toNat < (Cd.rowsOf d gs gl).length := by rw [HNN.out]; omega
        rw [hwid, List.getD_eq_getElem?_getD, List.getElem?_eq_getElem hxl]
        exact rows_wide HCK.out (List.getElem_mem hxl)) (by rw [hwid]; omega) (by rw [hwid]; omega) (by rw [Rb.rowsAt_length]; have := Rb.avail_length n L (P : Nat); omega)
      have hcan : (Mx.expr (Rb.rowsAt (Cd.rowsOf d gs gl) (Rb.avail n L (P : Nat))) (Cd.rowsOf d gs gl)[P]).isSome = true ↔ E = 0 := by
        have h := Rb.expr_can (m := Cd.rowsOf d gs gl) (p := P) (f := Rb.avail n L (P : Nat))
        rw [hgd] at h
        have h2 := Rb.least_can HCK.out HE.out.2
        rw [HEE.out, HNN.out, Int.toNat_natCast, Int.toNat_natCast] at h2
        exact h.trans h2.symm
      obtain ⟨B, hB⟩ : ∃ B, (Mx.expr (Rb.rowsAt (Cd.rowsOf d gs gl) (Rb.avail n L (P : Nat))) (Cd.rowsOf d gs gl)[P]).isSome = B := ⟨_, rfl⟩
      rw [hB] at hxp hcan
      obtain ⟨fe, hfe⟩ : ∃ z : Int, (if B = true then (0 : Int) else 8) = z := ⟨_, rfl⟩
      rw [hfe] at hxp
      have hfe2 : (E = 0 ∧ fe = 0) ∨ (E = 17 ∧ fe = 8) := by
        rcases h2w with h | h
        · refine Or.inl ⟨h, ?_⟩; rw [← hfe, if_pos (hcan.mpr h)]
        · refine Or.inr ⟨h, ?_⟩; rw [← hfe, if_neg (fun hb => by rw [hcan.mp hb] at h; exact absurd h (by decide))]
      have HXP := Lib.hid hxp
      clear hxp hcan hgd hwid hdb hu hB hfe h2w
      have b5 : w5.cell? ⟨w.heap.size, 5, none⟩ = some (.int .i64 (P : Nat)) := HB.out 5 _ rfl
      go_wp2_with fail
      clear b5 hcu
      refine HXP.out.mono ?_
      rintro e w6 ⟨X, rfl, hX, hx⟩
      obtain ⟨XA, xc, rfl, _⟩ := hX.form
      clear hX HXP
      replace HX := Lib.hid ((HX.out).trans hx)
      replace HT := Lib.hid ((HT.out).ext hx)
      replace HG := Lib.hid (Rs.ext (Rs.ext RI.ext) _ _ _ _ hx (HG.out))
      replace HB := Lib.hid ((HB.out).ext hx)
      replace HEN := Lib.hid (Rs.ext RS.ext _ _ _ _ hx (HEN.out))
      replace HM := Lib.hid (Rs.ext (Rs.ext RB.ext) _ _ _ _ hx (HM.out))
      replace HSL := Lib.hid (Rs.ext (Rs.ext RB.ext) _ _ _ _ hx (HSL.out))
      replace HCR := Lib.hid ((HCR.out).ext hx)
      replace HFR := Lib.hid (And.intro (Rs.ext RI.ext _ _ _ _ hx (HFR.out).1) (Rs.ext RB.ext _ _ _ _ hx (HFR.out).2))
      clear hx
      have HGD := fun h => Rb.best_good HCK.out HE.out.2 h (data := data) (by omega)
      have HGA := Lib.hid (Rb.least_good HCK.out HE.out.2 (data := data) (by omega))
      rw [HEE.out] at HGD
      rcases hfe2 with ⟨rfl, rfl⟩ | ⟨rfl, rfl⟩
      case inl =>
        have hgd := HGD rfl
        rw [HRR.out] at hgd
        have HGR := Lib.hid hgd
        clear hgd HGD
        have b4 : w6.cell? ⟨w.heap.size, 4, none⟩ = some (.int .i64 (L : Nat)) := HB.out 4 _ rfl
        have b5 : w6.cell? ⟨w.heap.size, 5, none⟩ = some (.int .i64 (P : Nat)) := HB.out 5 _ rfl
        have q0 : w6.cell? ⟨QR, 0, none⟩ = some (.int .i64 pR) := HCR.out 0 _ rfl
        have q1 : w6.cell? ⟨QR, 1, none⟩ = some (.slice FAR nR fcR) := HCR.out 1 _ rfl
        have q2 : w6.cell? ⟨QR, 2, none⟩ = some (.slice CAR mR ccR) := HCR.out 2 _ rfl
        go_wp2_with fail
        clear b4 b5 q0 q1 q2
        refine (makes_any d gl gs L P data rR _ _ w6 HT.out ⟨.slice FAR nR fcR, .slice CAR mR ccR, by rw [HSR.out.2.2], HFR.out.1, HFR.out.2⟩ HEN.out HGR.out (by rw [HNN.out]; exact hP) (by rw [HNN.out]; omega) (by omega)).mono ?_
        rintro e w7 ⟨rfl, hx⟩
        replace HX := Lib.hid ((HX.out).trans hx)
        replace HT := Lib.hid ((HT.out).ext hx)
        replace HG := Lib.hid (Rs.ext (Rs.ext RI.ext) _ _ _ _ hx (HG.out))
        replace HB := Lib.hid ((HB.out).ext hx)
        replace HEN := Lib.hid (Rs.ext RS.ext _ _ _ _ hx (HEN.out))
        replace HM := Lib.hid (Rs.ext (Rs.ext RB.ext) _ _ _ _ hx (HM.out))
        replace HSL := Lib.hid (Rs.ext (Rs.ext RB.ext) _ _ _ _ hx (HSL.out))
        replace HCR := Lib.hid ((HCR.out).ext hx)
        replace HFR := Lib.hid (And.intro (Rs.ext RI.ext _ _ _ _ hx (HFR.out).1) (Rs.ext RB.ext _ _ _ _ hx (HFR.out).2))
        clear hx
        go_upto_region 19 with fail
        have hb := bit_int16 L P (show L < 2 ^ 40 by omega)
        have hb2 : Cd.bitAt L P < 2 := Nat.mod_lt _ (by decide)
        obtain ⟨b, hbe⟩ : ∃ b, Cd.bitAt L P = b := ⟨_, rfl⟩
        rw [hbe] at hb hb2
        have HBE := Lib.hid hbe
        clear hbe
        apply via
        case h =>
          intro hrest
          by_cases hb0 : b = 0
          case pos =>
            subst hb0
            exact wp_atEnd' (rs_rec0 w7 w.heap.size n L P O c d gl 0 gs A data (by omega) HB (Lib.hid hb) _ _ _ _ _ _ _ _ _ _ _ _ _ _ _ _ _ _ _ _ _ _ _ _ _ _ _ _ _ _ _ _ _ _ _ _ _ _ _ _ _ _ _ _ _ _ _ _ _ _ _ _ _ _ _ _ _ _ _ _ _ _ _ _ _ _ _ _ _ _ _ _ _ _ _ _ _ _ _ _ _ _ _ _ _ _ _ _ _ _ _ _ _ _ _ _ _ _ _ _ _ _ _ _ _ _ _ _ _ _ _ _ _ _ _ _ _ _ _ _ _ _ _ _ _ _ _ _ _ _ _ _ _ _ _ _ _ _ _ _ _ _ _ _ _ _ _ _ _ _ _ _ _ _ _ _ _ _ _ _ _ _ _ _ _ _ _ _ _ _ _ _ _ _ _ _ _ _ _ _ _ _ _ _ _ _ _ _ _ _ _ _ _ _ _ _ _ _ _ _ _ _ _ _ _ _ _ _ _ _ _ _ _ _ _ _ _ _ _ _ _ _ _ _ _ _ _ _ _ _ _ _ _ _ _ hrest)
          case neg =>
            obtain rfl : b = 1 := by omega
            clear hb0
            have hM := wrap_two n (by omega)
            have hMb : 1 ≤ 2 ^ n ∧ 2 ^ n ≤ 4096 := ⟨Nat.one_le_two_pow, show 2 ^ n ≤ 2 ^ 12 from Nat.pow_le_pow_right (by decide) (by omega)⟩
            have hAN := andNot64 (n := n) (b := L) (by omega) HLO.out.1
            obtain ⟨X, hX⟩ : ∃ X, 2 ^ n - (L + 1) = X := ⟨_, rfl⟩
            have hrn := fun h17 => Rb.rec_no HCK.out HE.out.2 (by rw [HNN.out]; exact HLO.out.1) (by rw [HBE.out]; decide) h17
            rw [HNN.out, hX] at hrn
            rw [hX] at hAN
            obtain ⟨M, hMM⟩ : ∃ M, 2 ^ n = M := ⟨_, rfl⟩
            rw [hMM] at hM hMb hAN
            have HM2 := Lib.hid (And.intro hM (And.intro (show IntKind.i64.wrap ((M : Int) - 1) = ((M - 1 : Nat) : Int) by rw [IntKind.wrap_i64]; omega) (And.intro (show wrap64 ((M : Int) - 1) = ((M - 1 : Nat) : Int) by unfold wrap64; omega) hAN)))
            clear hM hMb hAN hX hMM
            cases hcb : Cd.can d gl gs (X : Nat) with
            | false =>
              have HC := Lib.hid hcb
              clear hcb hrn
              exact wp_atEnd' (rs_rec1 w7 w.heap.size n L P O c d gl 0 gs A data (by omega) HB (Lib.hid hb) M X (by omega) HT HG HM2 HC _ _ _ _ _ _ _ _ _ _ _ _ _ _ _ _ _ _ _ _ _ _ _ _ _ _ _ _ _ _ _ _ _ _ _ _ _ _ _ _ _ _ _ _ _ _ _ _ _ _ _ _ _ _ _ _ _ _ _ _ _ _ _ _ _ _ _ _ _ _ _ _ _ _ _ _ _ _ _ _ _ _ _ _ _ _ _ _ _ _ _ _ _ _ _ _ _ _ _ _ _ _ _ _ _ _ _ _ _ _ _ _ _ _ _ _ _ _ _ _ _ _ _ _ _ _ _ _ _ _ _ _ _ _ _ _ _ _ _ _ _ _ _ _ _ _ _ _ _ _ _ _ _ _ _ _ _ _ _ _ _ _ _ _ _ _ _ _ _ _ _ _ _ _ _ _ _ _ _ _ _ _ _ _ _ _ _ _ _ _ _ _ _ _ _ _ _ _ _ _ _ _ _ _ _ _ _ _ _ _ _ _ _ _ _ _ _ _ _ _ _ _ _ _ _ _ _ _ _ _ _ _ _ _ _ hrest)
            | true =>
              have HC := Lib.hid hcb
              clear hcb hrn
              exact wp_atEnd' (rs_rec2 w7 w.heap.size n L P O c d gl 0 gs A data (by omega) HB (Lib.hid hb) M X (by omega) HT HG HM2 HC (Lib.hid rfl) _ _ _ _ _ _ _ _ _ _ _ _ _ _ _ _ _ _ _ _ _ _ _ _ _ _ _ _ _ _ _ _ _ _ _ _ _ _ _ _ _ _ _ _ _ _ _ _ _ _ _ _ _ _ _ _ _ _ _ _ _ _ _ _ _ _ _ _ _ _ _ _ _ _ _ _ _ _ _ _ _ _ _ _ _ _ _ _ _ _ _ _ _ _ _ _ _ _ _ _ _ _ _ _ _ _ _ _ _ _ _ _ _ _ _ _ _ _ _ _ _ _ _ _ _ _ _ _ _ _ _ _ _ _ _ _ _ _ _ _ _ _ _ _ _ _ _ _ _ _ _ _ _ _ _ _ _ _ _ _ _ _ _ _ _ _ _ _ _ _ _ _ _ _ _ _ _ _ _ _ _ _ _ _ _ _ _ _ _ _ _ _ _ _ _ _ _ _ _ _ _ _ _ _ _ _ _ _ _ _ _ _ _ _ _ _ _ _ _ _ _ _ _ _ _ _ _ _ _ _ _ _ _ _ _ hrest)
        case t =>
          intro u134 u135 u136 u137 u138 u139 u140 u141 u142 u143 u144 u145 u146 u147 u148 u149 u150 u151 u152 u153 u154 w8 hx8
          replace HX := Lib.hid ((HX.out).trans hx8)
          replace HT := Lib.hid ((HT.out).ext hx8)
          replace HG := Lib.hid (Rs.ext (Rs.ext RI.ext) _ _ _ _ hx8 (HG.out))
          replace HB := Lib.hid ((HB.out).ext hx8)
          replace HEN := Lib.hid (Rs.ext RS.ext _ _ _ _ hx8 (HEN.out))
          replace HM := Lib.hid (Rs.ext (Rs.ext RB.ext) _ _ _ _ hx8 (HM.out))
          replace HSL := Lib.hid (Rs.ext (Rs.ext RB.ext) _ _ _ _ hx8 (HSL.out))
          replace HCR := Lib.hid ((HCR.out).ext hx8)
          replace HFR := Lib.hid (And.intro (Rs.ext RI.ext _ _ _ _ hx8 (HFR.out).1) (Rs.ext RB.ext _ _ _ _ hx8 (HFR.out).2))
          clear hx8
          clear hb
          have b0 : w8.cell? ⟨w.heap.size, 0, none⟩ = some (.int .i64 d) := HB.out 0 _ rfl
          have b1 : w8.cell? ⟨w.heap.size, 1, none⟩ = some (.slice A gs.length c) := HB.out 1 _ rfl
          have b2 : w8.cell? ⟨w.heap.size, 2, none⟩ = some (.int .i64 gl) := HB.out 2 _ rfl
          have b4 : w8.cell? ⟨w.heap.size, 4, none⟩ = some (.int .i64 (L : Nat)) := HB.out 4 _ rfl
          have b5 : w8.cell? ⟨w.heap.size, 5, none⟩ = some (.int .i64 (P : Nat)) := HB.out 5 _ rfl
          go_wp2_with fail
          clear b0 b1 b2 b4 b5
          refine (bAll_any d gl gs (L : Nat) (P : Nat) _ _ HT.out HG.out).mono ?_
          rintro e w9 ⟨v, rfl, hv, _, hx⟩
          obtain ⟨LA, cL, rfl, hnl⟩ := hv.form
          obtain ⟨AL, hAL⟩ : ∃ x, Rb.leastL d gl gs (L : Nat) (P : Nat) true = x := ⟨_, rfl⟩
          rw [hAL] at hv hnl ⊢
          obtain ⟨nl, hnll⟩ : ∃ x, AL.length = x := ⟨_, rfl⟩
          rw [hnll] at hv hnl ⊢
          rw [HEE.out]
          have HAL := Lib.hid (And.intro hAL hnll)
          replace HX := Lib.hid ((HX.out).trans hx)
          replace HT := Lib.hid ((HT.out).ext hx)
          replace HG := Lib.hid (Rs.ext (Rs.ext RI.ext) _ _ _ _ hx (HG.out))
          replace HB := Lib.hid ((HB.out).ext hx)
          replace HEN := Lib.hid (Rs.ext RS.ext _ _ _ _ hx (HEN.out))
          replace HM := Lib.hid (Rs.ext (Rs.ext RB.ext) _ _ _ _ hx (HM.out))
          replace HSL := Lib.hid (Rs.ext (Rs.ext RB.ext) _ _ _ _ hx (HSL.out))
          replace HCR := Lib.hid ((HCR.out).ext hx)
          replace HFR := Lib.hid (And.intro (Rs.ext RI.ext _ _ _ _ hx (HFR.out).1) (Rs.ext RB.ext _ _ _ _ hx (HFR.out).2))
          clear hx
          have HV := Lib.hid hv
          clear hv hAL hnll
          go_wp2_with fail
          go_loopw [171] (fun vj wr => ∃ j : Nat, j ≤ nl ∧ vj = .int .i64 (j : Nat) ∧ Hid (Ext w9 wr)) (fun vj _ => nl - (intOf vj).toNat)
          case atStart => exact ⟨0, Nat.zero_le _, rfl, Lib.hid (Ext.refl _)⟩
          case round =>
            obtain ⟨j, hj, rfl, HJ⟩ := hrel
            have hxr := HJ.out
            replace HX := Lib.hid ((HX.out).trans hxr)
            replace HT := Lib.hid ((HT.out).ext hxr)
            replace HG := Lib.hid (Rs.ext (Rs.ext RI.ext) _ _ _ _ hxr (HG.out))
            replace HB := Lib.hid ((HB.out).ext hxr)
            replace HEN := Lib.hid (Rs.ext RS.ext _ _ _ _ hxr (HEN.out))
            replace HM := Lib.hid (Rs.ext (Rs.ext RB.ext) _ _ _ _ hxr (HM.out))
            replace HSL := Lib.hid (Rs.ext (Rs.ext RB.ext) _ _ _ _ hxr (HSL.out))
            replace HCR := Lib.hid ((HCR.out).ext hxr)
            replace HFR := Lib.hid (And.intro (Rs.ext RI.ext _ _ _ _ hxr (HFR.out).1) (Rs.ext RB.ext _ _ _ _ hxr (HFR.out).2))
            replace HV := Lib.hid (RRs.ext _ _ _ _ hxr (HV.out))
            clear hxr
            by_cases hlt : j < nl
            case pos =>
              have hkl : j < AL.length := by rw [HAL.out.2]; exact hlt
              obtain ⟨ad, FY, CY, rfl, a0, a1, a2, hF, hC⟩ := HV.out.at hkl
              obtain ⟨FAY, fcY, rfl, _⟩ := hF.form
              obtain ⟨CAY, ccY, rfl, _⟩ := hC.form
              have hgy := HGA.out AL[j] (by rw [HAL.out.1]; exact List.getElem_mem hkl)
              obtain ⟨yy, hyy⟩ : ∃ y, AL[j] = y := ⟨_, rfl⟩
              rw [hyy] at a0 a1 a2 hF hC hgy
              obtain ⟨nY, hnY⟩ : ∃ m, yy.src.length = m := ⟨_, rfl⟩
              obtain ⟨mY, hmY⟩ : ∃ m, yy.coef.length = m := ⟨_, rfl⟩
              obtain ⟨pY, hpY⟩ : ∃ m, yy.piece = m := ⟨_, rfl⟩
              rw [hnY] at a1 hF
              rw [hmY] at a2 hC
              rw [hpY] at a0
              have HPY := Lib.hid hpY
              have HGY := Lib.hid hgy
              have hjn : (j : Int) < (nl : Int) := by omega
              have hxa : Ext wr (wr.alloc (.cells #[.int .i64 pY, .slice FAY nY fcY, .slice CAY mY ccY] 30)) := (Ext.refl wr).alloc _
              have hFY := Rs.ext RI.ext _ _ _ _ hxa hF
              have hCY := Rs.ext RB.ext _ _ _ _ hxa hC
              have HFY := Lib.hid (And.intro hFY hCY)
              clear hF hC hFY hCY hyy hnY hmY hpY hgy
              have HXJ := Lib.hid (HJ.out.trans hxa)
              replace HX := Lib.hid ((HX.out).trans hxa)
              replace HT := Lib.hid ((HT.out).ext hxa)
              replace HG := Lib.hid (Rs.ext (Rs.ext RI.ext) _ _ _ _ hxa (HG.out))
              replace HB := Lib.hid ((HB.out).ext hxa)
              replace HEN := Lib.hid (Rs.ext RS.ext _ _ _ _ hxa (HEN.out))
              replace HM := Lib.hid (Rs.ext (Rs.ext RB.ext) _ _ _ _ hxa (HM.out))
              replace HSL := Lib.hid (Rs.ext (Rs.ext RB.ext) _ _ _ _ hxa (HSL.out))
              replace HCR := Lib.hid ((HCR.out).ext hxa)
              replace HFR := Lib.hid (And.intro (Rs.ext RI.ext _ _ _ _ hxa (HFR.out).1) (Rs.ext RB.ext _ _ _ _ hxa (HFR.out).2))
              replace HV := Lib.hid (RRs.ext _ _ _ _ hxa (HV.out))
              clear hxa
              have b4 : (wr.alloc (.cells #[.int .i64 pY, .slice FAY nY fcY, .slice CAY mY ccY] 30)).cell? ⟨w.heap.size, 4, none⟩ = some (.int .i64 (L : Nat)) := HB.out 4 _ rfl
              have b5 : (wr.alloc (.cells #[.int .i64 pY, .slice FAY nY fcY, .slice CAY mY ccY] 30)).cell? ⟨w.heap.size, 5, none⟩ = some (.int .i64 (P : Nat)) := HB.out 5 _ rfl
              go_wp2_with fail
              clear b4 b5 a0 a1 a2
              refine (makes_any d gl gs L P data yy _ _ _ HT.out ⟨.slice FAY nY fcY, .slice CAY mY ccY, by rw [HPY.out], HFY.out.1, HFY.out.2⟩ HEN.out HGY.out (by rw [HNN.out]; exact hP) (by rw [HNN.out]; omega) (by omega)).mono ?_
              rintro e w10 ⟨rfl, hx⟩
              replace HXJ := Lib.hid (HXJ.out.trans hx)
              clear hx
              go_wp2_with fail
              go_roundw
              case rel => exact ⟨j + 1, by omega, by go_num, HXJ⟩
              case measure => simp [intOf]; omega
            case neg =>
              obtain rfl : nl = j := by omega
              have b0 : wr.cell? ⟨w.heap.size, 0, none⟩ = some (.int .i64 d) := HB.out 0 _ rfl
              have b1 : wr.cell? ⟨w.heap.size, 1, none⟩ = some (.slice A gs.length c) := HB.out 1 _ rfl
              have b2 : wr.cell? ⟨w.heap.size, 2, none⟩ = some (.int .i64 gl) := HB.out 2 _ rfl
              have b4 : wr.cell? ⟨w.heap.size, 4, none⟩ = some (.int .i64 (L : Nat)) := HB.out 4 _ rfl
              go_wp2_with fail
              clear b0 b1 b2 b4
              refine (bJoint_any d gl gs (L : Nat) _ _ HT.out HG.out).mono ?_
              rintro e w11 ⟨v1, v2, rfl, hv1, hv2, hx⟩
              replace HX := Lib.hid ((HX.out).trans hx)
              replace HT := Lib.hid ((HT.out).ext hx)
              replace HG := Lib.hid (Rs.ext (Rs.ext RI.ext) _ _ _ _ hx (HG.out))
              replace HB := Lib.hid ((HB.out).ext hx)
              replace HEN := Lib.hid (Rs.ext RS.ext _ _ _ _ hx (HEN.out))
              replace HM := Lib.hid (Rs.ext (Rs.ext RB.ext) _ _ _ _ hx (HM.out))
              replace HSL := Lib.hid (Rs.ext (Rs.ext RB.ext) _ _ _ _ hx (HSL.out))
              replace HCR := Lib.hid ((HCR.out).ext hx)
              replace HFR := Lib.hid (And.intro (Rs.ext RI.ext _ _ _ _ hx (HFR.out).1) (Rs.ext RB.ext _ _ _ _ hx (HFR.out).2))
              replace HV := Lib.hid (RRs.ext _ _ _ _ hx (HV.out))
              clear hx
              obtain ⟨VA, vc, rfl, _⟩ := hv1.form
              have hj2 := Rb.joint_two HE.out.1
              rcases hj2 with ⟨hj3, hj4⟩ | ⟨hj3, f, rs, hj4, hj5⟩
              case inl =>
                rw [hj3]
                obtain ⟨WA, wc, rfl, _⟩ := hv2.form
                clear hv1 hv2 hj3 hj4
                go_wp2_with fail
                refine (sanity_any w11 HT.out).mono ?_
                rintro e w1201 ⟨rfl, hxs⟩
                have HXS := Lib.hid (HX.out.trans hxs)
                clear hxs
                go_wp2_with fail
                go_ret
                exact ⟨rfl, HXS.out⟩
              case inr =>
                rw [hj3, hj4]
                rw [hj4] at hv1 hv2
                have hv2' : RRs w11 v2 rs := hv2
                obtain ⟨WA, wc, rfl, hrl⟩ := hv2'.form
                have hgj := Rb.joint_good HCK.out hj5 (data := data) (by omega)
                rw [HNN.out] at hgj
                obtain ⟨nr, hnr⟩ : ∃ x, rs.length = x := ⟨_, rfl⟩
                rw [hnr] at hv2' ⊢
                have HGJ := Lib.hid hgj
                have HW := Lib.hid hv2'
                have HNR := Lib.hid hnr
                clear hv1 hv2 hv2' hj3 hj4 hj5 hgj hnr hrl
                go_wp2_with fail
                go_loopw [22, 201] (fun va vk wr => ∃ (k a : Nat), k ≤ n ∧ a ≤ k ∧ vk = .int .i64 (k : Nat) ∧ va = .int .i64 (a : Nat) ∧ Hid (Ext w11 wr ∧ (Rb.lostP L k).length = a)) (fun _ vk _ => n - (intOf vk).toNat)
                case atStart => exact ⟨0, 0, Nat.zero_le _, Nat.le_refl _, rfl, rfl, Lib.hid ⟨Ext.refl _, rfl⟩⟩
                case round =>
                  obtain ⟨k, a, hk, ha, rfl, rfl, HJ2⟩ := hrel
                  have hxr := HJ2.out.1
                  replace HX := Lib.hid ((HX.out).trans hxr)
                  replace HT := Lib.hid ((HT.out).ext hxr)
                  replace HG := Lib.hid (Rs.ext (Rs.ext RI.ext) _ _ _ _ hxr (HG.out))
                  replace HB := Lib.hid ((HB.out).ext hxr)
                  replace HEN := Lib.hid (Rs.ext RS.ext _ _ _ _ hxr (HEN.out))
                  replace HM := Lib.hid (Rs.ext (Rs.ext RB.ext) _ _ _ _ hxr (HM.out))
                  replace HSL := Lib.hid (Rs.ext (Rs.ext RB.ext) _ _ _ _ hxr (HSL.out))
                  replace HCR := Lib.hid ((HCR.out).ext hxr)
                  replace HFR := Lib.hid (And.intro (Rs.ext RI.ext _ _ _ _ hxr (HFR.out).1) (Rs.ext RB.ext _ _ _ _ hxr (HFR.out).2))
                  replace HV := Lib.hid (RRs.ext _ _ _ _ hxr (HV.out))
                  replace HW := Lib.hid (RRs.ext _ _ _ _ hxr (HW.out))
                  clear hxr
                  by_cases hlt : k < n
                  case pos =>
                    have hb := bit_int16 L k (show L < 2 ^ 40 by omega)
                    have hb2 : Cd.bitAt L k < 2 := Nat.mod_lt _ (by decide)
                    obtain ⟨b, hbe⟩ : ∃ b, Cd.bitAt L k = b := ⟨_, rfl⟩
                    rw [hbe] at hb hb2
                    have HBK := Lib.hid hbe
                    clear hbe
                    have hkn : (k : Int) < (n : Int) := by omega
                    have b4 : wr.cell? ⟨w.heap.size, 4, none⟩ = some (.int .i64 (L : Nat)) := HB.out 4 _ rfl
                    by_cases hb0 : b = 0
                    case pos =>
                      subst hb0
                      have HS := Lib.hid (Rb.lostP_no (lost := L) (n := k) HBK.out)
                      go_wp2_with fail
                      go_roundw
                      case rel => exact ⟨k + 1, a, by omega, by omega, by go_num, (by first | trivial | rfl), Lib.hid ⟨HJ2.out.1, by rw [HS.out]; exact HJ2.out.2⟩⟩
                      case measure => simp [intOf]; omega
                    case neg =>
                      obtain rfl : b = 1 := by omega
                      have hbn : Cd.bitAt L k ≠ 0 := by rw [HBK.out]; decide
                      have HS := Lib.hid (Rb.lostP_yes (lost := L) (n := k) hbn)
                      obtain ⟨hl1, hl2⟩ := Rb.lostP_at hlt hbn
                      have hal : a < nr := by rw [← HNR.out, HGJ.out.1, ← HJ2.out.2]; exact hl1
                      have har : a < rs.length := by rw [HNR.out]; exact hal
                      obtain ⟨ad, FY, CY, rfl, a0, a1, a2, hF, hC⟩ := HW.out.at har
                      obtain ⟨FAY, fcY, rfl, _⟩ := hF.form
                      obtain ⟨CAY, ccY, rfl, _⟩ := hC.form
                      have hgy := HGJ.out.2 a (by rw [← HGJ.out.1]; exact har) har
                      have hak : (Rb.lostP L n)[a]'(by rw [← HGJ.out.1]; exact har) = k := by have := hl2 (by rw [HJ2.out.2, ← HGJ.out.1]; exact har); simp only [HJ2.out.2] at this; exact this
                      rw [hak] at hgy
                      obtain ⟨yy, hyy⟩ : ∃ y, rs[a] = y := ⟨_, rfl⟩
                      rw [hyy] at a0 a1 a2 hF hC hgy
                      obtain ⟨nY, hnY⟩ : ∃ m, yy.src.length = m := ⟨_, rfl⟩
                      obtain ⟨mY, hmY⟩ : ∃ m, yy.coef.length = m := ⟨_, rfl⟩
                      obtain ⟨pY, hpY⟩ : ∃ m, yy.piece = m := ⟨_, rfl⟩
                      rw [hnY] at a1 hF
                      rw [hmY] at a2 hC
                      rw [hpY] at a0
                      have HY := Lib.hid (show RRec wr (.agg #[.int .i64 pY, .slice FAY nY fcY, .slice CAY mY ccY]) yy from ⟨_, _, by rw [hpY], hF, hC⟩)
                      have HGY := Lib.hid hgy
                      have HHK := Lib.hid (show k < (Cd.rowsOf d gs gl).length ∧ (Cd.rowsOf d gs gl).length ≤ 24 ∧ L < 16777216 by rw [HNN.out]; omega)
                      clear hF hC hyy hnY hmY hpY hgy hak hl1 hl2 hbn hb0
                      go_upto_region 38 with fail
                      clear hb b4
                      refine wp_atEnd' (rs_make wr w.heap.size n nr wc a k L P O c fcY ccY nY mY ec d gl pY gs A FAY CAY EA data ad yy hal HT HB a0 a1 a2 HY HEN HGY HHK _ _ _ _ _ _ _ _ _ _ _ _ _ _ _ _ _ _ _ _ _ _ _ _ _ _ _ _ _ _ _ _ _ _ _ _ _ _ _ _ _ _ _ _ _ _ _ _ _ _ _ _ _ _ _ _ _ _ _ _ _ _ _ _ _ _ _ _ _ _ _ _ _ _ _ _ _ _ _ _ _ _ _ _ _ _ _ _ _ _ _ _ _ _ _ _ _ _ _ _ _ _ _ _ _ _ _ _ _ _ _ _ _ _ _ _ _ _ _ _ _ _ _ _ _ _ _ _ _ _ _ _ _ _ _ _ _ _ _ _ _ _ _ _ _ _ _ _ _ _ _ _ _ _ _ _ _ _ _ _ _ _ _ _ _ _ _ _ _ _ _ _ _ _ _ _ _ _ _ _ _ _ _ _ _ _ _ _ _ _ _ _ _ _ _ _ _ _ _ _ _ _ _ _ _ _ _ _ _ _ _ _ _ _ _ _ _ _ _ _ _ _ _ _ _ _ _ _ _ _ _ _ _ ?_)
                      intro u210 u211 u212 u213 u214 u215 u216 u217 u218 u219 u220 u221 u222 u223 u224 w12 hx12
                      have HX12 := Lib.hid (HJ2.out.1.trans hx12)
                      clear hx12 a0 a1 a2
                      go_wp2_with fail
                      go_roundw
                      case rel => exact ⟨k + 1, a + 1, by omega, by omega, by go_num, by go_num, Lib.hid ⟨HX12.out, by rw [HS.out, List.length_append, HJ2.out.2]; rfl⟩⟩
                      case measure => simp [intOf]; omega
                  case neg =>
                    obtain rfl : n = k := by omega
                    obtain rfl : a = nr := by rw [← HNR.out, HGJ.out.1, HJ2.out.2]
                    have ea : ((a : Int) == (a : Int)) = true := by simp
                    go_wp2_with fail
                    refine (sanity_any wr HT.out).mono ?_
                    rintro e w1101 ⟨rfl, hxs⟩
                    have HXS := Lib.hid (HX.out.trans hxs)
                    clear hxs
                    go_wp2_with fail
                    go_ret
                    exact ⟨rfl, HXS.out⟩
      case inr =>
        clear HGD
        go_upto_region 19 with fail
        have hb := bit_int16 L P (show L < 2 ^ 40 by omega)
        have hb2 : Cd.bitAt L P < 2 := Nat.mod_lt _ (by decide)
        obtain ⟨b, hbe⟩ : ∃ b, Cd.bitAt L P = b := ⟨_, rfl⟩
        rw [hbe] at hb hb2
        have HBE := Lib.hid hbe
        clear hbe
        apply via
        case h =>
          intro hrest
          by_cases hb0 : b = 0
          case pos =>
            subst hb0
            exact wp_atEnd' (rs_rec0 w6 w.heap.size n L P O c d gl 17 gs A data (by omega) HB (Lib.hid hb) _ _ _ _ _ _ _ _ _ _ _ _ _ _ _ _ _ _ _ _ _ _ _ _ _ _ _ _ _ _ _ _ _ _ _ _ _ _ _ _ _ _ _ _ _ _ _ _ _ _ _ _ _ _ _ _ _ _ _ _ _ _ _ _ _ _ _ _ _ _ _ _ _ _ _ _ _ _ _ _ _ _ _ _ _ _ _ _ _ _ _ _ _ _ _ _ _ _ _ _ _ _ _ _ _ _ _ _ _ _ _ _ _ _ _ _ _ _ _ _ _ _ _ _ _ _ _ _ _ _ _ _ _ _ _ _ _ _ _ _ _ _ _ _ _ _ _ _ _ _ _ _ _ _ _ _ _ _ _ _ _ _ _ _ _ _ _ _ _ _ _ _ _ _ _ _ _ _ _ _ _ _ _ _ _ _ _ _ _ _ _ _ _ _ _ _ _ _ _ _ _ _ _ _ _ _ _ _ _ _ _ _ _ _ _ _ _ _ _ _ _ _ _ _ _ _ _ _ _ _ _ _ _ _ _ hrest)
          case neg =>
            obtain rfl : b = 1 := by omega
            clear hb0
            have hM := wrap_two n (by omega)
            have hMb : 1 ≤ 2 ^ n ∧ 2 ^ n ≤ 4096 := ⟨Nat.one_le_two_pow, show 2 ^ n ≤ 2 ^ 12 from Nat.pow_le_pow_right (by decide) (by omega)⟩
            have hAN := andNot64 (n := n) (b := L) (by omega) HLO.out.1
            obtain ⟨X, hX⟩ : ∃ X, 2 ^ n - (L + 1) = X := ⟨_, rfl⟩
            have hrn := fun h17 => Rb.rec_no HCK.out HE.out.2 (by rw [HNN.out]; exact HLO.out.1) (by rw [HBE.out]; decide) h17
            rw [HNN.out, hX] at hrn
            rw [hX] at hAN
            obtain ⟨M, hMM⟩ : ∃ M, 2 ^ n = M := ⟨_, rfl⟩
            rw [hMM] at hM hMb hAN
            have HM2 := Lib.hid (And.intro hM (And.intro (show IntKind.i64.wrap ((M : Int) - 1) = ((M - 1 : Nat) : Int) by rw [IntKind.wrap_i64]; omega) (And.intro (show wrap64 ((M : Int) - 1) = ((M - 1 : Nat) : Int) by unfold wrap64; omega) hAN)))
            clear hM hMb hAN hX hMM
            cases hcb : Cd.can d gl gs (X : Nat) with
            | false =>
              have HC := Lib.hid hcb
              clear hcb hrn
              exact wp_atEnd' (rs_rec1 w6 w.heap.size n L P O c d gl 17 gs A data (by omega) HB (Lib.hid hb) M X (by omega) HT HG HM2 HC _ _ _ _ _ _ _ _ _ _ _ _ _ _ _ _ _ _ _ _ _ _ _ _ _ _ _ _ _ _ _ _ _ _ _ _ _ _ _ _ _ _ _ _ _ _ _ _ _ _ _ _ _ _ _ _ _ _ _ _ _ _ _ _ _ _ _ _ _ _ _ _ _ _ _ _ _ _ _ _ _ _ _ _ _ _ _ _ _ _ _ _ _ _ _ _ _ _ _ _ _ _ _ _ _ _ _ _ _ _ _ _ _ _ _ _ _ _ _ _ _ _ _ _ _ _ _ _ _ _ _ _ _ _ _ _ _ _ _ _ _ _ _ _ _ _ _ _ _ _ _ _ _ _ _ _ _ _ _ _ _ _ _ _ _ _ _ _ _ _ _ _ _ _ _ _ _ _ _ _ _ _ _ _ _ _ _ _ _ _ _ _ _ _ _ _ _ _ _ _ _ _ _ _ _ _ _ _ _ _ _ _ _ _ _ _ _ _ _ _ _ _ _ _ _ _ _ _ _ _ _ _ _ _ _ hrest)
            | true =>
              have h := hrn HEE.out
              rw [hcb] at h
              exact absurd h (by decide)
        case t =>
          intro u134 u135 u136 u137 u138 u139 u140 u141 u142 u143 u144 u145 u146 u147 u148 u149 u150 u151 u152 u153 u154 w8 hx8
          replace HX := Lib.hid ((HX.out).trans hx8)
          replace HT := Lib.hid ((HT.out).ext hx8)
          replace HG := Lib.hid (Rs.ext (Rs.ext RI.ext) _ _ _ _ hx8 (HG.out))
          replace HB := Lib.hid ((HB.out).ext hx8)
          replace HEN := Lib.hid (Rs.ext RS.ext _ _ _ _ hx8 (HEN.out))
          replace HM := Lib.hid (Rs.ext (Rs.ext RB.ext) _ _ _ _ hx8 (HM.out))
          replace HSL := Lib.hid (Rs.ext (Rs.ext RB.ext) _ _ _ _ hx8 (HSL.out))
          replace HCR := Lib.hid ((HCR.out).ext hx8)
          replace HFR := Lib.hid (And.intro (Rs.ext RI.ext _ _ _ _ hx8 (HFR.out).1) (Rs.ext RB.ext _ _ _ _ hx8 (HFR.out).2))
          clear hx8
          clear hb
          have b0 : w8.cell? ⟨w.heap.size, 0, none⟩ = some (.int .i64 d) := HB.out 0 _ rfl
          have b1 : w8.cell? ⟨w.heap.size, 1, none⟩ = some (.slice A gs.length c) := HB.out 1 _ rfl
          have b2 : w8.cell? ⟨w.heap.size, 2, none⟩ = some (.int .i64 gl) := HB.out 2 _ rfl
          have b4 : w8.cell? ⟨w.heap.size, 4, none⟩ = some (.int .i64 (L : Nat)) := HB.out 4 _ rfl
          have b5 : w8.cell? ⟨w.heap.size, 5, none⟩ = some (.int .i64 (P : Nat)) := HB.out 5 _ rfl
          go_wp2_with fail
          clear b0 b1 b2 b4 b5
          refine (bAll_any d gl gs (L : Nat) (P : Nat) _ _ HT.out HG.out).mono ?_
          rintro e w9 ⟨v, rfl, hv, _, hx⟩
          obtain ⟨LA, cL, rfl, hnl⟩ := hv.form
          obtain ⟨AL, hAL⟩ : ∃ x, Rb.leastL d gl gs (L : Nat) (P : Nat) true = x := ⟨_, rfl⟩
          rw [hAL] at hv hnl ⊢
          obtain ⟨nl, hnll⟩ : ∃ x, AL.length = x := ⟨_, rfl⟩
          rw [hnll] at hv hnl ⊢
          rw [HEE.out]
          have HAL := Lib.hid (And.intro hAL hnll)
          replace HX := Lib.hid ((HX.out).trans hx)
          replace HT := Lib.hid ((HT.out).ext hx)
          replace HG := Lib.hid (Rs.ext (Rs.ext RI.ext) _ _ _ _ hx (HG.out))
          replace HB := Lib.hid ((HB.out).ext hx)
          replace HEN := Lib.hid (Rs.ext RS.ext _ _ _ _ hx (HEN.out))
          replace HM := Lib.hid (Rs.ext (Rs.ext RB.ext) _ _ _ _ hx (HM.out))
          replace HSL := Lib.hid (Rs.ext (Rs.ext RB.ext) _ _ _ _ hx (HSL.out))
          replace HCR := Lib.hid ((HCR.out).ext hx)
          replace HFR := Lib.hid (And.intro (Rs.ext RI.ext _ _ _ _ hx (HFR.out).1) (Rs.ext RB.ext _ _ _ _ hx (HFR.out).2))
          clear hx
          have HV := Lib.hid hv
          clear hv hAL hnll
          go_wp2_with fail
          go_loopw [171] (fun vj wr => ∃ j : Nat, j ≤ nl ∧ vj = .int .i64 (j : Nat) ∧ Hid (Ext w9 wr)) (fun vj _ => nl - (intOf vj).toNat)
          case atStart => exact ⟨0, Nat.zero_le _, rfl, Lib.hid (Ext.refl _)⟩
          case round =>
            obtain ⟨j, hj, rfl, HJ⟩ := hrel
            have hxr := HJ.out
            replace HX := Lib.hid ((HX.out).trans hxr)
            replace HT := Lib.hid ((HT.out).ext hxr)
            replace HG := Lib.hid (Rs.ext (Rs.ext RI.ext) _ _ _ _ hxr (HG.out))
            replace HB := Lib.hid ((HB.out).ext hxr)
            replace HEN := Lib.hid (Rs.ext RS.ext _ _ _ _ hxr (HEN.out))
            replace HM := Lib.hid (Rs.ext (Rs.ext RB.ext) _ _ _ _ hxr (HM.out))
            replace HSL := Lib.hid (Rs.ext (Rs.ext RB.ext) _ _ _ _ hxr (HSL.out))
            replace HCR := Lib.hid ((HCR.out).ext hxr)
            replace HFR := Lib.hid (And.intro (Rs.ext RI.ext _ _ _ _ hxr (HFR.out).1) (Rs.ext RB.ext _ _ _ _ hxr (HFR.out).2))
            replace HV := Lib.hid (RRs.ext _ _ _ _ hxr (HV.out))
            clear hxr
            by_cases hlt : j < nl
            case pos =>
              have hkl : j < AL.length := by rw [HAL.out.2]; exact hlt
              obtain ⟨ad, FY, CY, rfl, a0, a1, a2, hF, hC⟩ := HV.out.at hkl
              obtain ⟨FAY, fcY, rfl, _⟩ := hF.form
              obtain ⟨CAY, ccY, rfl, _⟩ := hC.form
              have hgy := HGA.out AL[j] (by rw [HAL.out.1]; exact List.getElem_mem hkl)
              obtain ⟨yy, hyy⟩ : ∃ y, AL[j] = y := ⟨_, rfl⟩
              rw [hyy] at a0 a1 a2 hF hC hgy
              obtain ⟨nY, hnY⟩ : ∃ m, yy.src.length = m := ⟨_, rfl⟩
              obtain ⟨mY, hmY⟩ : ∃ m, yy.coef.length = m := ⟨_, rfl⟩
              obtain ⟨pY, hpY⟩ : ∃ m, yy.piece = m := ⟨_, rfl⟩
              rw [hnY] at a1 hF
              rw [hmY] at a2 hC
              rw [hpY] at a0
              have HPY := Lib.hid hpY
              have HGY := Lib.hid hgy
              have hjn : (j : Int) < (nl : Int) := by omega
              have hxa : Ext wr (wr.alloc (.cells #[.int .i64 pY, .slice FAY nY fcY, .slice CAY mY ccY] 30)) := (Ext.refl wr).alloc _
              have hFY := Rs.ext RI.ext _ _ _ _ hxa hF
              have hCY := Rs.ext RB.ext _ _ _ _ hxa hC
              have HFY := Lib.hid (And.intro hFY hCY)
              clear hF hC hFY hCY hyy hnY hmY hpY hgy
              have HXJ := Lib.hid (HJ.out.trans hxa)
              replace HX := Lib.hid ((HX.out).trans hxa)
              replace HT := Lib.hid ((HT.out).ext hxa)
              replace HG := Lib.hid (Rs.ext (Rs.ext RI.ext) _ _ _ _ hxa (HG.out))
              replace HB := Lib.hid ((HB.out).ext hxa)
              replace HEN := Lib.hid (Rs.ext RS.ext _ _ _ _ hxa (HEN.out))
              replace HM := Lib.hid (Rs.ext (Rs.ext RB.ext) _ _ _ _ hxa (HM.out))
              replace HSL := Lib.hid (Rs.ext (Rs.ext RB.ext) _ _ _ _ hxa (HSL.out))
              replace HCR := Lib.hid ((HCR.out).ext hxa)
              replace HFR := Lib.hid (And.intro (Rs.ext RI.ext _ _ _ _ hxa (HFR.out).1) (Rs.ext RB.ext _ _ _ _ hxa (HFR.out).2))
              replace HV := Lib.hid (RRs.ext _ _ _ _ hxa (HV.out))
              clear hxa
              have b4 : (wr.alloc (.cells #[.int .i64 pY, .slice FAY nY fcY, .slice CAY mY ccY] 30)).cell? ⟨w.heap.size, 4, none⟩ = some (.int .i64 (L : Nat)) := HB.out 4 _ rfl
              have b5 : (wr.alloc (.cells #[.int .i64 pY, .slice FAY nY fcY, .slice CAY mY ccY] 30)).cell? ⟨w.heap.size, 5, none⟩ = some (.int .i64 (P : Nat)) := HB.out 5 _ rfl
              go_wp2_with fail
              clear b4 b5 a0 a1 a2
              refine (makes_any d gl gs L P data yy _ _ _ HT.out ⟨.slice FAY nY fcY, .slice CAY mY ccY, by rw [HPY.out], HFY.out.1, HFY.out.2⟩ HEN.out HGY.out (by rw [HNN.out]; exact hP) (by rw [HNN.out]; omega) (by omega)).mono ?_
              rintro e w10 ⟨rfl, hx⟩
              replace HXJ := Lib.hid (HXJ.out.trans hx)
              clear hx
              go_wp2_with fail
              go_roundw
              case rel => exact ⟨j + 1, by omega, by go_num, HXJ⟩
              case measure => simp [intOf]; omega
            case neg =>
              obtain rfl : nl = j := by omega
              have b0 : wr.cell? ⟨w.heap.size, 0, none⟩ = some (.int .i64 d) := HB.out 0 _ rfl
              have b1 : wr.cell? ⟨w.heap.size, 1, none⟩ = some (.slice A gs.length c) := HB.out 1 _ rfl
              have b2 : wr.cell? ⟨w.heap.size, 2, none⟩ = some (.int .i64 gl) := HB.out 2 _ rfl
              have b4 : wr.cell? ⟨w.heap.size, 4, none⟩ = some (.int .i64 (L : Nat)) := HB.out 4 _ rfl
              go_wp2_with fail
              clear b0 b1 b2 b4
              refine (bJoint_any d gl gs (L : Nat) _ _ HT.out HG.out).mono ?_
              rintro e w11 ⟨v1, v2, rfl, hv1, hv2, hx⟩
              replace HX := Lib.hid ((HX.out).trans hx)
              replace HT := Lib.hid ((HT.out).ext hx)
              replace HG := Lib.hid (Rs.ext (Rs.ext RI.ext) _ _ _ _ hx (HG.out))
              replace HB := Lib.hid ((HB.out).ext hx)
              replace HEN := Lib.hid (Rs.ext RS.ext _ _ _ _ hx (HEN.out))
              replace HM := Lib.hid (Rs.ext (Rs.ext RB.ext) _ _ _ _ hx (HM.out))
              replace HSL := Lib.hid (Rs.ext (Rs.ext RB.ext) _ _ _ _ hx (HSL.out))
              replace HCR := Lib.hid ((HCR.out).ext hx)
              replace HFR := Lib.hid (And.intro (Rs.ext RI.ext _ _ _ _ hx (HFR.out).1) (Rs.ext RB.ext _ _ _ _ hx (HFR.out).2))
              replace HV := Lib.hid (RRs.ext _ _ _ _ hx (HV.out))
              clear hx
              obtain ⟨VA, vc, rfl, _⟩ := hv1.form
              have hj2 := Rb.joint_two HE.out.1
              rcases hj2 with ⟨hj3, hj4⟩ | ⟨hj3, f, rs, hj4, hj5⟩
              case inl =>
                rw [hj3]
                obtain ⟨WA, wc, rfl, _⟩ := hv2.form
                clear hv1 hv2 hj3 hj4
                go_wp2_with fail
                refine (sanity_any w11 HT.out).mono ?_
                rintro e w1201 ⟨rfl, hxs⟩
                have HXS := Lib.hid (HX.out.trans hxs)
                clear hxs
                go_wp2_with fail
                go_ret
                exact ⟨rfl, HXS.out⟩
              case inr =>
                rw [hj3, hj4]
                rw [hj4] at hv1 hv2
                have hv2' : RRs w11 v2 rs := hv2
                obtain ⟨WA, wc, rfl, hrl⟩ := hv2'.form
                have hgj := Rb.joint_good HCK.out hj5 (data := data) (by omega)
                rw [HNN.out] at hgj
                obtain ⟨nr, hnr⟩ : ∃ x, rs.length = x := ⟨_, rfl⟩
                rw [hnr] at hv2' ⊢
                have HGJ := Lib.hid hgj
                have HW := Lib.hid hv2'
                have HNR := Lib.hid hnr
                clear hv1 hv2 hv2' hj3 hj4 hj5 hgj hnr hrl
                go_wp2_with fail
                go_loopw [22, 201] (fun va vk wr => ∃ (k a : Nat), k ≤ n ∧ a ≤ k ∧ vk = .int .i64 (k : Nat) ∧ va = .int .i64 (a : Nat) ∧ Hid (Ext w11 wr ∧ (Rb.lostP L k).length = a)) (fun _ vk _ => n - (intOf vk).toNat)
                case atStart => exact ⟨0, 0, Nat.zero_le _, Nat.le_refl _, rfl, rfl, Lib.hid ⟨Ext.refl _, rfl⟩⟩
                case round =>
                  obtain ⟨k, a, hk, ha, rfl, rfl, HJ2⟩ := hrel
                  have hxr := HJ2.out.1
                  replace HX := Lib.hid ((HX.out).trans hxr)
                  replace HT := Lib.hid ((HT.out).ext hxr)
                  replace HG := Lib.hid (Rs.ext (Rs.ext RI.ext) _ _ _ _ hxr (HG.out))
                  replace HB := Lib.hid ((HB.out).ext hxr)
                  replace HEN := Lib.hid (Rs.ext RS.ext _ _ _ _ hxr (HEN.out))
                  replace HM := Lib.hid (Rs.ext (Rs.ext RB.ext) _ _ _ _ hxr (HM.out))
                  replace HSL := Lib.hid (Rs.ext (Rs.ext RB.ext) _ _ _ _ hxr (HSL.out))
                  replace HCR := Lib.hid ((HCR.out).ext hxr)
                  replace HFR := Lib.hid (And.intro (Rs.ext RI.ext _ _ _ _ hxr (HFR.out).1) (Rs.ext RB.ext _ _ _ _ hxr (HFR.out).2))
                  replace HV := Lib.hid (RRs.ext _ _ _ _ hxr (HV.out))
                  replace HW := Lib.hid (RRs.ext _ _ _ _ hxr (HW.out))
                  clear hxr
                  by_cases hlt : k < n
                  case pos =>
                    have hb := bit_int16 L k (show L < 2 ^ 40 by omega)
                    have hb2 : Cd.bitAt L k < 2 := Nat.mod_lt _ (by decide)
                    obtain ⟨b, hbe⟩ : ∃ b, Cd.bitAt L k = b := ⟨_, rfl⟩
                    rw [hbe] at hb hb2
                    have HBK := Lib.hid hbe
                    clear hbe
                    have hkn : (k : Int) < (n : Int) := by omega
                    have b4 : wr.cell? ⟨w.heap.size, 4, none⟩ = some (.int .i64 (L : Nat)) := HB.out 4 _ rfl
                    by_cases hb0 : b = 0
                    case pos =>
                      subst hb0
                      have HS := Lib.hid (Rb.lostP_no (lost := L) (n := k) HBK.out)
                      go_wp2_with fail
                      go_roundw
                      case rel => exact ⟨k + 1, a, by omega, by omega, by go_num, (by first | trivial | rfl), Lib.hid ⟨HJ2.out.1, by rw [HS.out]; exact HJ2.out.2⟩⟩
                      case measure => simp [intOf]; omega
                    case neg =>
                      obtain rfl : b = 1 := by omega
                      have hbn : Cd.bitAt L k ≠ 0 := by rw [HBK.out]; decide
                      have HS := Lib.hid (Rb.lostP_yes (lost := L) (n := k) hbn)
                      obtain ⟨hl1, hl2⟩ := Rb.lostP_at hlt hbn
                      have hal : a < nr := by rw [← HNR.out, HGJ.out.1, ← HJ2.out.2]; exact hl1
                      have har : a < rs.length := by rw [HNR.out]; exact hal
                      obtain ⟨ad, FY, CY, rfl, a0, a1, a2, hF, hC⟩ := HW.out.at har
                      obtain ⟨FAY, fcY, rfl, _⟩ := hF.form
                      obtain ⟨CAY, ccY, rfl, _⟩ := hC.form
                      have hgy := HGJ.out.2 a (by rw [← HGJ.out.1]; exact har) har
                      have hak : (Rb.lostP L n)[a]'(by rw [← HGJ.out.1]; exact har) = k := by have := hl2 (by rw [HJ2.out.2, ← HGJ.out.1]; exact har); simp only [HJ2.out.2] at this; exact this
                      rw [hak] at hgy
                      obtain ⟨yy, hyy⟩ : ∃ y, rs[a] = y := ⟨_, rfl⟩
                      rw [hyy] at a0 a1 a2 hF hC hgy
                      obtain ⟨nY, hnY⟩ : ∃ m, yy.src.length = m := ⟨_, rfl⟩
                      obtain ⟨mY, hmY⟩ : ∃ m, yy.coef.length = m := ⟨_, rfl⟩
                      obtain ⟨pY, hpY⟩ : ∃ m, yy.piece = m := ⟨_, rfl⟩
                      rw [hnY] at a1 hF
                      rw [hmY] at a2 hC
                      rw [hpY] at a0
                      have HY := Lib.hid (show RRec wr (.agg #[.int .i64 pY, .slice FAY nY fcY, .slice CAY mY ccY]) yy from ⟨_, _, by rw [hpY], hF, hC⟩)
                      have HGY := Lib.hid hgy
                      have HHK := Lib.hid (show k < (Cd.rowsOf d gs gl).length ∧ (Cd.rowsOf d gs gl).length ≤ 24 ∧ L < 16777216 by rw [HNN.out]; omega)
                      clear hF hC hyy hnY hmY hpY hgy hak hl1 hl2 hbn hb0
                      go_upto_region 38 with fail
                      clear hb b4
                      refine wp_atEnd' (rs_make wr w.heap.size n nr wc a k L P O c fcY ccY nY mY ec d gl pY gs A FAY CAY EA data ad yy hal HT HB a0 a1 a2 HY HEN HGY HHK _ _ _ _ _ _ _ _ _ _ _ _ _ _ _ _ _ _ _ _ _ _ _ _ _ _ _ _ _ _ _ _ _ _ _ _ _ _ _ _ _ _ _ _ _ _ _ _ _ _ _ _ _ _ _ _ _ _ _ _ _ _ _ _ _ _ _ _ _ _ _ _ _ _ _ _ _ _ _ _ _ _ _ _ _ _ _ _ _ _ _ _ _ _ _ _ _ _ _ _ _ _ _ _ _ _ _ _ _ _ _ _ _ _ _ _ _ _ _ _ _ _ _ _ _ _ _ _ _ _ _ _ _ _ _ _ _ _ _ _ _ _ _ _ _ _ _ _ _ _ _ _ _ _ _ _ _ _ _ _ _ _ _ _ _ _ _ _ _ _ _ _ _ _ _ _ _ _ _ _ _ _ _ _ _ _ _ _ _ _ _ _ _ _ _ _ _ _ _ _ _ _ _ _ _ _ _ _ _ _ _ _ _ _ _ _ _ _ _ _ _ _ _ _ _ _ _ _ _ _ _ _ _ ?_)
                      intro u210 u211 u212 u213 u214 u215 u216 u217 u218 u219 u220 u221 u222 u223 u224 w12 hx12
                      have HX12 := Lib.hid (HJ2.out.1.trans hx12)
                      clear hx12 a0 a1 a2
                      go_wp2_with fail
                      go_roundw
                      case rel => exact ⟨k + 1, a + 1, by omega, by omega, by go_num, by go_num, Lib.hid ⟨HX12.out, by rw [HS.out, List.length_append, HJ2.out.2]; rfl⟩⟩
                      case measure => simp [intOf]; omega
                  case neg =>
                    obtain rfl : n = k := by omega
                    obtain rfl : a = nr := by rw [← HNR.out, HGJ.out.1, HJ2.out.2]
                    have ea : ((a : Int) == (a : Int)) = true := by simp
                    go_wp2_with fail
                    refine (sanity_any wr HT.out).mono ?_
                    rintro e w1101 ⟨rfl, hxs⟩
                    have HXS := Lib.hid (HX.out.trans hxs)
                    clear hxs
                    go_wp2_with fail
                    go_ret
                    exact ⟨rfl, HXS.out⟩
end Go.Proofs.YtdmljilcbndmfaaDoor

/- ARGUMENTS that are codes read as such. -/
namespace Go.Proofs.YtdmljilcbndmfaaDoor
open Go.ChangeShapes Go.WideShapes Go.ChangeAt Go.RowKit Go.ChangeMaps Go.Deep
variable {H : Type} {enc : TypeId × Value → H} {W : World} {base : Nat}
theorem list_getD {l : List Int} {k : Nat} (h : k < l.length) : l.getD k 0 = l[k] := by rw [List.getD_eq_getElem?_getD, List.getElem?_eq_getElem h]; rfl
theorem read_rows {fuel : Nat} {v : Value} {x : DataW H × List MemPlace} (h : DataW.trod enc Tryd.prog W base (fun _ => true) true fuel 22 [v] = some x) : ∃ l, Rs (Rs RI) W v l := by
  rcases open_int_rows Tryd.underlying22 Tryd.underlying27 Tryd.underlying3 (by kernel_rfl) (by kernel_rfl) h with ⟨hcs, _⟩ | ⟨a, len, cap, A, L, C, Z, hcs, _, hl, hm, _, hx⟩
  · injection hcs with hcs _
    subst hcs
    exact ⟨[], none, 0, rfl, by simp, fun i x h => by simp at h⟩
  · injection hcs with hcs _
    subst hcs
    refine ⟨(List.range len).map fun r => (Z r).take (L r), some a, cap, by simp, by simp; unfold maxLen at hm; omega, fun i y hi => ?_⟩
    have hi1 : i < len := by have := (List.getElem?_eq_some_iff.1 hi).1; simpa using this
    have e : y = (Z i).take (L i) := by
      have := (List.getElem?_eq_some_iff.1 hi).2
      rw [← this]; simp
    subst e
    obtain ⟨h1, h2, h3, h4, h5, h6, h7⟩ := hx i (by omega)
    refine ⟨a, _, rfl, h1, A i, C i, ?_, ?_, fun k z hk => ?_⟩
    · rw [List.length_take]; congr 1; omega
    · rw [List.length_take]; unfold maxLen at h3; omega
    · have hk1 : k < ((Z i).take (L i)).length := (List.getElem?_eq_some_iff.1 hk).1
      have hk2 : k < (Z i).length := by rw [List.length_take] at hk1; omega
      have hk3 : k < C i := by omega
      have e : z = (Z i)[k] := by
        have := (List.getElem?_eq_some_iff.1 hk).2
        rw [← this, List.getElem_take]
      subst e
      have hb := bounds_i64 (h5 _ (List.getElem_mem hk2))
      cases hA : A i with
      | none => have := h6 hA; omega
      | some b =>
        have h8 := (h7 b hA).2 k hk3
        rw [list_getD hk2] at h8
        exact ⟨b, _, rfl, h8, rfl, by omega, by omega⟩
theorem cellsCode : Tryd.prog.cellsOf 24 = 3 := by kernel_rfl
theorem cellsRows : Tryd.prog.cellsOf 22 = 1 := by kernel_rfl
theorem cellsInt : Tryd.prog.cellsOf 3 = 1 := by kernel_rfl
end Go.Proofs.YtdmljilcbndmfaaDoor

/- ARGUMENTS of law 08: losses. -/
namespace Go.Proofs.YtdmljilcbndmfaaDoor
open Go.ChangeShapes Go.WideShapes Go.ChangeAt Go.RowKit Go.ChangeMaps Go.Deep
variable {H : Type} {enc : TypeId × Value → H} {W : World} {base : Nat}
theorem sized_part {P : Program} {ts : List TypeId} {ds : List (DataW H)} (h : (DataW.weightsEach P ts ds).all (· ≤ reachBytes) = true) {j : Nat} {t : TypeId} {d : DataW H} (ht : ts[j]? = some t) (hd : ds[j]? = some d) : ∀ n ∈ d.weights P t, n ≤ reachBytes := fun n hn => by
  have := List.all_eq_true.1 h n (DataW.weights_mem_each ht hd n hn)
  simpa using this
theorem bytesInts : Tryd.prog.bytesOf 27 = 24 := by kernel_rfl
/-- The form's own reach, for a list of lists. -/
theorem sized_rows {fuel : Nat} {v : Value} {x : DataW H × List MemPlace} (h : DataW.trod enc Tryd.prog W base (fun _ => true) true fuel 22 [v] = some x) (hw : ∀ n ∈ x.1.weights Tryd.prog 22, n ≤ reachBytes) {l : List (List Int)} (hl : Rs (Rs RI) W v l) : l.length ≤ 4611686018427387904 := by
  obtain ⟨A, c, rfl, _⟩ := hl.form
  rcases open_int_rows Tryd.underlying22 Tryd.underlying27 Tryd.underlying3 (by kernel_rfl) (by kernel_rfl) h with ⟨hcs, _⟩ | ⟨a, len, cap, A', L, C, Z, hcs, _, _, hm, hx, _⟩
  · injection hcs with hcs _
    injection hcs with _ h2 _
    omega
  · injection hcs with hcs _
    injection hcs with _ h2 _
    subst hx
    have := hw ((len + (cap - len)) * 24) (by simp only [DataW.weights, Tryd.underlying22, bytesInts, List.length_map, List.length_range, List.mem_cons, true_or])
    unfold reachBytes at this
    omega
theorem array7 {α : Type} {cs : Array α} (h : cs.size = 7) : ∃ c0 c1 c2 c3 c4 c5 c6, cs = #[c0, c1, c2, c3, c4, c5, c6] := by
  obtain ⟨l⟩ := cs
  match l, h with
  | [c0, c1, c2, c3, c4, c5, c6], _ => exact ⟨c0, c1, c2, c3, c4, c5, c6, rfl⟩
theorem cellsStr : Tryd.prog.cellsOf 9 = 1 := by kernel_rfl
set_option maxRecDepth 100000 in
/-- A code, with the number of its groups. -/
theorem trod_code {m : Nat} {c0 c1 c2 : Value} {y : DataW H × List MemPlace} (hf : DataW.trod enc Tryd.prog W base (fun _ => true) true m 24 [c0, c1, c2] = some y) (hw : ∀ n ∈ y.1.weights Tryd.prog 24, n ≤ reachBytes) :
    ∃ (a0 a2 : Int) (gs : List (List Int)), c0 = .int .i64 a0 ∧ c2 = .int .i64 a2 ∧ Rs (Rs RI) W c1 gs ∧ gs.length ≤ 4611686018427387904 := by
  obtain ⟨zs, m, _, hy, _, hlen2, hz⟩ := DataW.trod_struct Tryd.underlying24 hf
  obtain ⟨z0, z1, z2, rfl⟩ : ∃ z0 z1 z2, zs = [z0, z1, z2] := by
    match zs, hlen2 with
    | [z0, z1, z2], _ => exact ⟨z0, z1, z2, rfl⟩
  subst hy
  have g0 : DataW.trod enc Tryd.prog W base (fun _ => true) true m 3 [c0] = some z0 := by
    have := hz 0 _ rfl
    simpa [Value.cells, cellsInt] using this
  have g1 : DataW.trod enc Tryd.prog W base (fun _ => true) true m 22 [c1] = some z1 := by
    have := hz 1 _ rfl
    simpa [Value.cells, cellsRows] using this
  have g2 : DataW.trod enc Tryd.prog W base (fun _ => true) true m 3 [c2] = some z2 := by
    have := hz 2 _ rfl
    simpa [Value.cells, cellsInt] using this
  obtain ⟨gs, h1⟩ := read_rows g1
  obtain ⟨a0, ha0, _, w0⟩ := DataW.trod_int Tryd.underlying3 g0
  obtain ⟨a2, ha2, _, w2⟩ := DataW.trod_int Tryd.underlying3 g2
  injection ha0 with ha0 _
  injection ha2 with ha2 _
  refine ⟨a0, a2, gs, ha0, ha2, h1, sized_rows g1 (fun n hn => hw n ?_) h1⟩
  simp only [DataW.weights, Tryd.underlying24]
  exact DataW.weights_mem_each (j := 1) rfl rfl n hn
set_option maxRecDepth 100000 in
theorem open_loss {b0 : Nat} {v : Value} {d : DataW H} {ps : List MemPlace} (hval : Value.okWide Tryd.prog W .any b0 63 v) (hd : DataW.Trod enc Tryd.prog W base (fun _ => true) true 63 v d ps) (hw : ∀ n ∈ d.weights Tryd.prog 63, n ≤ reachBytes) :
    ∃ (a0 a2 lost piece other : Int) (G : Value) (gs : List (List Int)) (data : List UInt8), v = .agg #[.int .i64 a0, G, .int .i64 a2, .string (sb data), .int .i64 lost, .int .i64 piece, .int .i64 other] ∧ Rs (Rs RI) W G gs ∧ gs.length ≤ 4611686018427387904 ∧ data.length ≤ 9223372036854775807 := by
  obtain ⟨cs, rfl, hsz⟩ := okWide_struct Tryd.underlying63 hval
  obtain ⟨c0, c1, c2, c3, c4, c5, c6, rfl⟩ := array7 (hsz.trans (by kernel_rfl))
  obtain ⟨fuel, hf⟩ := hd
  obtain ⟨xs, n, _, hxx, hl, hlen, hx⟩ := DataW.trod_struct Tryd.underlying63 hf
  obtain ⟨y0, y1, y2, y3, y4, rfl⟩ : ∃ y0 y1 y2 y3 y4, xs = [y0, y1, y2, y3, y4] := by
    match xs, hlen with
    | [y0, y1, y2, y3, y4], _ => exact ⟨y0, y1, y2, y3, y4, rfl⟩
  injection hxx with hxx _
  subst hxx
  have f0 : DataW.trod enc Tryd.prog W base (fun _ => true) true n 24 [c0, c1, c2] = some y0 := by
    have := hx 0 _ rfl
    simpa [Value.cells, cellsCode] using this
  have f1 : DataW.trod enc Tryd.prog W base (fun _ => true) true n 9 [c3] = some y1 := by
    have := hx 1 _ rfl
    simpa [Value.cells, cellsStr] using this
  have f2 : DataW.trod enc Tryd.prog W base (fun _ => true) true n 3 [c4] = some y2 := by
    have := hx 2 _ rfl
    simpa [Value.cells, cellsInt] using this
  have f3 : DataW.trod enc Tryd.prog W base (fun _ => true) true n 3 [c5] = some y3 := by
    have := hx 3 _ rfl
    simpa [Value.cells, cellsInt] using this
  have f4 : DataW.trod enc Tryd.prog W base (fun _ => true) true n 3 [c6] = some y4 := by
    have := hx 4 _ rfl
    simpa [Value.cells, cellsInt] using this
  obtain ⟨a0, a2, gs, rfl, rfl, h1, h2⟩ := trod_code f0 (fun n hn => hw n (by
    simp only [DataW.weights, Tryd.underlying63]
    exact DataW.weights_mem_each (j := 0) rfl rfl n hn))
  obtain ⟨s, hs, _, ws⟩ := DataW.trod_string Tryd.underlying9 f1
  obtain ⟨z2, e2, _, _⟩ := DataW.trod_int Tryd.underlying3 f2
  obtain ⟨z3, e3, _, _⟩ := DataW.trod_int Tryd.underlying3 f3
  obtain ⟨z4, e4, _, _⟩ := DataW.trod_int Tryd.underlying3 f4
  injection hs with hs _
  injection e2 with e2 _
  injection e3 with e3 _
  injection e4 with e4 _
  subst hs e2 e3 e4
  refine ⟨a0, a2, z2, z3, z4, c1, gs, bl s, by rw [sb_bl], h1, h2, ?_⟩
  rw [← size_bl]
  unfold maxLen at ws
  omega
end Go.Proofs.YtdmljilcbndmfaaDoor
