/- THE LAW RiskForgetsNames: its walk. -/
import Derived.Test.YtaemjkfmbnhaoaaDoorRiskD
import Derived.Test.YtaemjkfmbnhaoaaDoorRiskH
import Derived.Deep.DeepCutAuto
namespace Go.Proofs.YtaemjkfmbnhaoaaDoor
open Go.RowKit
/-- The peril that the law builds: its box, its places, its chances, whose block is known. -/
def NState (w0 w : World) (B g cc : Nat) (d : Int) (G : Value) (gl : Int) (at' ch : List Int) : Prop :=
  ∃ (T : Option Addr) (ct : Nat), Owns w0 w [⟨.slice (some ⟨B, 0, none⟩) 5 5, 27, 1, 5, [.int .i64 d, G, .int .i64 gl, .slice T at'.length ct, .slice (some ⟨g, 0, none⟩) ch.length cc]⟩, ⟨.slice T at'.length ct, 3, 1, at'.length, at'.map (.int .i64)⟩, ⟨.slice (some ⟨g, 0, none⟩) ch.length cc, 3, 1, ch.length, ch.map (.int .i64)⟩]
theorem NState.ext {w0 w : World} {B g cc : Nat} {d gl : Int} {G : Value} {at' ch : List Int} (h : NState w0 w B g cc d G gl at' ch) : Ext w0 w := by
  obtain ⟨T, ct, h⟩ := h
  exact h.ext
theorem NState.next {w0 w w' : World} {B g cc : Nat} {d gl : Int} {G : Value} {at' ch : List Int} (h : NState w0 w B g cc d G gl at' ch) (hx : Ext w w') : NState w0 w' B g cc d G gl at' ch := by
  obtain ⟨T, ct, h⟩ := h
  exact ⟨T, ct, h.next hx⟩
theorem NState.pushAt {w0 w : World} {B c g ct cc : Nat} {d gl : Int} {G : Value} {at' ch : List Int} {X : LRow} {y : Int} (h : Owns w0 w [⟨.slice (some ⟨B, 0, none⟩) 5 5, 27, 1, 5, [.int .i64 d, G, .int .i64 gl, .slice (some ⟨g, 0, none⟩) (at'.length + 1) ct, .slice (some ⟨c, 0, none⟩) ch.length cc]⟩, ⟨.slice (some ⟨g, 0, none⟩) (at'.length + 1) ct, 3, 1, at'.length + 1, at'.map (.int .i64) ++ [.int .i64 y]⟩, ⟨.slice (some ⟨c, 0, none⟩) ch.length cc, 3, 1, ch.length, ch.map (.int .i64)⟩, X]) :
    NState w0 w B c cc d G gl (at' ++ [y]) ch := by
  refine ⟨some ⟨g, 0, none⟩, ct, ?_⟩
  have h2 := h.sublist (List.sublist_append_left [_, _, _] [X])
  rw [List.length_append, List.map_append]
  exact h2
theorem NState.put {w0 w : World} {B c cc : Nat} {d gl : Int} {G : Value} {at' ch : List Int} {k : Nat} {y : Int} (h : NState w0 w B c cc d G gl at' ch) : NState w0 (w.setCell ⟨c, k, none⟩ (.int .i64 y)) B c cc d G gl at' (ch.set k y) := by
  obtain ⟨T, ct, h⟩ := h
  refine ⟨T, ct, ?_⟩
  have h2 := h.store 2 rfl k (.int .i64 y)
  rw [List.length_set, List.map_set]
  exact h2
theorem NState.cell {w0 w : World} {B c cc : Nat} {d gl : Int} {G : Value} {at' ch : List Int} (h : NState w0 w B c cc d G gl at' ch) : w.cell? ⟨B, 4, none⟩ = some (.slice (some ⟨c, 0, none⟩) ch.length cc) := by
  obtain ⟨T, ct, h⟩ := h
  exact h.cell 0 rfl 4 rfl
theorem NState.frozen {w0 w : World} {B c cc : Nat} {d gl : Int} {G : Value} {at' ch : List Int} (h : NState w0 w B c cc d G gl at' ch) (k : Nat) : w.frozen? ⟨c, k, none⟩ = false := by
  obtain ⟨T, ct, h⟩ := h
  exact h.frozen 2 rfl k
theorem NState.elem {w0 w : World} {B c cc : Nat} {d gl : Int} {G : Value} {at' ch : List Int} (h : NState w0 w B c cc d G gl at' ch) {k : Nat} (hk : k < ch.length) : w.cell? ⟨c, k, none⟩ = some (.int .i64 ch[k]) := by
  obtain ⟨T, ct, h⟩ := h
  exact h.cell 2 rfl k (by rw [List.getElem?_map, List.getElem?_eq_getElem hk]; rfl)
theorem NState.of {w0 w : World} {B g cc m : Nat} {d gl : Int} {G : Value} {ch : List Int} (h : Owns w0 w [⟨.slice (some ⟨B, 0, none⟩) 5 5, 27, 1, 5, [.int .i64 d, G, .int .i64 gl, .slice none 0 0, .slice (some ⟨g, 0, none⟩) m cc]⟩, ⟨.slice (some ⟨g, 0, none⟩) m cc, 3, 1, m, ch.map (.int .i64)⟩, nilRow 3]) (hm : m = ch.length) : NState w0 w B g cc d G gl [] ch := by
  subst hm
  exact ⟨none, 0, h.perm (List.Perm.cons _ (List.Perm.swap _ _ _))⟩
theorem one_ints (l : List Int) : ∀ u ∈ l.map (Value.int .i64), u.oneCell' = true := fun u hu => by
  obtain ⟨x, _, rfl⟩ := List.mem_map.1 hu
  rfl
theorem swap_take {l : List Int} {a b i : Nat} (h : i < l.length) : (l.take (i + 1)).map (Rk.swI a b) = (l.take i).map (Rk.swI a b) ++ [Rk.swI a b l[i]] := by
  rw [List.take_succ_eq_append_getElem h, List.map_append]; rfl
theorem wp_atEnd {P : Program} {c : Code} {K : Act → World → Prop} {Q : Exit → Act → World → Prop} {a : Act} {w : World} (h : Code.wp P c (AtEnd K) a w) : Code.wp P c (Exit.then K Q) a w :=
  Code.wp_mono (fun e a w hr => by
    cases e with
    | normal => exact hr
    | _ => exact (hr : False).elim) h
/-- A region of a function's text, by its number. -/
def regionOf (n : Nat) : Code → Option Code
  | .region id ops b => if id == n then some (.region id ops b) else none
  | .seq a b => match regionOf n a with
    | some c => some c
    | none => regionOf n b
  | .loop c => regionOf n c
  | .block _ c => regionOf n c
  | .scope c => regionOf n c
  | .cond _ a b => match regionOf n a with
    | some c => some c
    | none => regionOf n b
  | _ => none
noncomputable def names_region_code : Code := ((Tryd.f8.body.bind (regionOf 7)).getD .skip)
set_option maxRecDepth 1000000 in
set_option maxHeartbeats 16000000 in
theorem names_region (p : Rk.Pe) (A1 A3 : Option Addr) (k1 k3 : Nat) (w w3 : World) (b0 : w3.cell? ⟨w.heap.size, 0, none⟩ = some (.int .i64 p.d)) (b1 : w3.cell? ⟨w.heap.size, 1, none⟩ = some (.slice A1 p.gs.length k1)) (b2 : w3.cell? ⟨w.heap.size, 2, none⟩ = some (.int .i64 p.gl)) (b4 : w3.cell? ⟨w.heap.size, 4, none⟩ = some (.slice A3 p.ch.length k3)) (hz : w.heap.size < w3.heap.size) (HRC : Hid (Rd w3 A3 (p.ch.map (.int .i64)))) (HONE : Hid (∀ u ∈ p.ch.map (Value.int .i64), u.oneCell' = true)) (hpos : 0 < p.ch.length) (h9 : p.ch.length ≤ 9) (c0 c1 c2 c4 c5 c6 c7 c8 c9 c10 c11 c12 c13 c14 c15 c16 c17 c18 c19 c20 c21 c22 c23 c24 c25 c26 c27 c28 c29 c30 c31 c32 c33 c34 c35 c36 c37 c38 c39 c40 c41 c42 c43 c44 c45 c46 c47 c48 c49 c50 c51 c52 c53 c54 c55 c56 c57 c58 c59 c60 c61 c62 c63 c64 c65 c66 c67 c68 c69 c70 c71 c72 c73 c74 c75 c76 c77 c78 c79 c80 c81 c82 c83 c84 c85 c86 c87 c88 c89 c90 c91 c92 c93 c94 c95 c96 c97 c98 c99 c100 c101 c102 c103 c104 c105 c106 c107 c108 c109 c110 c111 c112 c113 c114 c115 c116 c117 c118 c119 c120 c121 c122 c123 c124 c125 c126 c127 c128 c129 c130 c131 c132 c133 c134 c135 c136 c137 c138 c139 c140 c141 c142 c143 c144 c145 c146 c147 c148 c149 c150 c151 c152 c153 c154 c155 c156 c157 c158 c159 c160 c161 c162 c163 c164 c165 c166 c167 c168 c169 c170 c171 c172 c173 c174 c175 c176 c177 c178 c179 c180 c181 c182 c183 c184 c185 c186 c187 c188 c189 c190 c191 c192 c193 c194 c195 c196 c197 c198 : Value) (df : List Deferred) (K : Act → World → Prop)
    (hK : ∀ (B g cc : Nat) (u64 u65 u66 u67 u68 u69 u70 : Value) (wx : World), Hid (NState w3 wx B g cc p.d (.slice A1 p.gs.length k1) p.gl [] p.ch) → K ⟨#[c0, c1, c2, .pointer (some ⟨w.heap.size, 0, none⟩), c4, c5, c6, c7, c8, c9, c10, .pointer (some ⟨B, 0, none⟩), c12, c13, c14, c15, c16, c17, c18, c19, c20, c21, c22, c23, c24, c25, c26, c27, c28, c29, c30, c31, c32, c33, c34, c35, c36, c37, c38, c39, c40, c41, c42, c43, c44, c45, c46, c47, c48, c49, c50, c51, c52, c53, c54, c55, c56, c57, c58, c59, c60, c61, c62, c63, u64, u65, u66, u67, u68, u69, u70, c71, c72, c73, c74, c75, c76, c77, c78, c79, c80, c81, c82, c83, c84, c85, c86, c87, c88, c89, c90, c91, c92, c93, c94, c95, c96, c97, c98, c99, c100, c101, c102, c103, c104, c105, c106, c107, c108, c109, c110, c111, c112, c113, c114, c115, c116, c117, c118, c119, c120, c121, c122, c123, c124, c125, c126, c127, c128, c129, c130, c131, c132, c133, c134, c135, c136, c137, c138, c139, c140, c141, c142, c143, c144, c145, c146, c147, c148, c149, c150, c151, c152, c153, c154, c155, c156, c157, c158, c159, c160, c161, c162, c163, c164, c165, c166, c167, c168, c169, c170, c171, c172, c173, c174, c175, c176, c177, c178, c179, c180, c181, c182, c183, c184, c185, c186, c187, c188, c189, c190, c191, c192, c193, c194, c195, c196, c197, c198], df⟩ wx) :
    Code.wp Tryd.prog names_region_code (AtEnd K) ⟨#[c0, c1, c2, .pointer (some ⟨w.heap.size, 0, none⟩), c4, c5, c6, c7, c8, c9, c10, c11, c12, c13, c14, c15, c16, c17, c18, c19, c20, c21, c22, c23, c24, c25, c26, c27, c28, c29, c30, c31, c32, c33, c34, c35, c36, c37, c38, c39, c40, c41, c42, c43, c44, c45, c46, c47, c48, c49, c50, c51, c52, c53, c54, c55, c56, c57, c58, c59, c60, c61, c62, c63, c64, c65, c66, c67, c68, c69, c70, c71, c72, c73, c74, c75, c76, c77, c78, c79, c80, c81, c82, c83, c84, c85, c86, c87, c88, c89, c90, c91, c92, c93, c94, c95, c96, c97, c98, c99, c100, c101, c102, c103, c104, c105, c106, c107, c108, c109, c110, c111, c112, c113, c114, c115, c116, c117, c118, c119, c120, c121, c122, c123, c124, c125, c126, c127, c128, c129, c130, c131, c132, c133, c134, c135, c136, c137, c138, c139, c140, c141, c142, c143, c144, c145, c146, c147, c148, c149, c150, c151, c152, c153, c154, c155, c156, c157, c158, c159, c160, c161, c162, c163, c164, c165, c166, c167, c168, c169, c170, c171, c172, c173, c174, c175, c176, c177, c178, c179, c180, c181, c182, c183, c184, c185, c186, c187, c188, c189, c190, c191, c192, c193, c194, c195, c196, c197, c198], df⟩ w3 := by
  conv => arg 2; whnf
  have hsz1 : (w3.alloc (.cells #[] 3)).heap.size = w3.heap.size + 1 := by simp
  have hsz2 : (w3.alloc (.cells #[.int .i64 0, .slice none 0 0, .int .i64 0, .slice none 0 0, .slice none 0 0] 27)).heap.size = w3.heap.size + 1 := by simp
  have hF1 : Owns w3 ((w3.alloc (.cells #[] 3)).drew) [no, ⟨.slice (some ⟨w3.heap.size, 0, none⟩) 0 0, 3, 1, 0, []⟩, nilRow 3] := ((Owns.start w3 (L := [no, no, nilRow 3]) (by intro r hr; simp [no, nilRow] at hr; rcases hr with rfl | rfl | rfl <;> simp)).new 1 #[] 3 (by simp [maxLen])).drew
  have hF2 : Owns w3 (((w3.alloc (.cells #[] 3)).alloc (.cells #[.int .i64 0, .slice none 0 0, .int .i64 0, .slice none 0 0, .slice none 0 0] 27)).drew) [⟨.slice (some ⟨w3.heap.size + 1, 0, none⟩) 5 5, 27, 1, 5, [.int .i64 0, .slice none 0 0, .int .i64 0, .slice none 0 0, .slice none 0 0]⟩, ⟨.slice (some ⟨w3.heap.size, 0, none⟩) 0 0, 3, 1, 0, []⟩, nilRow 3] := by
    have h := ((Owns.start w3 (L := [no, no, nilRow 3]) (by intro r hr; simp [no, nilRow] at hr; rcases hr with rfl | rfl | rfl <;> simp)).new 1 #[] 3 (by simp [maxLen])).new 0 #[.int .i64 0, .slice none 0 0, .int .i64 0, .slice none 0 0, .slice none 0 0] 27 (by simp [maxLen])
    rw [hsz1] at h
    exact h.drew
  have hF3 : Owns w3 (((w3.alloc (.cells #[.int .i64 0, .slice none 0 0, .int .i64 0, .slice none 0 0, .slice none 0 0] 27)).alloc (.cells #[] 3)).drew) [⟨.slice (some ⟨w3.heap.size, 0, none⟩) 5 5, 27, 1, 5, [.int .i64 0, .slice none 0 0, .int .i64 0, .slice none 0 0, .slice none 0 0]⟩, ⟨.slice (some ⟨w3.heap.size + 1, 0, none⟩) 0 0, 3, 1, 0, []⟩, nilRow 3] := by
    have h := ((Owns.start w3 (L := [no, no, nilRow 3]) (by intro r hr; simp [no, nilRow] at hr; rcases hr with rfl | rfl | rfl <;> simp)).new 0 #[.int .i64 0, .slice none 0 0, .int .i64 0, .slice none 0 0, .slice none 0 0] 27 (by simp [maxLen])).new 1 #[] 3 (by simp [maxLen])
    rw [hsz2] at h
    exact h.drew
  have HF1 := Lib.hid hF1
  have HF2 := Lib.hid hF2
  have HF3 := Lib.hid hF3
  clear hF1 hF2 hF3 hsz1 hsz2
  go_region_law (first | (refine step_append_copy 25 3 rfl (.tmp 66) (.tmp 68) rfl Tryd.underlying25 info_int rfl HF1.out 1 rfl rfl rfl (List.length_map _) (HRC.out.ext HF1.out.ext) HONE.out hpos (by omega) (by decide) ?_; intro g8 c8 w8 hO8 hx8; have HFIN := Lib.hid (NState.of (ch := p.ch) (hO8.new 0 #[.int .i64 p.d, .slice A1 p.gs.length k1, .int .i64 p.gl, .slice none 0 0, .slice (some ⟨g8, 0, none⟩) p.ch.length c8] 27 (by simp [maxLen])) rfl); have q0 : w8.cell? ⟨w.heap.size, 0, none⟩ = some (.int .i64 p.d) := hx8.cell b0; have q1 : w8.cell? ⟨w.heap.size, 1, none⟩ = some (.slice A1 p.gs.length k1) := hx8.cell b1; have q2 : w8.cell? ⟨w.heap.size, 2, none⟩ = some (.int .i64 p.gl) := hx8.cell b2; have hz8 : w.heap.size < w8.heap.size := lt_of_cell q0;  clear hO8 hx8) | (refine step_append_copy 25 3 rfl (.tmp 66) (.tmp 68) rfl Tryd.underlying25 info_int rfl HF2.out 1 rfl rfl rfl (List.length_map _) (HRC.out.ext HF2.out.ext) HONE.out hpos (by omega) (by decide) ?_; intro g8 c8 w8 hO8 hx8; have HFIN := Lib.hid (NState.of (ch := p.ch) (((((hO8.store 0 rfl 0 (.int .i64 p.d)).store 0 rfl 1 (.slice A1 p.gs.length k1)).store 0 rfl 2 (.int .i64 p.gl)).store 0 rfl 3 (.slice none 0 0)).store 0 rfl 4 (.slice (some ⟨g8, 0, none⟩) p.ch.length c8)) rfl); have q0 : w8.cell? ⟨w.heap.size, 0, none⟩ = some (.int .i64 p.d) := hx8.cell b0; have q1 : w8.cell? ⟨w.heap.size, 1, none⟩ = some (.slice A1 p.gs.length k1) := hx8.cell b1; have q2 : w8.cell? ⟨w.heap.size, 2, none⟩ = some (.int .i64 p.gl) := hx8.cell b2; have hz8 : w.heap.size < w8.heap.size := lt_of_cell q0; have f0 : w8.frozen? ⟨w3.heap.size + 1, 0, none⟩ = false := hO8.frozen 0 rfl 0; have k0 : w8.cell? ⟨w3.heap.size + 1, 0, none⟩ = some (.int .i64 0) := hO8.cell 0 rfl 0 rfl; have f1 : w8.frozen? ⟨w3.heap.size + 1, 1, none⟩ = false := hO8.frozen 0 rfl 1; have k1 : w8.cell? ⟨w3.heap.size + 1, 1, none⟩ = some (.slice none 0 0) := hO8.cell 0 rfl 1 rfl; have f2 : w8.frozen? ⟨w3.heap.size + 1, 2, none⟩ = false := hO8.frozen 0 rfl 2; have k2 : w8.cell? ⟨w3.heap.size + 1, 2, none⟩ = some (.int .i64 0) := hO8.cell 0 rfl 2 rfl; have f3 : w8.frozen? ⟨w3.heap.size + 1, 3, none⟩ = false := hO8.frozen 0 rfl 3; have k3 : w8.cell? ⟨w3.heap.size + 1, 3, none⟩ = some (.slice none 0 0) := hO8.cell 0 rfl 3 rfl; have f4 : w8.frozen? ⟨w3.heap.size + 1, 4, none⟩ = false := hO8.frozen 0 rfl 4; have k4 : w8.cell? ⟨w3.heap.size + 1, 4, none⟩ = some (.slice none 0 0) := hO8.cell 0 rfl 4 rfl;  clear hO8 hx8) | (refine step_append_copy 25 3 rfl (.tmp 66) (.tmp 68) rfl Tryd.underlying25 info_int rfl HF3.out 1 rfl rfl rfl (List.length_map _) (HRC.out.ext HF3.out.ext) HONE.out hpos (by omega) (by decide) ?_; intro g8 c8 w8 hO8 hx8; have HFIN := Lib.hid (NState.of (ch := p.ch) (((((hO8.store 0 rfl 0 (.int .i64 p.d)).store 0 rfl 1 (.slice A1 p.gs.length k1)).store 0 rfl 2 (.int .i64 p.gl)).store 0 rfl 3 (.slice none 0 0)).store 0 rfl 4 (.slice (some ⟨g8, 0, none⟩) p.ch.length c8)) rfl); have q0 : w8.cell? ⟨w.heap.size, 0, none⟩ = some (.int .i64 p.d) := hx8.cell b0; have q1 : w8.cell? ⟨w.heap.size, 1, none⟩ = some (.slice A1 p.gs.length k1) := hx8.cell b1; have q2 : w8.cell? ⟨w.heap.size, 2, none⟩ = some (.int .i64 p.gl) := hx8.cell b2; have hz8 : w.heap.size < w8.heap.size := lt_of_cell q0; have f0 : w8.frozen? ⟨w3.heap.size, 0, none⟩ = false := hO8.frozen 0 rfl 0; have k0 : w8.cell? ⟨w3.heap.size, 0, none⟩ = some (.int .i64 0) := hO8.cell 0 rfl 0 rfl; have f1 : w8.frozen? ⟨w3.heap.size, 1, none⟩ = false := hO8.frozen 0 rfl 1; have k1 : w8.cell? ⟨w3.heap.size, 1, none⟩ = some (.slice none 0 0) := hO8.cell 0 rfl 1 rfl; have f2 : w8.frozen? ⟨w3.heap.size, 2, none⟩ = false := hO8.frozen 0 rfl 2; have k2 : w8.cell? ⟨w3.heap.size, 2, none⟩ = some (.int .i64 0) := hO8.cell 0 rfl 2 rfl; have f3 : w8.frozen? ⟨w3.heap.size, 3, none⟩ = false := hO8.frozen 0 rfl 3; have k3 : w8.cell? ⟨w3.heap.size, 3, none⟩ = some (.slice none 0 0) := hO8.cell 0 rfl 3 rfl; have f4 : w8.frozen? ⟨w3.heap.size, 4, none⟩ = false := hO8.frozen 0 rfl 4; have k4 : w8.cell? ⟨w3.heap.size, 4, none⟩ = some (.slice none 0 0) := hO8.cell 0 rfl 4 rfl;  clear hO8 hx8))
  all_goals
    show K _ _
    exact hK _ _ _ _ _ _ _ _ _ _ _ HFIN
end Go.Proofs.YtaemjkfmbnhaoaaDoor
