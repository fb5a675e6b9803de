/- What the program's functions do, step by step: part F of the texts for this claim; no condition beyond what each theorem states. -/
import Derived.Deep.Matrix
import Derived.Lib.SmallJoins
import Derived.Deep.Slices
import Derived.Test.YtenafgphaceidaaDoorTreesBunA
import Derived.Test.YtenafgphaceidaaDoorTreesBunB
import Derived.Test.YtenafgphaceidaaDoorTreesBunC
import Derived.Test.YtenafgphaceidaaDoorTreesBunD
import Derived.Test.YtenafgphaceidaaDoorTreesBunE
/- THE DRAWN REGIONS of the law SumsTreesAreLeast that make memory. -/
namespace Go.Proofs.YtenafgphaceidaaDoor
open Go.RowKit
/-- A haul that lies in a block of the call's own. -/
abbrev haulRow (g : Nat) (a b c : Value) : LRow := ⟨.slice (some ⟨g, 0, none⟩) 3 3, 25, 1, 3, [a, b, c]⟩
abbrev haul0 (g : Nat) : LRow := haulRow g (.slice none 0 0) (.slice none 0 0) (.int .i64 0)
theorem ex_alloc {P : Program} {w w' : World} {a : Act} {o : Oper} {t : TypeId} {v : Value} (ho : o.op = .alloc t) (hr : (Instr.alloc t true (.tuple #[])).run P w = .ok v w') : (execOp a.eval o).run P w = .ok (.value v) w' := by
  unfold execOp
  simp only [ho, hr, Sem.run_bind, Sem.run_pure, Result.andThen_ok]
theorem run_build_none {P : Program} {t e : TypeId} {z : Value} {bytes : Nat} (ht : P.underlying t = some (.slice e)) (hi : (P.info? e).map (fun i => (i.zero, i.size, i.bytes)) = some (some z, 1, bytes)) (w : World) :
    (Instr.buildSlice t 0 #[]).run P w = .ok (.slice (some ⟨w.heap.size, 0, none⟩) 0 0) (w.alloc (.cells #[] e)) := by
  obtain ⟨i0, hi0, _, _, _⟩ := info_parts hi
  simp [Instr.buildSlice, run_underlying ht, sizeOf, typeInfo, hi0, Instr.fill]
  rw [show (Array.map (fun _ => (default : Value)) (Array.range 0)) = #[] from by apply Array.ext'; simp [Array.toList_range]]
  rfl
theorem InvO.skip {dsts : List (Option Nat)} {vals : List Value} {a0 a : Act} {L : Nat → Bool} (h : InvO dsts vals a0 L a) (i : Nat) (hd : dsts[i]? = some none) : InvO dsts vals a0 (upd L i) a := by
  refine ⟨h.inv.skip i hd, ?_⟩
  intro j t hj hL
  unfold upd at hL
  split at hL
  · cases hL
  · exact h.old j t hj hL
theorem ex_build0 {P : Program} {w : World} {a : Act} {o : Oper} {t e : TypeId} {z : Value} {bytes : Nat} (ho : o.op = .buildSlice t 0 #[]) (ht : P.underlying t = some (.slice e)) (hi : (P.info? e).map (fun i => (i.zero, i.size, i.bytes)) = some (some z, 1, bytes)) :
    (execOp a.eval o).run P w = .ok (.value (.slice (some ⟨w.heap.size, 0, none⟩) 0 0)) (w.alloc (.cells #[] e)) := by
  have hr := run_build_none (P := P) ht hi w
  unfold execOp
  simp only [ho, List.map_toArray, List.map_nil, hr, Sem.run_bind, Sem.run_pure, Result.andThen_ok]
theorem run_append_zero {P : Program} {t ty e : TypeId} {z : Value} {bytes : Nat} (ht : P.underlying t = some (.slice e)) (hi : (P.info? e).map (fun i => (i.zero, i.size, i.bytes)) = some (some z, 1, bytes)) (w : World) (b : Nat) (B : Option Addr) (c : Nat) :
    (Builtin.append_ #[t, t] ty #[.slice (some ⟨b, 0, none⟩) 0 0, .slice B 0 c]).run P w = .ok (.slice (some ⟨b, 0, none⟩) 0 0) w := by
  obtain ⟨i0, hi0, hiz, hi1, hi2⟩ := info_parts hi
  cases B <;> simp [Builtin.append_, run_underlying ht, sizeOf, typeInfo, hi0, hi1, Builtin.lenOf, Builtin.firstCells, loadCells, loadCellsFrom, storeCells, Result.andThen]
theorem run_append_copy {P : Program} {w0 w : World} {L : List LRow} (t ty e : TypeId) {z : Value} {bytes : Nat} (ht : P.underlying t = some (.slice e)) (hi : (P.info? e).map (fun i => (i.zero, i.size, i.bytes)) = some (some z, 1, bytes)) (hzs : z.cells.size = 1)
    (h : Owns w0 w L) (i : Nat) {b : Nat} (hL : L[i]? = some ⟨.slice (some ⟨b, 0, none⟩) 0 0, e, 1, 0, []⟩) {B : Option Addr} {m c : Nat} {news : List Value}
    (hl : news.length = m) (hrd : Rd w B news) (h1 : ∀ u ∈ news, u.oneCell' = true) (hm : m < 100000000000) (hb : bytes ≤ 100) :
    ∃ g cap w', (Builtin.append_ #[t, t] ty #[.slice (some ⟨b, 0, none⟩) 0 0, .slice B m c]).run P w = .ok (.slice (some ⟨g, 0, none⟩) m cap) w' ∧ Owns w0 w' (L.set i ⟨.slice (some ⟨g, 0, none⟩) m cap, e, 1, m, news⟩) := by
  by_cases h0 : m = 0
  · subst h0
    have hn : news = [] := List.length_eq_zero_iff.1 hl
    subst hn
    refine ⟨b, 0, w, run_append_zero (P := P) (ty := ty) ht hi w b B c, ?_⟩
    have e : L.set i ⟨.slice (some ⟨b, 0, none⟩) 0 0, e, 1, 0, []⟩ = L := by
      apply List.ext_getElem?
      intro j
      rw [List.getElem?_set]
      split
      · rename_i hij
        subst hij
        split
        · rw [hL]
        · rename_i hlt; rw [List.getElem?_eq_none (by omega)]
      · rfl
    rw [e]
    exact h
  · obtain ⟨ad, rfl, _, _⟩ := hrd.at (k := 0) (by omega)
    have hbb : (0 + m) * bytes ≤ (0 + m) * 100 := Nat.mul_le_mul_left _ hb
    obtain ⟨g, cap, w', hr, h2, _, _⟩ := run_append_owns (P := P) t ty e ht hi hzs (by decide) h i hL ad m c news (by omega) (fun j u hj => (hrd.all (List.getElem?_eq_some_iff.1 hj).1).trans (by rw [(List.getElem?_eq_some_iff.1 hj).2])) h1 (by omega) (by unfold maxLen; omega) (by omega)
    rw [Nat.zero_add] at hr h2
    exact ⟨g, cap, w', hr, h2⟩
theorem wpOp_append_copy {P : Program} {w0 w : World} {L : List LRow} {ops : Array Oper} {o : Oper} {a : Act} {Q : Exit → Act → World → Prop} {K : Act → World → Prop} {i0 : Nat} (hi0 : ops[i0]? = some o) (hg : o.guard = none) (t e : TypeId) {s x : Operand}
    (ho : o.op = .call { callee := .builtin .append, args := #[s, x], argTypes := #[t, t] })
    {z : Value} {bytes : Nat} (ht : P.underlying t = some (.slice e)) (hi : (P.info? e).map (fun i => (i.zero, i.size, i.bytes)) = some (some z, 1, bytes)) (hzs : z.cells.size = 1)
    (h : Owns w0 w L) (i : Nat) {b : Nat} (hL : L[i]? = some ⟨.slice (some ⟨b, 0, none⟩) 0 0, e, 1, 0, []⟩) (hs : a.eval s = .slice (some ⟨b, 0, none⟩) 0 0) {B : Option Addr} {m c : Nat} {news : List Value}
    (hx : a.eval x = .slice B m c) (hl : news.length = m) (hrd : Rd w B news) (h1 : ∀ u ∈ news, u.oneCell' = true) (hm : m < 100000000000) (hb : bytes ≤ 100)
    (hK : ∀ g cap w', Owns w0 w' (L.set i ⟨.slice (some ⟨g, 0, none⟩) m cap, e, 1, m, news⟩) → K (a.put o.dst (.slice (some ⟨g, 0, none⟩) m cap)) w') : wpOp P ops Q i0 K a w := by
  obtain ⟨g, cap, w', hr, h2⟩ := run_append_copy (P := P) t o.type e ht hi hzs h i hL (c := c) hl hrd h1 hm hb
  refine wpOp_value hi0 hg ?_ (hK g cap w' h2)
  unfold execOp
  simp only [ho, resolve, invoke, builtin, Sem.run_bind, Sem.run_pure, Result.andThen_ok, List.map_toArray, List.map_cons, List.map_nil, hs, hx, hr]
theorem one_ints2 {l : List Int} : ∀ u ∈ l.map (Value.int .i64), u.oneCell' = true := fun u hu => by
  obtain ⟨x, _, rfl⟩ := List.mem_map.1 hu
  rfl
noncomputable def lt_copies_code : Code := ((Tryd.f4.body.bind (regionOf 25)).getD .skip)
def lt_copies_dsts : List (Option Nat) := [some 147, some 148, some 20, some 21, none, none]
theorem lt_copies_apart : apartD lt_copies_dsts = true := by decide +kernel
set_option maxRecDepth 1000000 in
set_option maxHeartbeats 16000000 in
theorem lt_copies (W0 wr : World) (B n c m d : Nat) (A SA : Option Addr) (tg : Int) (h0 : W0.cell? ⟨B, 0, none⟩ = some (.slice A n c)) (h1 : W0.cell? ⟨B, 1, none⟩ = some (.slice SA m d)) (h2 : W0.cell? ⟨B, 2, none⟩ = some (.int .i64 tg)) (HOO : Hid (Owns W0 wr.drew [no, no, no, no, no])) (c0 c1 c2 c4 c5 c6 c7 c8 c9 c10 c11 c12 c13 c14 c15 c16 c17 c18 c19 c20 c21 c22 c23 c24 c25 c26 c27 c28 c29 c30 c31 c32 c33 c34 c35 c36 c37 c38 c39 c40 c41 c42 c43 c44 c45 c46 c47 c48 c49 c50 c51 c52 c53 c54 c55 c56 c57 c58 c59 c60 c61 c62 c63 c64 c65 c66 c67 c68 c69 c70 c71 c72 c73 c74 c75 c76 c77 c78 c79 c80 c81 c82 c83 c84 c85 c86 c87 c88 c89 c90 c91 c92 c93 c94 c95 c96 c97 c98 c99 c100 c101 c102 c103 c104 c105 c106 c107 c108 c109 c110 c111 c112 c113 c114 c115 c116 c117 c118 c119 c120 c121 c122 c123 c124 c125 c126 c127 c128 c129 c130 c131 c132 c133 c134 c135 c136 c137 c138 c139 c140 c141 c142 c143 c144 c145 c146 c147 c148 c149 c150 c151 c152 c153 c154 c155 c156 c157 c158 c159 c160 c161 c162 c163 c164 c165 c166 c167 c168 c169 c170 c171 c172 c173 c174 c175 c176 c177 c178 c179 c180 c181 c182 c183 c184 c185 c186 c187 c188 c189 c190 c191 c192 c193 c194 c195 c196 c197 c198 c199 c200 c201 c202 c203 c204 c205 c206 c207 c208 c209 c210 c211 c212 c213 c214 c215 c216 c217 c218 c219 c220 c221 c222 c223 c224 c225 c226 c227 c228 c229 c230 c231 c232 c233 c234 c235 c236 c237 c238 c239 c240 c241 c242 c243 c244 c245 c246 c247 c248 c249 c250 c251 c252 c253 c254 : Value) (df : List Deferred) (K : Act → World → Prop)
    (hK : ∀ (g20 g21 : Nat) (u147 u148 : Value) (wx : World), Owns W0 wx [haulRow g20 (.slice A n c) (.slice SA m d) (.int .i64 tg), haulRow g21 (.slice A n c) (.slice SA m d) (.int .i64 tg), no, no, no] → K ⟨#[c0, c1, c2, .pointer (some ⟨B, 0, none⟩), c4, c5, c6, c7, c8, c9, c10, c11, c12, c13, c14, c15, c16, c17, c18, c19, .pointer (some ⟨g20, 0, none⟩), .pointer (some ⟨g21, 0, none⟩), c22, c23, c24, c25, c26, c27, c28, c29, c30, c31, c32, c33, c34, c35, c36, c37, c38, c39, c40, c41, c42, c43, c44, c45, c46, c47, c48, c49, c50, c51, c52, c53, c54, c55, c56, c57, c58, c59, c60, c61, c62, c63, c64, c65, c66, c67, c68, c69, c70, c71, c72, c73, c74, c75, c76, c77, c78, c79, c80, c81, c82, c83, c84, c85, c86, c87, c88, c89, c90, c91, c92, c93, c94, c95, c96, c97, c98, c99, c100, c101, c102, c103, c104, c105, c106, c107, c108, c109, c110, c111, c112, c113, c114, c115, c116, c117, c118, c119, c120, c121, c122, c123, c124, c125, c126, c127, c128, c129, c130, c131, c132, c133, c134, c135, c136, c137, c138, c139, c140, c141, c142, c143, c144, c145, c146, u147, u148, c149, c150, c151, c152, c153, c154, c155, c156, c157, c158, c159, c160, c161, c162, c163, c164, c165, c166, c167, c168, c169, c170, c171, c172, c173, c174, c175, c176, c177, c178, c179, c180, c181, c182, c183, c184, c185, c186, c187, c188, c189, c190, c191, c192, c193, c194, c195, c196, c197, c198, c199, c200, c201, c202, c203, c204, c205, c206, c207, c208, c209, c210, c211, c212, c213, c214, c215, c216, c217, c218, c219, c220, c221, c222, c223, c224, c225, c226, c227, c228, c229, c230, c231, c232, c233, c234, c235, c236, c237, c238, c239, c240, c241, c242, c243, c244, c245, c246, c247, c248, c249, c250, c251, c252, c253, c254], df⟩ wx) :
    Code.wp Tryd.prog lt_copies_code (AtEnd K) ⟨#[c0, c1, c2, .pointer (some ⟨B, 0, none⟩), c4, c5, c6, c7, c8, c9, c10, c11, c12, c13, c14, c15, c16, c17, c18, c19, c20, c21, c22, c23, c24, c25, c26, c27, c28, c29, c30, c31, c32, c33, c34, c35, c36, c37, c38, c39, c40, c41, c42, c43, c44, c45, c46, c47, c48, c49, c50, c51, c52, c53, c54, c55, c56, c57, c58, c59, c60, c61, c62, c63, c64, c65, c66, c67, c68, c69, c70, c71, c72, c73, c74, c75, c76, c77, c78, c79, c80, c81, c82, c83, c84, c85, c86, c87, c88, c89, c90, c91, c92, c93, c94, c95, c96, c97, c98, c99, c100, c101, c102, c103, c104, c105, c106, c107, c108, c109, c110, c111, c112, c113, c114, c115, c116, c117, c118, c119, c120, c121, c122, c123, c124, c125, c126, c127, c128, c129, c130, c131, c132, c133, c134, c135, c136, c137, c138, c139, c140, c141, c142, c143, c144, c145, c146, c147, c148, c149, c150, c151, c152, c153, c154, c155, c156, c157, c158, c159, c160, c161, c162, c163, c164, c165, c166, c167, c168, c169, c170, c171, c172, c173, c174, c175, c176, c177, c178, c179, c180, c181, c182, c183, c184, c185, c186, c187, c188, c189, c190, c191, c192, c193, c194, c195, c196, c197, c198, c199, c200, c201, c202, c203, c204, c205, c206, c207, c208, c209, c210, c211, c212, c213, c214, c215, c216, c217, c218, c219, c220, c221, c222, c223, c224, c225, c226, c227, c228, c229, c230, c231, c232, c233, c234, c235, c236, c237, c238, c239, c240, c241, c242, c243, c244, c245, c246, c247, c248, c249, c250, c251, c252, c253, c254], df⟩ wr := by
  conv => arg 2; whnf
  refine region_inv (by kernel_rfl) [[], [], [], [], [2, 0, 0, 2, 3], [3, 1, 4, 0, 1, 2, 3, 4]] (by kernel_rfl) [0, 1, 2, 3, 4, 5] (by decide +kernel) (by decide +kernel) (by decide +kernel) (fun L a wc => ∃ (g20 : Nat) (g21 : Nat), InvO lt_copies_dsts [.agg #[.slice A n c, .slice SA m d, .int .i64 tg], .agg #[.slice A n c, .slice SA m d, .int .i64 tg], .pointer (some ⟨g20, 0, none⟩), .pointer (some ⟨g21, 0, none⟩), undef, undef] ⟨#[c0, c1, c2, .pointer (some ⟨B, 0, none⟩), c4, c5, c6, c7, c8, c9, c10, c11, c12, c13, c14, c15, c16, c17, c18, c19, c20, c21, c22, c23, c24, c25, c26, c27, c28, c29, c30, c31, c32, c33, c34, c35, c36, c37, c38, c39, c40, c41, c42, c43, c44, c45, c46, c47, c48, c49, c50, c51, c52, c53, c54, c55, c56, c57, c58, c59, c60, c61, c62, c63, c64, c65, c66, c67, c68, c69, c70, c71, c72, c73, c74, c75, c76, c77, c78, c79, c80, c81, c82, c83, c84, c85, c86, c87, c88, c89, c90, c91, c92, c93, c94, c95, c96, c97, c98, c99, c100, c101, c102, c103, c104, c105, c106, c107, c108, c109, c110, c111, c112, c113, c114, c115, c116, c117, c118, c119, c120, c121, c122, c123, c124, c125, c126, c127, c128, c129, c130, c131, c132, c133, c134, c135, c136, c137, c138, c139, c140, c141, c142, c143, c144, c145, c146, c147, c148, c149, c150, c151, c152, c153, c154, c155, c156, c157, c158, c159, c160, c161, c162, c163, c164, c165, c166, c167, c168, c169, c170, c171, c172, c173, c174, c175, c176, c177, c178, c179, c180, c181, c182, c183, c184, c185, c186, c187, c188, c189, c190, c191, c192, c193, c194, c195, c196, c197, c198, c199, c200, c201, c202, c203, c204, c205, c206, c207, c208, c209, c210, c211, c212, c213, c214, c215, c216, c217, c218, c219, c220, c221, c222, c223, c224, c225, c226, c227, c228, c229, c230, c231, c232, c233, c234, c235, c236, c237, c238, c239, c240, c241, c242, c243, c244, c245, c246, c247, c248, c249, c250, c251, c252, c253, c254], df⟩ L a ∧ Hid (Owns W0 wc (if L 4 = true then [haulRow g20 (.slice A n c) (.slice SA m d) (.int .i64 tg), (if L 5 = true then haulRow g21 (.slice A n c) (.slice SA m d) (.int .i64 tg) else haul0 g21), no, no, no] else [(if L 2 = true then haul0 g20 else no), (if L 3 = true then haul0 g21 else no), no, no, no]))) ⟨0, 0, InvO.start, HOO⟩ ?_ ?_
  · refine ⟨?_, ?_, ?_, ?_, ?_, ?_, trivial⟩
    · -- 0 load
      rintro L a wc ⟨g20, g21, hv, HO⟩ hL hc hd
      have e0 : wc.cell? ⟨B, 0, none⟩ = some (.slice A n c) := HO.out.ext.cell h0
      have e1 : wc.cell? ⟨B, 1, none⟩ = some (.slice SA m d) := HO.out.ext.cell h1
      have e2 : wc.cell? ⟨B, 2, none⟩ = some (.int .i64 tg) := HO.out.ext.cell h2
      exact wpOp_val rfl rfl (ex_load rfl ((hv.fixed 3 (by decide)).trans rfl) (by go_simp)) ⟨g20, g21, hv.put lt_copies_apart 0 rfl (Nat.le_of_ble_eq_true rfl) (Nat.le_of_ble_eq_true rfl) rfl, HO⟩
    · -- 1 load
      rintro L a wc ⟨g20, g21, hv, HO⟩ hL hc hd
      have e0 : wc.cell? ⟨B, 0, none⟩ = some (.slice A n c) := HO.out.ext.cell h0
      have e1 : wc.cell? ⟨B, 1, none⟩ = some (.slice SA m d) := HO.out.ext.cell h1
      have e2 : wc.cell? ⟨B, 2, none⟩ = some (.int .i64 tg) := HO.out.ext.cell h2
      exact wpOp_val rfl rfl (ex_load rfl ((hv.fixed 3 (by decide)).trans rfl) (by go_simp)) ⟨g20, g21, hv.put lt_copies_apart 1 rfl (Nat.le_of_ble_eq_true rfl) (Nat.le_of_ble_eq_true rfl) rfl, HO⟩
    · -- 2 lines
      rintro L a wc ⟨g20, g21, hv, HO⟩ hL hc hd
      have n4 : L 4 = false := Bool.eq_false_iff.2 fun h => Bool.false_ne_true (hL.symm.trans (hc 4 h 2 (by decide)))
      have h := HO.out
      rw [if_neg (by simp [n4])] at h
      have hn := h.new 0 #[.slice none 0 0, .slice none 0 0, .int .i64 0] 25 (by simp [maxLen])
      have hA : (Instr.alloc 25 true (.tuple #[])).run Tryd.prog wc = .ok (.pointer (some ⟨wc.heap.size, 0, none⟩)) (wc.alloc (.cells #[.slice none 0 0, .slice none 0 0, .int .i64 0] 25)) := by go_simp
      exact wpOp_value rfl rfl (ex_alloc rfl hA) ⟨wc.heap.size, g21, hv.put lt_copies_apart 2 rfl (Nat.le_of_ble_eq_true rfl) (Nat.le_of_ble_eq_true rfl) rfl, Lib.hid (by rw [if_neg (by simp [upd, n4])]; exact hn)⟩
    · -- 3 lines
      rintro L a wc ⟨g20, g21, hv, HO⟩ hL hc hd
      have n4 : L 4 = false := Bool.eq_false_iff.2 fun h => Bool.false_ne_true (hL.symm.trans (hc 4 h 3 (by decide)))
      have h := HO.out
      rw [if_neg (by simp [n4])] at h
      have hn := h.new 1 #[.slice none 0 0, .slice none 0 0, .int .i64 0] 25 (by simp [maxLen])
      have hA : (Instr.alloc 25 true (.tuple #[])).run Tryd.prog wc = .ok (.pointer (some ⟨wc.heap.size, 0, none⟩)) (wc.alloc (.cells #[.slice none 0 0, .slice none 0 0, .int .i64 0] 25)) := by go_simp
      exact wpOp_value rfl rfl (ex_alloc rfl hA) ⟨g20, wc.heap.size, hv.put lt_copies_apart 3 rfl (Nat.le_of_ble_eq_true rfl) (Nat.le_of_ble_eq_true rfl) rfl, Lib.hid (by rw [if_neg (by simp [upd, n4])]; exact hn)⟩
    · -- 4 store
      rintro L a wc ⟨g20, g21, hv, HO⟩ hL hc hd
      have h2' : L 2 = true := hd 2 (by decide)
      have h3' : L 3 = true := hd 3 (by decide)
      have n5 : L 5 = false := Bool.eq_false_iff.2 fun h => Bool.false_ne_true (hL.symm.trans (hc 5 h 4 (by decide)))
      have hO := HO.out
      rw [if_neg (by simp [hL]), if_pos h2', if_pos h3'] at hO
      have k0 := hO.cell 0 rfl 0 rfl
      have q0 := hO.frozen 0 rfl 0
      have k1 := hO.cell 0 rfl 1 rfl
      have q1 := hO.frozen 0 rfl 1
      have k2 := hO.cell 0 rfl 2 rfl
      have q2 := hO.frozen 0 rfl 2
      have hS : Owns W0 (((wc.setCell ⟨g20, 0, none⟩ (.slice A n c)).setCell ⟨g20, 1, none⟩ (.slice SA m d)).setCell ⟨g20, 2, none⟩ (.int .i64 tg)) (if upd L 4 4 = true then [haulRow g20 (.slice A n c) (.slice SA m d) (.int .i64 tg), (if upd L 4 5 = true then haulRow g21 (.slice A n c) (.slice SA m d) (.int .i64 tg) else haul0 g21), no, no, no] else [(if upd L 4 2 = true then haul0 g20 else no), (if upd L 4 3 = true then haul0 g21 else no), no, no, no]) := by rw [if_pos (by simp [upd]), if_neg (by simp [upd, n5])]; exact ((hO.store 0 rfl 0 (.slice A n c)).store 0 rfl 1 (.slice SA m d)).store 0 rfl 2 (.int .i64 tg)
      exact wpOp_skip rfl rfl rfl (ex_store rfl (hv.get 2 rfl rfl (hd 2 (by decide))) (hv.get 0 rfl rfl (hd 0 (by decide))) (by go_simp)) ⟨g20, g21, hv.skip 4 rfl, (Lib.hid hS)⟩
    · -- 5 store
      rintro L a wc ⟨g20, g21, hv, HO⟩ hL hc hd
      have h4' : L 4 = true := hd 4 (by decide)
      have hO := HO.out
      rw [if_pos h4', if_neg (by simp [hL])] at hO
      have k0 := hO.cell 1 rfl 0 rfl
      have q0 := hO.frozen 1 rfl 0
      have k1 := hO.cell 1 rfl 1 rfl
      have q1 := hO.frozen 1 rfl 1
      have k2 := hO.cell 1 rfl 2 rfl
      have q2 := hO.frozen 1 rfl 2
      have hS : Owns W0 (((wc.setCell ⟨g21, 0, none⟩ (.slice A n c)).setCell ⟨g21, 1, none⟩ (.slice SA m d)).setCell ⟨g21, 2, none⟩ (.int .i64 tg)) (if upd L 5 4 = true then [haulRow g20 (.slice A n c) (.slice SA m d) (.int .i64 tg), (if upd L 5 5 = true then haulRow g21 (.slice A n c) (.slice SA m d) (.int .i64 tg) else haul0 g21), no, no, no] else [(if upd L 5 2 = true then haul0 g20 else no), (if upd L 5 3 = true then haul0 g21 else no), no, no, no]) := by rw [if_pos (by simp [upd, h4']), if_pos (by simp [upd])]; exact ((hO.store 1 rfl 0 (.slice A n c)).store 1 rfl 1 (.slice SA m d)).store 1 rfl 2 (.int .i64 tg)
      exact wpOp_skip rfl rfl rfl (ex_store rfl (hv.get 3 rfl rfl (hd 3 (by decide))) (hv.get 1 rfl rfl (hd 1 (by decide))) (by go_simp)) ⟨g20, g21, hv.skip 5 rfl, (Lib.hid hS)⟩
  · rintro L a wc ⟨g20, g21, hv, HO⟩ hall
    show K a wc
    have ha := act_lit a
    rw [hv.size, hv.defers] at ha
    have hl : ∀ f : Nat → Value, ((List.range (⟨#[c0, c1, c2, .pointer (some ⟨B, 0, none⟩), c4, c5, c6, c7, c8, c9, c10, c11, c12, c13, c14, c15, c16, c17, c18, c19, c20, c21, c22, c23, c24, c25, c26, c27, c28, c29, c30, c31, c32, c33, c34, c35, c36, c37, c38, c39, c40, c41, c42, c43, c44, c45, c46, c47, c48, c49, c50, c51, c52, c53, c54, c55, c56, c57, c58, c59, c60, c61, c62, c63, c64, c65, c66, c67, c68, c69, c70, c71, c72, c73, c74, c75, c76, c77, c78, c79, c80, c81, c82, c83, c84, c85, c86, c87, c88, c89, c90, c91, c92, c93, c94, c95, c96, c97, c98, c99, c100, c101, c102, c103, c104, c105, c106, c107, c108, c109, c110, c111, c112, c113, c114, c115, c116, c117, c118, c119, c120, c121, c122, c123, c124, c125, c126, c127, c128, c129, c130, c131, c132, c133, c134, c135, c136, c137, c138, c139, c140, c141, c142, c143, c144, c145, c146, c147, c148, c149, c150, c151, c152, c153, c154, c155, c156, c157, c158, c159, c160, c161, c162, c163, c164, c165, c166, c167, c168, c169, c170, c171, c172, c173, c174, c175, c176, c177, c178, c179, c180, c181, c182, c183, c184, c185, c186, c187, c188, c189, c190, c191, c192, c193, c194, c195, c196, c197, c198, c199, c200, c201, c202, c203, c204, c205, c206, c207, c208, c209, c210, c211, c212, c213, c214, c215, c216, c217, c218, c219, c220, c221, c222, c223, c224, c225, c226, c227, c228, c229, c230, c231, c232, c233, c234, c235, c236, c237, c238, c239, c240, c241, c242, c243, c244, c245, c246, c247, c248, c249, c250, c251, c252, c253, c254], df⟩ : Act).tmps.size).map f).toArray = #[f 0, f 1, f 2, f 3, f 4, f 5, f 6, f 7, f 8, f 9, f 10, f 11, f 12, f 13, f 14, f 15, f 16, f 17, f 18, f 19, f 20, f 21, f 22, f 23, f 24, f 25, f 26, f 27, f 28, f 29, f 30, f 31, f 32, f 33, f 34, f 35, f 36, f 37, f 38, f 39, f 40, f 41, f 42, f 43, f 44, f 45, f 46, f 47, f 48, f 49, f 50, f 51, f 52, f 53, f 54, f 55, f 56, f 57, f 58, f 59, f 60, f 61, f 62, f 63, f 64, f 65, f 66, f 67, f 68, f 69, f 70, f 71, f 72, f 73, f 74, f 75, f 76, f 77, f 78, f 79, f 80, f 81, f 82, f 83, f 84, f 85, f 86, f 87, f 88, f 89, f 90, f 91, f 92, f 93, f 94, f 95, f 96, f 97, f 98, f 99, f 100, f 101, f 102, f 103, f 104, f 105, f 106, f 107, f 108, f 109, f 110, f 111, f 112, f 113, f 114, f 115, f 116, f 117, f 118, f 119, f 120, f 121, f 122, f 123, f 124, f 125, f 126, f 127, f 128, f 129, f 130, f 131, f 132, f 133, f 134, f 135, f 136, f 137, f 138, f 139, f 140, f 141, f 142, f 143, f 144, f 145, f 146, f 147, f 148, f 149, f 150, f 151, f 152, f 153, f 154, f 155, f 156, f 157, f 158, f 159, f 160, f 161, f 162, f 163, f 164, f 165, f 166, f 167, f 168, f 169, f 170, f 171, f 172, f 173, f 174, f 175, f 176, f 177, f 178, f 179, f 180, f 181, f 182, f 183, f 184, f 185, f 186, f 187, f 188, f 189, f 190, f 191, f 192, f 193, f 194, f 195, f 196, f 197, f 198, f 199, f 200, f 201, f 202, f 203, f 204, f 205, f 206, f 207, f 208, f 209, f 210, f 211, f 212, f 213, f 214, f 215, f 216, f 217, f 218, f 219, f 220, f 221, f 222, f 223, f 224, f 225, f 226, f 227, f 228, f 229, f 230, f 231, f 232, f 233, f 234, f 235, f 236, f 237, f 238, f 239, f 240, f 241, f 242, f 243, f 244, f 245, f 246, f 247, f 248, f 249, f 250, f 251, f 252, f 253, f 254] := fun _ => rfl
    rw [hl] at ha
    simp only [hv.fixed 0 (by decide), hv.fixed 1 (by decide), hv.fixed 2 (by decide), hv.fixed 3 (by decide), hv.fixed 4 (by decide), hv.fixed 5 (by decide), hv.fixed 6 (by decide), hv.fixed 7 (by decide), hv.fixed 8 (by decide), hv.fixed 9 (by decide), hv.fixed 10 (by decide), hv.fixed 11 (by decide), hv.fixed 12 (by decide), hv.fixed 13 (by decide), hv.fixed 14 (by decide), hv.fixed 15 (by decide), hv.fixed 16 (by decide), hv.fixed 17 (by decide), hv.fixed 18 (by decide), hv.fixed 19 (by decide), hv.fixed 22 (by decide), hv.fixed 23 (by decide), hv.fixed 24 (by decide), hv.fixed 25 (by decide), hv.fixed 26 (by decide), hv.fixed 27 (by decide), hv.fixed 28 (by decide), hv.fixed 29 (by decide), hv.fixed 30 (by decide), hv.fixed 31 (by decide), hv.fixed 32 (by decide), hv.fixed 33 (by decide), hv.fixed 34 (by decide), hv.fixed 35 (by decide), hv.fixed 36 (by decide), hv.fixed 37 (by decide), hv.fixed 38 (by decide), hv.fixed 39 (by decide), hv.fixed 40 (by decide), hv.fixed 41 (by decide), hv.fixed 42 (by decide), hv.fixed 43 (by decide), hv.fixed 44 (by decide), hv.fixed 45 (by decide), hv.fixed 46 (by decide), hv.fixed 47 (by decide), hv.fixed 48 (by decide), hv.fixed 49 (by decide), hv.fixed 50 (by decide), hv.fixed 51 (by decide), hv.fixed 52 (by decide), hv.fixed 53 (by decide), hv.fixed 54 (by decide), hv.fixed 55 (by decide), hv.fixed 56 (by decide), hv.fixed 57 (by decide), hv.fixed 58 (by decide), hv.fixed 59 (by decide), hv.fixed 60 (by decide), hv.fixed 61 (by decide), hv.fixed 62 (by decide), hv.fixed 63 (by decide), hv.fixed 64 (by decide), hv.fixed 65 (by decide), hv.fixed 66 (by decide), hv.fixed 67 (by decide), hv.fixed 68 (by decide), hv.fixed 69 (by decide), hv.fixed 70 (by decide), hv.fixed 71 (by decide), hv.fixed 72 (by decide), hv.fixed 73 (by decide), hv.fixed 74 (by decide), hv.fixed 75 (by decide), hv.fixed 76 (by decide), hv.fixed 77 (by decide), hv.fixed 78 (by decide), hv.fixed 79 (by decide), hv.fixed 80 (by decide), hv.fixed 81 (by decide), hv.fixed 82 (by decide), hv.fixed 83 (by decide), hv.fixed 84 (by decide), hv.fixed 85 (by decide), hv.fixed 86 (by decide), hv.fixed 87 (by decide), hv.fixed 88 (by decide), hv.fixed 89 (by decide), hv.fixed 90 (by decide), hv.fixed 91 (by decide), hv.fixed 92 (by decide), hv.fixed 93 (by decide), hv.fixed 94 (by decide), hv.fixed 95 (by decide), hv.fixed 96 (by decide), hv.fixed 97 (by decide), hv.fixed 98 (by decide), hv.fixed 99 (by decide), hv.fixed 100 (by decide), hv.fixed 101 (by decide), hv.fixed 102 (by decide), hv.fixed 103 (by decide), hv.fixed 104 (by decide), hv.fixed 105 (by decide), hv.fixed 106 (by decide), hv.fixed 107 (by decide), hv.fixed 108 (by decide), hv.fixed 109 (by decide), hv.fixed 110 (by decide), hv.fixed 111 (by decide), hv.fixed 112 (by decide), hv.fixed 113 (by decide), hv.fixed 114 (by decide), hv.fixed 115 (by decide), hv.fixed 116 (by decide), hv.fixed 117 (by decide), hv.fixed 118 (by decide), hv.fixed 119 (by decide), hv.fixed 120 (by decide), hv.fixed 121 (by decide), hv.fixed 122 (by decide), hv.fixed 123 (by decide), hv.fixed 124 (by decide), hv.fixed 125 (by decide), hv.fixed 126 (by decide), hv.fixed 127 (by decide), hv.fixed 128 (by decide), hv.fixed 129 (by decide), hv.fixed 130 (by decide), hv.fixed 131 (by decide), hv.fixed 132 (by decide), hv.fixed 133 (by decide), hv.fixed 134 (by decide), hv.fixed 135 (by decide), hv.fixed 136 (by decide), hv.fixed 137 (by decide), hv.fixed 138 (by decide), hv.fixed 139 (by decide), hv.fixed 140 (by decide), hv.fixed 141 (by decide), hv.fixed 142 (by decide), hv.fixed 143 (by decide), hv.fixed 144 (by decide), hv.fixed 145 (by decide), hv.fixed 146 (by decide), hv.fixed 149 (by decide), hv.fixed 150 (by decide), hv.fixed 151 (by decide), hv.fixed 152 (by decide), hv.fixed 153 (by decide), hv.fixed 154 (by decide), hv.fixed 155 (by decide), hv.fixed 156 (by decide), hv.fixed 157 (by decide), hv.fixed 158 (by decide), hv.fixed 159 (by decide), hv.fixed 160 (by decide), hv.fixed 161 (by decide), hv.fixed 162 (by decide), hv.fixed 163 (by decide), hv.fixed 164 (by decide), hv.fixed 165 (by decide), hv.fixed 166 (by decide), hv.fixed 167 (by decide), hv.fixed 168 (by decide), hv.fixed 169 (by decide), hv.fixed 170 (by decide), hv.fixed 171 (by decide), hv.fixed 172 (by decide), hv.fixed 173 (by decide), hv.fixed 174 (by decide), hv.fixed 175 (by decide), hv.fixed 176 (by decide), hv.fixed 177 (by decide), hv.fixed 178 (by decide), hv.fixed 179 (by decide), hv.fixed 180 (by decide), hv.fixed 181 (by decide), hv.fixed 182 (by decide), hv.fixed 183 (by decide), hv.fixed 184 (by decide), hv.fixed 185 (by decide), hv.fixed 186 (by decide), hv.fixed 187 (by decide), hv.fixed 188 (by decide), hv.fixed 189 (by decide), hv.fixed 190 (by decide), hv.fixed 191 (by decide), hv.fixed 192 (by decide), hv.fixed 193 (by decide), hv.fixed 194 (by decide), hv.fixed 195 (by decide), hv.fixed 196 (by decide), hv.fixed 197 (by decide), hv.fixed 198 (by decide), hv.fixed 199 (by decide), hv.fixed 200 (by decide), hv.fixed 201 (by decide), hv.fixed 202 (by decide), hv.fixed 203 (by decide), hv.fixed 204 (by decide), hv.fixed 205 (by decide), hv.fixed 206 (by decide), hv.fixed 207 (by decide), hv.fixed 208 (by decide), hv.fixed 209 (by decide), hv.fixed 210 (by decide), hv.fixed 211 (by decide), hv.fixed 212 (by decide), hv.fixed 213 (by decide), hv.fixed 214 (by decide), hv.fixed 215 (by decide), hv.fixed 216 (by decide), hv.fixed 217 (by decide), hv.fixed 218 (by decide), hv.fixed 219 (by decide), hv.fixed 220 (by decide), hv.fixed 221 (by decide), hv.fixed 222 (by decide), hv.fixed 223 (by decide), hv.fixed 224 (by decide), hv.fixed 225 (by decide), hv.fixed 226 (by decide), hv.fixed 227 (by decide), hv.fixed 228 (by decide), hv.fixed 229 (by decide), hv.fixed 230 (by decide), hv.fixed 231 (by decide), hv.fixed 232 (by decide), hv.fixed 233 (by decide), hv.fixed 234 (by decide), hv.fixed 235 (by decide), hv.fixed 236 (by decide), hv.fixed 237 (by decide), hv.fixed 238 (by decide), hv.fixed 239 (by decide), hv.fixed 240 (by decide), hv.fixed 241 (by decide), hv.fixed 242 (by decide), hv.fixed 243 (by decide), hv.fixed 244 (by decide), hv.fixed 245 (by decide), hv.fixed 246 (by decide), hv.fixed 247 (by decide), hv.fixed 248 (by decide), hv.fixed 249 (by decide), hv.fixed 250 (by decide), hv.fixed 251 (by decide), hv.fixed 252 (by decide), hv.fixed 253 (by decide), hv.fixed 254 (by decide), hv.get 2 (d := 20) rfl rfl (hall 2 (by decide)), hv.get 3 (d := 21) rfl rfl (hall 3 (by decide))] at ha
    rw [ha]
    have hO := HO.out
    rw [if_pos (hall 4 (by decide)), if_pos (hall 5 (by decide))] at hO
    exact hK g20 g21 _ _ wc hO
noncomputable def lt_wide_code : Code := ((Tryd.f4.body.bind (regionOf 26)).getD .skip)
def lt_wide_dsts : List (Option Nat) := [some 149, some 150, some 151, some 152, some 153, some 154, some 155, some 156, some 157, some 158, some 159, some 160, some 161, some 162, none]
theorem lt_wide_apart : apartD lt_wide_dsts = true := by decide +kernel
set_option maxRecDepth 1000000 in
set_option maxHeartbeats 16000000 in
theorem lt_wide (W0 wr : World) (B BM g20 n c m d : Nat) (A SA : Option Addr) (tg x0 : Int) (src : List Int) (dr : LRow) (hsl : src.length = m) (hm8 : m ≤ 8) (hx0 : 0 ≤ x0) (hx1 : x0 ≤ 255) (hn0 : 0 < n) (hn1 : n ≤ 12) (h0 : W0.cell? ⟨B, 0, none⟩ = some (.slice A n c)) (h1 : W0.cell? ⟨B, 1, none⟩ = some (.slice SA m d)) (h2 : W0.cell? ⟨B, 2, none⟩ = some (.int .i64 tg)) (hm0 : W0.cell? ⟨BM, 0, none⟩ = some (.int .u8 x0)) (HRD : Hid (Rd W0 SA (src.map (Value.int .i64)))) (HOO : Hid (Owns W0 wr.drew [haulRow g20 (.slice A n c) (.slice SA m d) (.int .i64 tg), dr, no, no, no])) (c0 c1 c2 c4 c6 c7 c8 c9 c10 c11 c12 c13 c14 c15 c16 c17 c18 c19 c21 c22 c23 c24 c25 c26 c27 c28 c29 c30 c31 c32 c33 c34 c35 c36 c37 c38 c39 c40 c41 c42 c43 c44 c45 c46 c47 c48 c49 c50 c51 c52 c53 c54 c55 c56 c57 c58 c59 c60 c61 c62 c63 c64 c65 c66 c67 c68 c69 c70 c71 c72 c73 c74 c75 c76 c77 c78 c79 c80 c81 c82 c83 c84 c85 c86 c87 c88 c89 c90 c91 c92 c93 c94 c95 c96 c97 c98 c99 c100 c101 c102 c103 c104 c105 c106 c107 c108 c109 c110 c111 c112 c113 c114 c115 c116 c117 c118 c119 c120 c121 c122 c123 c124 c125 c126 c127 c128 c129 c130 c131 c132 c133 c134 c135 c136 c137 c138 c139 c140 c141 c142 c143 c144 c145 c146 c147 c148 c149 c150 c151 c152 c153 c154 c155 c156 c157 c158 c159 c160 c161 c162 c163 c164 c165 c166 c167 c168 c169 c170 c171 c172 c173 c174 c175 c176 c177 c178 c179 c180 c181 c182 c183 c184 c185 c186 c187 c188 c189 c190 c191 c192 c193 c194 c195 c196 c197 c198 c199 c200 c201 c202 c203 c204 c205 c206 c207 c208 c209 c210 c211 c212 c213 c214 c215 c216 c217 c218 c219 c220 c221 c222 c223 c224 c225 c226 c227 c228 c229 c230 c231 c232 c233 c234 c235 c236 c237 c238 c239 c240 c241 c242 c243 c244 c245 c246 c247 c248 c249 c250 c251 c252 c253 c254 : Value) (df : List Deferred) (K : Act → World → Prop)
    (hK : ∀ (g2 cB : Nat) (u149 u150 u151 u152 u153 u154 u155 u156 u157 u158 u159 u160 u161 u162 : Value) (wx : World), Owns W0 wx [haulRow g20 (.slice A n c) (.slice (some ⟨g2, 0, none⟩) (m + 1) cB) (.int .i64 tg), dr, ⟨.slice (some ⟨g2, 0, none⟩) (m + 1) cB, 3, 1, m + 1, (src.map (Value.int .i64)) ++ [.int .i64 (Int.tmod x0 (n : Int))]⟩, no, no] → K ⟨#[c0, c1, c2, .pointer (some ⟨B, 0, none⟩), c4, .pointer (some ⟨BM, 0, none⟩), c6, c7, c8, c9, c10, c11, c12, c13, c14, c15, c16, c17, c18, c19, .pointer (some ⟨g20, 0, none⟩), c21, c22, c23, c24, c25, c26, c27, c28, c29, c30, c31, c32, c33, c34, c35, c36, c37, c38, c39, c40, c41, c42, c43, c44, c45, c46, c47, c48, c49, c50, c51, c52, c53, c54, c55, c56, c57, c58, c59, c60, c61, c62, c63, c64, c65, c66, c67, c68, c69, c70, c71, c72, c73, c74, c75, c76, c77, c78, c79, c80, c81, c82, c83, c84, c85, c86, c87, c88, c89, c90, c91, c92, c93, c94, c95, c96, c97, c98, c99, c100, c101, c102, c103, c104, c105, c106, c107, c108, c109, c110, c111, c112, c113, c114, c115, c116, c117, c118, c119, c120, c121, c122, c123, c124, c125, c126, c127, c128, c129, c130, c131, c132, c133, c134, c135, c136, c137, c138, c139, c140, c141, c142, c143, c144, c145, c146, c147, c148, u149, u150, u151, u152, u153, u154, u155, u156, u157, u158, u159, u160, u161, u162, c163, c164, c165, c166, c167, c168, c169, c170, c171, c172, c173, c174, c175, c176, c177, c178, c179, c180, c181, c182, c183, c184, c185, c186, c187, c188, c189, c190, c191, c192, c193, c194, c195, c196, c197, c198, c199, c200, c201, c202, c203, c204, c205, c206, c207, c208, c209, c210, c211, c212, c213, c214, c215, c216, c217, c218, c219, c220, c221, c222, c223, c224, c225, c226, c227, c228, c229, c230, c231, c232, c233, c234, c235, c236, c237, c238, c239, c240, c241, c242, c243, c244, c245, c246, c247, c248, c249, c250, c251, c252, c253, c254], df⟩ wx) :
    Code.wp Tryd.prog lt_wide_code (AtEnd K) ⟨#[c0, c1, c2, .pointer (some ⟨B, 0, none⟩), c4, .pointer (some ⟨BM, 0, none⟩), c6, c7, c8, c9, c10, c11, c12, c13, c14, c15, c16, c17, c18, c19, .pointer (some ⟨g20, 0, none⟩), c21, c22, c23, c24, c25, c26, c27, c28, c29, c30, c31, c32, c33, c34, c35, c36, c37, c38, c39, c40, c41, c42, c43, c44, c45, c46, c47, c48, c49, c50, c51, c52, c53, c54, c55, c56, c57, c58, c59, c60, c61, c62, c63, c64, c65, c66, c67, c68, c69, c70, c71, c72, c73, c74, c75, c76, c77, c78, c79, c80, c81, c82, c83, c84, c85, c86, c87, c88, c89, c90, c91, c92, c93, c94, c95, c96, c97, c98, c99, c100, c101, c102, c103, c104, c105, c106, c107, c108, c109, c110, c111, c112, c113, c114, c115, c116, c117, c118, c119, c120, c121, c122, c123, c124, c125, c126, c127, c128, c129, c130, c131, c132, c133, c134, c135, c136, c137, c138, c139, c140, c141, c142, c143, c144, c145, c146, c147, c148, c149, c150, c151, c152, c153, c154, c155, c156, c157, c158, c159, c160, c161, c162, c163, c164, c165, c166, c167, c168, c169, c170, c171, c172, c173, c174, c175, c176, c177, c178, c179, c180, c181, c182, c183, c184, c185, c186, c187, c188, c189, c190, c191, c192, c193, c194, c195, c196, c197, c198, c199, c200, c201, c202, c203, c204, c205, c206, c207, c208, c209, c210, c211, c212, c213, c214, c215, c216, c217, c218, c219, c220, c221, c222, c223, c224, c225, c226, c227, c228, c229, c230, c231, c232, c233, c234, c235, c236, c237, c238, c239, c240, c241, c242, c243, c244, c245, c246, c247, c248, c249, c250, c251, c252, c253, c254], df⟩ wr := by
  conv => arg 2; whnf
  refine region_inv (by kernel_rfl) [[], [], [1], [0, 2], [], [4], [5], [], [7], [8], [6, 9], [10], [3, 11, 3], [0, 1, 2, 3, 4, 5, 6, 7, 8, 9, 10, 11, 12], [13, 12, 12, 0, 1, 2, 3, 4, 5, 6, 7, 8, 9, 10, 11, 12]] (by kernel_rfl) [0, 1, 2, 3, 4, 5, 6, 7, 8, 9, 10, 11, 12, 13, 14] (by decide +kernel) (by decide +kernel) (by decide +kernel) (fun L a wc => ∃ (gz : Nat) (g1 : Nat) (cA : Nat) (go : Nat) (g2 : Nat) (cB : Nat), InvO lt_wide_dsts [.slice (some ⟨gz, 0, none⟩) 0 0, .pointer (some ⟨B, 1, none⟩), .slice SA m d, .slice (some ⟨g1, 0, none⟩) m cA, .pointer (some ⟨BM, 0, none⟩), .int .u8 x0, .int .i64 x0, .pointer (some ⟨B, 0, none⟩), .slice A n c, .int .i64 (n : Nat), .int .i64 (Int.tmod x0 (n : Int)), .slice (some ⟨go, 0, none⟩) 1 1, .slice (some ⟨g2, 0, none⟩) (m + 1) cB, .pointer (some ⟨g20, 1, none⟩), undef] ⟨#[c0, c1, c2, .pointer (some ⟨B, 0, none⟩), c4, .pointer (some ⟨BM, 0, none⟩), c6, c7, c8, c9, c10, c11, c12, c13, c14, c15, c16, c17, c18, c19, .pointer (some ⟨g20, 0, none⟩), c21, c22, c23, c24, c25, c26, c27, c28, c29, c30, c31, c32, c33, c34, c35, c36, c37, c38, c39, c40, c41, c42, c43, c44, c45, c46, c47, c48, c49, c50, c51, c52, c53, c54, c55, c56, c57, c58, c59, c60, c61, c62, c63, c64, c65, c66, c67, c68, c69, c70, c71, c72, c73, c74, c75, c76, c77, c78, c79, c80, c81, c82, c83, c84, c85, c86, c87, c88, c89, c90, c91, c92, c93, c94, c95, c96, c97, c98, c99, c100, c101, c102, c103, c104, c105, c106, c107, c108, c109, c110, c111, c112, c113, c114, c115, c116, c117, c118, c119, c120, c121, c122, c123, c124, c125, c126, c127, c128, c129, c130, c131, c132, c133, c134, c135, c136, c137, c138, c139, c140, c141, c142, c143, c144, c145, c146, c147, c148, c149, c150, c151, c152, c153, c154, c155, c156, c157, c158, c159, c160, c161, c162, c163, c164, c165, c166, c167, c168, c169, c170, c171, c172, c173, c174, c175, c176, c177, c178, c179, c180, c181, c182, c183, c184, c185, c186, c187, c188, c189, c190, c191, c192, c193, c194, c195, c196, c197, c198, c199, c200, c201, c202, c203, c204, c205, c206, c207, c208, c209, c210, c211, c212, c213, c214, c215, c216, c217, c218, c219, c220, c221, c222, c223, c224, c225, c226, c227, c228, c229, c230, c231, c232, c233, c234, c235, c236, c237, c238, c239, c240, c241, c242, c243, c244, c245, c246, c247, c248, c249, c250, c251, c252, c253, c254], df⟩ L a ∧ Hid (Owns W0 wc [(if L 14 = true then haulRow g20 (.slice A n c) (.slice (some ⟨g2, 0, none⟩) (m + 1) cB) (.int .i64 tg) else haulRow g20 (.slice A n c) (.slice SA m d) (.int .i64 tg)), dr, (if L 12 = true then ⟨.slice (some ⟨g2, 0, none⟩) (m + 1) cB, 3, 1, m + 1, (src.map (Value.int .i64)) ++ [.int .i64 (Int.tmod x0 (n : Int))]⟩ else if L 3 = true then ⟨.slice (some ⟨g1, 0, none⟩) m cA, 3, 1, m, (src.map (Value.int .i64))⟩ else if L 0 = true then ⟨.slice (some ⟨gz, 0, none⟩) 0 0, 3, 1, 0, []⟩ else no), (if L 11 = true then ⟨.slice (some ⟨go, 0, none⟩) 1 1, 3, 1, 1, [.int .i64 (Int.tmod x0 (n : Int))]⟩ else no), no])) ⟨0, 0, 0, 0, 0, 0, InvO.start, HOO⟩ ?_ ?_
  · refine ⟨?_, ?_, ?_, ?_, ?_, ?_, ?_, ?_, ?_, ?_, ?_, ?_, ?_, ?_, ?_, trivial⟩
    · -- 0 lines
      rintro L a wc ⟨gz, g1, cA, go, g2, cB, hv, HO⟩ hL hc hd
      have n3 : L 3 = false := Bool.eq_false_iff.2 fun h => Bool.false_ne_true (hL.symm.trans (hc 3 h 0 (by decide)))
      have n12 : L 12 = false := Bool.eq_false_iff.2 fun h => Bool.false_ne_true (hL.symm.trans (hc 3 (hc 12 h 3 (by decide)) 0 (by decide)))
      have h := HO.out
      simp only [n3, n12, Bool.false_eq_true, if_false] at h
      have hn := h.new 2 #[] 3 (by simp [maxLen])
      exact wpOp_value rfl rfl (ex_build0 rfl Tryd.underlying23 info_int) ⟨wc.heap.size, g1, cA, go, g2, cB, hv.put lt_wide_apart 0 rfl (Nat.le_of_ble_eq_true rfl) (Nat.le_of_ble_eq_true rfl) rfl, Lib.hid (by rw [if_neg (show ¬ (upd L 0 12 = true) from by simp [upd, n12]), if_neg (show ¬ (upd L 0 3 = true) from by simp [upd, n3]), if_pos (show upd L 0 0 = true from by simp [upd])]; exact hn)⟩
    · -- 1 field
      rintro L a wc ⟨gz, g1, cA, go, g2, cB, hv, HO⟩ hL hc hd
      exact wpOp_val rfl rfl (ex_field rfl ((hv.fixed 3 (by decide)).trans rfl) (by go_simp)) ⟨gz, g1, cA, go, g2, cB, hv.put lt_wide_apart 1 rfl (Nat.le_of_ble_eq_true rfl) (Nat.le_of_ble_eq_true rfl) rfl, HO⟩
    · -- 2 load
      rintro L a wc ⟨gz, g1, cA, go, g2, cB, hv, HO⟩ hL hc hd
      have e0 : wc.cell? ⟨B, 0, none⟩ = some (.slice A n c) := HO.out.ext.cell h0
      have e1 : wc.cell? ⟨B, 1, none⟩ = some (.slice SA m d) := HO.out.ext.cell h1
      have e2 : wc.cell? ⟨B, 2, none⟩ = some (.int .i64 tg) := HO.out.ext.cell h2
      exact wpOp_val rfl rfl (ex_load rfl (hv.get 1 rfl rfl (hd 1 (by decide))) (by go_simp)) ⟨gz, g1, cA, go, g2, cB, hv.put lt_wide_apart 2 rfl (Nat.le_of_ble_eq_true rfl) (Nat.le_of_ble_eq_true rfl) rfl, HO⟩
    · -- 3 lines
      rintro L a wc ⟨gz, g1, cA, go, g2, cB, hv, HO⟩ hL hc hd
      have n12 : L 12 = false := Bool.eq_false_iff.2 fun h => Bool.false_ne_true (hL.symm.trans (hc 12 h 3 (by decide)))
      have h0' : L 0 = true := hd 0 (by decide)
      have h := HO.out
      simp only [hL, n12, h0', Bool.false_eq_true, if_false, if_true] at h
      refine wpOp_append_copy rfl rfl 23 3 rfl Tryd.underlying23 info_int rfl h 2 rfl (hv.get 0 rfl rfl h0') (hv.get 2 rfl rfl (hd 2 (by decide))) (by rw [List.length_map]; exact hsl) (HRD.out.ext h.ext) one_ints2 (by omega) (by decide) ?_
      intro gg cc w2 hO2
      have hv := hv.reset 3 hL (.slice (some ⟨gg, 0, none⟩) m cc)
      exact ⟨gz, gg, cc, go, g2, cB, hv.put lt_wide_apart 3 rfl (Nat.le_of_ble_eq_true rfl) (Nat.le_of_ble_eq_true rfl) rfl, Lib.hid (by rw [if_neg (show ¬ (upd L 3 12 = true) from by simp [upd, n12]), if_pos (show upd L 3 3 = true from by simp [upd])]; exact hO2)⟩
    · -- 4 index
      rintro L a wc ⟨gz, g1, cA, go, g2, cB, hv, HO⟩ hL hc hd
      exact wpOp_val rfl rfl (ex_index rfl ((hv.fixed 5 (by decide)).trans rfl) rfl (by go_simp)) ⟨gz, g1, cA, go, g2, cB, hv.put lt_wide_apart 4 rfl (Nat.le_of_ble_eq_true rfl) (Nat.le_of_ble_eq_true rfl) rfl, HO⟩
    · -- 5 load
      rintro L a wc ⟨gz, g1, cA, go, g2, cB, hv, HO⟩ hL hc hd
      have eM : wc.cell? ⟨BM, 0, none⟩ = some (.int .u8 x0) := HO.out.ext.cell hm0
      exact wpOp_val rfl rfl (ex_load rfl (hv.get 4 rfl rfl (hd 4 (by decide))) (by go_simp)) ⟨gz, g1, cA, go, g2, cB, hv.put lt_wide_apart 5 rfl (Nat.le_of_ble_eq_true rfl) (Nat.le_of_ble_eq_true rfl) rfl, HO⟩
    · -- 6 convert
      rintro L a wc ⟨gz, g1, cA, go, g2, cB, hv, HO⟩ hL hc hd
      have hw : IntKind.i64.wrap x0 = x0 := by rw [IntKind.wrap_i64]; omega
      exact wpOp_val rfl rfl (ex_convert rfl (hv.get 5 rfl rfl (hd 5 (by decide))) (by go_simp)) ⟨gz, g1, cA, go, g2, cB, hv.put lt_wide_apart 6 rfl (Nat.le_of_ble_eq_true rfl) (Nat.le_of_ble_eq_true rfl) rfl, HO⟩
    · -- 7 field
      rintro L a wc ⟨gz, g1, cA, go, g2, cB, hv, HO⟩ hL hc hd
      exact wpOp_val rfl rfl (ex_field rfl ((hv.fixed 3 (by decide)).trans rfl) (by go_simp)) ⟨gz, g1, cA, go, g2, cB, hv.put lt_wide_apart 7 rfl (Nat.le_of_ble_eq_true rfl) (Nat.le_of_ble_eq_true rfl) rfl, HO⟩
    · -- 8 load
      rintro L a wc ⟨gz, g1, cA, go, g2, cB, hv, HO⟩ hL hc hd
      have e0 : wc.cell? ⟨B, 0, none⟩ = some (.slice A n c) := HO.out.ext.cell h0
      have e1 : wc.cell? ⟨B, 1, none⟩ = some (.slice SA m d) := HO.out.ext.cell h1
      have e2 : wc.cell? ⟨B, 2, none⟩ = some (.int .i64 tg) := HO.out.ext.cell h2
      exact wpOp_val rfl rfl (ex_load rfl (hv.get 7 rfl rfl (hd 7 (by decide))) (by go_simp)) ⟨gz, g1, cA, go, g2, cB, hv.put lt_wide_apart 8 rfl (Nat.le_of_ble_eq_true rfl) (Nat.le_of_ble_eq_true rfl) rfl, HO⟩
    · -- 9 raw
      rintro L a wc ⟨gz, g1, cA, go, g2, cB, hv, HO⟩ hL hc hd
      exact wpOp_val rfl rfl (ex_len rfl (hv.get 8 rfl rfl (hd 8 (by decide))) (by go_simp)) ⟨gz, g1, cA, go, g2, cB, hv.put lt_wide_apart 9 rfl (Nat.le_of_ble_eq_true rfl) (Nat.le_of_ble_eq_true rfl) rfl, HO⟩
    · -- 10 bin
      rintro L a wc ⟨gz, g1, cA, go, g2, cB, hv, HO⟩ hL hc hd
      have hn9 : ¬ n = 0 := by omega
      exact wpOp_val rfl rfl (ex_bin rfl (hv.get 6 rfl rfl (hd 6 (by decide))) (hv.get 9 rfl rfl (hd 9 (by decide))) (by go_simp)) ⟨gz, g1, cA, go, g2, cB, hv.put lt_wide_apart 10 rfl (Nat.le_of_ble_eq_true rfl) (Nat.le_of_ble_eq_true rfl) rfl, HO⟩
    · -- 11 lines
      rintro L a wc ⟨gz, g1, cA, go, g2, cB, hv, HO⟩ hL hc hd
      have h := HO.out
      have hn := h.new 3 #[.int .i64 (Int.tmod x0 (n : Int))] 3 (by simp [maxLen])
      exact wpOp_value rfl rfl (ex_build rfl Tryd.underlying23 info_int (hv.get 10 rfl rfl (hd 10 (by decide))) rfl) ⟨gz, g1, cA, wc.heap.size, g2, cB, hv.put lt_wide_apart 11 rfl (Nat.le_of_ble_eq_true rfl) (Nat.le_of_ble_eq_true rfl) rfl, Lib.hid hn⟩
    · -- 12 lines
      rintro L a wc ⟨gz, g1, cA, go, g2, cB, hv, HO⟩ hL hc hd
      have n14 : L 14 = false := Bool.eq_false_iff.2 fun h => Bool.false_ne_true (hL.symm.trans (hc 14 h 12 (by decide)))
      have h3' : L 3 = true := hd 3 (by decide)
      have h11' : L 11 = true := hd 11 (by decide)
      have h := HO.out
      simp only [hL, n14, h3', h11', Bool.false_eq_true, if_false, if_true] at h
      refine wpOp_append rfl rfl 23 3 rfl Tryd.underlying23 info_int rfl h 2 rfl (hv.get 3 rfl rfl h3') (hv.get 11 rfl rfl h11') (h.cell 3 rfl 0 rfl) rfl (by omega) (by decide) ?_
      intro gg cc w2 hO2
      have hv := hv.reset 12 hL (.slice (some ⟨gg, 0, none⟩) (m + 1) cc)
      exact ⟨gz, g1, cA, go, gg, cc, hv.put lt_wide_apart 12 rfl (Nat.le_of_ble_eq_true rfl) (Nat.le_of_ble_eq_true rfl) rfl, Lib.hid (by rw [if_neg (show ¬ (upd L 12 14 = true) from by simp [upd, n14]), if_pos (show upd L 12 12 = true from by simp [upd]), if_pos (show upd L 12 11 = true from by simp [upd, h11'])]; exact hO2)⟩
    · -- 13 field
      rintro L a wc ⟨gz, g1, cA, go, g2, cB, hv, HO⟩ hL hc hd
      exact wpOp_val rfl rfl (ex_field rfl ((hv.fixed 20 (by decide)).trans rfl) (by go_simp)) ⟨gz, g1, cA, go, g2, cB, hv.put lt_wide_apart 13 rfl (Nat.le_of_ble_eq_true rfl) (Nat.le_of_ble_eq_true rfl) rfl, HO⟩
    · -- 14 store
      rintro L a wc ⟨gz, g1, cA, go, g2, cB, hv, HO⟩ hL hc hd
      have h12' : L 12 = true := hd 12 (by decide)
      have h11' : L 11 = true := hd 11 (by decide)
      have hO := HO.out
      simp only [hL, h12', h11', Bool.false_eq_true, if_false, if_true] at hO
      have k1 := hO.cell 0 rfl 1 rfl
      have q1 := hO.frozen 0 rfl 1
      have hS : Owns W0 (wc.setCell ⟨g20, 1, none⟩ (.slice (some ⟨g2, 0, none⟩) (m + 1) cB)) [(if upd L 14 14 = true then haulRow g20 (.slice A n c) (.slice (some ⟨g2, 0, none⟩) (m + 1) cB) (.int .i64 tg) else haulRow g20 (.slice A n c) (.slice SA m d) (.int .i64 tg)), dr, (if upd L 14 12 = true then ⟨.slice (some ⟨g2, 0, none⟩) (m + 1) cB, 3, 1, m + 1, (src.map (Value.int .i64)) ++ [.int .i64 (Int.tmod x0 (n : Int))]⟩ else if upd L 14 3 = true then ⟨.slice (some ⟨g1, 0, none⟩) m cA, 3, 1, m, (src.map (Value.int .i64))⟩ else if upd L 14 0 = true then ⟨.slice (some ⟨gz, 0, none⟩) 0 0, 3, 1, 0, []⟩ else no), (if upd L 14 11 = true then ⟨.slice (some ⟨go, 0, none⟩) 1 1, 3, 1, 1, [.int .i64 (Int.tmod x0 (n : Int))]⟩ else no), no] := by rw [if_pos (show upd L 14 14 = true from by simp [upd]), if_pos (show upd L 14 12 = true from by simp [upd, h12']), if_pos (show upd L 14 11 = true from by simp [upd, h11'])]; exact hO.store 0 rfl 1 (.slice (some ⟨g2, 0, none⟩) (m + 1) cB)
      exact wpOp_skip rfl rfl rfl (ex_store rfl (hv.get 13 rfl rfl (hd 13 (by decide))) (hv.get 12 rfl rfl (hd 12 (by decide))) (by go_simp)) ⟨gz, g1, cA, go, g2, cB, hv.skip 14 rfl, (Lib.hid hS)⟩
  · rintro L a wc ⟨gz, g1, cA, go, g2, cB, hv, HO⟩ hall
    show K a wc
    have ha := act_lit a
    rw [hv.size, hv.defers] at ha
    have hl : ∀ f : Nat → Value, ((List.range (⟨#[c0, c1, c2, .pointer (some ⟨B, 0, none⟩), c4, .pointer (some ⟨BM, 0, none⟩), c6, c7, c8, c9, c10, c11, c12, c13, c14, c15, c16, c17, c18, c19, .pointer (some ⟨g20, 0, none⟩), c21, c22, c23, c24, c25, c26, c27, c28, c29, c30, c31, c32, c33, c34, c35, c36, c37, c38, c39, c40, c41, c42, c43, c44, c45, c46, c47, c48, c49, c50, c51, c52, c53, c54, c55, c56, c57, c58, c59, c60, c61, c62, c63, c64, c65, c66, c67, c68, c69, c70, c71, c72, c73, c74, c75, c76, c77, c78, c79, c80, c81, c82, c83, c84, c85, c86, c87, c88, c89, c90, c91, c92, c93, c94, c95, c96, c97, c98, c99, c100, c101, c102, c103, c104, c105, c106, c107, c108, c109, c110, c111, c112, c113, c114, c115, c116, c117, c118, c119, c120, c121, c122, c123, c124, c125, c126, c127, c128, c129, c130, c131, c132, c133, c134, c135, c136, c137, c138, c139, c140, c141, c142, c143, c144, c145, c146, c147, c148, c149, c150, c151, c152, c153, c154, c155, c156, c157, c158, c159, c160, c161, c162, c163, c164, c165, c166, c167, c168, c169, c170, c171, c172, c173, c174, c175, c176, c177, c178, c179, c180, c181, c182, c183, c184, c185, c186, c187, c188, c189, c190, c191, c192, c193, c194, c195, c196, c197, c198, c199, c200, c201, c202, c203, c204, c205, c206, c207, c208, c209, c210, c211, c212, c213, c214, c215, c216, c217, c218, c219, c220, c221, c222, c223, c224, c225, c226, c227, c228, c229, c230, c231, c232, c233, c234, c235, c236, c237, c238, c239, c240, c241, c242, c243, c244, c245, c246, c247, c248, c249, c250, c251, c252, c253, c254], df⟩ : Act).tmps.size).map f).toArray = #[f 0, f 1, f 2, f 3, f 4, f 5, f 6, f 7, f 8, f 9, f 10, f 11, f 12, f 13, f 14, f 15, f 16, f 17, f 18, f 19, f 20, f 21, f 22, f 23, f 24, f 25, f 26, f 27, f 28, f 29, f 30, f 31, f 32, f 33, f 34, f 35, f 36, f 37, f 38, f 39, f 40, f 41, f 42, f 43, f 44, f 45, f 46, f 47, f 48, f 49, f 50, f 51, f 52, f 53, f 54, f 55, f 56, f 57, f 58, f 59, f 60, f 61, f 62, f 63, f 64, f 65, f 66, f 67, f 68, f 69, f 70, f 71, f 72, f 73, f 74, f 75, f 76, f 77, f 78, f 79, f 80, f 81, f 82, f 83, f 84, f 85, f 86, f 87, f 88, f 89, f 90, f 91, f 92, f 93, f 94, f 95, f 96, f 97, f 98, f 99, f 100, f 101, f 102, f 103, f 104, f 105, f 106, f 107, f 108, f 109, f 110, f 111, f 112, f 113, f 114, f 115, f 116, f 117, f 118, f 119, f 120, f 121, f 122, f 123, f 124, f 125, f 126, f 127, f 128, f 129, f 130, f 131, f 132, f 133, f 134, f 135, f 136, f 137, f 138, f 139, f 140, f 141, f 142, f 143, f 144, f 145, f 146, f 147, f 148, f 149, f 150, f 151, f 152, f 153, f 154, f 155, f 156, f 157, f 158, f 159, f 160, f 161, f 162, f 163, f 164, f 165, f 166, f 167, f 168, f 169, f 170, f 171, f 172, f 173, f 174, f 175, f 176, f 177, f 178, f 179, f 180, f 181, f 182, f 183, f 184, f 185, f 186, f 187, f 188, f 189, f 190, f 191, f 192, f 193, f 194, f 195, f 196, f 197, f 198, f 199, f 200, f 201, f 202, f 203, f 204, f 205, f 206, f 207, f 208, f 209, f 210, f 211, f 212, f 213, f 214, f 215, f 216, f 217, f 218, f 219, f 220, f 221, f 222, f 223, f 224, f 225, f 226, f 227, f 228, f 229, f 230, f 231, f 232, f 233, f 234, f 235, f 236, f 237, f 238, f 239, f 240, f 241, f 242, f 243, f 244, f 245, f 246, f 247, f 248, f 249, f 250, f 251, f 252, f 253, f 254] := fun _ => rfl
    rw [hl] at ha
    simp only [hv.fixed 0 (by decide), hv.fixed 1 (by decide), hv.fixed 2 (by decide), hv.fixed 3 (by decide), hv.fixed 4 (by decide), hv.fixed 5 (by decide), hv.fixed 6 (by decide), hv.fixed 7 (by decide), hv.fixed 8 (by decide), hv.fixed 9 (by decide), hv.fixed 10 (by decide), hv.fixed 11 (by decide), hv.fixed 12 (by decide), hv.fixed 13 (by decide), hv.fixed 14 (by decide), hv.fixed 15 (by decide), hv.fixed 16 (by decide), hv.fixed 17 (by decide), hv.fixed 18 (by decide), hv.fixed 19 (by decide), hv.fixed 20 (by decide), hv.fixed 21 (by decide), hv.fixed 22 (by decide), hv.fixed 23 (by decide), hv.fixed 24 (by decide), hv.fixed 25 (by decide), hv.fixed 26 (by decide), hv.fixed 27 (by decide), hv.fixed 28 (by decide), hv.fixed 29 (by decide), hv.fixed 30 (by decide), hv.fixed 31 (by decide), hv.fixed 32 (by decide), hv.fixed 33 (by decide), hv.fixed 34 (by decide), hv.fixed 35 (by decide), hv.fixed 36 (by decide), hv.fixed 37 (by decide), hv.fixed 38 (by decide), hv.fixed 39 (by decide), hv.fixed 40 (by decide), hv.fixed 41 (by decide), hv.fixed 42 (by decide), hv.fixed 43 (by decide), hv.fixed 44 (by decide), hv.fixed 45 (by decide), hv.fixed 46 (by decide), hv.fixed 47 (by decide), hv.fixed 48 (by decide), hv.fixed 49 (by decide), hv.fixed 50 (by decide), hv.fixed 51 (by decide), hv.fixed 52 (by decide), hv.fixed 53 (by decide), hv.fixed 54 (by decide), hv.fixed 55 (by decide), hv.fixed 56 (by decide), hv.fixed 57 (by decide), hv.fixed 58 (by decide), hv.fixed 59 (by decide), hv.fixed 60 (by decide), hv.fixed 61 (by decide), hv.fixed 62 (by decide), hv.fixed 63 (by decide), hv.fixed 64 (by decide), hv.fixed 65 (by decide), hv.fixed 66 (by decide), hv.fixed 67 (by decide), hv.fixed 68 (by decide), hv.fixed 69 (by decide), hv.fixed 70 (by decide), hv.fixed 71 (by decide), hv.fixed 72 (by decide), hv.fixed 73 (by decide), hv.fixed 74 (by decide), hv.fixed 75 (by decide), hv.fixed 76 (by decide), hv.fixed 77 (by decide), hv.fixed 78 (by decide), hv.fixed 79 (by decide), hv.fixed 80 (by decide), hv.fixed 81 (by decide), hv.fixed 82 (by decide), hv.fixed 83 (by decide), hv.fixed 84 (by decide), hv.fixed 85 (by decide), hv.fixed 86 (by decide), hv.fixed 87 (by decide), hv.fixed 88 (by decide), hv.fixed 89 (by decide), hv.fixed 90 (by decide), hv.fixed 91 (by decide), hv.fixed 92 (by decide), hv.fixed 93 (by decide), hv.fixed 94 (by decide), hv.fixed 95 (by decide), hv.fixed 96 (by decide), hv.fixed 97 (by decide), hv.fixed 98 (by decide), hv.fixed 99 (by decide), hv.fixed 100 (by decide), hv.fixed 101 (by decide), hv.fixed 102 (by decide), hv.fixed 103 (by decide), hv.fixed 104 (by decide), hv.fixed 105 (by decide), hv.fixed 106 (by decide), hv.fixed 107 (by decide), hv.fixed 108 (by decide), hv.fixed 109 (by decide), hv.fixed 110 (by decide), hv.fixed 111 (by decide), hv.fixed 112 (by decide), hv.fixed 113 (by decide), hv.fixed 114 (by decide), hv.fixed 115 (by decide), hv.fixed 116 (by decide), hv.fixed 117 (by decide), hv.fixed 118 (by decide), hv.fixed 119 (by decide), hv.fixed 120 (by decide), hv.fixed 121 (by decide), hv.fixed 122 (by decide), hv.fixed 123 (by decide), hv.fixed 124 (by decide), hv.fixed 125 (by decide), hv.fixed 126 (by decide), hv.fixed 127 (by decide), hv.fixed 128 (by decide), hv.fixed 129 (by decide), hv.fixed 130 (by decide), hv.fixed 131 (by decide), hv.fixed 132 (by decide), hv.fixed 133 (by decide), hv.fixed 134 (by decide), hv.fixed 135 (by decide), hv.fixed 136 (by decide), hv.fixed 137 (by decide), hv.fixed 138 (by decide), hv.fixed 139 (by decide), hv.fixed 140 (by decide), hv.fixed 141 (by decide), hv.fixed 142 (by decide), hv.fixed 143 (by decide), hv.fixed 144 (by decide), hv.fixed 145 (by decide), hv.fixed 146 (by decide), hv.fixed 147 (by decide), hv.fixed 148 (by decide), hv.fixed 163 (by decide), hv.fixed 164 (by decide), hv.fixed 165 (by decide), hv.fixed 166 (by decide), hv.fixed 167 (by decide), hv.fixed 168 (by decide), hv.fixed 169 (by decide), hv.fixed 170 (by decide), hv.fixed 171 (by decide), hv.fixed 172 (by decide), hv.fixed 173 (by decide), hv.fixed 174 (by decide), hv.fixed 175 (by decide), hv.fixed 176 (by decide), hv.fixed 177 (by decide), hv.fixed 178 (by decide), hv.fixed 179 (by decide), hv.fixed 180 (by decide), hv.fixed 181 (by decide), hv.fixed 182 (by decide), hv.fixed 183 (by decide), hv.fixed 184 (by decide), hv.fixed 185 (by decide), hv.fixed 186 (by decide), hv.fixed 187 (by decide), hv.fixed 188 (by decide), hv.fixed 189 (by decide), hv.fixed 190 (by decide), hv.fixed 191 (by decide), hv.fixed 192 (by decide), hv.fixed 193 (by decide), hv.fixed 194 (by decide), hv.fixed 195 (by decide), hv.fixed 196 (by decide), hv.fixed 197 (by decide), hv.fixed 198 (by decide), hv.fixed 199 (by decide), hv.fixed 200 (by decide), hv.fixed 201 (by decide), hv.fixed 202 (by decide), hv.fixed 203 (by decide), hv.fixed 204 (by decide), hv.fixed 205 (by decide), hv.fixed 206 (by decide), hv.fixed 207 (by decide), hv.fixed 208 (by decide), hv.fixed 209 (by decide), hv.fixed 210 (by decide), hv.fixed 211 (by decide), hv.fixed 212 (by decide), hv.fixed 213 (by decide), hv.fixed 214 (by decide), hv.fixed 215 (by decide), hv.fixed 216 (by decide), hv.fixed 217 (by decide), hv.fixed 218 (by decide), hv.fixed 219 (by decide), hv.fixed 220 (by decide), hv.fixed 221 (by decide), hv.fixed 222 (by decide), hv.fixed 223 (by decide), hv.fixed 224 (by decide), hv.fixed 225 (by decide), hv.fixed 226 (by decide), hv.fixed 227 (by decide), hv.fixed 228 (by decide), hv.fixed 229 (by decide), hv.fixed 230 (by decide), hv.fixed 231 (by decide), hv.fixed 232 (by decide), hv.fixed 233 (by decide), hv.fixed 234 (by decide), hv.fixed 235 (by decide), hv.fixed 236 (by decide), hv.fixed 237 (by decide), hv.fixed 238 (by decide), hv.fixed 239 (by decide), hv.fixed 240 (by decide), hv.fixed 241 (by decide), hv.fixed 242 (by decide), hv.fixed 243 (by decide), hv.fixed 244 (by decide), hv.fixed 245 (by decide), hv.fixed 246 (by decide), hv.fixed 247 (by decide), hv.fixed 248 (by decide), hv.fixed 249 (by decide), hv.fixed 250 (by decide), hv.fixed 251 (by decide), hv.fixed 252 (by decide), hv.fixed 253 (by decide), hv.fixed 254 (by decide)] at ha
    rw [ha]
    have hO := HO.out
    simp only [hall 14 (by decide), hall 12 (by decide), hall 11 (by decide), if_true] at hO
    exact hK g2 cB _ _ _ _ _ _ _ _ _ _ _ _ _ _ wc (hO.drop 3)
end Go.Proofs.YtenafgphaceidaaDoor

/- THE DRAWN REGIONS of the law SumsTreesAreLeast that make memory: a row of prices. -/
namespace Go.Proofs.YtenafgphaceidaaDoor
open Go.RowKit
noncomputable def lt_row_code : Code := ((Tryd.f4.body.bind (regionOf 29)).getD .skip)
def lt_row_dsts : List (Option Nat) := [some 182, some 183, some 184, some 185, some 186, some 187, some 188, some 189, some 190, some 191, some 192, none]
theorem lt_row_apart : apartD lt_row_dsts = true := by decide +kernel
set_option maxRecDepth 1000000 in
set_option maxHeartbeats 16000000 in
theorem lt_row (W0 wr : World) (B g21 gp cp n c aa rc : Nat) (pa ra : Addr) (vs vt : Value) (row : List Int) (us : List Value) (r0 r2 : LRow) (hrl : row.length = n) (hn1 : n ≤ 12) (han : aa < n) (h0 : W0.cell? ⟨B, 0, none⟩ = some (.slice (some pa) n c)) (hr : W0.cell? (pa.add aa) = some (.slice (some ra) n rc)) (hua : ∃ u0, us[aa]? = some u0) (HRD : Hid (Rd W0 (some ra) (row.map (Value.int .i64)))) (HOO : Hid (Owns W0 wr.drew [r0, haulRow g21 (.slice (some ⟨gp, 0, none⟩) n cp) (vs) (vt), r2, ⟨.slice (some ⟨gp, 0, none⟩) n cp, 23, 1, n, us⟩, no])) (c0 c1 c2 c4 c5 c6 c7 c8 c9 c10 c11 c12 c13 c14 c15 c16 c17 c18 c19 c20 c23 c24 c25 c26 c27 c28 c29 c30 c31 c32 c33 c34 c35 c36 c37 c38 c39 c40 c41 c42 c43 c44 c45 c46 c47 c48 c49 c50 c51 c52 c53 c54 c55 c56 c57 c58 c59 c60 c61 c62 c63 c64 c65 c66 c67 c68 c69 c70 c71 c72 c73 c74 c75 c76 c77 c78 c79 c80 c81 c82 c83 c84 c85 c86 c87 c88 c89 c90 c91 c92 c93 c94 c95 c96 c97 c98 c99 c100 c101 c102 c103 c104 c105 c106 c107 c108 c109 c110 c111 c112 c113 c114 c115 c116 c117 c118 c119 c120 c121 c122 c123 c124 c125 c126 c127 c128 c129 c130 c131 c132 c133 c134 c135 c136 c137 c138 c139 c140 c141 c142 c143 c144 c145 c146 c147 c148 c149 c150 c151 c152 c153 c154 c155 c156 c157 c158 c159 c160 c161 c162 c163 c164 c165 c166 c167 c168 c169 c170 c171 c172 c173 c174 c175 c176 c177 c178 c179 c180 c181 c182 c183 c184 c185 c186 c187 c188 c189 c190 c191 c192 c193 c194 c195 c196 c197 c198 c199 c200 c201 c202 c203 c204 c205 c206 c207 c208 c209 c210 c211 c212 c213 c214 c215 c216 c217 c218 c219 c220 c221 c222 c223 c224 c225 c226 c227 c228 c229 c230 c231 c232 c233 c234 c235 c236 c237 c238 c239 c240 c241 c242 c243 c244 c245 c246 c247 c248 c249 c250 c251 c252 c253 c254 : Value) (df : List Deferred) (K : Act → World → Prop)
    (hK : ∀ (ga ca : Nat) (u182 u183 u184 u185 u186 u187 u188 u189 u190 u191 u192 : Value) (wx : World), Owns W0 wx [r0, haulRow g21 (.slice (some ⟨gp, 0, none⟩) n cp) (vs) (vt), r2, ⟨.slice (some ⟨gp, 0, none⟩) n cp, 23, 1, n, us.set aa (.slice (some ⟨ga, 0, none⟩) n ca)⟩, ⟨.slice (some ⟨ga, 0, none⟩) n ca, 3, 1, n, (row.map (Value.int .i64))⟩] → K ⟨#[c0, c1, c2, .pointer (some ⟨B, 0, none⟩), c4, c5, c6, c7, c8, c9, c10, c11, c12, c13, c14, c15, c16, c17, c18, c19, c20, .pointer (some ⟨g21, 0, none⟩), .int .i64 (aa : Nat), c23, c24, c25, c26, c27, c28, c29, c30, c31, c32, c33, c34, c35, c36, c37, c38, c39, c40, c41, c42, c43, c44, c45, c46, c47, c48, c49, c50, c51, c52, c53, c54, c55, c56, c57, c58, c59, c60, c61, c62, c63, c64, c65, c66, c67, c68, c69, c70, c71, c72, c73, c74, c75, c76, c77, c78, c79, c80, c81, c82, c83, c84, c85, c86, c87, c88, c89, c90, c91, c92, c93, c94, c95, c96, c97, c98, c99, c100, c101, c102, c103, c104, c105, c106, c107, c108, c109, c110, c111, c112, c113, c114, c115, c116, c117, c118, c119, c120, c121, c122, c123, c124, c125, c126, c127, c128, c129, c130, c131, c132, c133, c134, c135, c136, c137, c138, c139, c140, c141, c142, c143, c144, c145, c146, c147, c148, c149, c150, c151, c152, c153, c154, c155, c156, c157, c158, c159, c160, c161, c162, c163, c164, c165, c166, c167, c168, c169, c170, c171, c172, c173, c174, c175, c176, c177, c178, c179, c180, c181, u182, u183, u184, u185, u186, u187, u188, u189, u190, u191, u192, c193, c194, c195, c196, c197, c198, c199, c200, c201, c202, c203, c204, c205, c206, c207, c208, c209, c210, c211, c212, c213, c214, c215, c216, c217, c218, c219, c220, c221, c222, c223, c224, c225, c226, c227, c228, c229, c230, c231, c232, c233, c234, c235, c236, c237, c238, c239, c240, c241, c242, c243, c244, c245, c246, c247, c248, c249, c250, c251, c252, c253, c254], df⟩ wx) :
    Code.wp Tryd.prog lt_row_code (AtEnd K) ⟨#[c0, c1, c2, .pointer (some ⟨B, 0, none⟩), c4, c5, c6, c7, c8, c9, c10, c11, c12, c13, c14, c15, c16, c17, c18, c19, c20, .pointer (some ⟨g21, 0, none⟩), .int .i64 (aa : Nat), c23, c24, c25, c26, c27, c28, c29, c30, c31, c32, c33, c34, c35, c36, c37, c38, c39, c40, c41, c42, c43, c44, c45, c46, c47, c48, c49, c50, c51, c52, c53, c54, c55, c56, c57, c58, c59, c60, c61, c62, c63, c64, c65, c66, c67, c68, c69, c70, c71, c72, c73, c74, c75, c76, c77, c78, c79, c80, c81, c82, c83, c84, c85, c86, c87, c88, c89, c90, c91, c92, c93, c94, c95, c96, c97, c98, c99, c100, c101, c102, c103, c104, c105, c106, c107, c108, c109, c110, c111, c112, c113, c114, c115, c116, c117, c118, c119, c120, c121, c122, c123, c124, c125, c126, c127, c128, c129, c130, c131, c132, c133, c134, c135, c136, c137, c138, c139, c140, c141, c142, c143, c144, c145, c146, c147, c148, c149, c150, c151, c152, c153, c154, c155, c156, c157, c158, c159, c160, c161, c162, c163, c164, c165, c166, c167, c168, c169, c170, c171, c172, c173, c174, c175, c176, c177, c178, c179, c180, c181, c182, c183, c184, c185, c186, c187, c188, c189, c190, c191, c192, c193, c194, c195, c196, c197, c198, c199, c200, c201, c202, c203, c204, c205, c206, c207, c208, c209, c210, c211, c212, c213, c214, c215, c216, c217, c218, c219, c220, c221, c222, c223, c224, c225, c226, c227, c228, c229, c230, c231, c232, c233, c234, c235, c236, c237, c238, c239, c240, c241, c242, c243, c244, c245, c246, c247, c248, c249, c250, c251, c252, c253, c254], df⟩ wr := by
  conv => arg 2; whnf
  refine region_inv (by kernel_rfl) [[], [0], [], [], [], [4], [], [5, 6], [7], [3, 8], [1, 2, 0, 1, 2, 3, 4, 5, 6, 7, 8, 9], [10, 9, 9, 0, 1, 2, 3, 4, 5, 6, 7, 8, 9]] (by kernel_rfl) [0, 1, 2, 3, 4, 5, 6, 7, 8, 9, 10, 11] (by decide +kernel) (by decide +kernel) (by decide +kernel) (fun L a wc => ∃ (gz : Nat) (ga : Nat) (ca : Nat), InvO lt_row_dsts [.pointer (some ⟨g21, 0, none⟩), .slice (some ⟨gp, 0, none⟩) n cp, .int .i64 (aa : Nat), .slice (some ⟨gz, 0, none⟩) 0 0, .pointer (some ⟨B, 0, none⟩), .slice (some pa) n c, .int .i64 (aa : Nat), .pointer (some (pa.add aa)), .slice (some ra) n rc, .slice (some ⟨ga, 0, none⟩) n ca, .pointer (some ⟨gp, aa, none⟩), undef] ⟨#[c0, c1, c2, .pointer (some ⟨B, 0, none⟩), c4, c5, c6, c7, c8, c9, c10, c11, c12, c13, c14, c15, c16, c17, c18, c19, c20, .pointer (some ⟨g21, 0, none⟩), .int .i64 (aa : Nat), c23, c24, c25, c26, c27, c28, c29, c30, c31, c32, c33, c34, c35, c36, c37, c38, c39, c40, c41, c42, c43, c44, c45, c46, c47, c48, c49, c50, c51, c52, c53, c54, c55, c56, c57, c58, c59, c60, c61, c62, c63, c64, c65, c66, c67, c68, c69, c70, c71, c72, c73, c74, c75, c76, c77, c78, c79, c80, c81, c82, c83, c84, c85, c86, c87, c88, c89, c90, c91, c92, c93, c94, c95, c96, c97, c98, c99, c100, c101, c102, c103, c104, c105, c106, c107, c108, c109, c110, c111, c112, c113, c114, c115, c116, c117, c118, c119, c120, c121, c122, c123, c124, c125, c126, c127, c128, c129, c130, c131, c132, c133, c134, c135, c136, c137, c138, c139, c140, c141, c142, c143, c144, c145, c146, c147, c148, c149, c150, c151, c152, c153, c154, c155, c156, c157, c158, c159, c160, c161, c162, c163, c164, c165, c166, c167, c168, c169, c170, c171, c172, c173, c174, c175, c176, c177, c178, c179, c180, c181, c182, c183, c184, c185, c186, c187, c188, c189, c190, c191, c192, c193, c194, c195, c196, c197, c198, c199, c200, c201, c202, c203, c204, c205, c206, c207, c208, c209, c210, c211, c212, c213, c214, c215, c216, c217, c218, c219, c220, c221, c222, c223, c224, c225, c226, c227, c228, c229, c230, c231, c232, c233, c234, c235, c236, c237, c238, c239, c240, c241, c242, c243, c244, c245, c246, c247, c248, c249, c250, c251, c252, c253, c254], df⟩ L a ∧ Hid (Owns W0 wc [r0, haulRow g21 (.slice (some ⟨gp, 0, none⟩) n cp) (vs) (vt), r2, (if L 11 = true then ⟨.slice (some ⟨gp, 0, none⟩) n cp, 23, 1, n, us.set aa (.slice (some ⟨ga, 0, none⟩) n ca)⟩ else ⟨.slice (some ⟨gp, 0, none⟩) n cp, 23, 1, n, us⟩), (if L 9 = true then ⟨.slice (some ⟨ga, 0, none⟩) n ca, 3, 1, n, (row.map (Value.int .i64))⟩ else if L 3 = true then ⟨.slice (some ⟨gz, 0, none⟩) 0 0, 3, 1, 0, []⟩ else no)])) ⟨0, 0, 0, InvO.start, HOO⟩ ?_ ?_
  · refine ⟨?_, ?_, ?_, ?_, ?_, ?_, ?_, ?_, ?_, ?_, ?_, ?_, trivial⟩
    · -- 0 field
      rintro L a wc ⟨gz, ga, ca, hv, HO⟩ hL hc hd
      exact wpOp_val rfl rfl (ex_field rfl ((hv.fixed 21 (by decide)).trans rfl) (by go_simp)) ⟨gz, ga, ca, hv.put lt_row_apart 0 rfl (Nat.le_of_ble_eq_true rfl) (Nat.le_of_ble_eq_true rfl) rfl, HO⟩
    · -- 1 load
      rintro L a wc ⟨gz, ga, ca, hv, HO⟩ hL hc hd
      have k1 := HO.out.cell 1 rfl 0 rfl
      exact wpOp_val rfl rfl (ex_load rfl (hv.get 0 rfl rfl (hd 0 (by decide))) (by go_simp)) ⟨gz, ga, ca, hv.put lt_row_apart 1 rfl (Nat.le_of_ble_eq_true rfl) (Nat.le_of_ble_eq_true rfl) rfl, HO⟩
    · -- 2 move
      rintro L a wc ⟨gz, ga, ca, hv, HO⟩ hL hc hd
      exact wpOp_val rfl rfl (ex_move rfl ((hv.fixed 22 (by decide)).trans rfl)) ⟨gz, ga, ca, hv.put lt_row_apart 2 rfl (Nat.le_of_ble_eq_true rfl) (Nat.le_of_ble_eq_true rfl) rfl, HO⟩
    · -- 3 lines
      rintro L a wc ⟨gz, ga, ca, hv, HO⟩ hL hc hd
      have n9 : L 9 = false := Bool.eq_false_iff.2 fun h => Bool.false_ne_true (hL.symm.trans (hc 9 h 3 (by decide)))
      have h := HO.out
      rw [if_neg (show ¬ (L 9 = true) from by simp [n9]), if_neg (show ¬ (L 3 = true) from by simp [hL])] at h
      have hn := h.new 4 #[] 3 (by simp [maxLen])
      exact wpOp_value rfl rfl (ex_build0 rfl Tryd.underlying23 info_int) ⟨wc.heap.size, ga, ca, hv.put lt_row_apart 3 rfl (Nat.le_of_ble_eq_true rfl) (Nat.le_of_ble_eq_true rfl) rfl, Lib.hid (by rw [if_neg (show ¬ (upd L 3 9 = true) from by simp [upd, n9]), if_pos (show upd L 3 3 = true from by simp [upd])]; exact hn)⟩
    · -- 4 field
      rintro L a wc ⟨gz, ga, ca, hv, HO⟩ hL hc hd
      exact wpOp_val rfl rfl (ex_field rfl ((hv.fixed 3 (by decide)).trans rfl) (by go_simp)) ⟨gz, ga, ca, hv.put lt_row_apart 4 rfl (Nat.le_of_ble_eq_true rfl) (Nat.le_of_ble_eq_true rfl) rfl, HO⟩
    · -- 5 load
      rintro L a wc ⟨gz, ga, ca, hv, HO⟩ hL hc hd
      have e0 : wc.cell? ⟨B, 0, none⟩ = some (.slice (some pa) n c) := HO.out.ext.cell h0
      exact wpOp_val rfl rfl (ex_load rfl (hv.get 4 rfl rfl (hd 4 (by decide))) (by go_simp)) ⟨gz, ga, ca, hv.put lt_row_apart 5 rfl (Nat.le_of_ble_eq_true rfl) (Nat.le_of_ble_eq_true rfl) rfl, HO⟩
    · -- 6 move
      rintro L a wc ⟨gz, ga, ca, hv, HO⟩ hL hc hd
      exact wpOp_val rfl rfl (ex_move rfl ((hv.fixed 22 (by decide)).trans rfl)) ⟨gz, ga, ca, hv.put lt_row_apart 6 rfl (Nat.le_of_ble_eq_true rfl) (Nat.le_of_ble_eq_true rfl) rfl, HO⟩
    · -- 7 index
      rintro L a wc ⟨gz, ga, ca, hv, HO⟩ hL hc hd
      have b1 : (0 : Int) ≤ (aa : Int) := by omega
      have b2 : (aa : Int) < (n : Int) := by omega
      exact wpOp_val rfl rfl (ex_index rfl (hv.get 5 rfl rfl (hd 5 (by decide))) (hv.get 6 rfl rfl (hd 6 (by decide))) (by go_simp)) ⟨gz, ga, ca, hv.put lt_row_apart 7 rfl (Nat.le_of_ble_eq_true rfl) (Nat.le_of_ble_eq_true rfl) rfl, HO⟩
    · -- 8 load
      rintro L a wc ⟨gz, ga, ca, hv, HO⟩ hL hc hd
      have eR : wc.cell? (pa.add aa) = some (.slice (some ra) n rc) := HO.out.ext.cell hr
      exact wpOp_val rfl rfl (ex_load rfl (hv.get 7 rfl rfl (hd 7 (by decide))) (by go_simp)) ⟨gz, ga, ca, hv.put lt_row_apart 8 rfl (Nat.le_of_ble_eq_true rfl) (Nat.le_of_ble_eq_true rfl) rfl, HO⟩
    · -- 9 lines
      rintro L a wc ⟨gz, ga, ca, hv, HO⟩ hL hc hd
      have n11 : L 11 = false := Bool.eq_false_iff.2 fun h => Bool.false_ne_true (hL.symm.trans (hc 11 h 9 (by decide)))
      have h3' : L 3 = true := hd 3 (by decide)
      have h := HO.out
      rw [if_neg (show ¬ (L 11 = true) from by simp [n11]), if_neg (show ¬ (L 9 = true) from by simp [hL]), if_pos h3'] at h
      refine wpOp_append_copy rfl rfl 23 3 rfl Tryd.underlying23 info_int rfl h 4 rfl (hv.get 3 rfl rfl h3') (hv.get 8 rfl rfl (hd 8 (by decide))) (by rw [List.length_map]; exact hrl) (HRD.out.ext h.ext) one_ints2 (by omega) (by decide) ?_
      intro gg cc w2 hO2
      have hv := hv.reset 9 hL (.slice (some ⟨gg, 0, none⟩) n cc)
      exact ⟨gz, gg, cc, hv.put lt_row_apart 9 rfl (Nat.le_of_ble_eq_true rfl) (Nat.le_of_ble_eq_true rfl) rfl, Lib.hid (by rw [if_neg (show ¬ (upd L 9 11 = true) from by simp [upd, n11]), if_pos (show upd L 9 9 = true from by simp [upd])]; exact hO2)⟩
    · -- 10 index
      rintro L a wc ⟨gz, ga, ca, hv, HO⟩ hL hc hd
      have b1 : (0 : Int) ≤ (aa : Int) := by omega
      have b2 : (aa : Int) < (n : Int) := by omega
      exact wpOp_val rfl rfl (ex_index rfl (hv.get 1 rfl rfl (hd 1 (by decide))) (hv.get 2 rfl rfl (hd 2 (by decide))) (by go_simp)) ⟨gz, ga, ca, hv.put lt_row_apart 10 rfl (Nat.le_of_ble_eq_true rfl) (Nat.le_of_ble_eq_true rfl) rfl, HO⟩
    · -- 11 store
      rintro L a wc ⟨gz, ga, ca, hv, HO⟩ hL hc hd
      have h9' : L 9 = true := hd 9 (by decide)
      have hO := HO.out
      rw [if_neg (show ¬ (L 11 = true) from by simp [hL]), if_pos h9'] at hO
      obtain ⟨u0, hu0⟩ := hua
      have k1 := hO.cell 3 rfl aa hu0
      have q1 := hO.frozen 3 rfl aa
      have hS : Owns W0 (wc.setCell ⟨gp, aa, none⟩ (.slice (some ⟨ga, 0, none⟩) n ca)) [r0, haulRow g21 (.slice (some ⟨gp, 0, none⟩) n cp) (vs) (vt), r2, (if upd L 11 11 = true then ⟨.slice (some ⟨gp, 0, none⟩) n cp, 23, 1, n, us.set aa (.slice (some ⟨ga, 0, none⟩) n ca)⟩ else ⟨.slice (some ⟨gp, 0, none⟩) n cp, 23, 1, n, us⟩), (if upd L 11 9 = true then ⟨.slice (some ⟨ga, 0, none⟩) n ca, 3, 1, n, (row.map (Value.int .i64))⟩ else if upd L 11 3 = true then ⟨.slice (some ⟨gz, 0, none⟩) 0 0, 3, 1, 0, []⟩ else no)] := by rw [if_pos (show upd L 11 11 = true from by simp [upd]), if_pos (show upd L 11 9 = true from by simp [upd, h9'])]; exact hO.store 3 rfl aa (.slice (some ⟨ga, 0, none⟩) n ca)
      exact wpOp_skip rfl rfl rfl (ex_store rfl (hv.get 10 rfl rfl (hd 10 (by decide))) (hv.get 9 rfl rfl (hd 9 (by decide))) (by go_simp)) ⟨gz, ga, ca, hv.skip 11 rfl, (Lib.hid hS)⟩
  · rintro L a wc ⟨gz, ga, ca, hv, HO⟩ hall
    show K a wc
    have ha := act_lit a
    rw [hv.size, hv.defers] at ha
    have hl : ∀ f : Nat → Value, ((List.range (⟨#[c0, c1, c2, .pointer (some ⟨B, 0, none⟩), c4, c5, c6, c7, c8, c9, c10, c11, c12, c13, c14, c15, c16, c17, c18, c19, c20, .pointer (some ⟨g21, 0, none⟩), .int .i64 (aa : Nat), c23, c24, c25, c26, c27, c28, c29, c30, c31, c32, c33, c34, c35, c36, c37, c38, c39, c40, c41, c42, c43, c44, c45, c46, c47, c48, c49, c50, c51, c52, c53, c54, c55, c56, c57, c58, c59, c60, c61, c62, c63, c64, c65, c66, c67, c68, c69, c70, c71, c72, c73, c74, c75, c76, c77, c78, c79, c80, c81, c82, c83, c84, c85, c86, c87, c88, c89, c90, c91, c92, c93, c94, c95, c96, c97, c98, c99, c100, c101, c102, c103, c104, c105, c106, c107, c108, c109, c110, c111, c112, c113, c114, c115, c116, c117, c118, c119, c120, c121, c122, c123, c124, c125, c126, c127, c128, c129, c130, c131, c132, c133, c134, c135, c136, c137, c138, c139, c140, c141, c142, c143, c144, c145, c146, c147, c148, c149, c150, c151, c152, c153, c154, c155, c156, c157, c158, c159, c160, c161, c162, c163, c164, c165, c166, c167, c168, c169, c170, c171, c172, c173, c174, c175, c176, c177, c178, c179, c180, c181, c182, c183, c184, c185, c186, c187, c188, c189, c190, c191, c192, c193, c194, c195, c196, c197, c198, c199, c200, c201, c202, c203, c204, c205, c206, c207, c208, c209, c210, c211, c212, c213, c214, c215, c216, c217, c218, c219, c220, c221, c222, c223, c224, c225, c226, c227, c228, c229, c230, c231, c232, c233, c234, c235, c236, c237, c238, c239, c240, c241, c242, c243, c244, c245, c246, c247, c248, c249, c250, c251, c252, c253, c254], df⟩ : Act).tmps.size).map f).toArray = #[f 0, f 1, f 2, f 3, f 4, f 5, f 6, f 7, f 8, f 9, f 10, f 11, f 12, f 13, f 14, f 15, f 16, f 17, f 18, f 19, f 20, f 21, f 22, f 23, f 24, f 25, f 26, f 27, f 28, f 29, f 30, f 31, f 32, f 33, f 34, f 35, f 36, f 37, f 38, f 39, f 40, f 41, f 42, f 43, f 44, f 45, f 46, f 47, f 48, f 49, f 50, f 51, f 52, f 53, f 54, f 55, f 56, f 57, f 58, f 59, f 60, f 61, f 62, f 63, f 64, f 65, f 66, f 67, f 68, f 69, f 70, f 71, f 72, f 73, f 74, f 75, f 76, f 77, f 78, f 79, f 80, f 81, f 82, f 83, f 84, f 85, f 86, f 87, f 88, f 89, f 90, f 91, f 92, f 93, f 94, f 95, f 96, f 97, f 98, f 99, f 100, f 101, f 102, f 103, f 104, f 105, f 106, f 107, f 108, f 109, f 110, f 111, f 112, f 113, f 114, f 115, f 116, f 117, f 118, f 119, f 120, f 121, f 122, f 123, f 124, f 125, f 126, f 127, f 128, f 129, f 130, f 131, f 132, f 133, f 134, f 135, f 136, f 137, f 138, f 139, f 140, f 141, f 142, f 143, f 144, f 145, f 146, f 147, f 148, f 149, f 150, f 151, f 152, f 153, f 154, f 155, f 156, f 157, f 158, f 159, f 160, f 161, f 162, f 163, f 164, f 165, f 166, f 167, f 168, f 169, f 170, f 171, f 172, f 173, f 174, f 175, f 176, f 177, f 178, f 179, f 180, f 181, f 182, f 183, f 184, f 185, f 186, f 187, f 188, f 189, f 190, f 191, f 192, f 193, f 194, f 195, f 196, f 197, f 198, f 199, f 200, f 201, f 202, f 203, f 204, f 205, f 206, f 207, f 208, f 209, f 210, f 211, f 212, f 213, f 214, f 215, f 216, f 217, f 218, f 219, f 220, f 221, f 222, f 223, f 224, f 225, f 226, f 227, f 228, f 229, f 230, f 231, f 232, f 233, f 234, f 235, f 236, f 237, f 238, f 239, f 240, f 241, f 242, f 243, f 244, f 245, f 246, f 247, f 248, f 249, f 250, f 251, f 252, f 253, f 254] := fun _ => rfl
    rw [hl] at ha
    simp only [hv.fixed 0 (by decide), hv.fixed 1 (by decide), hv.fixed 2 (by decide), hv.fixed 3 (by decide), hv.fixed 4 (by decide), hv.fixed 5 (by decide), hv.fixed 6 (by decide), hv.fixed 7 (by decide), hv.fixed 8 (by decide), hv.fixed 9 (by decide), hv.fixed 10 (by decide), hv.fixed 11 (by decide), hv.fixed 12 (by decide), hv.fixed 13 (by decide), hv.fixed 14 (by decide), hv.fixed 15 (by decide), hv.fixed 16 (by decide), hv.fixed 17 (by decide), hv.fixed 18 (by decide), hv.fixed 19 (by decide), hv.fixed 20 (by decide), hv.fixed 21 (by decide), hv.fixed 22 (by decide), hv.fixed 23 (by decide), hv.fixed 24 (by decide), hv.fixed 25 (by decide), hv.fixed 26 (by decide), hv.fixed 27 (by decide), hv.fixed 28 (by decide), hv.fixed 29 (by decide), hv.fixed 30 (by decide), hv.fixed 31 (by decide), hv.fixed 32 (by decide), hv.fixed 33 (by decide), hv.fixed 34 (by decide), hv.fixed 35 (by decide), hv.fixed 36 (by decide), hv.fixed 37 (by decide), hv.fixed 38 (by decide), hv.fixed 39 (by decide), hv.fixed 40 (by decide), hv.fixed 41 (by decide), hv.fixed 42 (by decide), hv.fixed 43 (by decide), hv.fixed 44 (by decide), hv.fixed 45 (by decide), hv.fixed 46 (by decide), hv.fixed 47 (by decide), hv.fixed 48 (by decide), hv.fixed 49 (by decide), hv.fixed 50 (by decide), hv.fixed 51 (by decide), hv.fixed 52 (by decide), hv.fixed 53 (by decide), hv.fixed 54 (by decide), hv.fixed 55 (by decide), hv.fixed 56 (by decide), hv.fixed 57 (by decide), hv.fixed 58 (by decide), hv.fixed 59 (by decide), hv.fixed 60 (by decide), hv.fixed 61 (by decide), hv.fixed 62 (by decide), hv.fixed 63 (by decide), hv.fixed 64 (by decide), hv.fixed 65 (by decide), hv.fixed 66 (by decide), hv.fixed 67 (by decide), hv.fixed 68 (by decide), hv.fixed 69 (by decide), hv.fixed 70 (by decide), hv.fixed 71 (by decide), hv.fixed 72 (by decide), hv.fixed 73 (by decide), hv.fixed 74 (by decide), hv.fixed 75 (by decide), hv.fixed 76 (by decide), hv.fixed 77 (by decide), hv.fixed 78 (by decide), hv.fixed 79 (by decide), hv.fixed 80 (by decide), hv.fixed 81 (by decide), hv.fixed 82 (by decide), hv.fixed 83 (by decide), hv.fixed 84 (by decide), hv.fixed 85 (by decide), hv.fixed 86 (by decide), hv.fixed 87 (by decide), hv.fixed 88 (by decide), hv.fixed 89 (by decide), hv.fixed 90 (by decide), hv.fixed 91 (by decide), hv.fixed 92 (by decide), hv.fixed 93 (by decide), hv.fixed 94 (by decide), hv.fixed 95 (by decide), hv.fixed 96 (by decide), hv.fixed 97 (by decide), hv.fixed 98 (by decide), hv.fixed 99 (by decide), hv.fixed 100 (by decide), hv.fixed 101 (by decide), hv.fixed 102 (by decide), hv.fixed 103 (by decide), hv.fixed 104 (by decide), hv.fixed 105 (by decide), hv.fixed 106 (by decide), hv.fixed 107 (by decide), hv.fixed 108 (by decide), hv.fixed 109 (by decide), hv.fixed 110 (by decide), hv.fixed 111 (by decide), hv.fixed 112 (by decide), hv.fixed 113 (by decide), hv.fixed 114 (by decide), hv.fixed 115 (by decide), hv.fixed 116 (by decide), hv.fixed 117 (by decide), hv.fixed 118 (by decide), hv.fixed 119 (by decide), hv.fixed 120 (by decide), hv.fixed 121 (by decide), hv.fixed 122 (by decide), hv.fixed 123 (by decide), hv.fixed 124 (by decide), hv.fixed 125 (by decide), hv.fixed 126 (by decide), hv.fixed 127 (by decide), hv.fixed 128 (by decide), hv.fixed 129 (by decide), hv.fixed 130 (by decide), hv.fixed 131 (by decide), hv.fixed 132 (by decide), hv.fixed 133 (by decide), hv.fixed 134 (by decide), hv.fixed 135 (by decide), hv.fixed 136 (by decide), hv.fixed 137 (by decide), hv.fixed 138 (by decide), hv.fixed 139 (by decide), hv.fixed 140 (by decide), hv.fixed 141 (by decide), hv.fixed 142 (by decide), hv.fixed 143 (by decide), hv.fixed 144 (by decide), hv.fixed 145 (by decide), hv.fixed 146 (by decide), hv.fixed 147 (by decide), hv.fixed 148 (by decide), hv.fixed 149 (by decide), hv.fixed 150 (by decide), hv.fixed 151 (by decide), hv.fixed 152 (by decide), hv.fixed 153 (by decide), hv.fixed 154 (by decide), hv.fixed 155 (by decide), hv.fixed 156 (by decide), hv.fixed 157 (by decide), hv.fixed 158 (by decide), hv.fixed 159 (by decide), hv.fixed 160 (by decide), hv.fixed 161 (by decide), hv.fixed 162 (by decide), hv.fixed 163 (by decide), hv.fixed 164 (by decide), hv.fixed 165 (by decide), hv.fixed 166 (by decide), hv.fixed 167 (by decide), hv.fixed 168 (by decide), hv.fixed 169 (by decide), hv.fixed 170 (by decide), hv.fixed 171 (by decide), hv.fixed 172 (by decide), hv.fixed 173 (by decide), hv.fixed 174 (by decide), hv.fixed 175 (by decide), hv.fixed 176 (by decide), hv.fixed 177 (by decide), hv.fixed 178 (by decide), hv.fixed 179 (by decide), hv.fixed 180 (by decide), hv.fixed 181 (by decide), hv.fixed 193 (by decide), hv.fixed 194 (by decide), hv.fixed 195 (by decide), hv.fixed 196 (by decide), hv.fixed 197 (by decide), hv.fixed 198 (by decide), hv.fixed 199 (by decide), hv.fixed 200 (by decide), hv.fixed 201 (by decide), hv.fixed 202 (by decide), hv.fixed 203 (by decide), hv.fixed 204 (by decide), hv.fixed 205 (by decide), hv.fixed 206 (by decide), hv.fixed 207 (by decide), hv.fixed 208 (by decide), hv.fixed 209 (by decide), hv.fixed 210 (by decide), hv.fixed 211 (by decide), hv.fixed 212 (by decide), hv.fixed 213 (by decide), hv.fixed 214 (by decide), hv.fixed 215 (by decide), hv.fixed 216 (by decide), hv.fixed 217 (by decide), hv.fixed 218 (by decide), hv.fixed 219 (by decide), hv.fixed 220 (by decide), hv.fixed 221 (by decide), hv.fixed 222 (by decide), hv.fixed 223 (by decide), hv.fixed 224 (by decide), hv.fixed 225 (by decide), hv.fixed 226 (by decide), hv.fixed 227 (by decide), hv.fixed 228 (by decide), hv.fixed 229 (by decide), hv.fixed 230 (by decide), hv.fixed 231 (by decide), hv.fixed 232 (by decide), hv.fixed 233 (by decide), hv.fixed 234 (by decide), hv.fixed 235 (by decide), hv.fixed 236 (by decide), hv.fixed 237 (by decide), hv.fixed 238 (by decide), hv.fixed 239 (by decide), hv.fixed 240 (by decide), hv.fixed 241 (by decide), hv.fixed 242 (by decide), hv.fixed 243 (by decide), hv.fixed 244 (by decide), hv.fixed 245 (by decide), hv.fixed 246 (by decide), hv.fixed 247 (by decide), hv.fixed 248 (by decide), hv.fixed 249 (by decide), hv.fixed 250 (by decide), hv.fixed 251 (by decide), hv.fixed 252 (by decide), hv.fixed 253 (by decide), hv.fixed 254 (by decide)] at ha
    rw [ha]
    have hO := HO.out
    rw [if_pos (hall 11 (by decide)), if_pos (hall 9 (by decide))] at hO
    exact hK ga ca _ _ _ _ _ _ _ _ _ _ _ wc hO
noncomputable def lt_dear_code : Code := ((Tryd.f4.body.bind (regionOf 31)).getD .skip)
def lt_dear_dsts : List (Option Nat) := [some 213, some 214, some 215, some 216, some 217, some 218, some 219, some 220, some 221, some 222, some 223, some 224, some 225, none]
theorem lt_dear_apart : apartD lt_dear_dsts = true := by decide +kernel
set_option maxRecDepth 1000000 in
set_option maxHeartbeats 16000000 in
theorem lt_dear (W0 wr : World) (BM g21 gp cp n aa b ga ca : Nat) (vs vt : Value) (z x3 : Int) (us qs : List Value) (r0 r2 : LRow) (han : aa < n) (hbn : b < n) (hz0 : 0 ≤ z) (hz1 : z < 1000) (hx0 : 0 ≤ x3) (hx1 : x3 ≤ 255) (hm3 : W0.cell? ⟨BM, 3, none⟩ = some (.int .u8 x3)) (hua : us[aa]? = some (.slice (some ⟨ga, 0, none⟩) n ca)) (hqb : qs[b]? = some (.int .i64 z)) (HOO : Hid (Owns W0 wr.drew [r0, haulRow g21 (.slice (some ⟨gp, 0, none⟩) n cp) (vs) (vt), r2, ⟨.slice (some ⟨gp, 0, none⟩) n cp, 23, 1, n, us⟩, ⟨.slice (some ⟨ga, 0, none⟩) n ca, 3, 1, n, qs⟩])) (c0 c1 c2 c3 c4 c6 c7 c8 c9 c10 c11 c12 c13 c14 c15 c16 c17 c18 c19 c20 c24 c25 c26 c27 c28 c29 c30 c31 c32 c33 c34 c35 c36 c37 c38 c39 c40 c41 c42 c43 c44 c45 c46 c47 c48 c49 c50 c51 c52 c53 c54 c55 c56 c57 c58 c59 c60 c61 c62 c63 c64 c65 c66 c67 c68 c69 c70 c71 c72 c73 c74 c75 c76 c77 c78 c79 c80 c81 c82 c83 c84 c85 c86 c87 c88 c89 c90 c91 c92 c93 c94 c95 c96 c97 c98 c99 c100 c101 c102 c103 c104 c105 c106 c107 c108 c109 c110 c111 c112 c113 c114 c115 c116 c117 c118 c119 c120 c121 c122 c123 c124 c125 c126 c127 c128 c129 c130 c131 c132 c133 c134 c135 c136 c137 c138 c139 c140 c141 c142 c143 c144 c145 c146 c147 c148 c149 c150 c151 c152 c153 c154 c155 c156 c157 c158 c159 c160 c161 c162 c163 c164 c165 c166 c167 c168 c169 c170 c171 c172 c173 c174 c175 c176 c177 c178 c179 c180 c181 c182 c183 c184 c185 c186 c187 c188 c189 c190 c191 c192 c193 c194 c195 c196 c197 c198 c199 c200 c201 c202 c203 c204 c205 c206 c207 c208 c209 c210 c211 c212 c213 c214 c215 c216 c217 c218 c219 c220 c221 c222 c223 c224 c225 c226 c227 c228 c229 c230 c231 c232 c233 c234 c235 c236 c237 c238 c239 c240 c241 c242 c243 c244 c245 c246 c247 c248 c249 c250 c251 c252 c253 c254 : Value) (df : List Deferred) (K : Act → World → Prop)
    (hK : ∀  (u213 u214 u215 u216 u217 u218 u219 u220 u221 u222 u223 u224 u225 : Value) (wx : World), Owns W0 wx [r0, haulRow g21 (.slice (some ⟨gp, 0, none⟩) n cp) (vs) (vt), r2, ⟨.slice (some ⟨gp, 0, none⟩) n cp, 23, 1, n, us⟩, ⟨.slice (some ⟨ga, 0, none⟩) n ca, 3, 1, n, qs.set b (.int .i64 (z + x3))⟩] → K ⟨#[c0, c1, c2, c3, c4, .pointer (some ⟨BM, 0, none⟩), c6, c7, c8, c9, c10, c11, c12, c13, c14, c15, c16, c17, c18, c19, c20, .pointer (some ⟨g21, 0, none⟩), .int .i64 (aa : Nat), .int .i64 (b : Nat), c24, c25, c26, c27, c28, c29, c30, c31, c32, c33, c34, c35, c36, c37, c38, c39, c40, c41, c42, c43, c44, c45, c46, c47, c48, c49, c50, c51, c52, c53, c54, c55, c56, c57, c58, c59, c60, c61, c62, c63, c64, c65, c66, c67, c68, c69, c70, c71, c72, c73, c74, c75, c76, c77, c78, c79, c80, c81, c82, c83, c84, c85, c86, c87, c88, c89, c90, c91, c92, c93, c94, c95, c96, c97, c98, c99, c100, c101, c102, c103, c104, c105, c106, c107, c108, c109, c110, c111, c112, c113, c114, c115, c116, c117, c118, c119, c120, c121, c122, c123, c124, c125, c126, c127, c128, c129, c130, c131, c132, c133, c134, c135, c136, c137, c138, c139, c140, c141, c142, c143, c144, c145, c146, c147, c148, c149, c150, c151, c152, c153, c154, c155, c156, c157, c158, c159, c160, c161, c162, c163, c164, c165, c166, c167, c168, c169, c170, c171, c172, c173, c174, c175, c176, c177, c178, c179, c180, c181, c182, c183, c184, c185, c186, c187, c188, c189, c190, c191, c192, c193, c194, c195, c196, c197, c198, c199, c200, c201, c202, c203, c204, c205, c206, c207, c208, c209, c210, c211, c212, u213, u214, u215, u216, u217, u218, u219, u220, u221, u222, u223, u224, u225, c226, c227, c228, c229, c230, c231, c232, c233, c234, c235, c236, c237, c238, c239, c240, c241, c242, c243, c244, c245, c246, c247, c248, c249, c250, c251, c252, c253, c254], df⟩ wx) :
    Code.wp Tryd.prog lt_dear_code (AtEnd K) ⟨#[c0, c1, c2, c3, c4, .pointer (some ⟨BM, 0, none⟩), c6, c7, c8, c9, c10, c11, c12, c13, c14, c15, c16, c17, c18, c19, c20, .pointer (some ⟨g21, 0, none⟩), .int .i64 (aa : Nat), .int .i64 (b : Nat), c24, c25, c26, c27, c28, c29, c30, c31, c32, c33, c34, c35, c36, c37, c38, c39, c40, c41, c42, c43, c44, c45, c46, c47, c48, c49, c50, c51, c52, c53, c54, c55, c56, c57, c58, c59, c60, c61, c62, c63, c64, c65, c66, c67, c68, c69, c70, c71, c72, c73, c74, c75, c76, c77, c78, c79, c80, c81, c82, c83, c84, c85, c86, c87, c88, c89, c90, c91, c92, c93, c94, c95, c96, c97, c98, c99, c100, c101, c102, c103, c104, c105, c106, c107, c108, c109, c110, c111, c112, c113, c114, c115, c116, c117, c118, c119, c120, c121, c122, c123, c124, c125, c126, c127, c128, c129, c130, c131, c132, c133, c134, c135, c136, c137, c138, c139, c140, c141, c142, c143, c144, c145, c146, c147, c148, c149, c150, c151, c152, c153, c154, c155, c156, c157, c158, c159, c160, c161, c162, c163, c164, c165, c166, c167, c168, c169, c170, c171, c172, c173, c174, c175, c176, c177, c178, c179, c180, c181, c182, c183, c184, c185, c186, c187, c188, c189, c190, c191, c192, c193, c194, c195, c196, c197, c198, c199, c200, c201, c202, c203, c204, c205, c206, c207, c208, c209, c210, c211, c212, c213, c214, c215, c216, c217, c218, c219, c220, c221, c222, c223, c224, c225, c226, c227, c228, c229, c230, c231, c232, c233, c234, c235, c236, c237, c238, c239, c240, c241, c242, c243, c244, c245, c246, c247, c248, c249, c250, c251, c252, c253, c254], df⟩ wr := by
  conv => arg 2; whnf
  refine region_inv (by kernel_rfl) [[], [0], [], [1, 2], [3], [], [4, 5], [6], [], [8], [9], [7, 10], [4, 5, 0, 1, 2, 3, 4, 5, 6, 7, 8, 9, 10, 11], [12, 11, 0, 1, 2, 3, 4, 5, 6, 7, 8, 9, 10, 11]] (by kernel_rfl) [0, 1, 2, 3, 4, 5, 6, 7, 8, 9, 10, 11, 12, 13] (by decide +kernel) (by decide +kernel) (by decide +kernel) (fun L a wc => InvO lt_dear_dsts [.pointer (some ⟨g21, 0, none⟩), .slice (some ⟨gp, 0, none⟩) n cp, .int .i64 (aa : Nat), .pointer (some ⟨gp, aa, none⟩), .slice (some ⟨ga, 0, none⟩) n ca, .int .i64 (b : Nat), .pointer (some ⟨ga, b, none⟩), .int .i64 z, .pointer (some ⟨BM, 3, none⟩), .int .u8 x3, .int .i64 x3, .int .i64 (z + x3), .pointer (some ⟨ga, b, none⟩), undef] ⟨#[c0, c1, c2, c3, c4, .pointer (some ⟨BM, 0, none⟩), c6, c7, c8, c9, c10, c11, c12, c13, c14, c15, c16, c17, c18, c19, c20, .pointer (some ⟨g21, 0, none⟩), .int .i64 (aa : Nat), .int .i64 (b : Nat), c24, c25, c26, c27, c28, c29, c30, c31, c32, c33, c34, c35, c36, c37, c38, c39, c40, c41, c42, c43, c44, c45, c46, c47, c48, c49, c50, c51, c52, c53, c54, c55, c56, c57, c58, c59, c60, c61, c62, c63, c64, c65, c66, c67, c68, c69, c70, c71, c72, c73, c74, c75, c76, c77, c78, c79, c80, c81, c82, c83, c84, c85, c86, c87, c88, c89, c90, c91, c92, c93, c94, c95, c96, c97, c98, c99, c100, c101, c102, c103, c104, c105, c106, c107, c108, c109, c110, c111, c112, c113, c114, c115, c116, c117, c118, c119, c120, c121, c122, c123, c124, c125, c126, c127, c128, c129, c130, c131, c132, c133, c134, c135, c136, c137, c138, c139, c140, c141, c142, c143, c144, c145, c146, c147, c148, c149, c150, c151, c152, c153, c154, c155, c156, c157, c158, c159, c160, c161, c162, c163, c164, c165, c166, c167, c168, c169, c170, c171, c172, c173, c174, c175, c176, c177, c178, c179, c180, c181, c182, c183, c184, c185, c186, c187, c188, c189, c190, c191, c192, c193, c194, c195, c196, c197, c198, c199, c200, c201, c202, c203, c204, c205, c206, c207, c208, c209, c210, c211, c212, c213, c214, c215, c216, c217, c218, c219, c220, c221, c222, c223, c224, c225, c226, c227, c228, c229, c230, c231, c232, c233, c234, c235, c236, c237, c238, c239, c240, c241, c242, c243, c244, c245, c246, c247, c248, c249, c250, c251, c252, c253, c254], df⟩ L a ∧ Hid (Owns W0 wc [r0, haulRow g21 (.slice (some ⟨gp, 0, none⟩) n cp) (vs) (vt), r2, ⟨.slice (some ⟨gp, 0, none⟩) n cp, 23, 1, n, us⟩, (if L 13 = true then ⟨.slice (some ⟨ga, 0, none⟩) n ca, 3, 1, n, qs.set b (.int .i64 (z + x3))⟩ else ⟨.slice (some ⟨ga, 0, none⟩) n ca, 3, 1, n, qs⟩)])) ⟨InvO.start, HOO⟩ ?_ ?_
  · refine ⟨?_, ?_, ?_, ?_, ?_, ?_, ?_, ?_, ?_, ?_, ?_, ?_, ?_, ?_, trivial⟩
    · -- 0 field
      rintro L a wc ⟨hv, HO⟩ hL hc hd
      exact wpOp_val rfl rfl (ex_field rfl ((hv.fixed 21 (by decide)).trans rfl) (by go_simp)) ⟨hv.put lt_dear_apart 0 rfl (Nat.le_of_ble_eq_true rfl) (Nat.le_of_ble_eq_true rfl) rfl, HO⟩
    · -- 1 load
      rintro L a wc ⟨hv, HO⟩ hL hc hd
      have k1 := HO.out.cell 1 rfl 0 rfl
      exact wpOp_val rfl rfl (ex_load rfl (hv.get 0 rfl rfl (hd 0 (by decide))) (by go_simp)) ⟨hv.put lt_dear_apart 1 rfl (Nat.le_of_ble_eq_true rfl) (Nat.le_of_ble_eq_true rfl) rfl, HO⟩
    · -- 2 move
      rintro L a wc ⟨hv, HO⟩ hL hc hd
      exact wpOp_val rfl rfl (ex_move rfl ((hv.fixed 22 (by decide)).trans rfl)) ⟨hv.put lt_dear_apart 2 rfl (Nat.le_of_ble_eq_true rfl) (Nat.le_of_ble_eq_true rfl) rfl, HO⟩
    · -- 3 index
      rintro L a wc ⟨hv, HO⟩ hL hc hd
      have b1 : (0 : Int) ≤ (aa : Int) := by omega
      have b2 : (aa : Int) < (n : Int) := by omega
      exact wpOp_val rfl rfl (ex_index rfl (hv.get 1 rfl rfl (hd 1 (by decide))) (hv.get 2 rfl rfl (hd 2 (by decide))) (by go_simp)) ⟨hv.put lt_dear_apart 3 rfl (Nat.le_of_ble_eq_true rfl) (Nat.le_of_ble_eq_true rfl) rfl, HO⟩
    · -- 4 load
      rintro L a wc ⟨hv, HO⟩ hL hc hd
      have k1 := HO.out.cell 3 rfl aa hua
      exact wpOp_val rfl rfl (ex_load rfl (hv.get 3 rfl rfl (hd 3 (by decide))) (by go_simp)) ⟨hv.put lt_dear_apart 4 rfl (Nat.le_of_ble_eq_true rfl) (Nat.le_of_ble_eq_true rfl) rfl, HO⟩
    · -- 5 move
      rintro L a wc ⟨hv, HO⟩ hL hc hd
      exact wpOp_val rfl rfl (ex_move rfl ((hv.fixed 23 (by decide)).trans rfl)) ⟨hv.put lt_dear_apart 5 rfl (Nat.le_of_ble_eq_true rfl) (Nat.le_of_ble_eq_true rfl) rfl, HO⟩
    · -- 6 index
      rintro L a wc ⟨hv, HO⟩ hL hc hd
      have b1 : (0 : Int) ≤ (b : Int) := by omega
      have b2 : (b : Int) < (n : Int) := by omega
      exact wpOp_val rfl rfl (ex_index rfl (hv.get 4 rfl rfl (hd 4 (by decide))) (hv.get 5 rfl rfl (hd 5 (by decide))) (by go_simp)) ⟨hv.put lt_dear_apart 6 rfl (Nat.le_of_ble_eq_true rfl) (Nat.le_of_ble_eq_true rfl) rfl, HO⟩
    · -- 7 load
      rintro L a wc ⟨hv, HO⟩ hL hc hd
      have n13 : L 13 = false := Bool.eq_false_iff.2 fun h => Bool.false_ne_true (hL.symm.trans (hc 13 h 7 (by decide)))
      have hO := HO.out
      rw [if_neg (show ¬ (L 13 = true) from by simp [n13])] at hO
      have k1 := hO.cell 4 rfl b hqb
      exact wpOp_val rfl rfl (ex_load rfl (hv.get 6 rfl rfl (hd 6 (by decide))) (by go_simp)) ⟨hv.put lt_dear_apart 7 rfl (Nat.le_of_ble_eq_true rfl) (Nat.le_of_ble_eq_true rfl) rfl, HO⟩
    · -- 8 index
      rintro L a wc ⟨hv, HO⟩ hL hc hd
      exact wpOp_val rfl rfl (ex_index rfl ((hv.fixed 5 (by decide)).trans rfl) rfl (by go_simp)) ⟨hv.put lt_dear_apart 8 rfl (Nat.le_of_ble_eq_true rfl) (Nat.le_of_ble_eq_true rfl) rfl, HO⟩
    · -- 9 load
      rintro L a wc ⟨hv, HO⟩ hL hc hd
      have eM : wc.cell? ⟨BM, 3, none⟩ = some (.int .u8 x3) := HO.out.ext.cell hm3
      exact wpOp_val rfl rfl (ex_load rfl (hv.get 8 rfl rfl (hd 8 (by decide))) (by go_simp)) ⟨hv.put lt_dear_apart 9 rfl (Nat.le_of_ble_eq_true rfl) (Nat.le_of_ble_eq_true rfl) rfl, HO⟩
    · -- 10 convert
      rintro L a wc ⟨hv, HO⟩ hL hc hd
      have hw : IntKind.i64.wrap x3 = x3 := by rw [IntKind.wrap_i64]; omega
      exact wpOp_val rfl rfl (ex_convert rfl (hv.get 9 rfl rfl (hd 9 (by decide))) (by go_simp)) ⟨hv.put lt_dear_apart 10 rfl (Nat.le_of_ble_eq_true rfl) (Nat.le_of_ble_eq_true rfl) rfl, HO⟩
    · -- 11 bin
      rintro L a wc ⟨hv, HO⟩ hL hc hd
      have hw : IntKind.i64.wrap (z + x3) = z + x3 := by rw [IntKind.wrap_i64]; omega
      exact wpOp_val rfl rfl (ex_bin rfl (hv.get 7 rfl rfl (hd 7 (by decide))) (hv.get 10 rfl rfl (hd 10 (by decide))) (by go_simp)) ⟨hv.put lt_dear_apart 11 rfl (Nat.le_of_ble_eq_true rfl) (Nat.le_of_ble_eq_true rfl) rfl, HO⟩
    · -- 12 index
      rintro L a wc ⟨hv, HO⟩ hL hc hd
      have b1 : (0 : Int) ≤ (b : Int) := by omega
      have b2 : (b : Int) < (n : Int) := by omega
      exact wpOp_val rfl rfl (ex_index rfl (hv.get 4 rfl rfl (hd 4 (by decide))) (hv.get 5 rfl rfl (hd 5 (by decide))) (by go_simp)) ⟨hv.put lt_dear_apart 12 rfl (Nat.le_of_ble_eq_true rfl) (Nat.le_of_ble_eq_true rfl) rfl, HO⟩
    · -- 13 store
      rintro L a wc ⟨hv, HO⟩ hL hc hd
      have hO := HO.out
      rw [if_neg (show ¬ (L 13 = true) from by simp [hL])] at hO
      have k1 := hO.cell 4 rfl b hqb
      have q1 := hO.frozen 4 rfl b
      have hS : Owns W0 (wc.setCell ⟨ga, b, none⟩ (.int .i64 (z + x3))) [r0, haulRow g21 (.slice (some ⟨gp, 0, none⟩) n cp) (vs) (vt), r2, ⟨.slice (some ⟨gp, 0, none⟩) n cp, 23, 1, n, us⟩, (if upd L 13 13 = true then ⟨.slice (some ⟨ga, 0, none⟩) n ca, 3, 1, n, qs.set b (.int .i64 (z + x3))⟩ else ⟨.slice (some ⟨ga, 0, none⟩) n ca, 3, 1, n, qs⟩)] := by rw [if_pos (show upd L 13 13 = true from by simp [upd])]; exact hO.store 4 rfl b (.int .i64 (z + x3))
      exact wpOp_skip rfl rfl rfl (ex_store rfl (hv.get 12 rfl rfl (hd 12 (by decide))) (hv.get 11 rfl rfl (hd 11 (by decide))) (by go_simp)) ⟨hv.skip 13 rfl, (Lib.hid hS)⟩
  · rintro L a wc ⟨hv, HO⟩ hall
    show K a wc
    have ha := act_lit a
    rw [hv.size, hv.defers] at ha
    have hl : ∀ f : Nat → Value, ((List.range (⟨#[c0, c1, c2, c3, c4, .pointer (some ⟨BM, 0, none⟩), c6, c7, c8, c9, c10, c11, c12, c13, c14, c15, c16, c17, c18, c19, c20, .pointer (some ⟨g21, 0, none⟩), .int .i64 (aa : Nat), .int .i64 (b : Nat), c24, c25, c26, c27, c28, c29, c30, c31, c32, c33, c34, c35, c36, c37, c38, c39, c40, c41, c42, c43, c44, c45, c46, c47, c48, c49, c50, c51, c52, c53, c54, c55, c56, c57, c58, c59, c60, c61, c62, c63, c64, c65, c66, c67, c68, c69, c70, c71, c72, c73, c74, c75, c76, c77, c78, c79, c80, c81, c82, c83, c84, c85, c86, c87, c88, c89, c90, c91, c92, c93, c94, c95, c96, c97, c98, c99, c100, c101, c102, c103, c104, c105, c106, c107, c108, c109, c110, c111, c112, c113, c114, c115, c116, c117, c118, c119, c120, c121, c122, c123, c124, c125, c126, c127, c128, c129, c130, c131, c132, c133, c134, c135, c136, c137, c138, c139, c140, c141, c142, c143, c144, c145, c146, c147, c148, c149, c150, c151, c152, c153, c154, c155, c156, c157, c158, c159, c160, c161, c162, c163, c164, c165, c166, c167, c168, c169, c170, c171, c172, c173, c174, c175, c176, c177, c178, c179, c180, c181, c182, c183, c184, c185, c186, c187, c188, c189, c190, c191, c192, c193, c194, c195, c196, c197, c198, c199, c200, c201, c202, c203, c204, c205, c206, c207, c208, c209, c210, c211, c212, c213, c214, c215, c216, c217, c218, c219, c220, c221, c222, c223, c224, c225, c226, c227, c228, c229, c230, c231, c232, c233, c234, c235, c236, c237, c238, c239, c240, c241, c242, c243, c244, c245, c246, c247, c248, c249, c250, c251, c252, c253, c254], df⟩ : Act).tmps.size).map f).toArray = #[f 0, f 1, f 2, f 3, f 4, f 5, f 6, f 7, f 8, f 9, f 10, f 11, f 12, f 13, f 14, f 15, f 16, f 17, f 18, f 19, f 20, f 21, f 22, f 23, f 24, f 25, f 26, f 27, f 28, f 29, f 30, f 31, f 32, f 33, f 34, f 35, f 36, f 37, f 38, f 39, f 40, f 41, f 42, f 43, f 44, f 45, f 46, f 47, f 48, f 49, f 50, f 51, f 52, f 53, f 54, f 55, f 56, f 57, f 58, f 59, f 60, f 61, f 62, f 63, f 64, f 65, f 66, f 67, f 68, f 69, f 70, f 71, f 72, f 73, f 74, f 75, f 76, f 77, f 78, f 79, f 80, f 81, f 82, f 83, f 84, f 85, f 86, f 87, f 88, f 89, f 90, f 91, f 92, f 93, f 94, f 95, f 96, f 97, f 98, f 99, f 100, f 101, f 102, f 103, f 104, f 105, f 106, f 107, f 108, f 109, f 110, f 111, f 112, f 113, f 114, f 115, f 116, f 117, f 118, f 119, f 120, f 121, f 122, f 123, f 124, f 125, f 126, f 127, f 128, f 129, f 130, f 131, f 132, f 133, f 134, f 135, f 136, f 137, f 138, f 139, f 140, f 141, f 142, f 143, f 144, f 145, f 146, f 147, f 148, f 149, f 150, f 151, f 152, f 153, f 154, f 155, f 156, f 157, f 158, f 159, f 160, f 161, f 162, f 163, f 164, f 165, f 166, f 167, f 168, f 169, f 170, f 171, f 172, f 173, f 174, f 175, f 176, f 177, f 178, f 179, f 180, f 181, f 182, f 183, f 184, f 185, f 186, f 187, f 188, f 189, f 190, f 191, f 192, f 193, f 194, f 195, f 196, f 197, f 198, f 199, f 200, f 201, f 202, f 203, f 204, f 205, f 206, f 207, f 208, f 209, f 210, f 211, f 212, f 213, f 214, f 215, f 216, f 217, f 218, f 219, f 220, f 221, f 222, f 223, f 224, f 225, f 226, f 227, f 228, f 229, f 230, f 231, f 232, f 233, f 234, f 235, f 236, f 237, f 238, f 239, f 240, f 241, f 242, f 243, f 244, f 245, f 246, f 247, f 248, f 249, f 250, f 251, f 252, f 253, f 254] := fun _ => rfl
    rw [hl] at ha
    simp only [hv.fixed 0 (by decide), hv.fixed 1 (by decide), hv.fixed 2 (by decide), hv.fixed 3 (by decide), hv.fixed 4 (by decide), hv.fixed 5 (by decide), hv.fixed 6 (by decide), hv.fixed 7 (by decide), hv.fixed 8 (by decide), hv.fixed 9 (by decide), hv.fixed 10 (by decide), hv.fixed 11 (by decide), hv.fixed 12 (by decide), hv.fixed 13 (by decide), hv.fixed 14 (by decide), hv.fixed 15 (by decide), hv.fixed 16 (by decide), hv.fixed 17 (by decide), hv.fixed 18 (by decide), hv.fixed 19 (by decide), hv.fixed 20 (by decide), hv.fixed 21 (by decide), hv.fixed 22 (by decide), hv.fixed 23 (by decide), hv.fixed 24 (by decide), hv.fixed 25 (by decide), hv.fixed 26 (by decide), hv.fixed 27 (by decide), hv.fixed 28 (by decide), hv.fixed 29 (by decide), hv.fixed 30 (by decide), hv.fixed 31 (by decide), hv.fixed 32 (by decide), hv.fixed 33 (by decide), hv.fixed 34 (by decide), hv.fixed 35 (by decide), hv.fixed 36 (by decide), hv.fixed 37 (by decide), hv.fixed 38 (by decide), hv.fixed 39 (by decide), hv.fixed 40 (by decide), hv.fixed 41 (by decide), hv.fixed 42 (by decide), hv.fixed 43 (by decide), hv.fixed 44 (by decide), hv.fixed 45 (by decide), hv.fixed 46 (by decide), hv.fixed 47 (by decide), hv.fixed 48 (by decide), hv.fixed 49 (by decide), hv.fixed 50 (by decide), hv.fixed 51 (by decide), hv.fixed 52 (by decide), hv.fixed 53 (by decide), hv.fixed 54 (by decide), hv.fixed 55 (by decide), hv.fixed 56 (by decide), hv.fixed 57 (by decide), hv.fixed 58 (by decide), hv.fixed 59 (by decide), hv.fixed 60 (by decide), hv.fixed 61 (by decide), hv.fixed 62 (by decide), hv.fixed 63 (by decide), hv.fixed 64 (by decide), hv.fixed 65 (by decide), hv.fixed 66 (by decide), hv.fixed 67 (by decide), hv.fixed 68 (by decide), hv.fixed 69 (by decide), hv.fixed 70 (by decide), hv.fixed 71 (by decide), hv.fixed 72 (by decide), hv.fixed 73 (by decide), hv.fixed 74 (by decide), hv.fixed 75 (by decide), hv.fixed 76 (by decide), hv.fixed 77 (by decide), hv.fixed 78 (by decide), hv.fixed 79 (by decide), hv.fixed 80 (by decide), hv.fixed 81 (by decide), hv.fixed 82 (by decide), hv.fixed 83 (by decide), hv.fixed 84 (by decide), hv.fixed 85 (by decide), hv.fixed 86 (by decide), hv.fixed 87 (by decide), hv.fixed 88 (by decide), hv.fixed 89 (by decide), hv.fixed 90 (by decide), hv.fixed 91 (by decide), hv.fixed 92 (by decide), hv.fixed 93 (by decide), hv.fixed 94 (by decide), hv.fixed 95 (by decide), hv.fixed 96 (by decide), hv.fixed 97 (by decide), hv.fixed 98 (by decide), hv.fixed 99 (by decide), hv.fixed 100 (by decide), hv.fixed 101 (by decide), hv.fixed 102 (by decide), hv.fixed 103 (by decide), hv.fixed 104 (by decide), hv.fixed 105 (by decide), hv.fixed 106 (by decide), hv.fixed 107 (by decide), hv.fixed 108 (by decide), hv.fixed 109 (by decide), hv.fixed 110 (by decide), hv.fixed 111 (by decide), hv.fixed 112 (by decide), hv.fixed 113 (by decide), hv.fixed 114 (by decide), hv.fixed 115 (by decide), hv.fixed 116 (by decide), hv.fixed 117 (by decide), hv.fixed 118 (by decide), hv.fixed 119 (by decide), hv.fixed 120 (by decide), hv.fixed 121 (by decide), hv.fixed 122 (by decide), hv.fixed 123 (by decide), hv.fixed 124 (by decide), hv.fixed 125 (by decide), hv.fixed 126 (by decide), hv.fixed 127 (by decide), hv.fixed 128 (by decide), hv.fixed 129 (by decide), hv.fixed 130 (by decide), hv.fixed 131 (by decide), hv.fixed 132 (by decide), hv.fixed 133 (by decide), hv.fixed 134 (by decide), hv.fixed 135 (by decide), hv.fixed 136 (by decide), hv.fixed 137 (by decide), hv.fixed 138 (by decide), hv.fixed 139 (by decide), hv.fixed 140 (by decide), hv.fixed 141 (by decide), hv.fixed 142 (by decide), hv.fixed 143 (by decide), hv.fixed 144 (by decide), hv.fixed 145 (by decide), hv.fixed 146 (by decide), hv.fixed 147 (by decide), hv.fixed 148 (by decide), hv.fixed 149 (by decide), hv.fixed 150 (by decide), hv.fixed 151 (by decide), hv.fixed 152 (by decide), hv.fixed 153 (by decide), hv.fixed 154 (by decide), hv.fixed 155 (by decide), hv.fixed 156 (by decide), hv.fixed 157 (by decide), hv.fixed 158 (by decide), hv.fixed 159 (by decide), hv.fixed 160 (by decide), hv.fixed 161 (by decide), hv.fixed 162 (by decide), hv.fixed 163 (by decide), hv.fixed 164 (by decide), hv.fixed 165 (by decide), hv.fixed 166 (by decide), hv.fixed 167 (by decide), hv.fixed 168 (by decide), hv.fixed 169 (by decide), hv.fixed 170 (by decide), hv.fixed 171 (by decide), hv.fixed 172 (by decide), hv.fixed 173 (by decide), hv.fixed 174 (by decide), hv.fixed 175 (by decide), hv.fixed 176 (by decide), hv.fixed 177 (by decide), hv.fixed 178 (by decide), hv.fixed 179 (by decide), hv.fixed 180 (by decide), hv.fixed 181 (by decide), hv.fixed 182 (by decide), hv.fixed 183 (by decide), hv.fixed 184 (by decide), hv.fixed 185 (by decide), hv.fixed 186 (by decide), hv.fixed 187 (by decide), hv.fixed 188 (by decide), hv.fixed 189 (by decide), hv.fixed 190 (by decide), hv.fixed 191 (by decide), hv.fixed 192 (by decide), hv.fixed 193 (by decide), hv.fixed 194 (by decide), hv.fixed 195 (by decide), hv.fixed 196 (by decide), hv.fixed 197 (by decide), hv.fixed 198 (by decide), hv.fixed 199 (by decide), hv.fixed 200 (by decide), hv.fixed 201 (by decide), hv.fixed 202 (by decide), hv.fixed 203 (by decide), hv.fixed 204 (by decide), hv.fixed 205 (by decide), hv.fixed 206 (by decide), hv.fixed 207 (by decide), hv.fixed 208 (by decide), hv.fixed 209 (by decide), hv.fixed 210 (by decide), hv.fixed 211 (by decide), hv.fixed 212 (by decide), hv.fixed 226 (by decide), hv.fixed 227 (by decide), hv.fixed 228 (by decide), hv.fixed 229 (by decide), hv.fixed 230 (by decide), hv.fixed 231 (by decide), hv.fixed 232 (by decide), hv.fixed 233 (by decide), hv.fixed 234 (by decide), hv.fixed 235 (by decide), hv.fixed 236 (by decide), hv.fixed 237 (by decide), hv.fixed 238 (by decide), hv.fixed 239 (by decide), hv.fixed 240 (by decide), hv.fixed 241 (by decide), hv.fixed 242 (by decide), hv.fixed 243 (by decide), hv.fixed 244 (by decide), hv.fixed 245 (by decide), hv.fixed 246 (by decide), hv.fixed 247 (by decide), hv.fixed 248 (by decide), hv.fixed 249 (by decide), hv.fixed 250 (by decide), hv.fixed 251 (by decide), hv.fixed 252 (by decide), hv.fixed 253 (by decide), hv.fixed 254 (by decide)] at ha
    rw [ha]
    have hO := HO.out
    rw [if_pos (hall 13 (by decide))] at hO
    exact hK _ _ _ _ _ _ _ _ _ _ _ _ _ wc hO
end Go.Proofs.YtenafgphaceidaaDoor

/- THE END of the law SumsTreesAreLeast, from the wider haul's Least on. -/
namespace Go.Proofs.YtenafgphaceidaaDoor
open Go.RowKit
/-- A function's text from a region on. -/
def fromRegion (n : Nat) : Code → Option Code
  | .region id ops b => if id == n then some (.region id ops b) else none
  | .seq a b => match fromRegion n a with
    | some x => some (.seq x b)
    | none => fromRegion n b
  | .block _ c => fromRegion n c
  | .scope c => fromRegion n c
  | _ => none
/-- What follows a region. -/
def afterRegion (n : Nat) (c : Code) : Option Code := match fromRegion n c with
  | some (.seq _ y) => some y
  | _ => none
noncomputable def lt_end_code : Code := ((Tryd.f4.body.bind (regionOf 32)).getD .skip)
noncomputable def lt_end_rest : Code := ((Tryd.f4.body.bind (afterRegion 32)).getD .skip)
set_option maxRecDepth 1000000 in
set_option maxHeartbeats 16000000 in
theorem lt_end (wr : World) (g20 g21 n c m1 cB cp m d : Nat) (t N : Int) (pa : Addr) (gp g2 : Nat) (SA : Option Addr) (hw h2 : Su.Ha)
    (p0 : wr.cell? ⟨g20, 0, none⟩ = some (.slice (some pa) n c)) (p1 : wr.cell? ⟨g20, 1, none⟩ = some (.slice (some ⟨g2, 0, none⟩) m1 cB)) (p2 : wr.cell? ⟨g20, 2, none⟩ = some (.int .i64 t))
    (r0 : wr.cell? ⟨g21, 0, none⟩ = some (.slice (some ⟨gp, 0, none⟩) n cp)) (r1 : wr.cell? ⟨g21, 1, none⟩ = some (.slice SA m d)) (r2 : wr.cell? ⟨g21, 2, none⟩ = some (.int .i64 t))
    (RW : Hid (RH wr (.agg #[.slice (some pa) n c, .slice (some ⟨g2, 0, none⟩) m1 cB, .int .i64 t]) hw))
    (RD : Hid (RH wr (.agg #[.slice (some ⟨gp, 0, none⟩) n cp, .slice SA m d, .int .i64 t]) h2))
    (HW : Hid ((Su.least hw).2 = 0 → N ≤ (Su.least hw).1)) (HY : Hid ((Su.least h2).2 = 0 ∧ N ≤ (Su.least h2).1)) (HT : Hid (Tab wr))
    (c0 c1 c2 c3 c4 c5 c6 c8 c9 c10 c11 c12 c13 c14 c15 c16 c17 c18 c19 c22 c23 c24 c25 c26 c27 c28 c29 c30 c31 c32 c33 c34 c35 c36 c37 c38 c39 c40 c41 c42 c43 c44 c45 c46 c47 c48 c49 c50 c51 c52 c53 c54 c55 c56 c57 c58 c59 c60 c61 c62 c63 c64 c65 c66 c67 c68 c69 c70 c71 c72 c73 c74 c75 c76 c77 c78 c79 c80 c81 c82 c83 c84 c85 c86 c87 c88 c89 c90 c91 c92 c93 c94 c95 c96 c97 c98 c99 c100 c101 c102 c103 c104 c105 c106 c107 c108 c109 c110 c111 c112 c113 c114 c115 c116 c117 c118 c119 c120 c121 c122 c123 c124 c125 c126 c127 c128 c129 c130 c131 c132 c133 c134 c135 c136 c137 c138 c139 c140 c141 c142 c143 c144 c145 c146 c147 c148 c149 c150 c151 c152 c153 c154 c155 c156 c157 c158 c159 c160 c161 c162 c163 c164 c165 c166 c167 c168 c169 c170 c171 c172 c173 c174 c175 c176 c177 c178 c179 c180 c181 c182 c183 c184 c185 c186 c187 c188 c189 c190 c191 c192 c193 c194 c195 c196 c197 c198 c199 c200 c201 c202 c203 c204 c205 c206 c207 c208 c209 c210 c211 c212 c213 c214 c215 c216 c217 c218 c219 c220 c221 c222 c223 c224 c225 c226 c227 c228 c229 c230 c231 c232 c233 c234 c235 c236 c237 c238 c239 c240 c241 c242 c243 c244 c245 c246 c247 c248 c249 c250 c251 c252 c253 c254 : Value) (df : List Deferred) (Q0 : Exit → Act → World → Prop)
    (hret : ∀ (u24 u25 u26 u27 u226 u227 u228 u229 u230 u231 u232 u233 u234 u235 u236 u237 u238 u239 u240 u241 u242 u243 u244 u245 u246 u247 u248 u249 u250 u251 u252 u253 u254 : Value) (wx : World), Ext wr wx → Q0 .ret ⟨#[c0, c1, c2, c3, c4, c5, .bool true, .int .i64 N, c8, c9, c10, c11, c12, c13, c14, c15, c16, c17, c18, c19, .pointer (some ⟨g20, 0, none⟩), .pointer (some ⟨g21, 0, none⟩), c22, c23, u24, u25, u26, u27, c28, c29, c30, c31, c32, c33, c34, c35, c36, c37, c38, c39, c40, c41, c42, c43, c44, c45, c46, c47, c48, c49, c50, c51, c52, c53, c54, c55, c56, c57, c58, c59, c60, c61, c62, c63, c64, c65, c66, c67, c68, c69, c70, c71, c72, c73, c74, c75, c76, c77, c78, c79, c80, c81, c82, c83, c84, c85, c86, c87, c88, c89, c90, c91, c92, c93, c94, c95, c96, c97, c98, c99, c100, c101, c102, c103, c104, c105, c106, c107, c108, c109, c110, c111, c112, c113, c114, c115, c116, c117, c118, c119, c120, c121, c122, c123, c124, c125, c126, c127, c128, c129, c130, c131, c132, c133, c134, c135, c136, c137, c138, c139, c140, c141, c142, c143, c144, c145, c146, c147, c148, c149, c150, c151, c152, c153, c154, c155, c156, c157, c158, c159, c160, c161, c162, c163, c164, c165, c166, c167, c168, c169, c170, c171, c172, c173, c174, c175, c176, c177, c178, c179, c180, c181, c182, c183, c184, c185, c186, c187, c188, c189, c190, c191, c192, c193, c194, c195, c196, c197, c198, c199, c200, c201, c202, c203, c204, c205, c206, c207, c208, c209, c210, c211, c212, c213, c214, c215, c216, c217, c218, c219, c220, c221, c222, c223, c224, c225, u226, u227, u228, u229, u230, u231, u232, u233, u234, u235, u236, u237, u238, u239, u240, u241, u242, u243, u244, u245, u246, u247, u248, u249, u250, u251, u252, u253, u254], df⟩ wx)
    (K : Act → World → Prop) (hKK : ∀ a w, Code.wp Tryd.prog lt_end_rest Q0 a w → K a w) :
    Code.wp Tryd.prog lt_end_code (Exit.then K Q0) ⟨#[c0, c1, c2, c3, c4, c5, c6, .int .i64 N, c8, c9, c10, c11, c12, c13, c14, c15, c16, c17, c18, c19, .pointer (some ⟨g20, 0, none⟩), .pointer (some ⟨g21, 0, none⟩), c22, c23, c24, c25, c26, c27, c28, c29, c30, c31, c32, c33, c34, c35, c36, c37, c38, c39, c40, c41, c42, c43, c44, c45, c46, c47, c48, c49, c50, c51, c52, c53, c54, c55, c56, c57, c58, c59, c60, c61, c62, c63, c64, c65, c66, c67, c68, c69, c70, c71, c72, c73, c74, c75, c76, c77, c78, c79, c80, c81, c82, c83, c84, c85, c86, c87, c88, c89, c90, c91, c92, c93, c94, c95, c96, c97, c98, c99, c100, c101, c102, c103, c104, c105, c106, c107, c108, c109, c110, c111, c112, c113, c114, c115, c116, c117, c118, c119, c120, c121, c122, c123, c124, c125, c126, c127, c128, c129, c130, c131, c132, c133, c134, c135, c136, c137, c138, c139, c140, c141, c142, c143, c144, c145, c146, c147, c148, c149, c150, c151, c152, c153, c154, c155, c156, c157, c158, c159, c160, c161, c162, c163, c164, c165, c166, c167, c168, c169, c170, c171, c172, c173, c174, c175, c176, c177, c178, c179, c180, c181, c182, c183, c184, c185, c186, c187, c188, c189, c190, c191, c192, c193, c194, c195, c196, c197, c198, c199, c200, c201, c202, c203, c204, c205, c206, c207, c208, c209, c210, c211, c212, c213, c214, c215, c216, c217, c218, c219, c220, c221, c222, c223, c224, c225, c226, c227, c228, c229, c230, c231, c232, c233, c234, c235, c236, c237, c238, c239, c240, c241, c242, c243, c244, c245, c246, c247, c248, c249, c250, c251, c252, c253, c254], df⟩ wr := by
  have HRT := Lib.hid hret
  have HR := Lib.hid (And.intro r0 (And.intro r1 r2))
  clear hret r0 r1 r2
  obtain ⟨y, hy⟩ : ∃ y, y = lt_end_rest := ⟨_, rfl⟩
  rw [← hy] at hKK
  conv at hy => rhs; whnf
  subst hy
  conv => arg 2; whnf
  dsimp only at hKK ⊢
  go_wp2_with fail
  clear p0 p1 p2
  refine (uLeast_any _ _ _ RW.out).mono ?_
  rintro ee w14 ⟨rfl, hx14⟩
  have hW := HW.out
  obtain ⟨X1, hX1⟩ : ∃ X1, (Su.least hw).1 = X1 := ⟨_, rfl⟩
  obtain ⟨J1, hJ1⟩ : ∃ J1, (Su.least hw).2 = J1 := ⟨_, rfl⟩
  rw [hX1, hJ1] at hW ⊢
  have HW := Lib.hid hW
  have r0 := hx14.cell HR.out.1
  have r1 := hx14.cell HR.out.2.1
  have r2 := hx14.cell HR.out.2.2
  have HX14 := Lib.hid hx14
  clear hX1 hJ1 hW hx14
  go_wp2_with fail
  clear r0 r1 r2
  refine (uLeast_any _ _ _ (RH.ext _ _ _ _ HX14.out RD.out)).mono ?_
  rintro ee w15 ⟨rfl, hx15⟩
  rw [HY.out.1]
  obtain ⟨Y1, hY1⟩ : ∃ Y1, (Su.least h2).1 = Y1 := ⟨_, rfl⟩
  have hY := HY.out.2
  rw [hY1] at hY ⊢
  have HX15 := Lib.hid (HX14.out.trans hx15)
  clear hY1 hx15
  go_wp2_with fail
  refine (sanity_any _ (HT.out.ext HX15.out)).mono ?_
  rintro ee w16 ⟨rfl, hx16⟩
  have HE := Lib.hid (HX15.out.trans hx16)
  clear hx16
  by_cases hJ : J1 = 0
  · have hXN := HW.out hJ
    subst hJ
    go_wp2_with fail
    exact HRT.out _ _ _ _ _ _ _ _ _ _ _ _ _ _ _ _ _ _ _ _ _ _ _ _ _ _ _ _ _ _ _ _ _ _ HE.out
  · have hJ2 : (J1 != 0) = true := by rw [bne_iff_ne]; exact hJ
    clear hJ
    go_wp2_with fail
    exact HRT.out _ _ _ _ _ _ _ _ _ _ _ _ _ _ _ _ _ _ _ _ _ _ _ _ _ _ _ _ _ _ _ _ _ _ HE.out
end Go.Proofs.YtenafgphaceidaaDoor

/- The law SumsTreesAreLeast from the copies of the haul on. -/
namespace Su
theorem least_two {h : Ha} (hc : check h = 0) (he : (least h).2 ≠ 0) : least h = (0, 8) := by
  by_cases hs : senders h = []
  · rw [least_none hc hs] at he; exact absurd rfl he
  · by_cases hl : (last h h.tgt).cost < 0
    · exact least_no hc hs hl
    · rw [least_yes hc hs hl] at he; exact absurd rfl he
theorem least_bad {h : Ha} (hc : check h = 0) (he : (least h).2 ≠ 0) (l : List (Int × Int)) : cost h l = (0, 22) := by
  cases hv : valid h l with
  | false => exact cost_bad hc hv
  | true => exact absurd (least_le hv).1 he
theorem cost_two {h : Ha} (hc : check h = 0) (l : List (Int × Int)) : cost h l = (0, 22) ∨ ∃ c, cost h l = (c, 0) ∧ (least h).1 ≤ c := by
  cases hv : valid h l with
  | false => exact .inl (cost_bad hc hv)
  | true => exact .inr ⟨_, cost_ok hv, (least_le hv).2⟩
theorem tree_whole {h : Ha} (he : (least h).2 = 0) : ∃ f U, (senders h ≠ [] → ∃ V, walkF (2 ^ (senders h).length) (ways h) f (2 ^ (senders h).length - 1) h.tgt.toNat [] = some V) ∧ tree f h = (U, 0) ∧ cost h U = ((least h).1, 0) := by
  obtain ⟨f, h1, h2, h3⟩ := tree_is_least he
  have ht := tree_ok (fuel := f) he
  refine ⟨f, _, h1, ht, ?_⟩
  rw [ht] at h2 h3
  rw [cost_ok h2, h3]
theorem star_whole {h : Ha} (hc : check h = 0) (ha : allTo h (sendTo h.tgt h.src h.src.length) = true) : (least h).1 ≤ sumP h (star h.tgt (sendTo h.tgt h.src h.src.length)) := by
  rw [← senders_def] at ha ⊢
  unfold allTo at ha
  exact star_ge hc (of_decide_eq_true ha)
end Su
namespace Go.Proofs.YtenafgphaceidaaDoor
open Go.RowKit
open Go.Maps (Keyed)
open Go.WideMaps Go.ChangeMaps Go.MapKept Go.WideShapes
theorem info_ints : (Tryd.prog.info? 23).map (fun i => (i.zero, i.size, i.bytes)) = some (some (.slice none 0 0), 1, 24) := by kernel_rfl
/-- A copy of a slice. -/
theorem wpl_append_copy {P : Program} {w0 w : World} {L : List LRow} {ops : Array Oper} {rest : List Oper} {o : Oper} {a : Act} {Q : Exit → Act → World → Prop} (t e : TypeId) (hgd : o.guard = none) (s x : Operand)
    (ho : o.op = .call { callee := .builtin .append, args := #[s, x], argTypes := #[t, t] })
    {z : Value} {bytes : Nat} (ht : P.underlying t = some (.slice e)) (hi : (P.info? e).map (fun i => (i.zero, i.size, i.bytes)) = some (some z, 1, bytes)) (hzs : z.cells.size = 1)
    (h : Owns w0 w L) (i : Nat) {b : Nat} (hL : L[i]? = some ⟨.slice (some ⟨b, 0, none⟩) 0 0, e, 1, 0, []⟩) (hs : a.eval s = .slice (some ⟨b, 0, none⟩) 0 0) {B : Option Addr} {m c : Nat} {news : List Value}
    (hx : a.eval x = .slice B m c) (hl : news.length = m) (hrd : Rd w B news) (h1 : ∀ u ∈ news, u.oneCell' = true) (hm : m < 100000000000) (hb : bytes ≤ 100)
    (hK : ∀ g cap w', Owns w0 w' (L.set i ⟨.slice (some ⟨g, 0, none⟩) m cap, e, 1, m, news⟩) → wpList P ops Q rest (a.put o.dst (.slice (some ⟨g, 0, none⟩) m cap)) w') :
    wpList P ops Q (o :: rest) a w := by
  obtain ⟨g, cap, w', hr, h2⟩ := run_append_copy (P := P) t o.type e ht hi hzs h i hL (c := c) hl hrd h1 hm hb
  refine wpList_plain hgd fun K hK' => ?_
  unfold Oper.wp execOp
  simp only [ho, resolve, invoke, builtin, Sem.run_bind, Sem.run_pure, Result.andThen_ok, List.map_toArray, List.map_cons, List.map_nil, hs, hx, hr]
  exact hK' _ _ (hK g cap w' h2)
theorem one_rows {w : World} {us : List Value} {pr : List (List Int)} (h : ∀ (i : Nat) (r : List Int), pr[i]? = some r → ∃ u, us[i]? = some u ∧ Rs RI w u r) (hl : us.length = pr.length) : ∀ u ∈ us, u.oneCell' = true := fun u hu => by
  obtain ⟨i, hi, rfl⟩ := List.getElem_of_mem hu
  obtain ⟨v, h1, A, c, rfl, _⟩ := h i _ (List.getElem?_eq_getElem (by omega))
  rw [List.getElem?_eq_getElem hi] at h1
  injection h1 with h1
  rw [h1]
  rfl
/-- The rows of prices, as values. -/
theorem rows_values {w : World} {A : Option Addr} {n c : Nat} {pr : List (List Int)} (h : Rs (Rs RI) w (.slice A n c) pr) (hb : ∀ ad i u, A = some ad → w.cell? (ad.add i) = some u → ad.block < w.heap.size) : ∃ us : List Value, us.length = pr.length ∧ Rd w A us ∧ ∀ (i : Nat) (r : List Int), pr[i]? = some r → ∃ u, us[i]? = some u ∧ Rs RI w u r := by
  have each : ∀ i (hi : i < pr.length), ∃ u, (∃ ad, A = some ad ∧ w.cell? (ad.add i) = some u) ∧ Rs RI w u pr[i] := fun i hi => by
    obtain ⟨ad, u, h1, h2, h3⟩ := h.at hi
    exact ⟨u, ⟨ad, h1, h2⟩, h3⟩
  have hlen : ((List.range pr.length).map fun i => if hi : i < pr.length then (each i hi).choose else .nilFunc).length = pr.length := by simp
  have hat : ∀ i (hi : i < pr.length), ((List.range pr.length).map fun i => if hi : i < pr.length then (each i hi).choose else .nilFunc)[i]? = some (each i hi).choose := fun i hi => by
    rw [List.getElem?_map, List.getElem?_range hi]
    simp [hi]
  refine ⟨_, hlen, fun k x hx => ?_, fun i r hr => ?_⟩
  · have hk : k < pr.length := by
      rcases Nat.lt_or_ge k pr.length with h1 | h1
      · exact h1
      · rw [List.getElem?_eq_none (by rw [hlen]; exact h1)] at hx; cases hx
    rw [hat k hk] at hx
    injection hx with hx
    obtain ⟨⟨ad, h1, h2⟩, _⟩ := (each k hk).choose_spec
    rw [hx] at h2
    exact ⟨ad, h1, hb ad k x h1 h2, h2⟩
  · have hi := (List.getElem?_eq_some_iff.1 hr).1
    refine ⟨_, hat i hi, ?_⟩
    rw [← (List.getElem?_eq_some_iff.1 hr).2]
    exact (each i hi).choose_spec.2
theorem rs_len {w : World} {A : Option Addr} {m n c : Nat} {pr : List (List Int)} (h : Rs (Rs RI) w (.slice A m c) pr) (e : m = n) : Rs (Rs RI) w (.slice A n c) pr := e ▸ h
theorem tmod_nat {x : Int} {n : Nat} (h : 0 ≤ x) : Int.tmod x (n : Int) = ((x.toNat % n : Nat) : Int) := by
  obtain ⟨k, rfl⟩ := Int.eq_ofNat_of_zero_le h
  rfl
theorem rs_rdI {w : World} {A : Option Addr} {n c : Nat} {l : List Int} (h : Rs RI w (.slice A n c) l) : Rd w A (l.map (Value.int .i64)) := fun k x hx => by
  rw [List.getElem?_map] at hx
  cases hk : l[k]? with
  | none => rw [hk] at hx; cases hx
  | some y =>
    rw [hk] at hx
    injection hx with hx
    obtain ⟨A', c', e, _, hh⟩ := h
    injection e with e1 _ _
    obtain ⟨ad, u, h1, h2, h3, _⟩ := hh k y hk
    have h4 := lt_of_cell h2
    rw [block_add] at h4
    exact ⟨ad, e1.trans h1, h4, by rw [h2, h3, ← hx]⟩
theorem tmod_bound {x : Int} {n : Nat} (h0 : 0 ≤ x) (h1 : x ≤ 255) : -9223372036854775808 ≤ Int.tmod x (n : Int) ∧ Int.tmod x (n : Int) ≤ 9223372036854775807 := by
  rw [tmod_nat h0]
  have := Nat.mod_le x.toNat n
  omega
theorem src_bound {h : Su.Ha} (k : Su.Ok h) {y : Int} (hy : y ∈ h.src) : -9223372036854775808 ≤ y ∧ y ≤ 9223372036854775807 := by
  have := k.src y hy
  have := k.few
  omega
theorem rh_wide {w : World} {h : Su.Ha} {A B : Option Addr} {n c cB t : Nat} {x : Int} (k : Su.Ok h) (ht : h.tgt = (t : Nat)) (hG : Rs (Rs RI) w (.slice A n c) h.pr) (hS : Rd w B (h.src.map (Value.int .i64) ++ [.int .i64 x])) (hl : ¬ 8 < h.src.length) (hx : -9223372036854775808 ≤ x ∧ x ≤ 9223372036854775807) :
    RH w (.agg #[.slice A n c, .slice B (h.src.length + 1) cB, .int .i64 (t : Nat)]) (Su.wide h x) := by
  have hb2 := k.tgt
  have := k.few
  refine ⟨_, _, by rw [← ht]; rfl, hG, Rs.of_rdI (by simpa [Su.wide] using hS) (by simp [Su.wide]) (by simp [Su.wide]; omega) (fun y hy => ?_), by show _ ≤ h.tgt; omega, by show h.tgt ≤ _; omega⟩
  rcases List.mem_append.1 hy with hy | hy
  · exact src_bound k hy
  · rw [List.mem_singleton.1 hy]; exact hx
theorem rs_rows {w : World} {g cp n aa : Nat} {us : List Value} {pr : List (List Int)} {V : Value} {row : List Int} (hul : us.length = n) (hn : pr.length = n) (hn12 : n ≤ 12) (hv : ∀ (i : Nat) (r : List Int), pr[i]? = some r → ∃ u, us[i]? = some u ∧ Rs RI w u r) (hrd : Rd w (some ⟨g, 0, none⟩) (us.set aa V)) (hV : Rs RI w V row) :
    Rs (Rs RI) w (.slice (some ⟨g, 0, none⟩) n cp) (pr.set aa row) := by
  refine ⟨some ⟨g, 0, none⟩, cp, by rw [List.length_set, hn], by rw [List.length_set, hn]; omega, fun i x hi => ?_⟩
  rw [List.getElem?_set] at hi
  by_cases hia : aa = i
  · rw [if_pos hia] at hi
    split at hi
    · rename_i hlt
      injection hi with hi
      subst hi
      obtain ⟨ad, e1, _, e3⟩ := hrd i V (by rw [List.getElem?_set, if_pos hia, if_pos (by omega)])
      exact ⟨ad, V, e1, e3, hV⟩
    · cases hi
  · rw [if_neg hia] at hi
    obtain ⟨u, h1, h2⟩ := hv i x hi
    obtain ⟨ad, e1, _, e3⟩ := hrd i u (by rw [List.getElem?_set, if_neg hia]; exact h1)
    exact ⟨ad, u, e1, e3, h2⟩
theorem rh_same {w : World} {h : Su.Ha} {g cp n aa t m d : Nat} {SA : Option Addr} {us : List Value} {V : Value} {row : List Int} (k : Su.Ok h) (ht : h.tgt = (t : Nat)) (hul : us.length = n) (hn : h.pr.length = n) (hv : ∀ (i : Nat) (r : List Int), h.pr[i]? = some r → ∃ u, us[i]? = some u ∧ Rs RI w u r) (hrow : h.pr[aa]? = some row) (hrd : Rd w (some ⟨g, 0, none⟩) (us.set aa V)) (hV : Rs RI w V row) (hS : Rs RI w (.slice SA m d) h.src) :
    RH w (.agg #[.slice (some ⟨g, 0, none⟩) n cp, .slice SA m d, .int .i64 (t : Nat)]) h := by
  have hb2 := k.tgt
  have := k.few
  have h1 := rs_rows (cp := cp) hul hn (by omega) hv hrd hV
  have h2 : h.pr.set aa row = h.pr := by
    apply List.ext_getElem?
    intro i
    rw [List.getElem?_set]
    split
    · rename_i e; subst e; rw [if_pos (List.getElem?_eq_some_iff.1 hrow).1, hrow]
    · rfl
  rw [h2] at h1
  exact ⟨_, _, by rw [← ht], h1, hS, by omega, by omega⟩
theorem rh_dear {w : World} {h : Su.Ha} {g ga ca cp n aa bb t m d : Nat} {z x : Int} {SA : Option Addr} {us : List Value} {row : List Int} (k : Su.Ok h) (ht : h.tgt = (t : Nat)) (hul : us.length = n) (hn : h.pr.length = n) (hv : ∀ (i : Nat) (r : List Int), h.pr[i]? = some r → ∃ u, us[i]? = some u ∧ Rs RI w u r) (hrow : h.pr[aa]? = some row) (hz : row.getD bb 0 = z) (hrl : row.length = n)
    (hrd : Rd w (some ⟨g, 0, none⟩) (us.set aa (.slice (some ⟨ga, 0, none⟩) n ca))) (hrd2 : Rd w (some ⟨ga, 0, none⟩) ((row.map (Value.int .i64)).set bb (.int .i64 (z + x)))) (hz0 : 0 ≤ z) (hz1 : z < 1000) (hx0 : 0 ≤ x) (hx1 : x ≤ 255) (hS : Rs RI w (.slice SA m d) h.src) :
    RH w (.agg #[.slice (some ⟨g, 0, none⟩) n cp, .slice SA m d, .int .i64 (t : Nat)]) (Su.dear h aa bb x) := by
  have hb2 := k.tgt
  have := k.few
  have hlow := k.low row (List.mem_of_getElem? hrow)
  have hV : Rs RI w (.slice (some ⟨ga, 0, none⟩) n ca) (row.set bb (z + x)) := Rs.of_rdI (by rw [← List.map_set] at hrd2; exact hrd2) (by rw [List.length_set]; exact hrl.symm) (by rw [List.length_set]; omega) (fun y hy => by
    rcases List.mem_or_eq_of_mem_set hy with hy | rfl
    · have := hlow y hy; omega
    · omega)
  have h1 := rs_rows (cp := cp) hul hn (by omega) hv hrd hV
  have e : h.pr.getD aa [] = row := by rw [List.getD_eq_getElem?_getD, hrow]; rfl
  refine ⟨_, _, by rw [← ht]; rfl, ?_, hS, by show _ ≤ h.tgt; omega, by show h.tgt ≤ _; omega⟩
  show Rs (Rs RI) w _ (h.pr.set aa ((h.pr.getD aa []).set bb ((h.pr.getD aa []).getD bb 0 + x)))
  rw [e, hz]
  exact h1
theorem cell_lt {w : World} {ad : Addr} {i : Nat} {u : Value} (h : w.cell? (ad.add i) = some u) : ad.block < w.heap.size := by
  have := lt_of_cell h
  rwa [block_add] at this
noncomputable def lt_mid_code : Code := ((Tryd.f4.body.bind (regionOf 25)).getD .skip)
noncomputable def lt_mid_rest : Code := ((Tryd.f4.body.bind (afterRegion 25)).getD .skip)
set_option maxRecDepth 1000000 in
set_option maxHeartbeats 16000000 in
theorem lt_mid (w7 : World) (B BM n c d t : Nat) (N : Int) (pa : Addr) (SA : Option Addr) (h : Su.Ha) (x0 x1 x2 x3 : Int)
    (HZ7 : Hid (w7.cell? ⟨B, 0, none⟩ = some (.slice (some pa) n c) ∧ w7.cell? ⟨B, 1, none⟩ = some (.slice SA h.src.length d) ∧ w7.cell? ⟨B, 2, none⟩ = some (.int .i64 (t : Nat))))
    (HM : Hid (w7.cell? ⟨BM, 0, none⟩ = some (.int .u8 x0) ∧ w7.cell? ⟨BM, 1, none⟩ = some (.int .u8 x1) ∧ w7.cell? ⟨BM, 2, none⟩ = some (.int .u8 x2) ∧ w7.cell? ⟨BM, 3, none⟩ = some (.int .u8 x3)))
    (HB : Hid ((0 ≤ x0 ∧ x0 ≤ 255) ∧ (0 ≤ x1 ∧ x1 ≤ 255) ∧ (0 ≤ x2 ∧ x2 ≤ 255) ∧ (0 ≤ x3 ∧ x3 ≤ 255)))
    (HS8 : Hid (¬ 8 < h.src.length)) (HC0 : Hid (Su.check h = 0)) (HK : Hid (Su.Ok h)) (HN : Hid (h.pr.length = n)) (HTT : Hid (h.tgt = (t : Nat))) (_ : t < n) (hn0 : 0 < n) (hn1 : n ≤ 12)
    (HG2 : Hid (Rs (Rs RI) w7 (.slice (some pa) n c) h.pr)) (HSR : Hid (Rs RI w7 (.slice SA h.src.length d) h.src)) (HF : Hid ((Su.least h).2 = 0 ∧ (Su.least h).1 = N)) (HT : Hid (Tab w7))
    (c0 c1 c2 c4 c6 c8 c9 c10 c11 c12 c13 c14 c15 c16 c17 c18 c19 c20 c21 c22 c23 c24 c25 c26 c27 c28 c29 c30 c31 c32 c33 c34 c35 c36 c37 c38 c39 c40 c41 c42 c43 c44 c45 c46 c47 c48 c49 c50 c51 c52 c53 c54 c55 c56 c57 c58 c59 c60 c61 c62 c63 c64 c65 c66 c67 c68 c69 c70 c71 c72 c73 c74 c75 c76 c77 c78 c79 c80 c81 c82 c83 c84 c85 c86 c87 c88 c89 c90 c91 c92 c93 c94 c95 c96 c97 c98 c99 c100 c101 c102 c103 c104 c105 c106 c107 c108 c109 c110 c111 c112 c113 c114 c115 c116 c117 c118 c119 c120 c121 c122 c123 c124 c125 c126 c127 c128 c129 c130 c131 c132 c133 c134 c135 c136 c137 c138 c139 c140 c141 c142 c143 c144 c145 c146 c147 c148 c149 c150 c151 c152 c153 c154 c155 c156 c157 c158 c159 c160 c161 c162 c163 c164 c165 c166 c167 c168 c169 c170 c171 c172 c173 c174 c175 c176 c177 c178 c179 c180 c181 c182 c183 c184 c185 c186 c187 c188 c189 c190 c191 c192 c193 c194 c195 c196 c197 c198 c199 c200 c201 c202 c203 c204 c205 c206 c207 c208 c209 c210 c211 c212 c213 c214 c215 c216 c217 c218 c219 c220 c221 c222 c223 c224 c225 c226 c227 c228 c229 c230 c231 c232 c233 c234 c235 c236 c237 c238 c239 c240 c241 c242 c243 c244 c245 c246 c247 c248 c249 c250 c251 c252 c253 c254 : Value) (df : List Deferred) (Q0 : Exit → Act → World → Prop)
    (hret : ∀ (u20 u21 u22 u23 u24 u25 u26 u27 u147 u148 u149 u150 u151 u152 u153 u154 u155 u156 u157 u158 u159 u160 u161 u162 u163 u164 u165 u166 u167 u168 u169 u170 u171 u172 u173 u174 u175 u176 u177 u178 u179 u180 u181 u182 u183 u184 u185 u186 u187 u188 u189 u190 u191 u192 u193 u194 u195 u196 u197 u198 u199 u200 u201 u202 u203 u204 u205 u206 u207 u208 u209 u210 u211 u212 u213 u214 u215 u216 u217 u218 u219 u220 u221 u222 u223 u224 u225 u226 u227 u228 u229 u230 u231 u232 u233 u234 u235 u236 u237 u238 u239 u240 u241 u242 u243 u244 u245 u246 u247 u248 u249 u250 u251 u252 u253 u254 : Value) (wx : World), Ext w7 wx → Q0 .ret ⟨#[c0, c1, c2, .pointer (some ⟨B, 0, none⟩), c4, .pointer (some ⟨BM, 0, none⟩), .bool true, .int .i64 N, c8, c9, c10, c11, c12, c13, c14, c15, c16, c17, c18, c19, u20, u21, u22, u23, u24, u25, u26, u27, c28, c29, c30, c31, c32, c33, c34, c35, c36, c37, c38, c39, c40, c41, c42, c43, c44, c45, c46, c47, c48, c49, c50, c51, c52, c53, c54, c55, c56, c57, c58, c59, c60, c61, c62, c63, c64, c65, c66, c67, c68, c69, c70, c71, c72, c73, c74, c75, c76, c77, c78, c79, c80, c81, c82, c83, c84, c85, c86, c87, c88, c89, c90, c91, c92, c93, c94, c95, c96, c97, c98, c99, c100, c101, c102, c103, c104, c105, c106, c107, c108, c109, c110, c111, c112, c113, c114, c115, c116, c117, c118, c119, c120, c121, c122, c123, c124, c125, c126, c127, c128, c129, c130, c131, c132, c133, c134, c135, c136, c137, c138, c139, c140, c141, c142, c143, c144, c145, c146, u147, u148, u149, u150, u151, u152, u153, u154, u155, u156, u157, u158, u159, u160, u161, u162, u163, u164, u165, u166, u167, u168, u169, u170, u171, u172, u173, u174, u175, u176, u177, u178, u179, u180, u181, u182, u183, u184, u185, u186, u187, u188, u189, u190, u191, u192, u193, u194, u195, u196, u197, u198, u199, u200, u201, u202, u203, u204, u205, u206, u207, u208, u209, u210, u211, u212, u213, u214, u215, u216, u217, u218, u219, u220, u221, u222, u223, u224, u225, u226, u227, u228, u229, u230, u231, u232, u233, u234, u235, u236, u237, u238, u239, u240, u241, u242, u243, u244, u245, u246, u247, u248, u249, u250, u251, u252, u253, u254], df⟩ wx)
    (K : Act → World → Prop) (hKK : ∀ a w, Code.wp Tryd.prog lt_mid_rest Q0 a w → K a w) :
    Code.wp Tryd.prog lt_mid_code (Exit.then K Q0) ⟨#[c0, c1, c2, .pointer (some ⟨B, 0, none⟩), c4, .pointer (some ⟨BM, 0, none⟩), c6, .int .i64 N, c8, c9, c10, c11, c12, c13, c14, c15, c16, c17, c18, c19, c20, c21, c22, c23, c24, c25, c26, c27, c28, c29, c30, c31, c32, c33, c34, c35, c36, c37, c38, c39, c40, c41, c42, c43, c44, c45, c46, c47, c48, c49, c50, c51, c52, c53, c54, c55, c56, c57, c58, c59, c60, c61, c62, c63, c64, c65, c66, c67, c68, c69, c70, c71, c72, c73, c74, c75, c76, c77, c78, c79, c80, c81, c82, c83, c84, c85, c86, c87, c88, c89, c90, c91, c92, c93, c94, c95, c96, c97, c98, c99, c100, c101, c102, c103, c104, c105, c106, c107, c108, c109, c110, c111, c112, c113, c114, c115, c116, c117, c118, c119, c120, c121, c122, c123, c124, c125, c126, c127, c128, c129, c130, c131, c132, c133, c134, c135, c136, c137, c138, c139, c140, c141, c142, c143, c144, c145, c146, c147, c148, c149, c150, c151, c152, c153, c154, c155, c156, c157, c158, c159, c160, c161, c162, c163, c164, c165, c166, c167, c168, c169, c170, c171, c172, c173, c174, c175, c176, c177, c178, c179, c180, c181, c182, c183, c184, c185, c186, c187, c188, c189, c190, c191, c192, c193, c194, c195, c196, c197, c198, c199, c200, c201, c202, c203, c204, c205, c206, c207, c208, c209, c210, c211, c212, c213, c214, c215, c216, c217, c218, c219, c220, c221, c222, c223, c224, c225, c226, c227, c228, c229, c230, c231, c232, c233, c234, c235, c236, c237, c238, c239, c240, c241, c242, c243, c244, c245, c246, c247, c248, c249, c250, c251, c252, c253, c254], df⟩ w7 := by
  have HRT := Lib.hid hret
  clear hret
  obtain ⟨y, hy⟩ : ∃ y, y = lt_mid_rest := ⟨_, rfl⟩
  rw [← hy] at hKK
  conv at hy => rhs; whnf
  subst hy
  conv => arg 2; whnf
  dsimp only at hKK ⊢
  refine wp_atEnd' (lt_copies w7 w7 B n c h.src.length d (some pa) SA (t : Nat) HZ7.out.1 HZ7.out.2.1 HZ7.out.2.2 (Lib.hid (Owns.start w7 (by intro r hr; simp [no] at hr; subst hr; simp)).drew) _ _ _ _ _ _ _ _ _ _ _ _ _ _ _ _ _ _ _ _ _ _ _ _ _ _ _ _ _ _ _ _ _ _ _ _ _ _ _ _ _ _ _ _ _ _ _ _ _ _ _ _ _ _ _ _ _ _ _ _ _ _ _ _ _ _ _ _ _ _ _ _ _ _ _ _ _ _ _ _ _ _ _ _ _ _ _ _ _ _ _ _ _ _ _ _ _ _ _ _ _ _ _ _ _ _ _ _ _ _ _ _ _ _ _ _ _ _ _ _ _ _ _ _ _ _ _ _ _ _ _ _ _ _ _ _ _ _ _ _ _ _ _ _ _ _ _ _ _ _ _ _ _ _ _ _ _ _ _ _ _ _ _ _ _ _ _ _ _ _ _ _ _ _ _ _ _ _ _ _ _ _ _ _ _ _ _ _ _ _ _ _ _ _ _ _ _ _ _ _ _ _ _ _ _ _ _ _ _ _ _ _ _ _ _ _ _ _ _ _ _ _ _ _ _ _ _ _ _ _ _ _ _ _ _ _ _ _ _ _ _ _ _ _ _ _ _ _ _ _ _ _ _ _ _ _ ?_)
  intro g20 g21 u147 u148 w8 hO8
  have HO8 := Lib.hid hO8
  clear hO8
  go_wp2_with fail
  refine wp_atEnd' (lt_wide w7 w8 B BM g20 n c h.src.length d (some pa) SA (t : Nat) x0 h.src _ rfl (by have := HS8.out; omega) HB.out.1.1 HB.out.1.2 hn0 hn1 HZ7.out.1 HZ7.out.2.1 HZ7.out.2.2 HM.out.1 (Lib.hid (rs_rdI HSR.out)) (Lib.hid HO8.out.drew) _ _ _ _ _ _ _ _ _ _ _ _ _ _ _ _ _ _ _ _ _ _ _ _ _ _ _ _ _ _ _ _ _ _ _ _ _ _ _ _ _ _ _ _ _ _ _ _ _ _ _ _ _ _ _ _ _ _ _ _ _ _ _ _ _ _ _ _ _ _ _ _ _ _ _ _ _ _ _ _ _ _ _ _ _ _ _ _ _ _ _ _ _ _ _ _ _ _ _ _ _ _ _ _ _ _ _ _ _ _ _ _ _ _ _ _ _ _ _ _ _ _ _ _ _ _ _ _ _ _ _ _ _ _ _ _ _ _ _ _ _ _ _ _ _ _ _ _ _ _ _ _ _ _ _ _ _ _ _ _ _ _ _ _ _ _ _ _ _ _ _ _ _ _ _ _ _ _ _ _ _ _ _ _ _ _ _ _ _ _ _ _ _ _ _ _ _ _ _ _ _ _ _ _ _ _ _ _ _ _ _ _ _ _ _ _ _ _ _ _ _ _ _ _ _ _ _ _ _ _ _ _ _ _ _ _ _ _ _ _ _ _ _ _ _ _ _ _ _ _ _ _ _ _ ?_)
  intro g2 cB u149 u150 u151 u152 u153 u154 u155 u156 u157 u158 u159 u160 u161 u162 w9 hO9
  have HO9 := Lib.hid hO9
  have e0 : (w9.alloc (.cells #[] 23)).cell? ⟨B, 0, none⟩ = some (.slice (some pa) n c) := ((Ext.refl w9).alloc _).cell (hO9.ext.cell HZ7.out.1)
  have hG7 := HG2.out
  obtain ⟨us, hus1, hus2, hus3⟩ := rows_values hG7 (fun _ _ _ _ h => cell_lt h)
  have HU := Lib.hid (And.intro (hus1.trans HN.out) (And.intro hus2 (And.intro hus3 (one_rows hus3 hus1))))
  have HG7 := Lib.hid hG7
  clear hO9 hG7 hus1 hus2 hus3
  go_wp2_with (have hB := HO9.out.new 3 #[] 23 (by simp [maxLen]); refine wpl_append_copy 22 23 rfl (.tmp 163) (.tmp 165) rfl Tryd.underlying22 info_ints rfl hB 3 rfl rfl rfl HU.out.1 (HU.out.2.1.ext hB.ext) HU.out.2.2.2 (by omega) (by decide) ?_; intro gp cp w10 hO10; have HO10 := Lib.hid hO10; have k1 : w10.cell? ⟨g21, 0, none⟩ = some (.slice (some pa) n c) := hO10.cell 1 rfl 0 rfl; have q1 : w10.frozen? ⟨g21, 0, none⟩ = false := hO10.frozen 1 rfl 0; clear hO10 hB)
  have hO11 := HO10.out.store 1 rfl 0 (.slice (some ⟨gp, 0, none⟩) n cp)
  clear k1 q1 e0
  generalize w10.setCell ⟨g21, 0, none⟩ (.slice (some ⟨gp, 0, none⟩) n cp) = w11 at hO11 ⊢
  have e0 := hO11.ext.cell HZ7.out.1
  have f1 := hO11.ext.cell HM.out.2.1
  have f2 := hO11.ext.cell HM.out.2.2.1
  obtain ⟨aa, haa⟩ : ∃ aa : Nat, x1.toNat % n = aa := ⟨_, rfl⟩
  obtain ⟨bb, hbb⟩ : ∃ bb : Nat, x2.toNat % n = bb := ⟨_, rfl⟩
  have ha1 : aa < n := by rw [← haa]; exact Nat.mod_lt _ hn0
  have hb1 : bb < n := by rw [← hbb]; exact Nat.mod_lt _ hn0
  have hea : Int.tmod x1 (n : Int) = (aa : Int) := by rw [← haa]; exact tmod_nat HB.out.2.1.1
  have heb : Int.tmod x2 (n : Int) = (bb : Int) := by rw [← hbb]; exact tmod_nat HB.out.2.2.1.1
  have hw1 : IntKind.i64.wrap x1 = x1 := by rw [IntKind.wrap_i64]; have := HB.out.2.1; omega
  have hw2 : IntKind.i64.wrap x2 = x2 := by rw [IntKind.wrap_i64]; have := HB.out.2.2.1; omega
  have hn9 : ¬ n = 0 := by omega
  have HO11 := Lib.hid hO11
  clear hO11 haa hbb
  go_quiet (fail)
  go_wp2_with fail
  clear e0 f1 f2 hea heb hw1 hw2 hn9
  obtain ⟨pa', u0, ep, hcell, hrow⟩ := HG7.out.at (i := aa) (by have := HN.out; omega)
  injection ep with ep
  subst ep
  have hrl := HK.out.row _ (List.getElem_mem (show aa < h.pr.length by have := HN.out; omega))
  have hlow := HK.out.low _ (List.getElem_mem (show aa < h.pr.length by have := HN.out; omega))
  obtain ⟨row, hr⟩ : ∃ row, h.pr[aa]'(by have := HN.out; omega) = row := ⟨_, rfl⟩
  have hrow2 : h.pr[aa]? = some row := by rw [← hr]; exact List.getElem?_eq_getElem _
  rw [hr] at hrow hrl hlow
  rw [HN.out] at hrl
  clear hr
  obtain ⟨A2, rc, rfl, _⟩ := hrow.form
  rw [hrl] at hrow hcell
  obtain ⟨ra, _, eA2, _, _⟩ := hrow.at (i := bb) (by omega)
  subst eA2
  have HRR := Lib.hid hrow
  have hz : (row.map (Value.int .i64))[bb]? = some (.int .i64 (row.getD bb 0)) := by
    rw [List.getElem?_map, List.getElem?_eq_getElem (by omega), getD_get (by omega)]; rfl
  have hza : (h.pr.getD aa []).getD bb 0 = row.getD bb 0 := by rw [show h.pr.getD aa [] = row from by rw [List.getD_eq_getElem?_getD, hrow2]; rfl]
  obtain ⟨z, hz2⟩ : ∃ z, row.getD bb 0 = z := ⟨_, rfl⟩
  rw [hz2] at hz hza
  have HLOW := Lib.hid hlow
  have HZA := Lib.hid (And.intro hza (And.intro hz hz2))
  clear hza hz hz2 hlow hrow
  refine wp_atEnd' (lt_row w7 _ B g21 gp cp n c aa rc pa ra (.slice SA h.src.length d) (.int .i64 (t : Nat)) row us _ _ hrl hn1 ha1 HZ7.out.1 hcell ⟨us[aa]'(by rw [HU.out.1]; exact ha1), List.getElem?_eq_getElem _⟩ (Lib.hid (rs_rdI HRR.out)) (Lib.hid (HO11.out.drewN _).drew) _ _ _ _ _ _ _ _ _ _ _ _ _ _ _ _ _ _ _ _ _ _ _ _ _ _ _ _ _ _ _ _ _ _ _ _ _ _ _ _ _ _ _ _ _ _ _ _ _ _ _ _ _ _ _ _ _ _ _ _ _ _ _ _ _ _ _ _ _ _ _ _ _ _ _ _ _ _ _ _ _ _ _ _ _ _ _ _ _ _ _ _ _ _ _ _ _ _ _ _ _ _ _ _ _ _ _ _ _ _ _ _ _ _ _ _ _ _ _ _ _ _ _ _ _ _ _ _ _ _ _ _ _ _ _ _ _ _ _ _ _ _ _ _ _ _ _ _ _ _ _ _ _ _ _ _ _ _ _ _ _ _ _ _ _ _ _ _ _ _ _ _ _ _ _ _ _ _ _ _ _ _ _ _ _ _ _ _ _ _ _ _ _ _ _ _ _ _ _ _ _ _ _ _ _ _ _ _ _ _ _ _ _ _ _ _ _ _ _ _ _ _ _ _ _ _ _ _ _ _ _ _ _ _ _ _ _ _ _ _ _ _ _ _ _ _ _ _ _ _ _ _ _ _ ?_)
  intro ga ca u182 u183 u184 u185 u186 u187 u188 u189 u190 u191 u192 w12 hO12
  have HO12 := Lib.hid hO12
  have hseta : (us.set aa (.slice (some ⟨ga, 0, none⟩) n ca))[aa]? = some (.slice (some ⟨ga, 0, none⟩) n ca) := by rw [List.getElem?_set_self (by rw [HU.out.1]; exact ha1)]
  have HSETA := Lib.hid hseta
  have k0 := hO12.cell 1 rfl 0 rfl
  have k1 := hO12.cell 3 rfl aa hseta
  have k2 := hO12.cell 4 rfl bb HZA.out.2.1
  have ha2 : (aa : Int) < (n : Int) := by omega
  have hb2 : (bb : Int) < (n : Int) := by omega
  clear hO12 hseta hcell
  have p0 : w12.cell? ⟨g20, 0, none⟩ = some (.slice (some pa) n c) := HO12.out.cell 0 rfl 0 rfl
  have p1 : w12.cell? ⟨g20, 1, none⟩ = some (.slice (some ⟨g2, 0, none⟩) (h.src.length + 1) cB) := HO12.out.cell 0 rfl 1 rfl
  have p2 : w12.cell? ⟨g20, 2, none⟩ = some (.int .i64 (t : Nat)) := HO12.out.cell 0 rfl 2 rfl
  by_cases hz0 : 0 ≤ z
  case neg =>
    go_upto_region 32 with fail
    clear k0 k1 k2 p0 p1 p2
    have HY := Lib.hid (And.intro HF.out.1 (show N ≤ (Su.least h).1 by rw [HF.out.2]; exact Int.le_refl _))
    have HRD : Hid (RH w12 (.agg #[.slice (some ⟨gp, 0, none⟩) n cp, .slice SA h.src.length d, .int .i64 (t : Nat)]) h) := Lib.hid (rh_same HK.out HTT.out HU.out.1 HN.out (fun i r hi => (HU.out.2.2.1 i r hi).imp fun u hu => ⟨hu.1, Rs.ext RI.ext _ _ _ _ HO12.out.ext hu.2⟩) hrow2 (HO12.out.rd 3 rfl) (Rs.of_rdI (HO12.out.rd 4 rfl) hrl.symm (by omega) (fun y hy => by have := HLOW.out y hy; omega)) (Rs.ext RI.ext _ _ _ _ HO12.out.ext HSR.out))
    have hW1 : Rs (Rs RI) w12 (.slice (some pa) n c) h.pr := Rs.ext (Rs.ext RI.ext) _ _ _ _ HO12.out.ext HG7.out
    have hW2 : Rd w12 (some ⟨g2, 0, none⟩) (h.src.map (Value.int .i64) ++ [.int .i64 (Int.tmod x0 (n : Int))]) := HO12.out.rd 2 rfl
    have RW2 : Hid (RH w12 (.agg #[.slice (some pa) n c, .slice (some ⟨g2, 0, none⟩) (h.src.length + 1) cB, .int .i64 (t : Nat)]) (Su.wide h (Int.tmod x0 (n : Int)))) := Lib.hid (rh_wide HK.out HTT.out hW1 hW2 HS8.out (tmod_bound HB.out.1.1 HB.out.1.2))
    have hwg := Su.wide_ge (x := Int.tmod x0 (n : Int)) HC0.out
    rw [HF.out.2] at hwg
    have HWG := Lib.hid hwg
    clear hW1 hW2 hwg
    have HE := HO12.out.ext
    refine lt_end w12 g20 g21 n c (h.src.length + 1) cB cp h.src.length d (t : Nat) N pa gp g2 SA _ _ (HO12.out.cell 0 rfl 0 rfl) (HO12.out.cell 0 rfl 1 rfl) (HO12.out.cell 0 rfl 2 rfl) (HO12.out.cell 1 rfl 0 rfl) (HO12.out.cell 1 rfl 1 rfl) (HO12.out.cell 1 rfl 2 rfl) RW2 HRD HWG HY (Lib.hid (HT.out.ext HE)) _ _ _ _ _ _ _ _ _ _ _ _ _ _ _ _ _ _ _ _ _ _ _ _ _ _ _ _ _ _ _ _ _ _ _ _ _ _ _ _ _ _ _ _ _ _ _ _ _ _ _ _ _ _ _ _ _ _ _ _ _ _ _ _ _ _ _ _ _ _ _ _ _ _ _ _ _ _ _ _ _ _ _ _ _ _ _ _ _ _ _ _ _ _ _ _ _ _ _ _ _ _ _ _ _ _ _ _ _ _ _ _ _ _ _ _ _ _ _ _ _ _ _ _ _ _ _ _ _ _ _ _ _ _ _ _ _ _ _ _ _ _ _ _ _ _ _ _ _ _ _ _ _ _ _ _ _ _ _ _ _ _ _ _ _ _ _ _ _ _ _ _ _ _ _ _ _ _ _ _ _ _ _ _ _ _ _ _ _ _ _ _ _ _ _ _ _ _ _ _ _ _ _ _ _ _ _ _ _ _ _ _ _ _ _ _ _ _ _ _ _ _ _ _ _ _ _ _ _ _ _ _ _ _ _ _ _ _ _ _ _ _ _ _ _ _ _ _ _ _ _ _ _ _ ?_ _ (by assumption)
    intro u24 u25 u26 u27 u226 u227 u228 u229 u230 u231 u232 u233 u234 u235 u236 u237 u238 u239 u240 u241 u242 u243 u244 u245 u246 u247 u248 u249 u250 u251 u252 u253 u254 wx hx
    exact HRT.out _ _ _ _ _ _ _ _ _ _ _ _ _ _ _ _ _ _ _ _ _ _ _ _ _ _ _ _ _ _ _ _ _ _ _ _ _ _ _ _ _ _ _ _ _ _ _ _ _ _ _ _ _ _ _ _ _ _ _ _ _ _ _ _ _ _ _ _ _ _ _ _ _ _ _ _ _ _ _ _ _ _ _ _ _ _ _ _ _ _ _ _ _ _ _ _ _ _ _ _ _ _ _ _ _ _ _ _ _ _ _ _ _ _ _ _ _ (HE.trans hx)

  case pos =>
  by_cases hz1 : z < 1000
  case neg =>
    go_upto_region 32 with fail
    clear k0 k1 k2 p0 p1 p2
    have HY := Lib.hid (And.intro HF.out.1 (show N ≤ (Su.least h).1 by rw [HF.out.2]; exact Int.le_refl _))
    have HRD : Hid (RH w12 (.agg #[.slice (some ⟨gp, 0, none⟩) n cp, .slice SA h.src.length d, .int .i64 (t : Nat)]) h) := Lib.hid (rh_same HK.out HTT.out HU.out.1 HN.out (fun i r hi => (HU.out.2.2.1 i r hi).imp fun u hu => ⟨hu.1, Rs.ext RI.ext _ _ _ _ HO12.out.ext hu.2⟩) hrow2 (HO12.out.rd 3 rfl) (Rs.of_rdI (HO12.out.rd 4 rfl) hrl.symm (by omega) (fun y hy => by have := HLOW.out y hy; omega)) (Rs.ext RI.ext _ _ _ _ HO12.out.ext HSR.out))
    have hW1 : Rs (Rs RI) w12 (.slice (some pa) n c) h.pr := Rs.ext (Rs.ext RI.ext) _ _ _ _ HO12.out.ext HG7.out
    have hW2 : Rd w12 (some ⟨g2, 0, none⟩) (h.src.map (Value.int .i64) ++ [.int .i64 (Int.tmod x0 (n : Int))]) := HO12.out.rd 2 rfl
    have RW2 : Hid (RH w12 (.agg #[.slice (some pa) n c, .slice (some ⟨g2, 0, none⟩) (h.src.length + 1) cB, .int .i64 (t : Nat)]) (Su.wide h (Int.tmod x0 (n : Int)))) := Lib.hid (rh_wide HK.out HTT.out hW1 hW2 HS8.out (tmod_bound HB.out.1.1 HB.out.1.2))
    have hwg := Su.wide_ge (x := Int.tmod x0 (n : Int)) HC0.out
    rw [HF.out.2] at hwg
    have HWG := Lib.hid hwg
    clear hW1 hW2 hwg
    have HE := HO12.out.ext
    refine lt_end w12 g20 g21 n c (h.src.length + 1) cB cp h.src.length d (t : Nat) N pa gp g2 SA _ _ (HO12.out.cell 0 rfl 0 rfl) (HO12.out.cell 0 rfl 1 rfl) (HO12.out.cell 0 rfl 2 rfl) (HO12.out.cell 1 rfl 0 rfl) (HO12.out.cell 1 rfl 1 rfl) (HO12.out.cell 1 rfl 2 rfl) RW2 HRD HWG HY (Lib.hid (HT.out.ext HE)) _ _ _ _ _ _ _ _ _ _ _ _ _ _ _ _ _ _ _ _ _ _ _ _ _ _ _ _ _ _ _ _ _ _ _ _ _ _ _ _ _ _ _ _ _ _ _ _ _ _ _ _ _ _ _ _ _ _ _ _ _ _ _ _ _ _ _ _ _ _ _ _ _ _ _ _ _ _ _ _ _ _ _ _ _ _ _ _ _ _ _ _ _ _ _ _ _ _ _ _ _ _ _ _ _ _ _ _ _ _ _ _ _ _ _ _ _ _ _ _ _ _ _ _ _ _ _ _ _ _ _ _ _ _ _ _ _ _ _ _ _ _ _ _ _ _ _ _ _ _ _ _ _ _ _ _ _ _ _ _ _ _ _ _ _ _ _ _ _ _ _ _ _ _ _ _ _ _ _ _ _ _ _ _ _ _ _ _ _ _ _ _ _ _ _ _ _ _ _ _ _ _ _ _ _ _ _ _ _ _ _ _ _ _ _ _ _ _ _ _ _ _ _ _ _ _ _ _ _ _ _ _ _ _ _ _ _ _ _ _ _ _ _ _ _ _ _ _ _ _ _ _ _ _ ?_ _ (by assumption)
    intro u24 u25 u26 u27 u226 u227 u228 u229 u230 u231 u232 u233 u234 u235 u236 u237 u238 u239 u240 u241 u242 u243 u244 u245 u246 u247 u248 u249 u250 u251 u252 u253 u254 wx hx
    exact HRT.out _ _ _ _ _ _ _ _ _ _ _ _ _ _ _ _ _ _ _ _ _ _ _ _ _ _ _ _ _ _ _ _ _ _ _ _ _ _ _ _ _ _ _ _ _ _ _ _ _ _ _ _ _ _ _ _ _ _ _ _ _ _ _ _ _ _ _ _ _ _ _ _ _ _ _ _ _ _ _ _ _ _ _ _ _ _ _ _ _ _ _ _ _ _ _ _ _ _ _ _ _ _ _ _ _ _ _ _ _ _ _ _ _ _ _ _ _ (HE.trans hx)

  case pos =>
    go_wp2_with fail
    clear k0 k1 k2 p0 p1 p2
    refine wp_atEnd' (lt_dear w7 w12 BM g21 gp cp n aa bb ga ca _ _ z x3 _ _ _ _ ha1 hb1 hz0 hz1 HB.out.2.2.2.1 HB.out.2.2.2.2 HM.out.2.2.2 HSETA.out HZA.out.2.1 (Lib.hid HO12.out.drew) _ _ _ _ _ _ _ _ _ _ _ _ _ _ _ _ _ _ _ _ _ _ _ _ _ _ _ _ _ _ _ _ _ _ _ _ _ _ _ _ _ _ _ _ _ _ _ _ _ _ _ _ _ _ _ _ _ _ _ _ _ _ _ _ _ _ _ _ _ _ _ _ _ _ _ _ _ _ _ _ _ _ _ _ _ _ _ _ _ _ _ _ _ _ _ _ _ _ _ _ _ _ _ _ _ _ _ _ _ _ _ _ _ _ _ _ _ _ _ _ _ _ _ _ _ _ _ _ _ _ _ _ _ _ _ _ _ _ _ _ _ _ _ _ _ _ _ _ _ _ _ _ _ _ _ _ _ _ _ _ _ _ _ _ _ _ _ _ _ _ _ _ _ _ _ _ _ _ _ _ _ _ _ _ _ _ _ _ _ _ _ _ _ _ _ _ _ _ _ _ _ _ _ _ _ _ _ _ _ _ _ _ _ _ _ _ _ _ _ _ _ _ _ _ _ _ _ _ _ _ _ _ _ _ _ _ _ _ _ _ _ _ _ _ _ _ _ _ _ _ _ _ _ ?_)
    intro u213 u214 u215 u216 u217 u218 u219 u220 u221 u222 u223 u224 u225 w13 hO13
    have HO13 := Lib.hid hO13
    clear hO13
    have hdg := Su.dear_ge (a := aa) (b := bb) (d := x3) HC0.out HF.out.1 (by have := HN.out; omega) (by have := HN.out; omega) (by rw [HZA.out.1]; exact hz0) (by rw [HZA.out.1]; exact hz1) HB.out.2.2.2.1 HB.out.2.2.2.2
    rw [HF.out.2] at hdg
    have HRD : Hid (RH w13 (.agg #[.slice (some ⟨gp, 0, none⟩) n cp, .slice SA h.src.length d, .int .i64 (t : Nat)]) (Su.dear h aa bb x3)) := Lib.hid (rh_dear HK.out HTT.out HU.out.1 HN.out (fun i r hi => (HU.out.2.2.1 i r hi).imp fun u hu => ⟨hu.1, Rs.ext RI.ext _ _ _ _ HO13.out.ext hu.2⟩) hrow2 HZA.out.2.2 hrl (HO13.out.rd 3 rfl) (HO13.out.rd 4 rfl) hz0 hz1 HB.out.2.2.2.1 HB.out.2.2.2.2 (Rs.ext RI.ext _ _ _ _ HO13.out.ext HSR.out))
    have HY := Lib.hid hdg
    clear hdg
    have hW1 : Rs (Rs RI) w13 (.slice (some pa) n c) h.pr := Rs.ext (Rs.ext RI.ext) _ _ _ _ HO13.out.ext HG7.out
    have hW2 : Rd w13 (some ⟨g2, 0, none⟩) (h.src.map (Value.int .i64) ++ [.int .i64 (Int.tmod x0 (n : Int))]) := HO13.out.rd 2 rfl
    have RW2 : Hid (RH w13 (.agg #[.slice (some pa) n c, .slice (some ⟨g2, 0, none⟩) (h.src.length + 1) cB, .int .i64 (t : Nat)]) (Su.wide h (Int.tmod x0 (n : Int)))) := Lib.hid (rh_wide HK.out HTT.out hW1 hW2 HS8.out (tmod_bound HB.out.1.1 HB.out.1.2))
    have hwg := Su.wide_ge (x := Int.tmod x0 (n : Int)) HC0.out
    rw [HF.out.2] at hwg
    have HWG := Lib.hid hwg
    clear hW1 hW2 hwg
    have HE := HO13.out.ext
    go_upto_region 32 with fail
    refine lt_end w13 g20 g21 n c (h.src.length + 1) cB cp h.src.length d (t : Nat) N pa gp g2 SA _ _ (HO13.out.cell 0 rfl 0 rfl) (HO13.out.cell 0 rfl 1 rfl) (HO13.out.cell 0 rfl 2 rfl) (HO13.out.cell 1 rfl 0 rfl) (HO13.out.cell 1 rfl 1 rfl) (HO13.out.cell 1 rfl 2 rfl) RW2 HRD HWG HY (Lib.hid (HT.out.ext HE)) _ _ _ _ _ _ _ _ _ _ _ _ _ _ _ _ _ _ _ _ _ _ _ _ _ _ _ _ _ _ _ _ _ _ _ _ _ _ _ _ _ _ _ _ _ _ _ _ _ _ _ _ _ _ _ _ _ _ _ _ _ _ _ _ _ _ _ _ _ _ _ _ _ _ _ _ _ _ _ _ _ _ _ _ _ _ _ _ _ _ _ _ _ _ _ _ _ _ _ _ _ _ _ _ _ _ _ _ _ _ _ _ _ _ _ _ _ _ _ _ _ _ _ _ _ _ _ _ _ _ _ _ _ _ _ _ _ _ _ _ _ _ _ _ _ _ _ _ _ _ _ _ _ _ _ _ _ _ _ _ _ _ _ _ _ _ _ _ _ _ _ _ _ _ _ _ _ _ _ _ _ _ _ _ _ _ _ _ _ _ _ _ _ _ _ _ _ _ _ _ _ _ _ _ _ _ _ _ _ _ _ _ _ _ _ _ _ _ _ _ _ _ _ _ _ _ _ _ _ _ _ _ _ _ _ _ _ _ _ _ _ _ _ _ _ _ _ _ _ _ _ _ _ _ ?_ _ (by assumption)
    intro u24 u25 u26 u27 u226 u227 u228 u229 u230 u231 u232 u233 u234 u235 u236 u237 u238 u239 u240 u241 u242 u243 u244 u245 u246 u247 u248 u249 u250 u251 u252 u253 u254 wx hx
    exact HRT.out _ _ _ _ _ _ _ _ _ _ _ _ _ _ _ _ _ _ _ _ _ _ _ _ _ _ _ _ _ _ _ _ _ _ _ _ _ _ _ _ _ _ _ _ _ _ _ _ _ _ _ _ _ _ _ _ _ _ _ _ _ _ _ _ _ _ _ _ _ _ _ _ _ _ _ _ _ _ _ _ _ _ _ _ _ _ _ _ _ _ _ _ _ _ _ _ _ _ _ _ _ _ _ _ _ _ _ _ _ _ _ _ _ _ _ _ _ (HE.trans hx)

end Go.Proofs.YtenafgphaceidaaDoor

/- THE WALK over the law SumsTreesAreLeast. -/
namespace Go.Proofs.YtenafgphaceidaaDoor
open Go.RowKit
open Go.Maps (Keyed)
open Go.WideMaps Go.ChangeMaps Go.MapKept Go.WideShapes
set_option maxRecDepth 1000000 in
set_option maxHeartbeats 16000000 in
theorem law_trees (h : Su.Ha) (l : List (Int × Int)) (x0 x1 x2 x3 : Int) (b0 : 0 ≤ x0 ∧ x0 ≤ 255) (b1 : 0 ≤ x1 ∧ x1 ≤ 255) (b2 : 0 ≤ x2 ∧ x2 ≤ 255) (b3 : 0 ≤ x3 ∧ x3 ≤ 255) (v u : Value) (w : World) (hT : Tab w) (hv : RH w v h) (hu : RL w u l) :
    Calls Tryd.prog 4 #[v, u, .agg #[.int .u8 x0, .int .u8 x1, .int .u8 x2, .int .u8 x3]] w fun e w' => e = .returned (.bool true) ∧ Ext w w' := by
  have hvv := hv
  obtain ⟨A, SA, c, d, rfl, hG, hS, hl1, hl2, hb1, hb2⟩ := hv.open
  have hx0 := ((Ext.refl w).alloc (.cells #[.slice A h.pr.length c, .slice SA h.src.length d, .int .i64 h.tgt] 25)).alloc (.cells #[.int .u8 x0, .int .u8 x1, .int .u8 x2, .int .u8 x3] 41)
  have HX0 := Lib.hid hx0
  obtain ⟨LA, e, rfl, hl3⟩ := hu.form
  have HV := Lib.hid (RH.ext _ _ _ _ hx0 hvv)
  have HL := Lib.hid (RL.ext _ _ _ _ hx0 hu)
  have HT := Lib.hid (hT.ext hx0)
  have HG := Lib.hid (Rs.ext (Rs.ext RI.ext) _ _ _ _ hx0 hG)
  have HSR := Lib.hid (Rs.ext RI.ext _ _ _ _ hx0 hS)
  have HB := Lib.hid (And.intro b0 (And.intro b1 (And.intro b2 b3)))
  clear hv hvv hG hS hx0 hu hT b0 b1 b2 b3
  go_enter Tryd.func4, Tryd.ntmps4
  by_cases q1 : 8 < h.src.length
  · go_wp2_with fail
    refine (sanity_any _ (HT.out.ext (Ext.refl _))).mono ?_
    rintro ee w2 ⟨rfl, hx2⟩
    have HE := Lib.hid ((HX0.out.trans (Ext.refl _)).trans hx2)
    clear hx2
    go_wp2_with fail
    go_ret
    exact ⟨rfl, HE.out⟩
  by_cases q2 : 14 < l.length
  · go_wp2_with fail
    refine (sanity_any _ (HT.out.ext (Ext.refl _))).mono ?_
    rintro ee w2 ⟨rfl, hx2⟩
    have HE := Lib.hid ((HX0.out.trans (Ext.refl _)).trans hx2)
    clear hx2
    go_wp2_with fail
    go_ret
    exact ⟨rfl, HE.out⟩
  have HS8 := Lib.hid q1
  have HL14 := Lib.hid q2
  go_wp2_with fail
  refine (uCheck_any h _ _ HV.out).mono ?_
  rintro ee w1 ⟨rfl, hx1⟩
  have d0 : w1.cell? ⟨w.heap.size, 0, none⟩ = some (.slice A h.pr.length c) := hx1.cell (by go_simp)
  have d1 : w1.cell? ⟨w.heap.size, 1, none⟩ = some (.slice SA h.src.length d) := hx1.cell (by go_simp)
  have d2 : w1.cell? ⟨w.heap.size, 2, none⟩ = some (.int .i64 h.tgt) := hx1.cell (by go_simp)
  have m0 : w1.cell? ⟨w.heap.size + 1, 0, none⟩ = some (.int .u8 x0) := hx1.cell (by go_simp)
  have m1 : w1.cell? ⟨w.heap.size + 1, 1, none⟩ = some (.int .u8 x1) := hx1.cell (by go_simp)
  have m2 : w1.cell? ⟨w.heap.size + 1, 2, none⟩ = some (.int .u8 x2) := hx1.cell (by go_simp)
  have m3 : w1.cell? ⟨w.heap.size + 1, 3, none⟩ = some (.int .u8 x3) := hx1.cell (by go_simp)
  have HD := Lib.hid (And.intro d0 (And.intro d1 d2))
  have HM := Lib.hid (And.intro m0 (And.intro m1 (And.intro m2 m3)))
  have HX1 := Lib.hid hx1
  clear hx1 m0 m1 m2 m3
  by_cases hc0 : Su.check h = 0
  case neg =>
    have e1 : (Su.check h != 0) = true := by rw [bne_iff_ne]; exact hc0
    clear hc0 d0 d1 d2
    go_wp2_with fail
    refine (sanity_any _ (HT.out.ext HX1.out)).mono ?_
    rintro ee w2 ⟨rfl, hx2⟩
    have HE := Lib.hid ((HX0.out.trans HX1.out).trans hx2)
    clear hx2
    go_wp2_with fail
    go_ret
    exact ⟨rfl, HE.out⟩
  case pos =>
  have e1 : (Su.check h != 0) = false := by rw [hc0]; rfl
  have HC0 := Lib.hid hc0
  clear hc0
  go_wp2_with fail
  clear d0 d1 d2 e1
  refine (uLeast_any h _ _ (RH.ext _ _ _ _ HX1.out HV.out)).mono ?_
  rintro ee w2 ⟨rfl, hx2⟩
  have d0 := hx2.cell HD.out.1
  have d1 := hx2.cell HD.out.2.1
  have d2 := hx2.cell HD.out.2.2
  have HX2 := Lib.hid (HX1.out.trans hx2)
  have HX12 := Lib.hid hx2
  clear hx2
  obtain ⟨N, hN⟩ : ∃ N, (Su.least h).1 = N := ⟨_, rfl⟩
  obtain ⟨E, hE⟩ : ∃ E, (Su.least h).2 = E := ⟨_, rfl⟩
  rw [hN, hE]
  by_cases hE0 : E = 0
  case neg =>
    have h8 := Su.least_two HC0.out (by rw [hE]; exact hE0)
    have hbad := Su.least_bad HC0.out (by rw [hE]; exact hE0) l
    have htr := Su.tree_err (fuel := 0) (h := h) (by rw [hE]; exact hE0)
    rw [hE] at htr
    have hE8 : E = 8 := by rw [← hE, h8]
    subst hE8
    have HF := Lib.hid (And.intro hbad (And.intro htr hE))
    clear hE h8 hbad htr hE0 hN
    go_wp2_with fail
    refine (uTree_any 0 h _ _ (RH.ext _ _ _ _ HX2.out HV.out) (fun e => absurd (HF.out.2.2.symm.trans e) (by decide))).mono ?_
    rintro ee w3 ⟨TA, tn, tc, rfl, hts, hx3⟩
    rw [HF.out.2.1] at hts ⊢
    have f0 := hx3.cell d0
    have f1 := hx3.cell d1
    have f2 := hx3.cell d2
    have HX3 := Lib.hid (HX2.out.trans hx3)
    clear hx3 hts d0 d1 d2
    simp only
    go_wp2_with fail
    refine (uCost_any h l _ _ _ (RH.ext _ _ _ _ HX3.out HV.out) (RL.ext _ _ _ _ HX3.out HL.out) (fun v w hv hl => uValid_any _ _ v _ w hv hl)).mono ?_
    rintro ee w4 ⟨rfl, hx4⟩
    rw [HF.out.1]
    have HX4 := Lib.hid (HX3.out.trans hx4)
    clear hx4 f0 f1 f2
    simp only
    go_wp2_with fail
    refine (sanity_any _ (HT.out.ext HX4.out)).mono ?_
    rintro ee w2 ⟨rfl, hx2⟩
    have HE := Lib.hid ((HX0.out.trans HX4.out).trans hx2)
    clear hx2
    go_wp2_with fail
    go_ret
    exact ⟨rfl, HE.out⟩
  case pos =>
  subst hE0
  obtain ⟨f, U, ht1, ht2, ht3⟩ := Su.tree_whole hE
  rw [hN] at ht3
  have HF := Lib.hid (And.intro ht1 (And.intro ht2 (And.intro ht3 (And.intro hE hN))))
  clear ht1 ht2 ht3 hE hN
  go_wp2_with fail
  clear d0 d1 d2
  refine (uTree_any f h _ _ (RH.ext _ _ _ _ HX2.out HV.out) (fun _ => HF.out.1)).mono ?_
  rintro ee w3 ⟨TA, tn, tc, rfl, hts, hx3⟩
  rw [HF.out.2.1] at hts ⊢
  have HX13 := Lib.hid (HX12.out.trans hx3)
  have d0 := HX13.out.cell HD.out.1
  have d1 := HX13.out.cell HD.out.2.1
  have d2 := HX13.out.cell HD.out.2.2
  have HX3 := Lib.hid (HX2.out.trans hx3)
  have HTS := Lib.hid hts
  obtain ⟨TA', tc', et, htn⟩ := hts.form
  injection et with et1 et2 et3
  subst et1 et2 et3
  clear hx3 hts
  simp only
  go_wp2_with fail
  clear d0 d1 d2
  refine (uCost_any h l _ _ _ (RH.ext _ _ _ _ HX3.out HV.out) (RL.ext _ _ _ _ HX3.out HL.out) (fun v w hv hl => uValid_any _ _ v _ w hv hl)).mono ?_
  rintro ee w4 ⟨rfl, hx4⟩
  have HX14 := Lib.hid (HX13.out.trans hx4)
  have d0 := HX14.out.cell HD.out.1
  have d1 := HX14.out.cell HD.out.2.1
  have d2 := HX14.out.cell HD.out.2.2
  have HX4 := Lib.hid (HX3.out.trans hx4)
  have HTS4 := Lib.hid (RL.ext _ _ _ _ hx4 HTS.out)
  clear hx4
  have HK := Lib.hid (Su.ok_of HC0.out)
  obtain ⟨t, htt⟩ : ∃ t : Nat, h.tgt = t := ⟨h.tgt.toNat, by have := HK.out.tgt; omega⟩
  obtain ⟨n, hn⟩ : ∃ n, h.pr.length = n := ⟨_, rfl⟩
  have ht : t < n := by have := HK.out.tgt; omega
  have hn1 : n ≤ 12 := by have := HK.out.few; omega
  have hn0 : 0 < n := by have := HK.out.one; omega
  have HN := Lib.hid hn
  have HTT := Lib.hid htt
  obtain ⟨pa, _, eA, _, _⟩ := HG.out.at (i := 0) HK.out.one
  subst eA
  rw [htt, hn] at HD
  have HG2 := Lib.hid (rs_len HG.out hn)
  clear hn htt
  obtain ⟨CC, hCC, hcc⟩ : ∃ CC, Su.cost h l = CC ∧ ((CC.2 = 22) ∨ (CC.2 = 0 ∧ N ≤ CC.1)) := by
    rcases Su.cost_two HC0.out l with h1 | ⟨cc, h1, h2⟩
    · exact ⟨_, h1, .inl rfl⟩
    · rw [HF.out.2.2.2.2] at h2
      exact ⟨_, h1, .inr ⟨rfl, h2⟩⟩
  rw [hCC]
  clear hCC
  obtain ⟨C1, C2⟩ := CC
  simp only at hcc ⊢
  rcases hcc with h22 | ⟨h00, hle⟩
  · subst h22
    go_wp2_with fail
    clear d0 d1 d2
    refine (uCost_any h U _ _ _ (RH.ext _ _ _ _ HX4.out HV.out) HTS4.out (fun v w hv hl => uValid_any _ _ v _ w hv hl)).mono ?_
    rintro ee w5 ⟨rfl, hx5⟩
    rw [HF.out.2.2.1]
    have HX15 := Lib.hid (HX14.out.trans hx5)
    have HX5 := Lib.hid (HX4.out.trans hx5)
    clear hx5
    have HMD := Lib.hid (World.ownsMap_made (H := Unit) w5 Tryd.prog 3 (plainElem Tryd.prog 4))
    have hmm := @run_makeMap Tryd.prog
    have hkey := Go.Maps.keyOf_int_mk Tryd.underlying3 (WalkArith.wf_i64 (n := (t : Int)) ⟨by omega, by omega⟩)
    have z0 := HX15.out.cell HD.out.1
    have z1 := HX15.out.cell HD.out.2.1
    have z2 := HX15.out.cell HD.out.2.2
    have HZ := Lib.hid (And.intro z0 (And.intro z1 z2))
    have y0 := ((Ext.refl w5).alloc (.map #[] 0)).cell z0
    have y1 := ((Ext.refl w5).alloc (.map #[] 0)).cell z1
    have y2 := ((Ext.refl w5).alloc (.map #[] 0)).cell z2
    clear z0 z1 z2
    simp only
    go_wp2_with (refine wpl_insert _ rfl _ _ _ 42 rfl 3 4 hopLaw Tryd.underlying42 _ w5.heap.size 0 (.map []) rfl HMD.out (by unfold maxLen; omega) _ _ _ rfl rfl hkey (.lit (.bool true)) [] (plainElem_bool Tryd.underlying4 true) ?_; intro w6 hown6 hgrow6; have HM6 := Lib.hid (And.intro hown6 hgrow6); clear hown6 hgrow6; have v0 := grown_cell HMD.out HM6.out.2 y0; have v1 := grown_cell HMD.out HM6.out.2 y1; have v2 := grown_cell HMD.out HM6.out.2 y2; clear y0 y1 y2)
    have hx6 : Ext w5 w6 := ((Ext.refl w5).alloc _).grown HM6.out.2 (fun k hk => by injection hk with hk; rw [← hk]; exact Nat.le_refl _)
    have hd6 : DW w5 w6 w5.heap.size [h.tgt] := ⟨hx6, Nat.le_refl _, _, HM6.out.1, by rw [HTT.out]; exact SSays.start.put HMD.out.isMap _⟩
    have HD6 := Lib.hid hd6
    clear hx6 hd6 v0 v1 v2 hkey hmm
    refine direct_loop w5 w6 h w.heap.size w5.heap.size n c d t pa SA (by have := HS8.out; omega) ht HK HN HTT (Lib.hid (Rs.ext (Rs.ext RI.ext) _ _ _ _ HX5.out HG2.out)) (Lib.hid (Rs.ext RI.ext _ _ _ _ HX5.out HSR.out)) HZ.out.1 HZ.out.2.1 HZ.out.2.2 HD6 _ _ _ _ _ _ _ _ _ _ _ _ _ _ _ _ _ _ _ _ _ _ _ _ _ _ _ _ _ _ _ _ _ _ _ _ _ _ _ _ _ _ _ _ _ _ _ _ _ _ _ _ _ _ _ _ _ _ _ _ _ _ _ _ _ _ _ _ _ _ _ _ _ _ _ _ _ _ _ _ _ _ _ _ _ _ _ _ _ _ _ _ _ _ _ _ _ _ _ _ _ _ _ _ _ _ _ _ _ _ _ _ _ _ _ _ _ _ _ _ _ _ _ _ _ _ _ _ _ _ _ _ _ _ _ _ _ _ _ _ _ _ _ _ _ _ _ _ _ _ _ _ _ _ _ _ _ _ _ _ _ _ _ _ _ _ _ _ _ _ _ _ _ _ _ _ _ _ _ _ _ _ _ _ _ _ _ _ _ _ _ _ _ _ _ _ _ _ _ _ _ _ _ _ _ _ _ _ _ _ _ _ _ _ _ _ _ _ _ _ _ _ _ _ _ _ _ _ _ _ _ _ _ _ _ _ _ _ _ _ _ _ _ _ _ _ _ _ _ _ ?_
    intro u19 u106 u107 u108 u109 u110 u111 u112 u113 u114 u115 u116 u117 u118 u119 u120 u121 u122 u123 u124 u125 u126 u127 u128 u129 u130 u131 u132 u133 u134 u135 u136 u137 u138 u139 u140 w7 hx7
    have HX17 := Lib.hid (HX15.out.trans hx7)
    have HX7 := Lib.hid (HX5.out.trans hx7)
    clear hx7
    have hst := Su.star_whole (h := h) HC0.out
    obtain ⟨ST, hST⟩ : ∃ ST, Su.sumP h (Su.star h.tgt (Su.sendTo h.tgt h.src h.src.length)) = ST := ⟨_, rfl⟩
    obtain ⟨al, hal⟩ : ∃ al, Su.allTo h (Su.sendTo h.tgt h.src h.src.length) = al := ⟨_, rfl⟩
    rw [hST, hal, HF.out.2.2.2.2] at hst
    rw [hST, hal]
    clear hST hal
    have z0 := HX17.out.cell HD.out.1
    have z1 := HX17.out.cell HD.out.2.1
    have z2 := HX17.out.cell HD.out.2.2
    have HZ7 := Lib.hid (And.intro z0 (And.intro z1 z2))
    clear z0 z1 z2
    cases al with
    | false =>
      clear hst
      go_upto_region 25 with fail
      refine lt_mid w7 w.heap.size (w.heap.size + 1) n c d t N pa SA h x0 x1 x2 x3 HZ7 (Lib.hid (And.intro (HX17.out.cell HM.out.1) (And.intro (HX17.out.cell HM.out.2.1) (And.intro (HX17.out.cell HM.out.2.2.1) (HX17.out.cell HM.out.2.2.2))))) HB HS8 HC0 HK HN HTT ht hn0 hn1 (Lib.hid (Rs.ext (Rs.ext RI.ext) _ _ _ _ HX7.out HG2.out)) (Lib.hid (Rs.ext RI.ext _ _ _ _ HX7.out HSR.out)) (Lib.hid (And.intro HF.out.2.2.2.1 HF.out.2.2.2.2)) (Lib.hid (HT.out.ext HX7.out)) _ _ _ _ _ _ _ _ _ _ _ _ _ _ _ _ _ _ _ _ _ _ _ _ _ _ _ _ _ _ _ _ _ _ _ _ _ _ _ _ _ _ _ _ _ _ _ _ _ _ _ _ _ _ _ _ _ _ _ _ _ _ _ _ _ _ _ _ _ _ _ _ _ _ _ _ _ _ _ _ _ _ _ _ _ _ _ _ _ _ _ _ _ _ _ _ _ _ _ _ _ _ _ _ _ _ _ _ _ _ _ _ _ _ _ _ _ _ _ _ _ _ _ _ _ _ _ _ _ _ _ _ _ _ _ _ _ _ _ _ _ _ _ _ _ _ _ _ _ _ _ _ _ _ _ _ _ _ _ _ _ _ _ _ _ _ _ _ _ _ _ _ _ _ _ _ _ _ _ _ _ _ _ _ _ _ _ _ _ _ _ _ _ _ _ _ _ _ _ _ _ _ _ _ _ _ _ _ _ _ _ _ _ _ _ _ _ _ _ _ _ _ _ _ _ _ _ _ _ _ _ _ _ _ _ _ _ _ _ _ _ _ _ _ _ _ _ _ _ _ _ _ _ _ ?_ _ (by assumption)
      intro u20 u21 u22 u23 u24 u25 u26 u27 u147 u148 u149 u150 u151 u152 u153 u154 u155 u156 u157 u158 u159 u160 u161 u162 u163 u164 u165 u166 u167 u168 u169 u170 u171 u172 u173 u174 u175 u176 u177 u178 u179 u180 u181 u182 u183 u184 u185 u186 u187 u188 u189 u190 u191 u192 u193 u194 u195 u196 u197 u198 u199 u200 u201 u202 u203 u204 u205 u206 u207 u208 u209 u210 u211 u212 u213 u214 u215 u216 u217 u218 u219 u220 u221 u222 u223 u224 u225 u226 u227 u228 u229 u230 u231 u232 u233 u234 u235 u236 u237 u238 u239 u240 u241 u242 u243 u244 u245 u246 u247 u248 u249 u250 u251 u252 u253 u254 wx hx
      have HE := Lib.hid ((HX0.out.trans HX7.out).trans hx)
      clear hx
      go_ret
      exact ⟨rfl, HE.out⟩

    | true =>
      have hst2 : ¬ ST < N := by have := hst rfl; omega
      clear hst
      go_upto_region 25 with fail
      refine lt_mid w7 w.heap.size (w.heap.size + 1) n c d t N pa SA h x0 x1 x2 x3 HZ7 (Lib.hid (And.intro (HX17.out.cell HM.out.1) (And.intro (HX17.out.cell HM.out.2.1) (And.intro (HX17.out.cell HM.out.2.2.1) (HX17.out.cell HM.out.2.2.2))))) HB HS8 HC0 HK HN HTT ht hn0 hn1 (Lib.hid (Rs.ext (Rs.ext RI.ext) _ _ _ _ HX7.out HG2.out)) (Lib.hid (Rs.ext RI.ext _ _ _ _ HX7.out HSR.out)) (Lib.hid (And.intro HF.out.2.2.2.1 HF.out.2.2.2.2)) (Lib.hid (HT.out.ext HX7.out)) _ _ _ _ _ _ _ _ _ _ _ _ _ _ _ _ _ _ _ _ _ _ _ _ _ _ _ _ _ _ _ _ _ _ _ _ _ _ _ _ _ _ _ _ _ _ _ _ _ _ _ _ _ _ _ _ _ _ _ _ _ _ _ _ _ _ _ _ _ _ _ _ _ _ _ _ _ _ _ _ _ _ _ _ _ _ _ _ _ _ _ _ _ _ _ _ _ _ _ _ _ _ _ _ _ _ _ _ _ _ _ _ _ _ _ _ _ _ _ _ _ _ _ _ _ _ _ _ _ _ _ _ _ _ _ _ _ _ _ _ _ _ _ _ _ _ _ _ _ _ _ _ _ _ _ _ _ _ _ _ _ _ _ _ _ _ _ _ _ _ _ _ _ _ _ _ _ _ _ _ _ _ _ _ _ _ _ _ _ _ _ _ _ _ _ _ _ _ _ _ _ _ _ _ _ _ _ _ _ _ _ _ _ _ _ _ _ _ _ _ _ _ _ _ _ _ _ _ _ _ _ _ _ _ _ _ _ _ _ _ _ _ _ _ _ _ _ _ _ _ _ _ _ _ ?_ _ (by assumption)
      intro u20 u21 u22 u23 u24 u25 u26 u27 u147 u148 u149 u150 u151 u152 u153 u154 u155 u156 u157 u158 u159 u160 u161 u162 u163 u164 u165 u166 u167 u168 u169 u170 u171 u172 u173 u174 u175 u176 u177 u178 u179 u180 u181 u182 u183 u184 u185 u186 u187 u188 u189 u190 u191 u192 u193 u194 u195 u196 u197 u198 u199 u200 u201 u202 u203 u204 u205 u206 u207 u208 u209 u210 u211 u212 u213 u214 u215 u216 u217 u218 u219 u220 u221 u222 u223 u224 u225 u226 u227 u228 u229 u230 u231 u232 u233 u234 u235 u236 u237 u238 u239 u240 u241 u242 u243 u244 u245 u246 u247 u248 u249 u250 u251 u252 u253 u254 wx hx
      have HE := Lib.hid ((HX0.out.trans HX7.out).trans hx)
      clear hx
      go_ret
      exact ⟨rfl, HE.out⟩

  · subst h00
    have hlt : ¬ C1 < N := by omega
    clear hle
    go_wp2_with fail
    clear d0 d1 d2
    refine (uCost_any h U _ _ _ (RH.ext _ _ _ _ HX4.out HV.out) HTS4.out (fun v w hv hl => uValid_any _ _ v _ w hv hl)).mono ?_
    rintro ee w5 ⟨rfl, hx5⟩
    rw [HF.out.2.2.1]
    have HX15 := Lib.hid (HX14.out.trans hx5)
    have HX5 := Lib.hid (HX4.out.trans hx5)
    clear hx5
    have HMD := Lib.hid (World.ownsMap_made (H := Unit) w5 Tryd.prog 3 (plainElem Tryd.prog 4))
    have hmm := @run_makeMap Tryd.prog
    have hkey := Go.Maps.keyOf_int_mk Tryd.underlying3 (WalkArith.wf_i64 (n := (t : Int)) ⟨by omega, by omega⟩)
    have z0 := HX15.out.cell HD.out.1
    have z1 := HX15.out.cell HD.out.2.1
    have z2 := HX15.out.cell HD.out.2.2
    have HZ := Lib.hid (And.intro z0 (And.intro z1 z2))
    have y0 := ((Ext.refl w5).alloc (.map #[] 0)).cell z0
    have y1 := ((Ext.refl w5).alloc (.map #[] 0)).cell z1
    have y2 := ((Ext.refl w5).alloc (.map #[] 0)).cell z2
    clear z0 z1 z2
    simp only
    go_wp2_with (refine wpl_insert _ rfl _ _ _ 42 rfl 3 4 hopLaw Tryd.underlying42 _ w5.heap.size 0 (.map []) rfl HMD.out (by unfold maxLen; omega) _ _ _ rfl rfl hkey (.lit (.bool true)) [] (plainElem_bool Tryd.underlying4 true) ?_; intro w6 hown6 hgrow6; have HM6 := Lib.hid (And.intro hown6 hgrow6); clear hown6 hgrow6; have v0 := grown_cell HMD.out HM6.out.2 y0; have v1 := grown_cell HMD.out HM6.out.2 y1; have v2 := grown_cell HMD.out HM6.out.2 y2; clear y0 y1 y2)
    have hx6 : Ext w5 w6 := ((Ext.refl w5).alloc _).grown HM6.out.2 (fun k hk => by injection hk with hk; rw [← hk]; exact Nat.le_refl _)
    have hd6 : DW w5 w6 w5.heap.size [h.tgt] := ⟨hx6, Nat.le_refl _, _, HM6.out.1, by rw [HTT.out]; exact SSays.start.put HMD.out.isMap _⟩
    have HD6 := Lib.hid hd6
    clear hx6 hd6 v0 v1 v2 hkey hmm
    refine direct_loop w5 w6 h w.heap.size w5.heap.size n c d t pa SA (by have := HS8.out; omega) ht HK HN HTT (Lib.hid (Rs.ext (Rs.ext RI.ext) _ _ _ _ HX5.out HG2.out)) (Lib.hid (Rs.ext RI.ext _ _ _ _ HX5.out HSR.out)) HZ.out.1 HZ.out.2.1 HZ.out.2.2 HD6 _ _ _ _ _ _ _ _ _ _ _ _ _ _ _ _ _ _ _ _ _ _ _ _ _ _ _ _ _ _ _ _ _ _ _ _ _ _ _ _ _ _ _ _ _ _ _ _ _ _ _ _ _ _ _ _ _ _ _ _ _ _ _ _ _ _ _ _ _ _ _ _ _ _ _ _ _ _ _ _ _ _ _ _ _ _ _ _ _ _ _ _ _ _ _ _ _ _ _ _ _ _ _ _ _ _ _ _ _ _ _ _ _ _ _ _ _ _ _ _ _ _ _ _ _ _ _ _ _ _ _ _ _ _ _ _ _ _ _ _ _ _ _ _ _ _ _ _ _ _ _ _ _ _ _ _ _ _ _ _ _ _ _ _ _ _ _ _ _ _ _ _ _ _ _ _ _ _ _ _ _ _ _ _ _ _ _ _ _ _ _ _ _ _ _ _ _ _ _ _ _ _ _ _ _ _ _ _ _ _ _ _ _ _ _ _ _ _ _ _ _ _ _ _ _ _ _ _ _ _ _ _ _ _ _ _ _ _ _ _ _ _ _ _ _ _ _ _ _ _ ?_
    intro u19 u106 u107 u108 u109 u110 u111 u112 u113 u114 u115 u116 u117 u118 u119 u120 u121 u122 u123 u124 u125 u126 u127 u128 u129 u130 u131 u132 u133 u134 u135 u136 u137 u138 u139 u140 w7 hx7
    have HX17 := Lib.hid (HX15.out.trans hx7)
    have HX7 := Lib.hid (HX5.out.trans hx7)
    clear hx7
    have hst := Su.star_whole (h := h) HC0.out
    obtain ⟨ST, hST⟩ : ∃ ST, Su.sumP h (Su.star h.tgt (Su.sendTo h.tgt h.src h.src.length)) = ST := ⟨_, rfl⟩
    obtain ⟨al, hal⟩ : ∃ al, Su.allTo h (Su.sendTo h.tgt h.src h.src.length) = al := ⟨_, rfl⟩
    rw [hST, hal, HF.out.2.2.2.2] at hst
    rw [hST, hal]
    clear hST hal
    have z0 := HX17.out.cell HD.out.1
    have z1 := HX17.out.cell HD.out.2.1
    have z2 := HX17.out.cell HD.out.2.2
    have HZ7 := Lib.hid (And.intro z0 (And.intro z1 z2))
    clear z0 z1 z2
    cases al with
    | false =>
      clear hst
      go_upto_region 25 with fail
      refine lt_mid w7 w.heap.size (w.heap.size + 1) n c d t N pa SA h x0 x1 x2 x3 HZ7 (Lib.hid (And.intro (HX17.out.cell HM.out.1) (And.intro (HX17.out.cell HM.out.2.1) (And.intro (HX17.out.cell HM.out.2.2.1) (HX17.out.cell HM.out.2.2.2))))) HB HS8 HC0 HK HN HTT ht hn0 hn1 (Lib.hid (Rs.ext (Rs.ext RI.ext) _ _ _ _ HX7.out HG2.out)) (Lib.hid (Rs.ext RI.ext _ _ _ _ HX7.out HSR.out)) (Lib.hid (And.intro HF.out.2.2.2.1 HF.out.2.2.2.2)) (Lib.hid (HT.out.ext HX7.out)) _ _ _ _ _ _ _ _ _ _ _ _ _ _ _ _ _ _ _ _ _ _ _ _ _ _ _ _ _ _ _ _ _ _ _ _ _ _ _ _ _ _ _ _ _ _ _ _ _ _ _ _ _ _ _ _ _ _ _ _ _ _ _ _ _ _ _ _ _ _ _ _ _ _ _ _ _ _ _ _ _ _ _ _ _ _ _ _ _ _ _ _ _ _ _ _ _ _ _ _ _ _ _ _ _ _ _ _ _ _ _ _ _ _ _ _ _ _ _ _ _ _ _ _ _ _ _ _ _ _ _ _ _ _ _ _ _ _ _ _ _ _ _ _ _ _ _ _ _ _ _ _ _ _ _ _ _ _ _ _ _ _ _ _ _ _ _ _ _ _ _ _ _ _ _ _ _ _ _ _ _ _ _ _ _ _ _ _ _ _ _ _ _ _ _ _ _ _ _ _ _ _ _ _ _ _ _ _ _ _ _ _ _ _ _ _ _ _ _ _ _ _ _ _ _ _ _ _ _ _ _ _ _ _ _ _ _ _ _ _ _ _ _ _ _ _ _ _ _ _ _ _ _ _ ?_ _ (by assumption)
      intro u20 u21 u22 u23 u24 u25 u26 u27 u147 u148 u149 u150 u151 u152 u153 u154 u155 u156 u157 u158 u159 u160 u161 u162 u163 u164 u165 u166 u167 u168 u169 u170 u171 u172 u173 u174 u175 u176 u177 u178 u179 u180 u181 u182 u183 u184 u185 u186 u187 u188 u189 u190 u191 u192 u193 u194 u195 u196 u197 u198 u199 u200 u201 u202 u203 u204 u205 u206 u207 u208 u209 u210 u211 u212 u213 u214 u215 u216 u217 u218 u219 u220 u221 u222 u223 u224 u225 u226 u227 u228 u229 u230 u231 u232 u233 u234 u235 u236 u237 u238 u239 u240 u241 u242 u243 u244 u245 u246 u247 u248 u249 u250 u251 u252 u253 u254 wx hx
      have HE := Lib.hid ((HX0.out.trans HX7.out).trans hx)
      clear hx
      go_ret
      exact ⟨rfl, HE.out⟩

    | true =>
      have hst2 : ¬ ST < N := by have := hst rfl; omega
      clear hst
      go_upto_region 25 with fail
      refine lt_mid w7 w.heap.size (w.heap.size + 1) n c d t N pa SA h x0 x1 x2 x3 HZ7 (Lib.hid (And.intro (HX17.out.cell HM.out.1) (And.intro (HX17.out.cell HM.out.2.1) (And.intro (HX17.out.cell HM.out.2.2.1) (HX17.out.cell HM.out.2.2.2))))) HB HS8 HC0 HK HN HTT ht hn0 hn1 (Lib.hid (Rs.ext (Rs.ext RI.ext) _ _ _ _ HX7.out HG2.out)) (Lib.hid (Rs.ext RI.ext _ _ _ _ HX7.out HSR.out)) (Lib.hid (And.intro HF.out.2.2.2.1 HF.out.2.2.2.2)) (Lib.hid (HT.out.ext HX7.out)) _ _ _ _ _ _ _ _ _ _ _ _ _ _ _ _ _ _ _ _ _ _ _ _ _ _ _ _ _ _ _ _ _ _ _ _ _ _ _ _ _ _ _ _ _ _ _ _ _ _ _ _ _ _ _ _ _ _ _ _ _ _ _ _ _ _ _ _ _ _ _ _ _ _ _ _ _ _ _ _ _ _ _ _ _ _ _ _ _ _ _ _ _ _ _ _ _ _ _ _ _ _ _ _ _ _ _ _ _ _ _ _ _ _ _ _ _ _ _ _ _ _ _ _ _ _ _ _ _ _ _ _ _ _ _ _ _ _ _ _ _ _ _ _ _ _ _ _ _ _ _ _ _ _ _ _ _ _ _ _ _ _ _ _ _ _ _ _ _ _ _ _ _ _ _ _ _ _ _ _ _ _ _ _ _ _ _ _ _ _ _ _ _ _ _ _ _ _ _ _ _ _ _ _ _ _ _ _ _ _ _ _ _ _ _ _ _ _ _ _ _ _ _ _ _ _ _ _ _ _ _ _ _ _ _ _ _ _ _ _ _ _ _ _ _ _ _ _ _ _ _ _ _ _ ?_ _ (by assumption)
      intro u20 u21 u22 u23 u24 u25 u26 u27 u147 u148 u149 u150 u151 u152 u153 u154 u155 u156 u157 u158 u159 u160 u161 u162 u163 u164 u165 u166 u167 u168 u169 u170 u171 u172 u173 u174 u175 u176 u177 u178 u179 u180 u181 u182 u183 u184 u185 u186 u187 u188 u189 u190 u191 u192 u193 u194 u195 u196 u197 u198 u199 u200 u201 u202 u203 u204 u205 u206 u207 u208 u209 u210 u211 u212 u213 u214 u215 u216 u217 u218 u219 u220 u221 u222 u223 u224 u225 u226 u227 u228 u229 u230 u231 u232 u233 u234 u235 u236 u237 u238 u239 u240 u241 u242 u243 u244 u245 u246 u247 u248 u249 u250 u251 u252 u253 u254 wx hx
      have HE := Lib.hid ((HX0.out.trans HX7.out).trans hx)
      clear hx
      go_ret
      exact ⟨rfl, HE.out⟩

end Go.Proofs.YtenafgphaceidaaDoor

/- ARGUMENTS that are codes read as such. -/
namespace Go.Proofs.YtenafgphaceidaaDoor
open Go.ChangeShapes Go.WideShapes Go.ChangeAt Go.RowKit Go.ChangeMaps Go.Deep
variable {H : Type} {enc : TypeId × Value → H} {W : World} {base : Nat}
theorem list_getD {l : List Int} {k : Nat} (h : k < l.length) : l.getD k 0 = l[k] := by rw [List.getD_eq_getElem?_getD, List.getElem?_eq_getElem h]; rfl
theorem read_ints {fuel : Nat} {v : Value} {x : DataW H × List MemPlace} (h : DataW.trod enc Tryd.prog W base (fun _ => true) true fuel 23 [v] = some x) : ∃ l, Rs RI W v l := by
  rcases open_ints Tryd.underlying23 Tryd.underlying3 (by kernel_rfl) h with ⟨hcs, _⟩ | ⟨a, len, cap, zs, hcs, _, hl, hm, hz, _, hcell, hwz⟩
  · injection hcs with hcs _
    subst hcs
    exact ⟨[], none, 0, rfl, by simp, fun i x h => by simp at h⟩
  · injection hcs with hcs _
    subst hcs
    rw [if_pos rfl] at hz
    have hll : (zs.take len).length = len := by rw [List.length_take]; omega
    refine ⟨zs.take len, some a, cap, by rw [hll], by rw [hll]; unfold maxLen at hm; omega, fun i y hi => ?_⟩
    have hi1 : i < (zs.take len).length := (List.getElem?_eq_some_iff.1 hi).1
    have hi2 : i < zs.length := by rw [List.length_take] at hi1; omega
    have h1 := hcell i (by omega)
    rw [list_getD hi2] at h1
    have e : y = zs[i] := by
      have := (List.getElem?_eq_some_iff.1 hi).2
      rw [← this, List.getElem_take]
    subst e
    have hb := bounds_i64 (hwz _ (List.getElem_mem hi2))
    exact ⟨a, _, rfl, h1, rfl, by omega, by omega⟩
theorem read_rows {fuel : Nat} {v : Value} {x : DataW H × List MemPlace} (h : DataW.trod enc Tryd.prog W base (fun _ => true) true fuel 22 [v] = some x) : ∃ l, Rs (Rs RI) W v l := by
  rcases open_int_rows Tryd.underlying22 Tryd.underlying23 Tryd.underlying3 (by kernel_rfl) (by kernel_rfl) h with ⟨hcs, _⟩ | ⟨a, len, cap, A, L, C, Z, hcs, _, hl, hm, _, hx⟩
  · injection hcs with hcs _
    subst hcs
    exact ⟨[], none, 0, rfl, by simp, fun i x h => by simp at h⟩
  · injection hcs with hcs _
    subst hcs
    refine ⟨(List.range len).map fun r => (Z r).take (L r), some a, cap, by simp, by simp; unfold maxLen at hm; omega, fun i y hi => ?_⟩
    have hi1 : i < len := by have := (List.getElem?_eq_some_iff.1 hi).1; simpa using this
    have e : y = (Z i).take (L i) := by
      have := (List.getElem?_eq_some_iff.1 hi).2
      rw [← this]; simp
    subst e
    obtain ⟨h1, h2, h3, h4, h5, h6, h7⟩ := hx i (by omega)
    refine ⟨a, _, rfl, h1, A i, C i, ?_, ?_, fun k z hk => ?_⟩
    · rw [List.length_take]; congr 1; omega
    · rw [List.length_take]; unfold maxLen at h3; omega
    · have hk1 : k < ((Z i).take (L i)).length := (List.getElem?_eq_some_iff.1 hk).1
      have hk2 : k < (Z i).length := by rw [List.length_take] at hk1; omega
      have hk3 : k < C i := by omega
      have e : z = (Z i)[k] := by
        have := (List.getElem?_eq_some_iff.1 hk).2
        rw [← this, List.getElem_take]
      subst e
      have hb := bounds_i64 (h5 _ (List.getElem_mem hk2))
      cases hA : A i with
      | none => have := h6 hA; omega
      | some b =>
        have h8 := (h7 b hA).2 k hk3
        rw [list_getD hk2] at h8
        exact ⟨b, _, rfl, h8, rfl, by omega, by omega⟩
theorem cellsInts : Tryd.prog.cellsOf 23 = 1 := by kernel_rfl
theorem cellsRows : Tryd.prog.cellsOf 22 = 1 := by kernel_rfl
theorem cellsInt : Tryd.prog.cellsOf 3 = 1 := by kernel_rfl
theorem array3 {α : Type} {cs : Array α} (h : cs.size = 3) : ∃ c0 c1 c2, cs = #[c0, c1, c2] := by
  obtain ⟨l⟩ := cs
  match l, h with
  | [c0, c1, c2], _ => exact ⟨c0, c1, c2, rfl⟩
end Go.Proofs.YtenafgphaceidaaDoor

/- ARGUMENTS of law 19: hauls and hops. -/
namespace Go.Proofs.YtenafgphaceidaaDoor
open Go.ChangeShapes Go.WideShapes Go.ChangeAt Go.RowKit Go.ChangeMaps Go.Deep
variable {H : Type} {enc : TypeId × Value → H} {W : World} {base : Nat}
set_option maxRecDepth 100000 in
theorem open_haul {b0 : Nat} {v : Value} {d : DataW H} {ps : List MemPlace} (hval : Value.okWide Tryd.prog W .any b0 25 v) (hd : DataW.Trod enc Tryd.prog W base (fun _ => true) true 25 v d ps) :
    ∃ h : Su.Ha, RH W v h := by
  obtain ⟨cs, rfl, hsz⟩ := okWide_struct Tryd.underlying25 hval
  obtain ⟨c0, c1, c2, rfl⟩ := array3 (hsz.trans (by kernel_rfl))
  obtain ⟨fuel, hf⟩ := hd
  obtain ⟨zs, m, _, _, _, hlen2, hz⟩ := DataW.trod_struct Tryd.underlying25 hf
  obtain ⟨z0, z1, z2, rfl⟩ : ∃ z0 z1 z2, zs = [z0, z1, z2] := by
    match zs, hlen2 with
    | [z0, z1, z2], _ => exact ⟨z0, z1, z2, rfl⟩
  have g0 : DataW.trod enc Tryd.prog W base (fun _ => true) true m 22 [c0] = some z0 := by
    have := hz 0 _ rfl
    simpa [Value.cells, cellsRows] using this
  have g1 : DataW.trod enc Tryd.prog W base (fun _ => true) true m 23 [c1] = some z1 := by
    have := hz 1 _ rfl
    simpa [Value.cells, cellsInts] using this
  have g2 : DataW.trod enc Tryd.prog W base (fun _ => true) true m 3 [c2] = some z2 := by
    have := hz 2 _ rfl
    simpa [Value.cells, cellsInt] using this
  obtain ⟨gs, h1⟩ := read_rows g0
  obtain ⟨l, h2⟩ := read_ints g1
  obtain ⟨a2, ha2, _, w2⟩ := DataW.trod_int Tryd.underlying3 g2
  injection ha2 with ha2 _
  subst ha2
  have b2 := bounds_i64 w2
  exact ⟨⟨gs, l, a2⟩, c0, c1, rfl, h1, h2, by simp; omega, by simp; omega⟩
theorem spot_free {a : Addr} {v : Value} (h : W.cell? a = some v) : a.spot = none := by
  unfold World.cell? at h
  split at h
  · split at h
    · cases h
    · rename_i hs; simpa using hs
  · cases h
set_option maxRecDepth 100000 in
theorem open_hops {b0 : Nat} {v : Value} {d : DataW H} {ps : List MemPlace} (hval : Value.okWide Tryd.prog W .any b0 26 v) (hd : DataW.Trod enc Tryd.prog W base (fun _ => true) true 26 v d ps) :
    ∃ l : List (Int × Int), RL W v l := by
  obtain ⟨a0, len, cap, rfl⟩ := okWide_slice Tryd.underlying26 hval
  obtain ⟨fuel, hf⟩ := hd
  have ce : Tryd.prog.cellsOf 65 = 2 := by kernel_rfl
  rcases open_slice Tryd.underlying26 hf with ⟨hcs, _⟩ | ⟨a, len', cap', m, n, D, Pl, hcs, _, hl, hm, hmm, _, hx⟩
  · simp [Value.cells] at hcs
    obtain ⟨rfl, rfl, rfl⟩ := hcs
    exact ⟨[], none, 0, rfl, by simp, fun i x hi => by simp at hi⟩
  · simp [Value.cells] at hcs
    obtain ⟨rfl, rfl, rfl⟩ := hcs
    rw [if_pos rfl] at hmm
    have each : ∀ i, i < len → ∃ x : Int × Int, W.cell? (a.add (i * 2)) = some (.int .i64 x.1) ∧ W.cell? ((a.add (i * 2)).add 1) = some (.int .i64 x.2) ∧ r64 x.1 ∧ r64 x.2 := by
      intro i hi
      obtain ⟨cs', h1, h2⟩ := hx i (by omega)
      rw [ce] at h1
      obtain ⟨_, hlen, hcell⟩ := World.cells?_some h1
      obtain ⟨xs, k, _, _, _, hxl, hg⟩ := DataW.trod_struct Tryd.underlying65 h2
      obtain ⟨c0, c1, rfl⟩ : ∃ c0 c1, cs' = [c0, c1] := by
        match cs', hlen with
        | [c0, c1], _ => exact ⟨c0, c1, rfl⟩
      obtain ⟨y0, y1, rfl⟩ : ∃ y0 y1, xs = [y0, y1] := by
        match xs, hxl with
        | [y0, y1], _ => exact ⟨y0, y1, rfl⟩
      have f0 : DataW.trod enc Tryd.prog W base (fun _ => true) true k 3 [c0] = some y0 := by
        have := hg 0 _ rfl
        simpa [cellsInt] using this
      have f1 : DataW.trod enc Tryd.prog W base (fun _ => true) true k 3 [c1] = some y1 := by
        have := hg 1 _ rfl
        simpa [cellsInt] using this
      obtain ⟨z0, e0, _, w0⟩ := DataW.trod_int Tryd.underlying3 f0
      obtain ⟨z1, e1, _, w1⟩ := DataW.trod_int Tryd.underlying3 f1
      injection e0 with e0 _
      injection e1 with e1 _
      subst e0 e1
      have b0 := bounds_i64 w0
      have b1 := bounds_i64 w1
      exact ⟨(z0, z1), hcell 0 (by decide), hcell 1 (by decide), ⟨by simp; omega, by simp; omega⟩, ⟨by simp; omega, by simp; omega⟩⟩
    refine ⟨(List.range len).map fun k => if h : k < len then (each k h).choose else (0, 0), some a, cap, by simp, by simp; unfold maxLen at hm; omega, fun i x hi => ?_⟩
    have hil : i < len := by
      have := (List.getElem?_eq_some_iff.1 hi).1
      simpa using this
    have hxe : x = (each i hil).choose := by
      have := (List.getElem?_eq_some_iff.1 hi).2
      rw [← this]
      simp [hil]
    obtain ⟨h1, h2, h3, h4⟩ := (each i hil).choose_spec
    rw [← hxe] at h1 h2 h3 h4
    refine ⟨a, rfl, h1, ?_, h3.1, h3.2, h4.1, h4.2⟩
    have hs := spot_free h1
    have e : (a.add (i * 2)).add 1 = ⟨(a.add (i * 2)).block, (a.add (i * 2)).off + 1, none⟩ := by
      generalize a.add (i * 2) = p at hs
      obtain ⟨b, o, s⟩ := p
      simp only at hs
      subst hs
      unfold Addr.add
      rfl
    rw [← e]
    exact h2
end Go.Proofs.YtenafgphaceidaaDoor

/- ARGUMENTS that are small arrays of numbers read as such. -/
namespace Go.Proofs.YtenafgphaceidaaDoor
open Go.ChangeShapes Go.WideShapes Go.ChangeAt Go.RowKit Go.ChangeMaps Go.Deep
variable {H : Type} {enc : TypeId × Value → H} {W : World} {base : Nat}
theorem okWide_arrayN {P : Program} {r : Reach} {b0 n : Nat} {t e : TypeId} {v : Value} (ht : P.underlying t = some (.array n e)) (h : Value.okWide P W r b0 t v) : ∃ cs, v = .agg cs ∧ cs.size = P.cellsOf t := by
  unfold Value.okWide at h
  rw [ht] at h
  obtain ⟨cs, h1, h2, _⟩ := h
  exact ⟨cs, h1, h2⟩
theorem cellsN_u8 : Tryd.prog.cellsOf 5 = 1 := by kernel_rfl
theorem boundsN_u8 {n : Int} (h : (Lit.int .u8 n).wf = true) : 0 ≤ n ∧ n ≤ 255 := by
  simpa [Lit.wf, IntKind.min, IntKind.max, IntKind.signed, IntKind.bits] using h
theorem arrayN_u8_4 {α : Type} {cs : Array α} (h : cs.size = 4) : ∃ c0 c1 c2 c3, cs = #[c0, c1, c2, c3] := by
  obtain ⟨l⟩ := cs
  match l, h with
  | [c0, c1, c2, c3], _ => exact ⟨c0, c1, c2, c3, rfl⟩
set_option maxRecDepth 100000 in
theorem openN_u8_4 {b0 : Nat} {v : Value} {d : DataW H} {ps : List MemPlace} (hval : Value.okWide Tryd.prog W .any b0 41 v) (hd : DataW.Trod enc Tryd.prog W base (fun _ => true) true 41 v d ps) :
    ∃ x0 x1 x2 x3 : Int, v = .agg #[.int .u8 x0, .int .u8 x1, .int .u8 x2, .int .u8 x3] ∧ (0 ≤ x0 ∧ x0 ≤ 255) ∧ (0 ≤ x1 ∧ x1 ≤ 255) ∧ (0 ≤ x2 ∧ x2 ≤ 255) ∧ (0 ≤ x3 ∧ x3 ≤ 255) := by
  obtain ⟨cs, rfl, hsz⟩ := okWide_arrayN Tryd.underlying41 hval
  obtain ⟨c0, c1, c2, c3, rfl⟩ := arrayN_u8_4 (hsz.trans (by kernel_rfl))
  obtain ⟨fuel, hf⟩ := hd
  obtain ⟨xs, n, _, _, _, hlen, hx⟩ := DataW.trod_array Tryd.underlying41 hf
  obtain ⟨y0, y1, y2, y3, rfl⟩ : ∃ y0 y1 y2 y3, xs = [y0, y1, y2, y3] := by
    match xs, hlen with
    | [y0, y1, y2, y3], _ => exact ⟨y0, y1, y2, y3, rfl⟩
  have f0 : DataW.trod enc Tryd.prog W base (fun _ => true) true n 5 [c0] = some y0 := by
    have := hx 0 (by decide)
    simpa [Value.cells, cellsN_u8] using this
  have f1 : DataW.trod enc Tryd.prog W base (fun _ => true) true n 5 [c1] = some y1 := by
    have := hx 1 (by decide)
    simpa [Value.cells, cellsN_u8] using this
  have f2 : DataW.trod enc Tryd.prog W base (fun _ => true) true n 5 [c2] = some y2 := by
    have := hx 2 (by decide)
    simpa [Value.cells, cellsN_u8] using this
  have f3 : DataW.trod enc Tryd.prog W base (fun _ => true) true n 5 [c3] = some y3 := by
    have := hx 3 (by decide)
    simpa [Value.cells, cellsN_u8] using this
  obtain ⟨z0, h0, _, w0⟩ := DataW.trod_int Tryd.underlying5 f0
  injection h0 with h0 _
  obtain ⟨z1, h1, _, w1⟩ := DataW.trod_int Tryd.underlying5 f1
  injection h1 with h1 _
  obtain ⟨z2, h2, _, w2⟩ := DataW.trod_int Tryd.underlying5 f2
  injection h2 with h2 _
  obtain ⟨z3, h3, _, w3⟩ := DataW.trod_int Tryd.underlying5 f3
  injection h3 with h3 _
  subst h0 h1 h2 h3
  exact ⟨z0, z1, z2, z3, rfl, boundsN_u8 w0, boundsN_u8 w1, boundsN_u8 w2, boundsN_u8 w3⟩
end Go.Proofs.YtenafgphaceidaaDoor
