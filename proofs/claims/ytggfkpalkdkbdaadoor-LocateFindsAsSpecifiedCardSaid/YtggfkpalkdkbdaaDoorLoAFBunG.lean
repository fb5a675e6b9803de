/- What the program's functions do, step by step: part G of the texts for this claim; no condition beyond what each theorem states. -/
import Derived.Test.YtggfkpalkdkbdaaDoorLoAFBunA
import Derived.Test.YtggfkpalkdkbdaaDoorLoAFBunB
import Derived.Test.YtggfkpalkdkbdaaDoorLoAFBunC
import Derived.Test.YtggfkpalkdkbdaaDoorLoAFBunD
import Derived.Test.YtggfkpalkdkbdaaDoorLoAFBunE
import Derived.Test.YtggfkpalkdkbdaaDoorLoAFBunF
/- THE WALK over the specification of codes: Decode. -/
namespace Cd
/-- Both ways to solve agree, as far as the pieces fit. -/
theorem dec_ref {d gl n m : Nat} {gs : List (List Int)} {R pieces : List (List UInt8)} (hR : rowsOf (d : Int) gs (gl : Int) = R) (hpl : pieces.length = R.length) (hc : can d gl gs (m : Int) = true) (hlen : ∀ k, k < R.length → bitAt m k = 1 → (pieces.getD k []).length = sizeN d n) :
    badOne m (encode d gl gs (chunkOf d gl gs n m pieces)) pieces = badOne m (encode d gl gs ((dataR R d (sizeN d n) m pieces).take n)) pieces ∧ (badOne m (encode d gl gs ((dataR R d (sizeN d n) m pieces).take n)) pieces = false → chunkOf d gl gs n m pieces = (dataR R d (sizeN d n) m pieces).take n) := by
  obtain ⟨h0, _, _⟩ := can_def.1 hc
  have hk := check_ok h0
  obtain ⟨C, hC⟩ : ∃ C, chunkOf d gl gs n m pieces = C := ⟨_, rfl⟩
  obtain ⟨D, hD⟩ : ∃ D, (dataR R d (sizeN d n) m pieces).take n = D := ⟨_, rfl⟩
  have hCn : C.length = n := by
    rw [← hC]
    exact chunk_len h0 hc (fun k h1 h2 => by rw [hR] at h1; rw [Int.toNat_natCast]; exact hlen k h1 h2)
  have hDn : D.length = n := by
    rw [← hD, List.length_take, dataR_len]
    have := size_ge (d := d) (by omega) n
    omega
  have hok : ∀ X, badOne m (encode d gl gs X) pieces = false → ∀ k, k < R.length → bitAt m k = 1 → pieces.getD k [] = (encode d gl gs X).getD k [] := fun X hX k h1 h2 => by
    apply Classical.byContradiction
    intro hne
    have := badOne_iff.2 ⟨k, by rw [hpl]; exact h1, h2, fun h => hne h.symm⟩
    rw [hX] at this
    cases this
  have h1 : badOne m (encode d gl gs C) pieces = false → D = C := fun h => by
    have h2 := dataR_fits (X := C) hR hc (hok C h)
    rw [hCn, hD] at h2
    exact h2
  have h2 : badOne m (encode d gl gs D) pieces = false → C = D := fun h => by
    have h3 := chunk_data h0 hc (data := D) (pieces := pieces) (fun k k1 k2 => hok D h k (by rw [← hR]; exact k1) k2)
    rw [hDn, hC] at h3
    exact h3
  rw [hC, hD]
  refine ⟨?_, h2⟩
  cases e1 : badOne m (encode d gl gs C) pieces with
  | false => rw [h1 e1, e1]
  | true =>
    cases e2 : badOne m (encode d gl gs D) pieces with
    | true => rfl
    | false => rw [h2 e2, e2] at e1; cases e1
end Cd
namespace Go.Proofs.YtggfkpalkdkbdaaDoor
open Go.RowKit
def decodedRow (g : Nat) (v e : Value) : LRow := ⟨.slice (some ⟨g, 0, none⟩) 2 2, 73, 1, 2, [v, e]⟩
theorem extract_take (l : List UInt8) (n : Nat) : (sb l).extract 0 n = sb (l.take n) := by
  apply ByteArray.ext
  apply Array.ext'
  simp [sb]
theorem run_take (l : List UInt8) (n : Nat) (h : n ≤ l.length) (w : World) : (Instr.sliceAt 9 (.string (sb l)) none (some (.int .i64 n)) none).run Tryd.prog w = .ok (.string (sb (l.take n))) w := by
  have b1 : (0 : Int) ≤ (n : Int) := by omega
  have b2 : (n : Int) ≤ (l.length : Int) := by omega
  rw [← extract_take]
  go_simp
theorem ex_lenS {P : Program} {w : World} {a : Act} {o : Oper} {x : Operand} {s : ByteArray} {t : TypeId} (ho : o.op = .call { callee := .builtin .len, args := #[x], argTypes := #[t] }) (hx : a.eval x = .string s) (hr : (Builtin.len_ #[t] o.type #[.string s]).run P w = .ok (.int .i64 s.size) w) : (execOp a.eval o).run P w = .ok (.value (.int .i64 s.size)) w := by
  unfold execOp
  simp only [ho, resolve, invoke, builtin, Sem.run_bind, Sem.run_pure, Result.andThen_ok, List.map_toArray, List.map_cons, List.map_nil, hx, hr]
theorem ex_alloc {P : Program} {w w' : World} {a : Act} {o : Oper} {t : TypeId} {v : Value} (ho : o.op = .alloc t) (hr : (Instr.alloc t true (.tuple #[])).run P w = .ok v w') : (execOp a.eval o).run P w = .ok (.value v) w' := by
  unfold execOp
  simp only [ho, hr, Sem.run_bind, Sem.run_pure, Result.andThen_ok]
theorem ent7_size : ∀ args w, (callFunc 43 args).run Tryd.prog w = .ok (.enter 43 args) w := enters_of Tryd.func43 (by kernel_rfl) rfl
theorem ent7_data : ∀ args w, (callFunc 59 args).run Tryd.prog w = .ok (.enter 59 args) w := enters_of Tryd.func59 (by kernel_rfl) rfl
theorem ent7_enc : ∀ args w, (callFunc 60 args).run Tryd.prog w = .ok (.enter 60 args) w := enters_of Tryd.func60 (by kernel_rfl) rfl

/-- What reads as strings stays while a cell of no string changes. -/
theorem rs_keep {w : World} {V : Value} {l : List (List UInt8)} {p : Addr} {u v : Value} (h : Rs RS w V l) (hp : w.cell? p = some u) (hu : ∀ x : ByteArray, u ≠ .string x) : Rs RS (w.setCell p v) V l := by
  obtain ⟨A, c, rfl, hl, h⟩ := h
  refine ⟨A, c, rfl, hl, fun i x hi => ?_⟩
  obtain ⟨ad, y, h1, h2, h3⟩ := h i x hi
  refine ⟨ad, y, h1, ?_, h3⟩
  rw [World.cell?_setCell_other _ _ _ _ ?_]
  · exact h2
  · rintro rfl
    rw [hp] at h2
    injection h2 with h2
    rw [h3] at h2
    exact hu _ h2
noncomputable def dec_len_code : Code := ((Tryd.f37.body.bind (regionOf 11)).getD .skip)
def dec_len_dsts : List (Option Nat) := [some 54, some 55, some 56, some 57, some 58, some 59, some 60, some 61, some 62, some 63, some 64, some 65]
theorem dec_len_apart : apartD dec_len_dsts = true := by decide +kernel
set_option maxRecDepth 1000000 in
set_option maxHeartbeats 16000000 in
theorem dec_len (bP : Addr) (GA : Option Addr) (B n cp Gc k : Nat) (d gl N : Int) (bb : Bool) (pk : ByteArray) (gs : List (List Int)) (wr : World) (hgn : gs.length ≤ 1000000) (hk : k < n) (hP : Hid (wr.cell? (bP.add k) = some (.string pk))) (hbb : Hid (((pk.size : Int) != Cd.sizeOf d gl gs N) = bb)) (h0 : wr.cell? ⟨B, 0, none⟩ = some (.int .i64 d)) (h1 : wr.cell? ⟨B, 1, none⟩ = some (.slice GA gs.length Gc)) (h2 : wr.cell? ⟨B, 2, none⟩ = some (.int .i64 gl)) (HG : Hid (Rs (Rs RI) wr (.slice GA gs.length Gc) gs)) (c0 c2 c5 c6 c7 c8 c9 c10 c13 c14 c15 c16 c17 c18 c19 c20 c21 c22 c23 c24 c25 c26 c27 c28 c29 c30 c31 c32 c33 c34 c35 c36 c37 c38 c39 c40 c41 c42 c43 c44 c45 c46 c47 c48 c49 c50 c51 c52 c53 c54 c55 c56 c57 c58 c59 c60 c61 c62 c63 c64 c65 c66 c67 c68 c69 c70 c71 c72 c73 c74 c75 c76 c77 c78 c79 c80 c81 c82 c83 c84 c85 c86 c87 c88 c89 c90 c91 c92 c93 c94 c95 c96 c97 c98 c99 c100 c101 c102 c103 c104 c105 c106 c107 c108 c109 c110 c111 : Value) (df : List Deferred) (K : Act → World → Prop)
    (hK : ∀  (u54 u55 u56 u57 u58 u59 u60 u61 u62 u63 u64 : Value) (wx : World), Ext wr wx → K ⟨#[c0, .int .i64 N, c2, .slice (some bP) n cp, .pointer (some ⟨B, 0, none⟩), c5, c6, c7, c8, c9, c10, .int .i64 k, .bool true, c13, c14, c15, c16, c17, c18, c19, c20, c21, c22, c23, c24, c25, c26, c27, c28, c29, c30, c31, c32, c33, c34, c35, c36, c37, c38, c39, c40, c41, c42, c43, c44, c45, c46, c47, c48, c49, c50, c51, c52, c53, u54, u55, u56, u57, u58, u59, u60, u61, u62, u63, u64, .bool bb, c66, c67, c68, c69, c70, c71, c72, c73, c74, c75, c76, c77, c78, c79, c80, c81, c82, c83, c84, c85, c86, c87, c88, c89, c90, c91, c92, c93, c94, c95, c96, c97, c98, c99, c100, c101, c102, c103, c104, c105, c106, c107, c108, c109, c110, c111], df⟩ wx) :
    Code.wp Tryd.prog dec_len_code (AtEnd K) ⟨#[c0, .int .i64 N, c2, .slice (some bP) n cp, .pointer (some ⟨B, 0, none⟩), c5, c6, c7, c8, c9, c10, .int .i64 k, .bool true, c13, c14, c15, c16, c17, c18, c19, c20, c21, c22, c23, c24, c25, c26, c27, c28, c29, c30, c31, c32, c33, c34, c35, c36, c37, c38, c39, c40, c41, c42, c43, c44, c45, c46, c47, c48, c49, c50, c51, c52, c53, c54, c55, c56, c57, c58, c59, c60, c61, c62, c63, c64, c65, c66, c67, c68, c69, c70, c71, c72, c73, c74, c75, c76, c77, c78, c79, c80, c81, c82, c83, c84, c85, c86, c87, c88, c89, c90, c91, c92, c93, c94, c95, c96, c97, c98, c99, c100, c101, c102, c103, c104, c105, c106, c107, c108, c109, c110, c111], df⟩ wr := by
  conv => arg 2; whnf
  refine region_inv (by kernel_rfl) [[], [0], [1], [1], [2, 3, 1], [4, 1], [5, 1], [1], [1], [7, 8, 1, 1], [6, 9, 1], [1, 10]] (by kernel_rfl) [0, 1, 2, 3, 4, 5, 6, 7, 8, 9, 10, 11] (by decide +kernel) (by decide +kernel) (by decide +kernel) (fun L a wc => Inv dec_len_dsts [.bool true, .bool true, .slice (some bP) n cp, .int .i64 k, .pointer (some (bP.add k)), .string pk, .int .i64 pk.size, .agg #[.int .i64 d, .slice GA gs.length Gc, .int .i64 gl], .int .i64 N, .int .i64 (Cd.sizeOf d gl gs N), .bool bb, .bool bb] ⟨#[c0, .int .i64 N, c2, .slice (some bP) n cp, .pointer (some ⟨B, 0, none⟩), c5, c6, c7, c8, c9, c10, .int .i64 k, .bool true, c13, c14, c15, c16, c17, c18, c19, c20, c21, c22, c23, c24, c25, c26, c27, c28, c29, c30, c31, c32, c33, c34, c35, c36, c37, c38, c39, c40, c41, c42, c43, c44, c45, c46, c47, c48, c49, c50, c51, c52, c53, c54, c55, c56, c57, c58, c59, c60, c61, c62, c63, c64, c65, c66, c67, c68, c69, c70, c71, c72, c73, c74, c75, c76, c77, c78, c79, c80, c81, c82, c83, c84, c85, c86, c87, c88, c89, c90, c91, c92, c93, c94, c95, c96, c97, c98, c99, c100, c101, c102, c103, c104, c105, c106, c107, c108, c109, c110, c111], df⟩ L a ∧ Hid (Ext wr wc)) ⟨Inv.start, Lib.hid ((Ext.refl wr).drew)⟩ ?_ ?_
  · refine ⟨?_, ?_, ?_, ?_, ?_, ?_, ?_, ?_, ?_, ?_, ?_, ?_, trivial⟩
    ·
      rintro L a wc ⟨hv, HO⟩ hL hc hd
      exact wpOp_val rfl rfl (ex_move rfl ((hv.fixed 12 (by decide)).trans rfl)) ⟨hv.put dec_len_apart 0 rfl (lb rfl) (lb rfl) rfl, HO⟩
    ·
      rintro L a wc ⟨hv, HO⟩ hL hc hd
      exact wpOp_val rfl rfl (ex_move rfl (hv.get 0 rfl rfl (hd 0 (by decide)))) ⟨hv.put dec_len_apart 1 rfl (lb rfl) (lb rfl) rfl, HO⟩
    ·
      rintro L a wc ⟨hv, HO⟩ hL hc hd
      exact wpOp_val rfl ((wanted_at rfl rfl (hv.get 1 rfl rfl (hd 1 (by decide)))).trans rfl) (ex_move rfl ((hv.fixed 3 (by decide)).trans rfl)) ⟨hv.put dec_len_apart 2 rfl (lb rfl) (lb rfl) rfl, HO⟩
    ·
      rintro L a wc ⟨hv, HO⟩ hL hc hd
      exact wpOp_val rfl ((wanted_at rfl rfl (hv.get 1 rfl rfl (hd 1 (by decide)))).trans rfl) (ex_move rfl ((hv.fixed 11 (by decide)).trans rfl)) ⟨hv.put dec_len_apart 3 rfl (lb rfl) (lb rfl) rfl, HO⟩
    ·
      rintro L a wc ⟨hv, HO⟩ hL hc hd
      have b1 : (0 : Int) ≤ (k : Int) := by omega
      have b2 : (k : Int) < (n : Int) := by omega
      exact wpOp_val rfl ((wanted_at rfl rfl (hv.get 1 rfl rfl (hd 1 (by decide)))).trans rfl) (ex_index rfl (hv.get 2 rfl rfl (hd 2 (by decide))) (hv.get 3 rfl rfl (hd 3 (by decide))) (by go_simp)) ⟨hv.put dec_len_apart 4 rfl (lb rfl) (lb rfl) rfl, HO⟩
    ·
      rintro L a wc ⟨hv, HO⟩ hL hc hd
      have eP : wc.cell? (bP.add k) = some (.string pk) := HO.out.cell hP.out
      exact wpOp_val rfl ((wanted_at rfl rfl (hv.get 1 rfl rfl (hd 1 (by decide)))).trans rfl) (ex_load rfl (hv.get 4 rfl rfl (hd 4 (by decide))) (by go_simp)) ⟨hv.put dec_len_apart 5 rfl (lb rfl) (lb rfl) rfl, HO⟩
    ·
      rintro L a wc ⟨hv, HO⟩ hL hc hd
      exact wpOp_val rfl ((wanted_at rfl rfl (hv.get 1 rfl rfl (hd 1 (by decide)))).trans rfl) (ex_lenS rfl (hv.get 5 rfl rfl (hd 5 (by decide))) (by go_simp)) ⟨hv.put dec_len_apart 6 rfl (lb rfl) (lb rfl) rfl, HO⟩
    ·
      rintro L a wc ⟨hv, HO⟩ hL hc hd
      have e0 : wc.cell? ⟨B, 0, none⟩ = some (.int .i64 d) := HO.out.cell h0
      have e1 : wc.cell? ⟨B, 1, none⟩ = some (.slice GA gs.length Gc) := HO.out.cell h1
      have e2 : wc.cell? ⟨B, 2, none⟩ = some (.int .i64 gl) := HO.out.cell h2
      exact wpOp_val rfl ((wanted_at rfl rfl (hv.get 1 rfl rfl (hd 1 (by decide)))).trans rfl) (ex_load rfl ((hv.fixed 4 (by decide)).trans rfl) (by go_simp)) ⟨hv.put dec_len_apart 7 rfl (lb rfl) (lb rfl) rfl, HO⟩
    ·
      rintro L a wc ⟨hv, HO⟩ hL hc hd
      exact wpOp_val rfl ((wanted_at rfl rfl (hv.get 1 rfl rfl (hd 1 (by decide)))).trans rfl) (ex_move rfl ((hv.fixed 1 (by decide)).trans rfl)) ⟨hv.put dec_len_apart 8 rfl (lb rfl) (lb rfl) rfl, HO⟩
    ·
      rintro L a wc ⟨hv, HO⟩ hL hc hd
      refine wpOp_callw (R := fun v w1 => v = .int .i64 (Cd.sizeOf d gl gs N) ∧ Ext wc w1) rfl ((wanted_at rfl rfl (hv.get 1 rfl rfl (hd 1 (by decide)))).trans rfl) (ex_call rfl rfl (map2c (hv.get 7 rfl rfl (hd 7 (by decide))) (hv.get 8 rfl rfl (hd 8 (by decide)))) (ent7_size _ _)) ((rSize_any d gl N gs (.slice GA gs.length Gc) wc (Rs.ext (Rs.ext RI.ext) _ _ _ _ HO.out HG.out) hgn).mono (fun e w' h => ⟨_, h.1, rfl, h.2⟩)) ?_
      rintro v w' ⟨rfl, hx⟩
      exact ⟨hv.put dec_len_apart 9 rfl (lb rfl) (lb rfl) rfl, Lib.hid (HO.out.trans hx)⟩
    ·
      rintro L a wc ⟨hv, HO⟩ hL hc hd
      have h := hbb.out
      exact wpOp_val rfl ((wanted_at rfl rfl (hv.get 1 rfl rfl (hd 1 (by decide)))).trans rfl) (ex_bin rfl (hv.get 6 rfl rfl (hd 6 (by decide))) (hv.get 9 rfl rfl (hd 9 (by decide))) (by go_simp)) ⟨hv.put dec_len_apart 10 rfl (lb rfl) (lb rfl) rfl, HO⟩
    ·
      rintro L a wc ⟨hv, HO⟩ hL hc hd
      exact wpOp_val rfl rfl (ex_pick rfl (hv.get 1 rfl rfl (hd 1 (by decide))) ((if_pos rfl).trans (hv.get 10 rfl rfl (hd 10 (by decide))))) ⟨hv.put dec_len_apart 11 rfl (lb rfl) (lb rfl) rfl, HO⟩
  · rintro L a wc ⟨hv, HO⟩ hall
    show K a wc
    have ha := act_n rl112 hv.size hv.defers rfl
    simp +decide only [hv.fixed, hv.get 11 (d := 65) rfl rfl (hall 11 (by decide))] at ha
    rw [ha]
    exact hK _ _ _ _ _ _ _ _ _ _ _ wc HO.out
noncomputable def dec_data_code : Code := ((Tryd.f37.body.bind (regionOf 16)).getD .skip)
def dec_data_dsts : List (Option Nat) := [some 73, some 74, some 75, some 76, some 77, some 78, some 79, some 14]
theorem dec_data_apart : apartD dec_data_dsts = true := by decide +kernel
set_option maxRecDepth 1000000 in
set_option maxHeartbeats 16000000 in
theorem dec_data (GA PA : Option Addr) (B n cp Gc d gl sz m : Nat) (N : Int) (gs : List (List Int)) (R pieces : List (List UInt8)) (wr : World) (hgn : gs.length ≤ 1000000) (hsz4 : sz ≤ 4096) (hsz : Hid (Cd.sizeOf (d : Int) (gl : Int) gs N = (sz : Int))) (HP : Hid (Rs RS wr (.slice PA n cp) pieces)) (hpl : Hid (pieces.length = n)) (hR : Hid (R.length = n ∧ Cd.rowsOf (d : Int) gs (gl : Int) = R)) (hcan : Hid (Cd.can d gl gs (m : Int) = true)) (hlen : Hid (∀ k, k < n → Cd.bitAt m k = 1 → (pieces.getD k []).length = sz)) (h0 : wr.cell? ⟨B, 0, none⟩ = some (.int .i64 d)) (h1 : wr.cell? ⟨B, 1, none⟩ = some (.slice GA gs.length Gc)) (h2 : wr.cell? ⟨B, 2, none⟩ = some (.int .i64 gl)) (HG : Hid (Rs (Rs RI) wr (.slice GA gs.length Gc) gs)) (c0 c5 c6 c7 c8 c9 c10 c11 c12 c13 c14 c15 c16 c17 c18 c19 c20 c21 c22 c23 c24 c25 c26 c27 c28 c29 c30 c31 c32 c33 c34 c35 c36 c37 c38 c39 c40 c41 c42 c43 c44 c45 c46 c47 c48 c49 c50 c51 c52 c53 c54 c55 c56 c57 c58 c59 c60 c61 c62 c63 c64 c65 c66 c67 c68 c69 c70 c71 c72 c73 c74 c75 c76 c77 c78 c79 c80 c81 c82 c83 c84 c85 c86 c87 c88 c89 c90 c91 c92 c93 c94 c95 c96 c97 c98 c99 c100 c101 c102 c103 c104 c105 c106 c107 c108 c109 c110 c111 : Value) (df : List Deferred) (K : Act → World → Prop)
    (hK : ∀  (u73 u74 u75 u76 u77 u78 u79 : Value) (wx : World), Ext wr wx → K ⟨#[c0, .int .i64 N, .int .i64 m, .slice PA n cp, .pointer (some ⟨B, 0, none⟩), c5, c6, c7, c8, c9, c10, c11, c12, c13, .string (sb (Cd.dataR R d sz m pieces)), c15, c16, c17, c18, c19, c20, c21, c22, c23, c24, c25, c26, c27, c28, c29, c30, c31, c32, c33, c34, c35, c36, c37, c38, c39, c40, c41, c42, c43, c44, c45, c46, c47, c48, c49, c50, c51, c52, c53, c54, c55, c56, c57, c58, c59, c60, c61, c62, c63, c64, c65, c66, c67, c68, c69, c70, c71, c72, u73, u74, u75, u76, u77, u78, u79, c80, c81, c82, c83, c84, c85, c86, c87, c88, c89, c90, c91, c92, c93, c94, c95, c96, c97, c98, c99, c100, c101, c102, c103, c104, c105, c106, c107, c108, c109, c110, c111], df⟩ wx) :
    Code.wp Tryd.prog dec_data_code (AtEnd K) ⟨#[c0, .int .i64 N, .int .i64 m, .slice PA n cp, .pointer (some ⟨B, 0, none⟩), c5, c6, c7, c8, c9, c10, c11, c12, c13, c14, c15, c16, c17, c18, c19, c20, c21, c22, c23, c24, c25, c26, c27, c28, c29, c30, c31, c32, c33, c34, c35, c36, c37, c38, c39, c40, c41, c42, c43, c44, c45, c46, c47, c48, c49, c50, c51, c52, c53, c54, c55, c56, c57, c58, c59, c60, c61, c62, c63, c64, c65, c66, c67, c68, c69, c70, c71, c72, c73, c74, c75, c76, c77, c78, c79, c80, c81, c82, c83, c84, c85, c86, c87, c88, c89, c90, c91, c92, c93, c94, c95, c96, c97, c98, c99, c100, c101, c102, c103, c104, c105, c106, c107, c108, c109, c110, c111], df⟩ wr := by
  conv => arg 2; whnf
  refine region_inv (by kernel_rfl) [[], [], [], [1, 2], [], [], [0, 3, 4, 5, 3], [6, 6, 0, 1, 2, 3, 4, 5, 6]] (by kernel_rfl) [0, 1, 2, 3, 4, 5, 6, 7] (by decide +kernel) (by decide +kernel) (by decide +kernel) (fun L a wc => Inv dec_data_dsts [.agg #[.int .i64 d, .slice GA gs.length Gc, .int .i64 gl], .agg #[.int .i64 d, .slice GA gs.length Gc, .int .i64 gl], .int .i64 N, .int .i64 sz, .int .i64 m, .slice PA n cp, .string (sb (Cd.dataR R d sz m pieces)), .string (sb (Cd.dataR R d sz m pieces))] ⟨#[c0, .int .i64 N, .int .i64 m, .slice PA n cp, .pointer (some ⟨B, 0, none⟩), c5, c6, c7, c8, c9, c10, c11, c12, c13, c14, c15, c16, c17, c18, c19, c20, c21, c22, c23, c24, c25, c26, c27, c28, c29, c30, c31, c32, c33, c34, c35, c36, c37, c38, c39, c40, c41, c42, c43, c44, c45, c46, c47, c48, c49, c50, c51, c52, c53, c54, c55, c56, c57, c58, c59, c60, c61, c62, c63, c64, c65, c66, c67, c68, c69, c70, c71, c72, c73, c74, c75, c76, c77, c78, c79, c80, c81, c82, c83, c84, c85, c86, c87, c88, c89, c90, c91, c92, c93, c94, c95, c96, c97, c98, c99, c100, c101, c102, c103, c104, c105, c106, c107, c108, c109, c110, c111], df⟩ L a ∧ Hid (Ext wr wc)) ⟨Inv.start, Lib.hid ((Ext.refl wr).drew)⟩ ?_ ?_
  · refine ⟨?_, ?_, ?_, ?_, ?_, ?_, ?_, ?_, trivial⟩
    ·
      rintro L a wc ⟨hv, HO⟩ hL hc hd
      have e0 : wc.cell? ⟨B, 0, none⟩ = some (.int .i64 d) := HO.out.cell h0
      have e1 : wc.cell? ⟨B, 1, none⟩ = some (.slice GA gs.length Gc) := HO.out.cell h1
      have e2 : wc.cell? ⟨B, 2, none⟩ = some (.int .i64 gl) := HO.out.cell h2
      exact wpOp_val rfl rfl (ex_load rfl ((hv.fixed 4 (by decide)).trans rfl) (by go_simp)) ⟨hv.put dec_data_apart 0 rfl (lb rfl) (lb rfl) rfl, HO⟩
    ·
      rintro L a wc ⟨hv, HO⟩ hL hc hd
      have e0 : wc.cell? ⟨B, 0, none⟩ = some (.int .i64 d) := HO.out.cell h0
      have e1 : wc.cell? ⟨B, 1, none⟩ = some (.slice GA gs.length Gc) := HO.out.cell h1
      have e2 : wc.cell? ⟨B, 2, none⟩ = some (.int .i64 gl) := HO.out.cell h2
      exact wpOp_val rfl rfl (ex_load rfl ((hv.fixed 4 (by decide)).trans rfl) (by go_simp)) ⟨hv.put dec_data_apart 1 rfl (lb rfl) (lb rfl) rfl, HO⟩
    ·
      rintro L a wc ⟨hv, HO⟩ hL hc hd
      exact wpOp_val rfl rfl (ex_move rfl ((hv.fixed 1 (by decide)).trans rfl)) ⟨hv.put dec_data_apart 2 rfl (lb rfl) (lb rfl) rfl, HO⟩
    ·
      rintro L a wc ⟨hv, HO⟩ hL hc hd
      refine wpOp_call (R := fun v w1 => v = .int .i64 sz ∧ Ext wc w1) rfl rfl (ex_call rfl rfl (map2c (hv.get 1 rfl rfl (hd 1 (by decide))) (hv.get 2 rfl rfl (hd 2 (by decide)))) (ent7_size _ _)) ((rSize_any d gl N gs (.slice GA gs.length Gc) wc (Rs.ext (Rs.ext RI.ext) _ _ _ _ HO.out HG.out) hgn).mono (fun e w' h => ⟨_, h.1, by rw [hsz.out], h.2⟩)) ?_
      rintro v w' ⟨rfl, hx⟩
      exact ⟨hv.put dec_data_apart 3 rfl (lb rfl) (lb rfl) rfl, Lib.hid (HO.out.trans hx)⟩
    ·
      rintro L a wc ⟨hv, HO⟩ hL hc hd
      exact wpOp_val rfl rfl (ex_move rfl ((hv.fixed 2 (by decide)).trans rfl)) ⟨hv.put dec_data_apart 4 rfl (lb rfl) (lb rfl) rfl, HO⟩
    ·
      rintro L a wc ⟨hv, HO⟩ hL hc hd
      exact wpOp_val rfl rfl (ex_move rfl ((hv.fixed 3 (by decide)).trans rfl)) ⟨hv.put dec_data_apart 5 rfl (lb rfl) (lb rfl) rfl, HO⟩
    ·
      rintro L a wc ⟨hv, HO⟩ hL hc hd
      refine wpOp_call (R := fun v w1 => v = .string (sb (Cd.dataR R d sz m pieces)) ∧ Ext wc w1) rfl rfl (ex_call rfl rfl (map4c (hv.get 0 rfl rfl (hd 0 (by decide))) (hv.get 3 rfl rfl (hd 3 (by decide))) (hv.get 4 rfl rfl (hd 4 (by decide))) (hv.get 5 rfl rfl (hd 5 (by decide)))) (ent7_data _ _)) ((rData_ok d gl sz m n n cp gs pieces (.slice GA gs.length Gc) PA wc (Rs.ext (Rs.ext RI.ext) _ _ _ _ HO.out HG.out) (Rs.ext RS.ext _ _ _ _ HO.out HP.out) hpl.out (by rw [hR.out.2]; exact hR.out.1) rfl hcan.out hlen.out hsz4).mono (fun e w' h => ⟨_, h.1, by rw [hR.out.2], h.2⟩)) ?_
      rintro v w' ⟨rfl, hx⟩
      exact ⟨hv.put dec_data_apart 6 rfl (lb rfl) (lb rfl) rfl, Lib.hid (HO.out.trans hx)⟩
    ·
      rintro L a wc ⟨hv, HO⟩ hL hc hd
      exact wpOp_val rfl rfl (ex_assign rfl (hv.get 6 rfl rfl (hd 6 (by decide)))) ⟨hv.put dec_data_apart 7 rfl (lb rfl) (lb rfl) rfl, HO⟩
  · rintro L a wc ⟨hv, HO⟩ hall
    show K a wc
    have ha := act_n rl112 hv.size hv.defers rfl
    simp +decide only [hv.fixed, hv.get 7 (d := 14) rfl rfl (hall 7 (by decide))] at ha
    rw [ha]
    exact hK _ _ _ _ _ _ _ wc HO.out
noncomputable def dec_enc_code : Code := ((Tryd.f37.body.bind (regionOf 17)).getD .skip)
def dec_enc_dsts : List (Option Nat) := [some 80, some 81, some 82, some 83, some 84, some 15, none]
theorem dec_enc_apart : apartD dec_enc_dsts = true := by decide +kernel
set_option maxRecDepth 1000000 in
set_option maxHeartbeats 16000000 in
theorem dec_enc (GA : Option Addr) (B Gc : Nat) (d gl N E : Int) (gs : List (List Int)) (ds xs : List UInt8) (l : List (List UInt8)) (r0 : LRow) (w wr : World) (hgn : gs.length ≤ 1000000) (hxl : xs.length ≤ 9223372036854775807) (hE : Hid (Cd.encE d gl gs xs = E ∧ Cd.encL d gl gs xs = l)) (hsl : Hid (∀ w2 : World, (Instr.sliceAt 9 (.string (sb ds)) none (some (.int .i64 N)) none).run Tryd.prog w2 = .ok (.string (sb xs)) w2)) (h0 : w.cell? ⟨B, 0, none⟩ = some (.int .i64 d)) (h1 : w.cell? ⟨B, 1, none⟩ = some (.slice GA gs.length Gc)) (h2 : w.cell? ⟨B, 2, none⟩ = some (.int .i64 gl)) (HG : Hid (Rs (Rs RI) w (.slice GA gs.length Gc) gs)) (HOO : Hid (Owns w wr.drew [r0, no])) (c0 c2 c3 c5 c6 c7 c8 c9 c10 c11 c12 c13 c15 c16 c17 c18 c19 c20 c21 c22 c23 c24 c25 c26 c27 c28 c29 c30 c31 c32 c33 c34 c35 c36 c37 c38 c39 c40 c41 c42 c43 c44 c45 c46 c47 c48 c49 c50 c51 c52 c53 c54 c55 c56 c57 c58 c59 c60 c61 c62 c63 c64 c65 c66 c67 c68 c69 c70 c71 c72 c73 c74 c75 c76 c77 c78 c79 c80 c81 c82 c83 c84 c85 c86 c87 c88 c89 c90 c91 c92 c93 c94 c95 c96 c97 c98 c99 c100 c101 c102 c103 c104 c105 c106 c107 c108 c109 c110 c111 : Value) (df : List Deferred) (K : Act → World → Prop)
    (hK : ∀ (V : Value) (gA : Nat) (u80 u81 u82 u83 u84 : Value) (wx : World), Owns w wx [r0, listedRow gA V (.int .i64 E)] ∧ Rs RS wx V l → K ⟨#[c0, .int .i64 N, c2, c3, .pointer (some ⟨B, 0, none⟩), c5, c6, c7, c8, c9, c10, c11, c12, c13, .string (sb ds), .pointer (some ⟨gA, 0, none⟩), c16, c17, c18, c19, c20, c21, c22, c23, c24, c25, c26, c27, c28, c29, c30, c31, c32, c33, c34, c35, c36, c37, c38, c39, c40, c41, c42, c43, c44, c45, c46, c47, c48, c49, c50, c51, c52, c53, c54, c55, c56, c57, c58, c59, c60, c61, c62, c63, c64, c65, c66, c67, c68, c69, c70, c71, c72, c73, c74, c75, c76, c77, c78, c79, u80, u81, u82, u83, u84, c85, c86, c87, c88, c89, c90, c91, c92, c93, c94, c95, c96, c97, c98, c99, c100, c101, c102, c103, c104, c105, c106, c107, c108, c109, c110, c111], df⟩ wx) :
    Code.wp Tryd.prog dec_enc_code (AtEnd K) ⟨#[c0, .int .i64 N, c2, c3, .pointer (some ⟨B, 0, none⟩), c5, c6, c7, c8, c9, c10, c11, c12, c13, .string (sb ds), c15, c16, c17, c18, c19, c20, c21, c22, c23, c24, c25, c26, c27, c28, c29, c30, c31, c32, c33, c34, c35, c36, c37, c38, c39, c40, c41, c42, c43, c44, c45, c46, c47, c48, c49, c50, c51, c52, c53, c54, c55, c56, c57, c58, c59, c60, c61, c62, c63, c64, c65, c66, c67, c68, c69, c70, c71, c72, c73, c74, c75, c76, c77, c78, c79, c80, c81, c82, c83, c84, c85, c86, c87, c88, c89, c90, c91, c92, c93, c94, c95, c96, c97, c98, c99, c100, c101, c102, c103, c104, c105, c106, c107, c108, c109, c110, c111], df⟩ wr := by
  conv => arg 2; whnf
  refine region_inv (by kernel_rfl) [[], [], [], [1, 2], [0, 3], [], [5, 4, 4, 0, 1, 2, 3, 4, 5]] (by kernel_rfl) [0, 1, 2, 3, 4, 5, 6] (by decide +kernel) (by decide +kernel) (by decide +kernel) (fun L a wc => ∃ (V : Value) (gA : Nat), Inv dec_enc_dsts [.agg #[.int .i64 d, .slice GA gs.length Gc, .int .i64 gl], .string (sb ds), .int .i64 N, .string (sb xs), .agg #[V, .int .i64 E], .pointer (some ⟨gA, 0, none⟩), undef] ⟨#[c0, .int .i64 N, c2, c3, .pointer (some ⟨B, 0, none⟩), c5, c6, c7, c8, c9, c10, c11, c12, c13, .string (sb ds), c15, c16, c17, c18, c19, c20, c21, c22, c23, c24, c25, c26, c27, c28, c29, c30, c31, c32, c33, c34, c35, c36, c37, c38, c39, c40, c41, c42, c43, c44, c45, c46, c47, c48, c49, c50, c51, c52, c53, c54, c55, c56, c57, c58, c59, c60, c61, c62, c63, c64, c65, c66, c67, c68, c69, c70, c71, c72, c73, c74, c75, c76, c77, c78, c79, c80, c81, c82, c83, c84, c85, c86, c87, c88, c89, c90, c91, c92, c93, c94, c95, c96, c97, c98, c99, c100, c101, c102, c103, c104, c105, c106, c107, c108, c109, c110, c111], df⟩ L a ∧ Hid (Owns w wc [r0, (if L 5 = true then (if L 6 = true then listedRow gA V (.int .i64 E) else listedRow gA (.slice none 0 0) (.int .i64 0)) else no)] ∧ (L 4 = true → Rs RS wc V l))) ⟨undef, 0, Inv.start, Lib.hid (And.intro HOO.out fun h => by cases h)⟩ ?_ ?_
  · refine ⟨?_, ?_, ?_, ?_, ?_, ?_, ?_, trivial⟩
    ·
      rintro L a wc ⟨V, gA, hv, HO⟩ hL hc hd
      have e0 : wc.cell? ⟨B, 0, none⟩ = some (.int .i64 d) := HO.out.1.ext.cell h0
      have e1 : wc.cell? ⟨B, 1, none⟩ = some (.slice GA gs.length Gc) := HO.out.1.ext.cell h1
      have e2 : wc.cell? ⟨B, 2, none⟩ = some (.int .i64 gl) := HO.out.1.ext.cell h2
      exact wpOp_val rfl rfl (ex_load rfl ((hv.fixed 4 (by decide)).trans rfl) (by go_simp)) ⟨V, gA, hv.put dec_enc_apart 0 rfl (lb rfl) (lb rfl) rfl, HO⟩
    ·
      rintro L a wc ⟨V, gA, hv, HO⟩ hL hc hd
      exact wpOp_val rfl rfl (ex_move rfl ((hv.fixed 14 (by decide)).trans rfl)) ⟨V, gA, hv.put dec_enc_apart 1 rfl (lb rfl) (lb rfl) rfl, HO⟩
    ·
      rintro L a wc ⟨V, gA, hv, HO⟩ hL hc hd
      exact wpOp_val rfl rfl (ex_move rfl ((hv.fixed 1 (by decide)).trans rfl)) ⟨V, gA, hv.put dec_enc_apart 2 rfl (lb rfl) (lb rfl) rfl, HO⟩
    ·
      rintro L a wc ⟨V, gA, hv, HO⟩ hL hc hd
      exact wpOp_val rfl rfl (ex_slice rfl (by rw [show (Option.map a.eval (some (Operand.tmp 82))) = some (a.eval (.tmp 82)) from rfl, hv.get 1 rfl rfl (hd 1 (by decide)), hv.get 2 rfl rfl (hd 2 (by decide))]; exact hsl.out wc)) ⟨V, gA, hv.put dec_enc_apart 3 rfl (lb rfl) (lb rfl) rfl, HO⟩
    ·
      rintro L a wc ⟨V, gA, hv, HO⟩ hL hc hd
      refine wpOp_call (R := fun v w1 => ∃ V2, v = .agg #[V2, .int .i64 E] ∧ Rs RS w1 V2 l ∧ Ext wc w1) rfl rfl (ex_call rfl rfl (map2c (hv.get 0 rfl rfl (hd 0 (by decide))) (hv.get 3 rfl rfl (hd 3 (by decide)))) (ent7_enc _ _)) ((rEncode_any d gl gs xs (.slice GA gs.length Gc) wc (Rs.ext (Rs.ext RI.ext) _ _ _ _ HO.out.1.ext HG.out) hxl hgn).mono (fun e w' ⟨V2, h1, h2, h3⟩ => ⟨_, h1, V2, by rw [hE.out.1], by rw [← hE.out.2]; exact h2, h3⟩)) ?_
      rintro v w' ⟨V2, rfl, hv2, hx⟩
      have n6 : L 6 = false := Bool.eq_false_iff.2 fun h => Bool.false_ne_true (hL.symm.trans (hc 6 h 4 (by decide)))
      have h := HO.out.1.next hx
      simp only [n6, Bool.false_eq_true, if_false] at h
      have h2 : Owns w w' [r0, (if L 5 = true then (if L 6 = true then listedRow gA V2 (.int .i64 E) else listedRow gA (.slice none 0 0) (.int .i64 0)) else no)] := by simp only [n6, Bool.false_eq_true, if_false]; exact h
      exact ⟨V2, gA, hv.put dec_enc_apart 4 rfl (lb rfl) (lb rfl) rfl, Lib.hid (And.intro h2 fun _ => hv2)⟩
    ·
      rintro L a wc ⟨V, gA, hv, HO⟩ hL hc hd
      have n6 : L 6 = false := Bool.eq_false_iff.2 fun h => Bool.false_ne_true (hL.symm.trans (hc 6 h 5 (by decide)))
      have h := HO.out.1
      simp only [hL, n6, Bool.false_eq_true, if_false] at h
      have h2 := h.new 1 #[.slice none 0 0, .int .i64 0] 99 (by simp [maxLen])
      have hA : (Instr.alloc 99 true (.tuple #[])).run Tryd.prog wc = .ok (.pointer (some ⟨wc.heap.size, 0, none⟩)) (wc.alloc (.cells #[.slice none 0 0, .int .i64 0] 99)) := by go_simp
      have h3 : Owns w (wc.alloc (.cells #[.slice none 0 0, .int .i64 0] 99)) [r0, (if true = true then (if L 6 = true then listedRow wc.heap.size V (.int .i64 E) else listedRow wc.heap.size (.slice none 0 0) (.int .i64 0)) else no)] := by simp only [n6, Bool.false_eq_true, if_false, if_true]; exact h2
      exact wpOp_value rfl rfl (ex_alloc rfl hA) ⟨V, wc.heap.size, hv.put dec_enc_apart 5 rfl (lb rfl) (lb rfl) rfl, Lib.hid (And.intro h3 fun h4 => Rs.ext RS.ext _ _ _ _ ((Ext.refl wc).alloc _) (HO.out.2 h4))⟩
    ·
      rintro L a wc ⟨V, gA, hv, HO⟩ hL hc hd
      obtain ⟨VA, vc, hVf, _⟩ := (HO.out.2 (hd 4 (by decide))).form
      have h5 : L 5 = true := hd 5 (by decide)
      have h4 : L 4 = true := hd 4 (by decide)
      have h := HO.out.1
      simp only [hL, h5, Bool.false_eq_true, if_false, if_true] at h
      have eA : wc.cell? ⟨gA, 0, none⟩ = some (.slice none 0 0) := h.cell 1 rfl 0 rfl
      have eB : wc.cell? ⟨gA, 1, none⟩ = some (.int .i64 0) := h.cell 1 rfl 1 rfl
      have fA : wc.frozen? ⟨gA, 0, none⟩ = false := h.frozen 1 rfl 0
      have fB : wc.frozen? ⟨gA, 1, none⟩ = false := h.frozen 1 rfl 1
      have hS := (h.store 1 rfl 0 V).store 1 rfl 1 (.int .i64 E)
      have hS2 : Owns w ((wc.setCell ⟨gA, 0, none⟩ V).setCell ⟨gA, 1, none⟩ (.int .i64 E)) [r0, (if L 5 = true then (if true = true then listedRow gA V (.int .i64 E) else listedRow gA (.slice none 0 0) (.int .i64 0)) else no)] := by simp only [h5, if_true]; exact hS
      have hV : Rs RS ((wc.setCell ⟨gA, 0, none⟩ V).setCell ⟨gA, 1, none⟩ (.int .i64 E)) V l := rs_keep (rs_keep (HO.out.2 h4) eA (fun x => by simp)) (by rw [World.cell?_setCell_other _ _ _ _ (by simp)]; exact eB) (fun x => by simp)
      exact wpOp_skip rfl rfl rfl (ex_store rfl (hv.get 5 rfl rfl (hd 5 (by decide))) (hv.get 4 rfl rfl (hd 4 (by decide))) (by rw [hVf]; go_simp)) ⟨V, gA, hv.skip 6 rfl, Lib.hid (And.intro hS2 fun _ => hV)⟩
  · rintro L a wc ⟨V, gA, hv, HO⟩ hall
    show K a wc
    have ha := act_n rl112 hv.size hv.defers rfl
    simp +decide only [hv.fixed, hv.get 5 (d := 15) rfl rfl (hall 5 (by decide))] at ha
    rw [ha]
    have hO := HO.out.1
    simp only [hall 5 (by decide), hall 6 (by decide), if_true] at hO
    exact hK V gA _ _ _ _ _ wc ⟨hO, HO.out.2 (hall 4 (by decide))⟩
theorem rDecode_no (d gl n m : Int) (gs : List (List Int)) (G : Value) (V : Value) (w : World) (hG : Rs (Rs RI) w G gs) (h0 : Cd.check d gs gl ≠ 0) (hgn : gs.length ≤ 1000000) :
    Calls Tryd.prog 37 #[.agg #[.int .i64 d, G, .int .i64 gl], .int .i64 n, .int .i64 m, V] w fun e w' => e = .returned (.agg #[.string (sb []), .int .i64 (Cd.check d gs gl)]) ∧ Ext w w' := by
  have hx0 := (Ext.refl w).alloc (.cells #[.int .i64 d, G, .int .i64 gl] 24)
  have HX := Lib.hid (And.intro hx0 (Rs.ext (Rs.ext RI.ext) _ _ _ _ hx0 hG))
  obtain ⟨GA, Gc, rfl, _⟩ := hG.form
  have hst := (Owns.start (w.alloc (.cells #[.int .i64 d, .slice GA gs.length Gc, .int .i64 gl] 24)) (L := [no]) (by intro r hr; simp [no] at hr; subst hr; simp)).new 0 #[.string { data := #[] }, .int .i64 0] 73 (by simp [maxLen])
  have hst2 : Owns (w.alloc (.cells #[.int .i64 d, .slice GA gs.length Gc, .int .i64 gl] 24)) ((w.alloc (.cells #[.int .i64 d, .slice GA gs.length Gc, .int .i64 gl] 24)).alloc (.cells #[.string { data := #[] }, .int .i64 0] 73)) [decodedRow (w.heap.size + 1) (.string { data := #[] }) (.int .i64 0)] := by simpa [decodedRow] using hst
  have HST := Lib.hid hst2
  have e1 : (Cd.check d gs gl != 0) = true := by rw [bne_iff_ne]; exact h0
  clear hG hx0 h0 hst hst2
  go_enter Tryd.func37, Tryd.ntmps37
  go_wp2_with fail
  refine (rCheck_any d gl gs _ _ (Rs.ext (Rs.ext RI.ext) _ _ _ _ ((Ext.refl _).alloc _) HX.out.2) hgn).mono ?_
  rintro e w1 ⟨rfl, hx1⟩
  have HO := Lib.hid (HST.out.next hx1)
  clear hx1
  have hc3 : w1.cell? ⟨w.heap.size + 1, 0, none⟩ = some (.string { data := #[] }) := HO.out.cell 0 rfl 0 rfl
  have hc4 : w1.cell? ⟨w.heap.size + 1, 1, none⟩ = some (.int .i64 0) := HO.out.cell 0 rfl 1 rfl
  have hf3 : w1.frozen? ⟨w.heap.size + 1, 0, none⟩ = false := HO.out.frozen 0 rfl 0
  have hf4 : w1.frozen? ⟨w.heap.size + 1, 1, none⟩ = false := HO.out.frozen 0 rfl 1
  go_wp2_with fail
  have hO7 := (HO.out.store 0 rfl 0 (.string { data := #[] })).store 0 rfl 1 (.int .i64 (Cd.check d gs gl))
  exact bodyPost_ret (v := .agg #[.string { data := #[] }, .int .i64 (Cd.check d gs gl)]) (by simp [results, Tryd.results37, go_sem, hc3, hc4]) rfl ⟨rfl, HX.out.1.trans hO7.ext⟩
theorem code_cells2 {w w2 : World} {d gl : Int} {n c : Nat} {A : Option Addr} (hx : Ext (w.alloc (.cells #[.int .i64 d, .slice A n c, .int .i64 gl] 24)) w2) :
    w2.cell? ⟨w.heap.size, 0, none⟩ = some (.int .i64 d) ∧ w2.cell? ⟨w.heap.size, 1, none⟩ = some (.slice A n c) ∧ w2.cell? ⟨w.heap.size, 2, none⟩ = some (.int .i64 gl) := ⟨hx.cell (by go_simp), hx.cell (by go_simp), hx.cell (by go_simp)⟩
set_option maxHeartbeats 4000000 in
theorem rDecode_arg (d gl n m : Int) (gs : List (List Int)) (pieces : List (List UInt8)) (G : Value) (PA : Option Addr) (pl cp : Nat) (w : World) (hG : Rs (Rs RI) w G gs) (h0 : Cd.check d gs gl = 0) (hgn : gs.length ≤ 1000000) (hpl : pieces.length = pl) (hb : Cd.badArgs d gl gs n m pieces = true) :
    Calls Tryd.prog 37 #[.agg #[.int .i64 d, G, .int .i64 gl], .int .i64 n, .int .i64 m, .slice PA pl cp] w fun e w' => e = .returned (.agg #[.string (sb []), .int .i64 1]) ∧ Ext w w' := by
  have hx0 := (Ext.refl w).alloc (.cells #[.int .i64 d, G, .int .i64 gl] 24)
  have HX := Lib.hid (And.intro hx0 (Rs.ext (Rs.ext RI.ext) _ _ _ _ hx0 hG))
  obtain ⟨GA, Gc, rfl, _⟩ := hG.form
  have hst := (Owns.start (w.alloc (.cells #[.int .i64 d, .slice GA gs.length Gc, .int .i64 gl] 24)) (L := [no]) (by intro r hr; simp [no] at hr; subst hr; simp)).new 0 #[.string { data := #[] }, .int .i64 0] 73 (by simp [maxLen])
  have hst2 : Owns (w.alloc (.cells #[.int .i64 d, .slice GA gs.length Gc, .int .i64 gl] 24)) ((w.alloc (.cells #[.int .i64 d, .slice GA gs.length Gc, .int .i64 gl] 24)).alloc (.cells #[.string { data := #[] }, .int .i64 0] 73)) [decodedRow (w.heap.size + 1) (.string { data := #[] }) (.int .i64 0)] := by simpa [decodedRow] using hst
  have HST := Lib.hid hst2
  have e1 : (Cd.check d gs gl != 0) = false := by rw [h0]; rfl
  obtain ⟨P, hP⟩ : ∃ P, (Cd.rowsOf d gs gl).length = P := ⟨_, rfl⟩
  have hpp : Cd.pieces d gs gl = (P : Int) := by rw [Cd.pieces_ok h0, ← hP, Cd.rowsOf_len h0]
  have hs : Cd.isSet d gs gl m = decide (0 ≤ m ∧ m < ((2 ^ P : Nat) : Int)) := by unfold Cd.isSet; rw [hpp, Int.toNat_natCast]
  have hb2 : n < 0 ∨ 4096 < n ∨ m < 0 ∨ ((2 ^ P : Nat) : Int) ≤ m ∨ pl ≠ P := by
    unfold Cd.badArgs at hb
    rw [decide_eq_true_eq, hP, hpl] at hb
    exact hb
  have four : (n < 0) ∨ (¬ n < 0 ∧ 4096 < n) ∨ (¬ n < 0 ∧ ¬ 4096 < n ∧ Cd.isSet d gs gl m = false) ∨ (¬ n < 0 ∧ ¬ 4096 < n ∧ Cd.isSet d gs gl m = true ∧ pl ≠ P) := by
    by_cases h1 : n < 0
    · exact .inl h1
    · by_cases h2 : 4096 < n
      · exact .inr (.inl ⟨h1, h2⟩)
      · cases h3 : Cd.isSet d gs gl m with
        | false => exact .inr (.inr (.inl ⟨h1, h2, rfl⟩))
        | true =>
          rw [h3] at hs
          have := of_decide_eq_true hs.symm
          exact .inr (.inr (.inr ⟨h1, h2, rfl, by omega⟩))
  obtain ⟨bs, hbs⟩ : ∃ bs, Cd.isSet d gs gl m = bs := ⟨_, rfl⟩
  rw [hbs] at four
  have HS := Lib.hid hbs
  have HPP := Lib.hid hpp
  clear hG hx0 h0 hst hst2 hP hpp hs hb hb2 hbs hpl
  rcases four with g1 | ⟨g1, g2⟩ | ⟨g1, g2, g3⟩ | ⟨g1, g2, g3, g4⟩

  · go_enter Tryd.func37, Tryd.ntmps37
    go_wp2_with fail
    refine (rCheck_any d gl gs _ _ (Rs.ext (Rs.ext RI.ext) _ _ _ _ ((Ext.refl _).alloc _) HX.out.2) hgn).mono ?_
    rintro e w1 ⟨rfl, hx1⟩
    have HX1 := Lib.hid (HST.out.next hx1)
    obtain ⟨c0, c1, c2⟩ := code_cells2 (HX1.out.ext)
    clear hx1
    go_wp2_with fail
    clear c0 c1 c2
    refine (rIsSet_any d gl gs m _ _ (Rs.ext (Rs.ext RI.ext) _ _ _ _ HX1.out.ext HX.out.2) hgn).mono ?_
    rintro e w2 ⟨rfl, hx2⟩
    rw [HS.out]
    have HO := Lib.hid (HX1.out.next hx2)
    clear hx2
    have hc3 : w2.cell? ⟨w.heap.size + 1, 0, none⟩ = some (.string { data := #[] }) := HO.out.cell 0 rfl 0 rfl
    have hc4 : w2.cell? ⟨w.heap.size + 1, 1, none⟩ = some (.int .i64 0) := HO.out.cell 0 rfl 1 rfl
    have hf3 : w2.frozen? ⟨w.heap.size + 1, 0, none⟩ = false := HO.out.frozen 0 rfl 0
    have hf4 : w2.frozen? ⟨w.heap.size + 1, 1, none⟩ = false := HO.out.frozen 0 rfl 1
    go_wp2_with fail
    have hO7 := (HO.out.store 0 rfl 0 (.string { data := #[] })).store 0 rfl 1 (.int .i64 1)
    exact bodyPost_ret (v := .agg #[.string { data := #[] }, .int .i64 1]) (by simp [results, Tryd.results37, go_sem, hc3, hc4]) rfl ⟨rfl, HX.out.1.trans hO7.ext⟩

  · go_enter Tryd.func37, Tryd.ntmps37
    go_wp2_with fail
    refine (rCheck_any d gl gs _ _ (Rs.ext (Rs.ext RI.ext) _ _ _ _ ((Ext.refl _).alloc _) HX.out.2) hgn).mono ?_
    rintro e w1 ⟨rfl, hx1⟩
    have HX1 := Lib.hid (HST.out.next hx1)
    obtain ⟨c0, c1, c2⟩ := code_cells2 (HX1.out.ext)
    clear hx1
    go_wp2_with fail
    clear c0 c1 c2
    refine (rIsSet_any d gl gs m _ _ (Rs.ext (Rs.ext RI.ext) _ _ _ _ HX1.out.ext HX.out.2) hgn).mono ?_
    rintro e w2 ⟨rfl, hx2⟩
    rw [HS.out]
    have HO := Lib.hid (HX1.out.next hx2)
    clear hx2
    have hc3 : w2.cell? ⟨w.heap.size + 1, 0, none⟩ = some (.string { data := #[] }) := HO.out.cell 0 rfl 0 rfl
    have hc4 : w2.cell? ⟨w.heap.size + 1, 1, none⟩ = some (.int .i64 0) := HO.out.cell 0 rfl 1 rfl
    have hf3 : w2.frozen? ⟨w.heap.size + 1, 0, none⟩ = false := HO.out.frozen 0 rfl 0
    have hf4 : w2.frozen? ⟨w.heap.size + 1, 1, none⟩ = false := HO.out.frozen 0 rfl 1
    go_wp2_with fail
    have hO7 := (HO.out.store 0 rfl 0 (.string { data := #[] })).store 0 rfl 1 (.int .i64 1)
    exact bodyPost_ret (v := .agg #[.string { data := #[] }, .int .i64 1]) (by simp [results, Tryd.results37, go_sem, hc3, hc4]) rfl ⟨rfl, HX.out.1.trans hO7.ext⟩

  · subst g3
    go_enter Tryd.func37, Tryd.ntmps37
    go_wp2_with fail
    refine (rCheck_any d gl gs _ _ (Rs.ext (Rs.ext RI.ext) _ _ _ _ ((Ext.refl _).alloc _) HX.out.2) hgn).mono ?_
    rintro e w1 ⟨rfl, hx1⟩
    have HX1 := Lib.hid (HST.out.next hx1)
    obtain ⟨c0, c1, c2⟩ := code_cells2 (HX1.out.ext)
    clear hx1
    go_wp2_with fail
    clear c0 c1 c2
    refine (rIsSet_any d gl gs m _ _ (Rs.ext (Rs.ext RI.ext) _ _ _ _ HX1.out.ext HX.out.2) hgn).mono ?_
    rintro e w2 ⟨rfl, hx2⟩
    rw [HS.out]
    have HO := Lib.hid (HX1.out.next hx2)
    clear hx2
    have hc3 : w2.cell? ⟨w.heap.size + 1, 0, none⟩ = some (.string { data := #[] }) := HO.out.cell 0 rfl 0 rfl
    have hc4 : w2.cell? ⟨w.heap.size + 1, 1, none⟩ = some (.int .i64 0) := HO.out.cell 0 rfl 1 rfl
    have hf3 : w2.frozen? ⟨w.heap.size + 1, 0, none⟩ = false := HO.out.frozen 0 rfl 0
    have hf4 : w2.frozen? ⟨w.heap.size + 1, 1, none⟩ = false := HO.out.frozen 0 rfl 1
    go_wp2_with fail
    have hO7 := (HO.out.store 0 rfl 0 (.string { data := #[] })).store 0 rfl 1 (.int .i64 1)
    exact bodyPost_ret (v := .agg #[.string { data := #[] }, .int .i64 1]) (by simp [results, Tryd.results37, go_sem, hc3, hc4]) rfl ⟨rfl, HX.out.1.trans hO7.ext⟩

  · subst g3
    have e5 : ((pl : Int) != (P : Int)) = true := by rw [bne_iff_ne]; omega
    go_enter Tryd.func37, Tryd.ntmps37
    go_wp2_with fail
    refine (rCheck_any d gl gs _ _ (Rs.ext (Rs.ext RI.ext) _ _ _ _ ((Ext.refl _).alloc _) HX.out.2) hgn).mono ?_
    rintro e w1 ⟨rfl, hx1⟩
    have HX1 := Lib.hid (HST.out.next hx1)
    obtain ⟨c0, c1, c2⟩ := code_cells2 (HX1.out.ext)
    clear hx1
    go_wp2_with fail
    clear c0 c1 c2
    refine (rIsSet_any d gl gs m _ _ (Rs.ext (Rs.ext RI.ext) _ _ _ _ HX1.out.ext HX.out.2) hgn).mono ?_
    rintro e w2 ⟨rfl, hx2⟩
    rw [HS.out]
    have HO := Lib.hid (HX1.out.next hx2)
    clear hx2
    obtain ⟨c0, c1, c2⟩ := code_cells2 (HO.out.ext)
    go_wp2_with fail
    clear c0 c1 c2
    refine (rPieces_any d gl gs _ _ (Rs.ext (Rs.ext RI.ext) _ _ _ _ HO.out.ext HX.out.2) hgn).mono ?_
    rintro e w3 ⟨rfl, hx3⟩
    rw [HPP.out]
    have HO3 := Lib.hid (HO.out.next hx3)
    clear hx3
    have hc3 : w3.cell? ⟨w.heap.size + 1, 0, none⟩ = some (.string { data := #[] }) := HO3.out.cell 0 rfl 0 rfl
    have hc4 : w3.cell? ⟨w.heap.size + 1, 1, none⟩ = some (.int .i64 0) := HO3.out.cell 0 rfl 1 rfl
    have hf3 : w3.frozen? ⟨w.heap.size + 1, 0, none⟩ = false := HO3.out.frozen 0 rfl 0
    have hf4 : w3.frozen? ⟨w.heap.size + 1, 1, none⟩ = false := HO3.out.frozen 0 rfl 1
    go_wp2_with fail
    have hO7 := (HO3.out.store 0 rfl 0 (.string { data := #[] })).store 0 rfl 1 (.int .i64 1)
    exact bodyPost_ret (v := .agg #[.string { data := #[] }, .int .i64 1]) (by simp [results, Tryd.results37, go_sem, hc3, hc4]) rfl ⟨rfl, HX.out.1.trans hO7.ext⟩

set_option maxRecDepth 100000 in
set_option maxHeartbeats 8000000 in
theorem rDecode_in (d gl n m : Nat) (gs : List (List Int)) (pieces : List (List UInt8)) (G : Value) (PA : Option Addr) (pl cp : Nat) (w : World) (hG : Rs (Rs RI) w G gs) (h0 : Cd.check d gs gl = 0) (hb : Cd.badArgs d gl gs n m pieces = false) (hP : Rs RS w (.slice PA pl cp) pieces) :
    Calls Tryd.prog 37 #[.agg #[.int .i64 d, G, .int .i64 gl], .int .i64 n, .int .i64 m, .slice PA pl cp] w fun e w' => e = .returned (.agg #[.string (sb (Cd.decS d gl gs n m pieces)), .int .i64 (Cd.decE d gl gs n m pieces)]) ∧ Ext w w' := by
  have hpl := hP.len.symm
  have hx0 := (Ext.refl w).alloc (.cells #[.int .i64 d, G, .int .i64 gl] 24)
  have HX := Lib.hid (And.intro hx0 (Rs.ext (Rs.ext RI.ext) _ _ _ _ hx0 hG))
  obtain ⟨GA, Gc, rfl, _⟩ := hG.form
  have hst := (Owns.start (w.alloc (.cells #[.int .i64 d, .slice GA gs.length Gc, .int .i64 gl] 24)) (L := [no]) (by intro r hr; simp [no] at hr; subst hr; simp)).new 0 #[.string { data := #[] }, .int .i64 0] 73 (by simp [maxLen])
  have hst2 : Owns (w.alloc (.cells #[.int .i64 d, .slice GA gs.length Gc, .int .i64 gl] 24)) ((w.alloc (.cells #[.int .i64 d, .slice GA gs.length Gc, .int .i64 gl] 24)).alloc (.cells #[.string { data := #[] }, .int .i64 0] 73)) [decodedRow (w.heap.size + 1) (.string { data := #[] }) (.int .i64 0)] := by simpa [decodedRow] using hst
  have HST := Lib.hid hst2
  have HPS := Lib.hid (Rs.ext RS.ext _ _ _ _ HX.out.1 hP)
  have e1 : (Cd.check (d : Int) gs (gl : Int) != 0) = false := by rw [h0]; rfl
  have hck := Cd.check_ok h0
  have hgn : gs.length ≤ 1000000 := by omega
  obtain ⟨R, hR⟩ : ∃ R, Cd.rowsOf (d : Int) gs (gl : Int) = R := ⟨_, rfl⟩
  have hb2 := hb
  unfold Cd.badArgs at hb2
  rw [decide_eq_false_iff_not, hR, hpl] at hb2
  have hRl : R.length = pl := by omega
  have hn : n ≤ 4096 := by omega
  have hm : m < 2 ^ pl := by rw [hRl] at hb2; omega
  have hrl := Cd.rowsOf_len h0
  rw [hR, hRl] at hrl
  have hpp : Cd.pieces d gs gl = (pl : Int) := by rw [Cd.pieces_ok h0, hrl]
  have hs : Cd.isSet d gs gl (m : Int) = true := by unfold Cd.isSet; rw [hpp, Int.toNat_natCast]; exact decide_eq_true ⟨by omega, by omega⟩
  have hpl24 : pl ≤ 24 := by omega
  have hm24 : m ≤ 16777216 := by
    have : 2 ^ pl ≤ 2 ^ 24 := Nat.pow_le_pow_right (by omega) hpl24
    omega
  obtain ⟨sz, hsz⟩ : ∃ sz, Cd.sizeN d n = sz := ⟨_, rfl⟩
  have hso := Cd.sizeOf_nat (d := d) (gl := gl) (gs := gs) hn h0
  have hszn := Cd.size_le (d := d) (by omega) n
  have hge := Cd.size_ge (d := d) (by omega) n
  rw [hsz] at hso hszn hge
  have hsz4 : sz ≤ 4096 := by omega
  -- what the answers are
  have hLen := fun (k : Nat) (h1 : k < pl) (h2 : Cd.bitAt m k = 1) (h3 : (pieces.getD k []).length ≠ sz) => Cd.decE_len (pieces := pieces) h0 hb (Cd.badLen_iff.2 ⟨k, by rw [hpl]; exact h1, h2, by rw [Int.toNat_natCast, Int.toNat_natCast, hsz]; exact h3⟩)
  have hbl : (∀ k, k < pl → Cd.bitAt m k = 1 → (pieces.getD k []).length = sz) → Cd.badLen (Cd.sizeN (d : Int).toNat (n : Int).toNat) (m : Int).toNat pieces = false := fun h => by
    rw [Int.toNat_natCast, Int.toNat_natCast, Int.toNat_natCast, hsz, ← Bool.not_eq_true, Cd.badLen_iff]
    rintro ⟨k, h1, h2, h3⟩
    exact h3 (h k (by rw [← hpl]; exact h1) h2)
  have hLost := fun h (hc : Cd.can d gl gs m = false) => Cd.decE_lost (pieces := pieces) h0 hb (hbl h) hc
  obtain ⟨ds, hds⟩ : ∃ ds, Cd.dataR R d sz m pieces = ds := ⟨_, rfl⟩
  have hdl : ds.length = d * sz := by rw [← hds]; exact Cd.dataR_len R d sz m pieces
  obtain ⟨xs, hxs⟩ : ∃ xs, ds.take n = xs := ⟨_, rfl⟩
  have hxl : xs.length = n := by rw [← hxs, List.length_take, hdl]; omega
  have hfin := fun (h : ∀ k, k < pl → Cd.bitAt m k = 1 → (pieces.getD k []).length = sz) (hc : Cd.can d gl gs m = true) => by
    have h1 := Cd.dec_ref (n := n) (pieces := pieces) hR (by rw [hpl, hRl]) hc (by rw [hRl, hsz]; exact h)
    rw [hsz, hds, hxs] at h1
    exact h1
  have hBad := fun h (hc : Cd.can d gl gs m = true) (k : Nat) (h1 : k < pl) (h2 : Cd.bitAt m k = 1) (h3 : (Cd.encode d gl gs xs).getD k [] ≠ pieces.getD k []) => by
    refine Cd.decE_bad (pieces := pieces) h0 hb (hbl h) hc ?_
    rw [Int.toNat_natCast, Int.toNat_natCast, (hfin h hc).1]
    exact Cd.badOne_iff.2 ⟨k, by rw [hpl]; exact h1, h2, h3⟩
  have hOk := fun h (hc : Cd.can d gl gs m = true) (h3 : ∀ k, k < pl → Cd.bitAt m k = 1 → (Cd.encode d gl gs xs).getD k [] = pieces.getD k []) => by
    have h4 : Cd.badOne m (Cd.encode d gl gs xs) pieces = false := by
      rw [← Bool.not_eq_true, Cd.badOne_iff]
      rintro ⟨k, k1, k2, k3⟩
      exact k3 (h3 k (by rw [← hpl]; exact k1) k2)
    have h5 : Cd.decE d gl gs n m pieces = 0 := by
      refine Cd.decE_ok (pieces := pieces) h0 hb (hbl h) hc ?_
      rw [Int.toNat_natCast, Int.toNat_natCast, (hfin h hc).1]
      exact h4
    have h6 : Cd.decS d gl gs n m pieces = xs := by
      rw [Cd.decS_ok h5, Int.toNat_natCast, Int.toNat_natCast]
      exact (hfin h hc).2 h4
    exact And.intro h5 h6
  have hEL : Cd.encE d gl gs xs = 0 ∧ Cd.encL d gl gs xs = Cd.encode d gl gs xs := ⟨Cd.encE_ok h0 (by omega), Cd.encL_ok h0 (by omega)⟩
  have hEn : (Cd.encode (d : Int) (gl : Int) gs xs).length = pl := by rw [Cd.encode_len, hR, hRl]
  obtain ⟨E, hE⟩ : ∃ E, Cd.encode (d : Int) (gl : Int) gs xs = E := ⟨_, rfl⟩
  rw [hE] at hBad hOk hEL hEn
  have hsl : ∀ w2 : World, (Instr.sliceAt 9 (.string (sb ds)) none (some (.int .i64 n)) none).run Tryd.prog w2 = .ok (.string (sb xs)) w2 := fun w2 => by
    rw [← hxs]
    exact run_take ds n (by omega) w2
  have HPR := Lib.hid (And.intro hR (And.intro hRl (And.intro hpp (And.intro hs hpl))))
  have HSZ := Lib.hid (And.intro hso hsz)
  have HANS := Lib.hid (And.intro hLen (And.intro hLost (And.intro hBad hOk)))
  have HEL := Lib.hid (And.intro hEL (And.intro hEn hxl))
  have HSL := Lib.hid (And.intro hsl (And.intro hds (And.intro hxs hdl)))
  have HH0 := Lib.hid h0
  have e5 : ((pl : Int) != (pl : Int)) = false := by simp
  clear hG hP hx0 h0 hst hst2 hck hb hb2 hR hRl hm hrl hpp hs hsz hso hszn hLen hbl hLost hds hdl hxs hxl hfin hBad hOk hEL hEn hE hsl hpl
  have hdS : ∀ E2 : Int, Cd.decE d gl gs n m pieces = E2 → E2 ≠ 0 → Cd.decS d gl gs n m pieces = [] := fun E2 h1 h2 => Cd.decS_no (by rw [h1]; exact h2)
  have HDS := Lib.hid hdS
  clear hdS
  go_enter Tryd.func37, Tryd.ntmps37
  go_wp2_with fail
  refine (rCheck_any d gl gs _ _ (Rs.ext (Rs.ext RI.ext) _ _ _ _ ((Ext.refl _).alloc _) HX.out.2) hgn).mono ?_
  rintro e w1 ⟨rfl, hx1⟩
  have HX1 := Lib.hid (HST.out.next hx1)
  obtain ⟨c0, c1, c2⟩ := code_cells2 (HX1.out.ext)
  clear hx1
  go_wp2_with fail
  clear c0 c1 c2
  refine (rIsSet_any d gl gs m _ _ (Rs.ext (Rs.ext RI.ext) _ _ _ _ HX1.out.ext HX.out.2) hgn).mono ?_
  rintro e w2 ⟨rfl, hx2⟩
  rw [HPR.out.2.2.2.1]
  have HO2 := Lib.hid (HX1.out.next hx2)
  obtain ⟨c0, c1, c2⟩ := code_cells2 (HO2.out.ext)
  clear hx2
  go_wp2_with fail
  clear c0 c1 c2
  refine (rPieces_any d gl gs _ _ (Rs.ext (Rs.ext RI.ext) _ _ _ _ HO2.out.ext HX.out.2) hgn).mono ?_
  rintro e w3 ⟨rfl, hx3⟩
  rw [HPR.out.2.2.1]
  have HO3 := Lib.hid (HO2.out.next hx3)
  clear hx3
  go_wp2_with fail
  go_loopw [11] (fun vk wr => ∃ k : Nat, k ≤ pl ∧ vk = .int .i64 k ∧ Hid (Owns (w.alloc (.cells #[.int .i64 d, .slice GA gs.length Gc, .int .i64 gl] 24)) wr [decodedRow (w.heap.size + 1) (.string { data := #[] }) (.int .i64 0)] ∧ ∀ j, j < k → Cd.bitAt m j = 1 → (pieces.getD j []).length = sz)) (fun vk _ => pl - (intOf vk).toNat)
  case atStart => exact ⟨0, Nat.zero_le _, rfl, Lib.hid (And.intro HO3.out fun j hj => absurd hj (Nat.not_lt_zero j))⟩
  case round =>
    obtain ⟨k, hk, rfl, HK⟩ := hrel
    by_cases hkl : k < pl
    · obtain ⟨bP, u, rfl, hcP, hu⟩ := (Rs.ext RS.ext _ _ _ _ HK.out.1.ext HPS.out).at (i := k) (by rw [HPR.out.2.2.2.2]; exact hkl)
      unfold RS at hu
      subst hu
      have hgp := getD_get (x := ([] : List UInt8)) (l := pieces) (i := k) (by rw [HPR.out.2.2.2.2]; exact hkl)
      obtain ⟨pk, hpk⟩ : ∃ pk, pieces[k]'(by rw [HPR.out.2.2.2.2]; exact hkl) = pk := ⟨_, rfl⟩
      rw [hpk] at hgp hcP
      by_cases hb : Cd.bitAt m k = 1
      · have hin : Cd.inS m k = true := by unfold Cd.inS; simp [hb]
        have HGP := Lib.hid (And.intro hgp (And.intro hcP (And.intro hb hin)))
        clear hgp hcP hb hin hpk
        by_cases hsz9 : pk.length = sz
        · have hbb : (((sb pk).size : Int) != Cd.sizeOf d gl gs n) = false := by rw [HSZ.out.1, size_sb, hsz9]; simp
          have HB9 := Lib.hid (And.intro hbb hsz9)
          clear hbb hsz9
          go_wp2_with fail
          refine (rIn_any m k _ hm24 (by omega)).mono ?_
          rintro e w4 ⟨rfl, rfl⟩
          rw [HGP.out.2.2.2]
          obtain ⟨c0, c1, c2⟩ := code_cells2 (HK.out.1.ext)
          go_upto_region 11 with fail
          refine wp_atEnd (dec_len bP GA w.heap.size pl cp Gc k d gl n false (sb pk) gs wr hgn hkl (Lib.hid HGP.out.2.1) (Lib.hid HB9.out.1) c0 c1 c2 (Lib.hid (Rs.ext (Rs.ext RI.ext) _ _ _ _ HK.out.1.ext HX.out.2)) _ _ _ _ _ _ _ _ _ _ _ _ _ _ _ _ _ _ _ _ _ _ _ _ _ _ _ _ _ _ _ _ _ _ _ _ _ _ _ _ _ _ _ _ _ _ _ _ _ _ _ _ _ _ _ _ _ _ _ _ _ _ _ _ _ _ _ _ _ _ _ _ _ _ _ _ _ _ _ _ _ _ _ _ _ _ _ _ _ _ _ _ _ _ _ _ _ _ _ _ _ _ _ _ _ _ _ _ _ ?_)
          intros
          rename_i wx hxx
          have HX9 := Lib.hid (HK.out.1.next hxx)
          clear hxx c0 c1 c2
          go_wp2_with fail
          go_roundw
          case rel => exact ⟨k + 1, by omega, by go_num, Lib.hid (And.intro HX9.out fun j hj hbj => by
            by_cases hjk : j = k
            · rw [hjk, HGP.out.1]; exact HB9.out.2
            · exact HK.out.2 j (by omega) hbj)⟩
          case measure => simp [intOf]; omega
        · have hbb : (((sb pk).size : Int) != Cd.sizeOf d gl gs n) = true := by rw [HSZ.out.1, size_sb, bne_iff_ne]; omega
          have hans := HANS.out.1 k hkl HGP.out.2.2.1 (by rw [HGP.out.1]; exact hsz9)
          have HB9 := Lib.hid (And.intro hbb hans)
          clear hbb hsz9 hans
          go_wp2_with fail
          refine (rIn_any m k _ hm24 (by omega)).mono ?_
          rintro e w4 ⟨rfl, rfl⟩
          rw [HGP.out.2.2.2]
          obtain ⟨c0, c1, c2⟩ := code_cells2 (HK.out.1.ext)
          go_upto_region 11 with fail
          refine wp_atEnd (dec_len bP GA w.heap.size pl cp Gc k d gl n true (sb pk) gs wr hgn hkl (Lib.hid HGP.out.2.1) (Lib.hid HB9.out.1) c0 c1 c2 (Lib.hid (Rs.ext (Rs.ext RI.ext) _ _ _ _ HK.out.1.ext HX.out.2)) _ _ _ _ _ _ _ _ _ _ _ _ _ _ _ _ _ _ _ _ _ _ _ _ _ _ _ _ _ _ _ _ _ _ _ _ _ _ _ _ _ _ _ _ _ _ _ _ _ _ _ _ _ _ _ _ _ _ _ _ _ _ _ _ _ _ _ _ _ _ _ _ _ _ _ _ _ _ _ _ _ _ _ _ _ _ _ _ _ _ _ _ _ _ _ _ _ _ _ _ _ _ _ _ _ _ _ _ _ ?_)
          intros
          rename_i wx hxx
          have HX9 := Lib.hid (HK.out.1.next hxx)
          clear hxx c0 c1 c2
          have hc3 : wx.cell? ⟨w.heap.size + 1, 0, none⟩ = some (.string { data := #[] }) := HX9.out.cell 0 rfl 0 rfl
          have hc4 : wx.cell? ⟨w.heap.size + 1, 1, none⟩ = some (.int .i64 0) := HX9.out.cell 0 rfl 1 rfl
          have hf3 : wx.frozen? ⟨w.heap.size + 1, 0, none⟩ = false := HX9.out.frozen 0 rfl 0
          have hf4 : wx.frozen? ⟨w.heap.size + 1, 1, none⟩ = false := HX9.out.frozen 0 rfl 1
          go_wp2_with fail
          have hO7 := (HX9.out.store 0 rfl 0 (.string { data := #[] })).store 0 rfl 1 (.int .i64 1)
          exact bodyPost_ret (v := .agg #[.string { data := #[] }, .int .i64 1]) (by simp [results, Tryd.results37, go_sem, hc3, hc4]) rfl ⟨by rw [HB9.out.2, HDS.out _ HB9.out.2 (by decide)]; rfl, HX.out.1.trans hO7.ext⟩
      · have hin : Cd.inS m k = false := by unfold Cd.inS; simp [hb]
        have HIN := Lib.hid (And.intro hin hb)
        clear hgp hcP hb hin hpk
        go_wp2_with fail
        refine (rIn_any m k _ hm24 (by omega)).mono ?_
        rintro e w4 ⟨rfl, rfl⟩
        rw [HIN.out.1]
        go_wp2_with fail
        go_quiet (fail)
        go_wp2_with fail
        go_roundw
        case rel => exact ⟨k + 1, by omega, by go_num, Lib.hid (And.intro (by first | exact HK.out.1.drewN _ | exact HK.out.1) fun j hj hbj => by
          by_cases hjk : j = k
          · rw [hjk] at hbj; exact absurd hbj HIN.out.2
          · exact HK.out.2 j (by omega) hbj)⟩
        case measure => simp [intOf]; omega
    · obtain rfl : k = pl := by omega
      obtain ⟨c0, c1, c2⟩ := code_cells2 (HK.out.1.ext)
      cases hcan : Cd.can d gl gs m with
      | false =>
        have hans := HANS.out.2.1 HK.out.2 hcan
        have HB9 := Lib.hid (And.intro hcan hans)
        clear hcan hans
        go_wp2_with fail
        clear c0 c1 c2
        refine (rRec_any d gl m gs _ _ (Rs.ext (Rs.ext RI.ext) _ _ _ _ HK.out.1.ext HX.out.2) hgn).mono ?_
        rintro e w4 ⟨rfl, hx4⟩
        rw [HB9.out.1]
        have HX9 := Lib.hid (HK.out.1.next hx4)
        clear hx4
        have hc3 : w4.cell? ⟨w.heap.size + 1, 0, none⟩ = some (.string { data := #[] }) := HX9.out.cell 0 rfl 0 rfl
        have hc4 : w4.cell? ⟨w.heap.size + 1, 1, none⟩ = some (.int .i64 0) := HX9.out.cell 0 rfl 1 rfl
        have hf3 : w4.frozen? ⟨w.heap.size + 1, 0, none⟩ = false := HX9.out.frozen 0 rfl 0
        have hf4 : w4.frozen? ⟨w.heap.size + 1, 1, none⟩ = false := HX9.out.frozen 0 rfl 1
        go_wp2_with fail
        have hO7 := (HX9.out.store 0 rfl 0 (.string { data := #[] })).store 0 rfl 1 (.int .i64 17)
        exact bodyPost_ret (v := .agg #[.string { data := #[] }, .int .i64 17]) (by simp [results, Tryd.results37, go_sem, hc3, hc4]) rfl ⟨by rw [HB9.out.2, HDS.out _ HB9.out.2 (by decide)]; rfl, HX.out.1.trans hO7.ext⟩
      | true =>
        have HCN := Lib.hid (And.intro hcan (And.intro (HANS.out.2.2.1 HK.out.2 hcan) (HANS.out.2.2.2 HK.out.2 hcan)))
        clear hcan
        go_wp2_with fail
        clear c0 c1 c2
        refine (rRec_any d gl m gs _ _ (Rs.ext (Rs.ext RI.ext) _ _ _ _ HK.out.1.ext HX.out.2) hgn).mono ?_
        rintro e w4 ⟨rfl, hx4⟩
        rw [HCN.out.1]
        have HX4 := Lib.hid (HK.out.1.next hx4)
        obtain ⟨c0, c1, c2⟩ := code_cells2 (HX4.out.ext)
        clear hx4
        go_upto_region 16 with fail
        refine wp_atEnd (dec_data GA PA w.heap.size k cp Gc d gl sz m n gs R pieces w4 hgn hsz4 (Lib.hid HSZ.out.1) (Lib.hid (Rs.ext RS.ext _ _ _ _ HX4.out.ext HPS.out)) (Lib.hid HPR.out.2.2.2.2) (Lib.hid (And.intro HPR.out.2.1 HPR.out.1)) (Lib.hid HCN.out.1) (Lib.hid HK.out.2) c0 c1 c2 (Lib.hid (Rs.ext (Rs.ext RI.ext) _ _ _ _ HX4.out.ext HX.out.2)) _ _ _ _ _ _ _ _ _ _ _ _ _ _ _ _ _ _ _ _ _ _ _ _ _ _ _ _ _ _ _ _ _ _ _ _ _ _ _ _ _ _ _ _ _ _ _ _ _ _ _ _ _ _ _ _ _ _ _ _ _ _ _ _ _ _ _ _ _ _ _ _ _ _ _ _ _ _ _ _ _ _ _ _ _ _ _ _ _ _ _ _ _ _ _ _ _ _ _ _ _ _ _ _ _ _ _ _ _ _ ?_)
        intros
        rename_i w5 hx5
        have HX5 := Lib.hid (HX4.out.next hx5)
        clear hx5 c0 c1 c2
        rw [HSL.out.2.1]
        have HOW : Hid (Owns (w.alloc (.cells #[.int .i64 d, .slice GA gs.length Gc, .int .i64 gl] 24)) w5.drew [decodedRow (w.heap.size + 1) (.string { data := #[] }) (.int .i64 0), no]) := Lib.hid (HX5.out.drew.wider)
        obtain ⟨c0, c1, c2⟩ := code_cells2 (Ext.refl (w.alloc (.cells #[.int .i64 d, .slice GA gs.length Gc, .int .i64 gl] 24)))
        go_upto_region 17 with fail
        refine wp_atEnd (dec_enc GA w.heap.size Gc d gl n 0 gs ds xs E (decodedRow (w.heap.size + 1) (.string { data := #[] }) (.int .i64 0)) (w.alloc (.cells #[.int .i64 d, .slice GA gs.length Gc, .int .i64 gl] 24)) w5 hgn (by rw [HEL.out.2.2]; omega) (Lib.hid HEL.out.1) (Lib.hid HSL.out.1) c0 c1 c2 (Lib.hid HX.out.2) HOW _ _ _ _ _ _ _ _ _ _ _ _ _ _ _ _ _ _ _ _ _ _ _ _ _ _ _ _ _ _ _ _ _ _ _ _ _ _ _ _ _ _ _ _ _ _ _ _ _ _ _ _ _ _ _ _ _ _ _ _ _ _ _ _ _ _ _ _ _ _ _ _ _ _ _ _ _ _ _ _ _ _ _ _ _ _ _ _ _ _ _ _ _ _ _ _ _ _ _ _ _ _ _ _ _ _ _ _ _ _ _ ?_)
        intro VE gA
        intros
        rename_i w6 hO6
        obtain ⟨VA, vc, rfl, _⟩ := hO6.2.form
        have HO6 := Lib.hid hO6
        have hEn := HEL.out.2.1
        have HEN := Lib.hid hEn
        clear hO6 c0 c1 c2 hEn
        go_wp2_with fail
        go_loopw [16] (fun vj wr => ∃ j : Nat, j ≤ k ∧ vj = .int .i64 j ∧ Hid (Owns (w.alloc (.cells #[.int .i64 d, .slice GA gs.length Gc, .int .i64 gl] 24)) wr [decodedRow (w.heap.size + 1) (.string { data := #[] }) (.int .i64 0), listedRow gA (.slice VA k vc) (.int .i64 0)] ∧ Rs RS wr (.slice VA k vc) E ∧ ∀ i, i < j → Cd.bitAt m i = 1 → E.getD i [] = pieces.getD i [])) (fun vj _ => k - (intOf vj).toNat)
        case atStart => exact ⟨0, Nat.zero_le _, rfl, Lib.hid (And.intro (by rw [← HEN.out]; exact HO6.out.1) (And.intro (by rw [← HEN.out]; exact HO6.out.2) fun j hj => absurd hj (Nat.not_lt_zero j)))⟩
        case round =>
          obtain ⟨j, hj, rfl, HJ⟩ := hrel
          by_cases hjl : j < k
          · obtain ⟨bP, u, rfl, hcP, hu⟩ := (Rs.ext RS.ext _ _ _ _ HJ.out.1.ext HPS.out).at (i := j) (by rw [HPR.out.2.2.2.2]; exact hjl)
            obtain ⟨bV, u2, rfl, hcV, hu2⟩ := HJ.out.2.1.at (i := j) (by rw [HEN.out]; exact hjl)
            unfold RS at hu hu2
            subst hu hu2
            have hgp := getD_get (x := ([] : List UInt8)) (l := pieces) (i := j) (by rw [HPR.out.2.2.2.2]; exact hjl)
            have hge2 := getD_get (x := ([] : List UInt8)) (l := E) (i := j) (by rw [HEN.out]; exact hjl)
            obtain ⟨pk, hpk⟩ : ∃ pk, pieces[j]'(by rw [HPR.out.2.2.2.2]; exact hjl) = pk := ⟨_, rfl⟩
            obtain ⟨ek, hek⟩ : ∃ ek, E[j]'(by rw [HEN.out]; exact hjl) = ek := ⟨_, rfl⟩
            rw [hpk] at hgp hcP
            rw [hek] at hge2 hcV
            have hcA : wr.cell? ⟨gA, 0, none⟩ = some (.slice (some bV) k vc) := HJ.out.1.cell 1 rfl 0 rfl
            have HGP := Lib.hid (And.intro hgp hge2)
            clear hgp hge2 hpk hek
            by_cases hb : Cd.bitAt m j = 1
            · have hin : Cd.inS m j = true := by unfold Cd.inS; simp [hb]
              have HIN := Lib.hid (And.intro hin hb)
              clear hin hb
              by_cases heq : ek = pk
              · have h1 := sb_same heq
                have HE := Lib.hid heq
                clear heq
                go_wp2_with fail
                refine (rIn_any m j _ hm24 (by omega)).mono ?_
                rintro e w7 ⟨rfl, rfl⟩
                rw [HIN.out.1]
                go_wp2_with fail
                go_quiet (fail)
                go_wp2_with fail
                clear hcA hcP hcV
                go_roundw
                case rel => exact ⟨j + 1, by omega, by go_num, Lib.hid (And.intro (by first | exact HJ.out.1.drewN _ | exact HJ.out.1) (And.intro HJ.out.2.1 fun i hi hbi => by
                  by_cases hij : i = j
                  · rw [hij, HGP.out.1, HGP.out.2]; exact HE.out
                  · exact HJ.out.2.2 i (by omega) hbi))⟩
                case measure => simp [intOf]; omega
              · have h1 := sb_other heq
                have hans := HCN.out.2.1 j hjl HIN.out.2 (by rw [HGP.out.1, HGP.out.2]; exact heq)
                have HB9 := Lib.hid hans
                clear heq hans
                go_wp2_with fail
                refine (rIn_any m j _ hm24 (by omega)).mono ?_
                rintro e w7 ⟨rfl, rfl⟩
                rw [HIN.out.1]
                go_wp2_with fail
                go_quiet (fail)
                have HQ := Lib.hid (HJ.out.1.drewN nq)
                have hc3 : (wr.drewN nq).cell? ⟨w.heap.size + 1, 0, none⟩ = some (.string { data := #[] }) := HQ.out.cell 0 rfl 0 rfl
                have hc4 : (wr.drewN nq).cell? ⟨w.heap.size + 1, 1, none⟩ = some (.int .i64 0) := HQ.out.cell 0 rfl 1 rfl
                have hf3 : (wr.drewN nq).frozen? ⟨w.heap.size + 1, 0, none⟩ = false := HQ.out.frozen 0 rfl 0
                have hf4 : (wr.drewN nq).frozen? ⟨w.heap.size + 1, 1, none⟩ = false := HQ.out.frozen 0 rfl 1
                go_wp2_with fail
                have hO7 := (HQ.out.store 0 rfl 0 (.string { data := #[] })).store 0 rfl 1 (.int .i64 14)
                exact bodyPost_ret (v := .agg #[.string { data := #[] }, .int .i64 14]) (by simp [results, Tryd.results37, go_sem, hc3, hc4]) rfl ⟨by rw [HB9.out, HDS.out _ HB9.out (by decide)]; rfl, HX.out.1.trans hO7.ext⟩
            · have hin : Cd.inS m j = false := by unfold Cd.inS; simp [hb]
              have HIN := Lib.hid (And.intro hin hb)
              clear hin hb
              go_wp2_with fail
              refine (rIn_any m j _ hm24 (by omega)).mono ?_
              rintro e w7 ⟨rfl, rfl⟩
              rw [HIN.out.1]
              go_wp2_with fail
              go_quiet (fail)
              go_wp2_with fail
              clear hcA hcP hcV
              go_roundw
              case rel => exact ⟨j + 1, by omega, by go_num, Lib.hid (And.intro (by first | exact HJ.out.1.drewN _ | exact HJ.out.1) (And.intro HJ.out.2.1 fun i hi hbi => by
                by_cases hij : i = j
                · rw [hij] at hbi; exact absurd hbi HIN.out.2
                · exact HJ.out.2.2 i (by omega) hbi))⟩
              case measure => simp [intOf]; omega
          · obtain rfl : j = k := by omega
            have hans := HCN.out.2.2 HJ.out.2.2
            have HB9 := Lib.hid hans
            have hsl := HSL.out.1
            have b2 : n ≤ ds.length := by
              rw [HSL.out.2.2.2]
              have h9 := HEL.out.2.2
              rw [← HSL.out.2.2.1, List.length_take, HSL.out.2.2.2] at h9
              omega
            have hext : (sb ds).extract 0 n = sb xs := by rw [extract_take, HSL.out.2.2.1]
            clear hans hsl
            have hc3 : wr.cell? ⟨w.heap.size + 1, 0, none⟩ = some (.string { data := #[] }) := HJ.out.1.cell 0 rfl 0 rfl
            have hc4 : wr.cell? ⟨w.heap.size + 1, 1, none⟩ = some (.int .i64 0) := HJ.out.1.cell 0 rfl 1 rfl
            have hf3 : wr.frozen? ⟨w.heap.size + 1, 0, none⟩ = false := HJ.out.1.frozen 0 rfl 0
            have hf4 : wr.frozen? ⟨w.heap.size + 1, 1, none⟩ = false := HJ.out.1.frozen 0 rfl 1
            go_wp2_with fail
            have hO7 := (HJ.out.1.store 0 rfl 0 (.string (sb xs))).store 0 rfl 1 (.int .i64 0)
            exact bodyPost_ret (v := .agg #[.string (sb xs), .int .i64 0]) (by simp [results, Tryd.results37, go_sem, hc3, hc4]) rfl ⟨by rw [HB9.out.1, HB9.out.2], HX.out.1.trans hO7.ext⟩
theorem rDecode_any (d gl n m : Int) (gs : List (List Int)) (pieces : List (List UInt8)) (G : Value) (PA : Option Addr) (pl cp : Nat) (w : World) (hG : Rs (Rs RI) w G gs) (hgn : gs.length ≤ 1000000) (hP : Rs RS w (.slice PA pl cp) pieces) :
    Calls Tryd.prog 37 #[.agg #[.int .i64 d, G, .int .i64 gl], .int .i64 n, .int .i64 m, .slice PA pl cp] w fun e w' => e = .returned (.agg #[.string (sb (Cd.decS d gl gs n m pieces)), .int .i64 (Cd.decE d gl gs n m pieces)]) ∧ Ext w w' := by
  by_cases h0 : Cd.check d gs gl = 0
  · cases hb : Cd.badArgs d gl gs n m pieces with
    | true =>
      have he := Cd.decE_arg h0 hb
      rw [Cd.decS_no (by rw [he]; decide), he]
      exact rDecode_arg d gl n m gs pieces G PA pl cp w hG h0 hgn hP.len.symm hb
    | false =>
      have hk := Cd.check_ok h0
      have hb2 := hb
      unfold Cd.badArgs at hb2
      rw [decide_eq_false_iff_not] at hb2
      obtain ⟨d', rfl⟩ : ∃ k : Nat, d = k := ⟨d.toNat, by omega⟩
      obtain ⟨gl', rfl⟩ : ∃ k : Nat, gl = k := ⟨gl.toNat, by omega⟩
      obtain ⟨n', rfl⟩ : ∃ k : Nat, n = k := ⟨n.toNat, by omega⟩
      obtain ⟨m', rfl⟩ : ∃ k : Nat, m = k := ⟨m.toNat, by omega⟩
      exact rDecode_in d' gl' n' m' gs pieces G PA pl cp w hG h0 hb hP
  · have he := Cd.decE_no (n := n) (m := m) (pieces := pieces) h0
    rw [Cd.decS_no (by rw [he]; exact h0), he]
    exact rDecode_no d gl n m gs G _ w hG h0 hgn
end Go.Proofs.YtggfkpalkdkbdaaDoor

/- THE WALK over Locate of quietusref09. -/
namespace Lo
open Gf Cd
section
variable {d gl : Int} {gs : List (List Int)} {n m P : Nat} {pieces : List (List UInt8)}
theorem locS_hit {α : Type} {dec : Nat → Option α} {ok : α → Nat → Bool} {m N w k : Nat} {s : α} (hk : k ≤ m) (hm : m < 2 ^ 16) (h : ∀ t, t < k → Sub t m → num t ≤ w → dec (m - t) = none) (hs : Sub k m) (hn : num k ≤ w) (hd : dec (m - k) = some s) : locS dec ok m N w = some (s, differ ok m N s) := by
  unfold locS
  rw [List.findSome?_eq_some_iff]
  refine ⟨List.range k, k, List.range' (k + 1) (m - k), ?_, ?_, ?_⟩
  · rw [List.range_eq_range', List.range_eq_range', show m + 1 = k + (m - k + 1) by omega, ← List.range'_append_1, List.range'_succ, Nat.zero_add]
  · rw [if_pos ⟨(subB_iff (Nat.lt_of_le_of_lt hk hm)).2 hs, hn⟩, hd]; rfl
  · intro t ht
    have htk := List.mem_range.1 ht
    by_cases h1 : SubB t m = true ∧ num t ≤ w
    · rw [if_pos h1, h t htk ((subB_iff (by omega)).1 h1.1) h1.2]; rfl
    · rw [if_neg h1]
theorem locS_miss {α : Type} {dec : Nat → Option α} {ok : α → Nat → Bool} {m N w : Nat} (hm : m < 2 ^ 16) (h : ∀ t, t < m + 1 → Sub t m → num t ≤ w → dec (m - t) = none) : locS dec ok m N w = none := by
  unfold locS
  rw [List.findSome?_eq_none_iff]
  intro t ht
  have htk := List.mem_range.1 ht
  by_cases h1 : SubB t m = true ∧ num t ≤ w
  · rw [if_pos h1, h t htk ((subB_iff (by omega)).1 h1.1) h1.2]; rfl
  · rw [if_neg h1]
theorem chTo_differ (hm : m < 2 ^ P) {s : List UInt8} (hs : s.length = n) : chTo m pieces (encode d gl gs s) P = differ (okO d gl gs n pieces) m P s := by
  have hsub := differ_sub (ok := okO d gl gs n pieces) hm s
  refine bits_eq P _ _ (chTo_lt P) (Nat.lt_of_le_of_lt (sub_le hsub) hm) fun i => ?_
  have h2 : bitAt (chTo m pieces (encode d gl gs s) P) i = 1 ↔ bitAt (differ (okO d gl gs n pieces) m P s) i = 1 := by
    rw [chTo_bit, differ_bit hm]
    unfold okO
    rw [decide_eq_true hs, Bool.true_and, beq_eq_false_iff_ne]
    constructor
    · rintro ⟨_, h1, h2⟩; exact ⟨h1, fun e => h2 e.symm⟩
    · rintro ⟨h1, h2⟩; exact ⟨bit_in hm h1, h1, fun e => h2 e.symm⟩
  rcases bit_two (chTo m pieces (encode d gl gs s) P) i with e | e
  · rcases bit_two (differ (okO d gl gs n pieces) m P s) i with f | f
    · rw [e, f]
    · rw [h2.2 f] at e; cases e
  · rw [e, h2.1 e]
theorem dec_len (hsz : ∀ k, k < (rowsOf d gs gl).length → bitAt m k = 1 → (pieces.getD k []).length = sizeN d.toNat n) {t : Nat} (ht : Sub t m) (h : decE d gl gs (n : Int) (t : Int) pieces = 0) : (decS d gl gs (n : Int) (t : Int) pieces).length = n := by
  obtain ⟨a1, _, _, a4, _⟩ := decE_zero h
  rw [decS_ok h, Int.toNat_natCast, Int.toNat_natCast]
  exact chunk_len a1 a4 fun k hk hb => hsz k hk (ht k hb)
end
end Lo
namespace Go.Proofs.YtggfkpalkdkbdaaDoor
open Go.RowKit
theorem ex_build2L {P : Program} {o : Oper} {a : Act} {w : World} {t : TypeId} {x y : Operand} {u v r : Value} (ho : o.op = .build t #[(0, x), (1, y)]) (hx : a.eval x = u) (hy : a.eval y = v) (hr : (Instr.build t #[(0, u), (1, v)]).run P w = .ok r w) : (execOp a.eval o).run P w = .ok (.value r) w := by
  unfold execOp
  simp only [ho, List.map_toArray, List.map_cons, List.map_nil, hx, hy, Sem.run_bind, hr, Result.andThen_ok, Sem.run_pure]
noncomputable def lt15_code : Code := ((Tryd.f16.body.bind (regionOf 15)).getD .skip)
def lt15_dsts : List (Option Nat) := [some 64, some 65, some 66, some 67, some 68, some 69, some 70, some 71, some 72, none]
theorem lt15_apart : apartD lt15_dsts = true := by decide +kernel
set_option maxRecDepth 1000000 in
set_option maxHeartbeats 16000000 in
theorem lt15 (w0 wr : World) (C Q R ng Gc m P cp dq : Nat) (GA PA : Option Addr) (D gl : Nat) (s : List UInt8) (HB : Hid (Owns w0 wr [⟨.slice (some ⟨C, 0, none⟩) 3 3, 24, 1, 3, [.int .i64 D, .slice GA ng Gc, .int .i64 gl]⟩, ⟨.slice (some ⟨Q, 0, none⟩) 3 3, 38, 1, 3, [.string ⟨#[]⟩, .int .i64 0, .int .i64 0]⟩, ⟨.slice (some ⟨R, 0, none⟩) 2 2, 73, 1, 2, [.string (sb s), .int .i64 0]⟩])) (HD : Hid (∀ w1 : World, Ext w0 w1 → Calls Tryd.prog 38 #[.agg #[.int .i64 D, .slice GA ng Gc, .int .i64 gl], .string (sb s), .int .i64 (m : Nat), .slice PA P cp] w1 fun e w' => e = .returned (.int .i64 (dq : Nat)) ∧ Ext w1 w')) (c0 c1 c4 c6 c7 c8 c9 c11 c12 c13 c15 c16 c17 c18 c19 c20 c21 c22 c23 c24 c25 c26 c27 c28 c29 c30 c31 c32 c33 c34 c35 c36 c37 c38 c39 c40 c41 c42 c43 c44 c45 c46 c47 c48 c49 c50 c51 c52 c53 c54 c55 c56 c57 c58 c59 c60 c61 c62 c63 c64 c65 c66 c67 c68 c69 c70 c71 c72 c73 : Value) (df : List Deferred) (K : Act → World → Prop)
    (hK : ∀  (u64 u65 u66 u67 u68 u69 u70 u71 u72 : Value) (wx : World), Owns w0 wx [⟨.slice (some ⟨C, 0, none⟩) 3 3, 24, 1, 3, [.int .i64 D, .slice GA ng Gc, .int .i64 gl]⟩, ⟨.slice (some ⟨Q, 0, none⟩) 3 3, 38, 1, 3, [.string (sb s), .int .i64 (dq : Nat), .int .i64 0]⟩, ⟨.slice (some ⟨R, 0, none⟩) 2 2, 73, 1, 2, [.string (sb s), .int .i64 0]⟩] → K ⟨#[c0, c1, .int .i64 (m : Nat), .slice PA P cp, c4, .pointer (some ⟨C, 0, none⟩), c6, c7, c8, c9, .pointer (some ⟨Q, 0, none⟩), c11, c12, c13, .pointer (some ⟨R, 0, none⟩), c15, c16, c17, c18, c19, c20, c21, c22, c23, c24, c25, c26, c27, c28, c29, c30, c31, c32, c33, c34, c35, c36, c37, c38, c39, c40, c41, c42, c43, c44, c45, c46, c47, c48, c49, c50, c51, c52, c53, c54, c55, c56, c57, c58, c59, c60, c61, c62, c63, u64, u65, u66, u67, u68, u69, u70, u71, u72, c73], df⟩ wx) :
    Code.wp Tryd.prog lt15_code (AtEnd K) ⟨#[c0, c1, .int .i64 (m : Nat), .slice PA P cp, c4, .pointer (some ⟨C, 0, none⟩), c6, c7, c8, c9, .pointer (some ⟨Q, 0, none⟩), c11, c12, c13, .pointer (some ⟨R, 0, none⟩), c15, c16, c17, c18, c19, c20, c21, c22, c23, c24, c25, c26, c27, c28, c29, c30, c31, c32, c33, c34, c35, c36, c37, c38, c39, c40, c41, c42, c43, c44, c45, c46, c47, c48, c49, c50, c51, c52, c53, c54, c55, c56, c57, c58, c59, c60, c61, c62, c63, c64, c65, c66, c67, c68, c69, c70, c71, c72, c73], df⟩ wr := by
  conv => arg 2; whnf
  refine region_inv (by kernel_rfl) [[], [0], [], [], [3], [], [], [2, 4, 5, 6], [1, 7], [8, 7, 0, 1, 2, 3, 4, 5, 6, 7, 8]] (by kernel_rfl) [0, 1, 2, 3, 4, 5, 6, 7, 8, 9] (by decide +kernel) (by decide +kernel) (by decide +kernel) (fun L a wc => Inv lt15_dsts [.pointer (some ⟨R, 0, none⟩), .string (sb s), .agg #[.int .i64 D, .slice GA ng Gc, .int .i64 gl], .pointer (some ⟨R, 0, none⟩), .string (sb s), .int .i64 (m : Nat), .slice PA P cp, .int .i64 (dq : Nat), .agg #[.string (sb s), .int .i64 (dq : Nat), .int .i64 0], undef] ⟨#[c0, c1, .int .i64 (m : Nat), .slice PA P cp, c4, .pointer (some ⟨C, 0, none⟩), c6, c7, c8, c9, .pointer (some ⟨Q, 0, none⟩), c11, c12, c13, .pointer (some ⟨R, 0, none⟩), c15, c16, c17, c18, c19, c20, c21, c22, c23, c24, c25, c26, c27, c28, c29, c30, c31, c32, c33, c34, c35, c36, c37, c38, c39, c40, c41, c42, c43, c44, c45, c46, c47, c48, c49, c50, c51, c52, c53, c54, c55, c56, c57, c58, c59, c60, c61, c62, c63, c64, c65, c66, c67, c68, c69, c70, c71, c72, c73], df⟩ L a ∧ Hid (Owns w0 wc [⟨.slice (some ⟨C, 0, none⟩) 3 3, 24, 1, 3, [.int .i64 D, .slice GA ng Gc, .int .i64 gl]⟩, (if L 9 = true then ⟨.slice (some ⟨Q, 0, none⟩) 3 3, 38, 1, 3, [.string (sb s), .int .i64 (dq : Nat), .int .i64 0]⟩ else ⟨.slice (some ⟨Q, 0, none⟩) 3 3, 38, 1, 3, [.string ⟨#[]⟩, .int .i64 0, .int .i64 0]⟩), ⟨.slice (some ⟨R, 0, none⟩) 2 2, 73, 1, 2, [.string (sb s), .int .i64 0]⟩])) ⟨Inv.start, Lib.hid (HB.out.drew)⟩ ?_ ?_
  · refine ⟨?_, ?_, ?_, ?_, ?_, ?_, ?_, ?_, ?_, ?_, trivial⟩
    ·
      rintro L a wc ⟨hv, HO⟩ hL hc hd
      exact wpOp_val rfl rfl (ex_field rfl ((hv.fixed 14 (by decide)).trans rfl) (by go_simp)) ⟨hv.put lt15_apart 0 rfl (lb rfl) (lb rfl) rfl, HO⟩
    ·
      rintro L a wc ⟨hv, HO⟩ hL hc hd
      have h0 : wc.cell? ⟨R, 0, none⟩ = some (.string (sb s)) := HO.out.cell 2 rfl 0 rfl
      exact wpOp_val rfl rfl (ex_load rfl (hv.get 0 rfl rfl (hd 0 (by decide))) (by go_simp)) ⟨hv.put lt15_apart 1 rfl (lb rfl) (lb rfl) rfl, HO⟩
    ·
      rintro L a wc ⟨hv, HO⟩ hL hc hd
      have h0 : wc.cell? ⟨C, 0, none⟩ = some (.int .i64 D) := HO.out.cell 0 rfl 0 rfl
      have h1 : wc.cell? ⟨C, 1, none⟩ = some (.slice GA ng Gc) := HO.out.cell 0 rfl 1 rfl
      have h2 : wc.cell? ⟨C, 2, none⟩ = some (.int .i64 gl) := HO.out.cell 0 rfl 2 rfl
      exact wpOp_val rfl rfl (ex_load rfl ((hv.fixed 5 (by decide)).trans rfl) (by go_simp)) ⟨hv.put lt15_apart 2 rfl (lb rfl) (lb rfl) rfl, HO⟩
    ·
      rintro L a wc ⟨hv, HO⟩ hL hc hd
      exact wpOp_val rfl rfl (ex_field rfl ((hv.fixed 14 (by decide)).trans rfl) (by go_simp)) ⟨hv.put lt15_apart 3 rfl (lb rfl) (lb rfl) rfl, HO⟩
    ·
      rintro L a wc ⟨hv, HO⟩ hL hc hd
      have h0 : wc.cell? ⟨R, 0, none⟩ = some (.string (sb s)) := HO.out.cell 2 rfl 0 rfl
      exact wpOp_val rfl rfl (ex_load rfl (hv.get 3 rfl rfl (hd 3 (by decide))) (by go_simp)) ⟨hv.put lt15_apart 4 rfl (lb rfl) (lb rfl) rfl, HO⟩
    ·
      rintro L a wc ⟨hv, HO⟩ hL hc hd
      exact wpOp_val rfl rfl (ex_move rfl ((hv.fixed 2 (by decide)).trans rfl)) ⟨hv.put lt15_apart 5 rfl (lb rfl) (lb rfl) rfl, HO⟩
    ·
      rintro L a wc ⟨hv, HO⟩ hL hc hd
      exact wpOp_val rfl rfl (ex_move rfl ((hv.fixed 3 (by decide)).trans rfl)) ⟨hv.put lt15_apart 6 rfl (lb rfl) (lb rfl) rfl, HO⟩
    ·
      rintro L a wc ⟨hv, HO⟩ hL hc hd
      refine wpOp_call (R := fun v w1 => v = .int .i64 (dq : Nat) ∧ Ext wc w1) rfl rfl (ex_call rfl rfl (map4c (hv.get 2 rfl rfl (hd 2 (by decide))) (hv.get 4 rfl rfl (hd 4 (by decide))) (hv.get 5 rfl rfl (hd 5 (by decide))) (hv.get 6 rfl rfl (hd 6 (by decide)))) (enters_of Tryd.func38 (by kernel_rfl) rfl _ _)) ((HD.out wc HO.out.ext).mono (fun e w' h => ⟨_, h.1, rfl, h.2⟩)) ?_
      rintro v w' ⟨rfl, hx⟩
      exact ⟨hv.put lt15_apart 7 rfl (lb rfl) (lb rfl) rfl, Lib.hid (HO.out.next hx)⟩
    ·
      rintro L a wc ⟨hv, HO⟩ hL hc hd
      have hB : (Instr.build 38 #[(0, .string (sb s)), (1, .int .i64 (dq : Nat))]).run Tryd.prog wc = .ok (.agg #[.string (sb s), .int .i64 (dq : Nat), .int .i64 0]) wc := by go_simp
      exact wpOp_val rfl rfl (ex_build2L rfl (hv.get 1 rfl rfl (hd 1 (by decide))) (hv.get 7 rfl rfl (hd 7 (by decide))) hB) ⟨hv.put lt15_apart 8 rfl (lb rfl) (lb rfl) rfl, HO⟩
    ·
      rintro L a wc ⟨hv, HO⟩ hL hc hd
      have h := HO.out
      rw [if_neg (show ¬ (L 9 = true) from by simp [hL])] at h
      have e0 : wc.cell? ⟨Q, 0, none⟩ = some (.string ⟨#[]⟩) := h.cell 1 rfl 0 rfl
      have e1 : wc.cell? ⟨Q, 1, none⟩ = some (.int .i64 0) := h.cell 1 rfl 1 rfl
      have e2 : wc.cell? ⟨Q, 2, none⟩ = some (.int .i64 0) := h.cell 1 rfl 2 rfl
      have f0 : wc.frozen? ⟨Q, 0, none⟩ = false := h.frozen 1 rfl 0
      have f1 : wc.frozen? ⟨Q, 1, none⟩ = false := h.frozen 1 rfl 1
      have f2 : wc.frozen? ⟨Q, 2, none⟩ = false := h.frozen 1 rfl 2
      have hS := ((h.store 1 rfl 0 (.string (sb s))).store 1 rfl 1 (.int .i64 (dq : Nat))).store 1 rfl 2 (.int .i64 0)
      have h3 : Owns w0 (((wc.setCell ⟨Q, 0, none⟩ (.string (sb s))).setCell ⟨Q, 1, none⟩ (.int .i64 (dq : Nat))).setCell ⟨Q, 2, none⟩ (.int .i64 0)) [⟨.slice (some ⟨C, 0, none⟩) 3 3, 24, 1, 3, [.int .i64 D, .slice GA ng Gc, .int .i64 gl]⟩, (if upd L 9 9 = true then ⟨.slice (some ⟨Q, 0, none⟩) 3 3, 38, 1, 3, [.string (sb s), .int .i64 (dq : Nat), .int .i64 0]⟩ else ⟨.slice (some ⟨Q, 0, none⟩) 3 3, 38, 1, 3, [.string ⟨#[]⟩, .int .i64 0, .int .i64 0]⟩), ⟨.slice (some ⟨R, 0, none⟩) 2 2, 73, 1, 2, [.string (sb s), .int .i64 0]⟩] := by rw [if_pos (show upd L 9 9 = true from by simp [upd])]; exact hS
      exact wpOp_skip rfl rfl rfl (ex_store (w' := ((wc.setCell ⟨Q, 0, none⟩ (.string (sb s))).setCell ⟨Q, 1, none⟩ (.int .i64 (dq : Nat))).setCell ⟨Q, 2, none⟩ (.int .i64 0)) rfl ((hv.fixed 10 (by decide)).trans rfl) (hv.get 8 rfl rfl (hd 8 (by decide))) (by go_simp)) ⟨hv.skip 9 rfl, Lib.hid h3⟩
  · rintro L a wc ⟨hv, HO⟩ hall
    show K a wc
    have ha := act_n rl74 hv.size hv.defers rfl
    simp +decide only [hv.fixed] at ha
    rw [ha]
    have h := HO.out
    rw [if_pos (hall 9 (by decide))] at h
    exact hK _ _ _ _ _ _ _ _ _ wc h
set_option maxHeartbeats 8000000 in
set_option maxRecDepth 100000 in
theorem r9Locate_any (d gl : Int) (gs : List (List Int)) (n m wrong : Int) (pieces : List (List UInt8)) (PA : Option Addr) (cp : Nat) (G : Value) (w : World) (hG : Rs (Rs RI) w G gs) (hgn : gs.length ≤ 1000000) (hpm : ∀ p ∈ pieces, p.length ≤ 140737488351232) (hp : Rs RS w (.slice PA pieces.length cp) pieces) (hgiv : Lo.givE d gl gs n m pieces = 0 → n ≤ 60 ∧ (Cd.rowsOf d gs gl).length ≤ 14) :
    Calls Tryd.prog 16 #[.agg #[.int .i64 d, G, .int .i64 gl], .int .i64 n, .int .i64 m, .slice PA pieces.length cp, .int .i64 wrong] w fun e w' => e = .returned (.agg #[.string (sb (Lo.locR d gl gs n m pieces wrong).1), .int .i64 (Lo.locR d gl gs n m pieces wrong).2.1, .int .i64 (Lo.locR d gl gs n m pieces wrong).2.2]) ∧ Ext w w' := by
  have HGN := Lib.hid hgn
  clear hgn
  obtain ⟨GA, Gc, rfl, _⟩ := hG.form
  obtain ⟨ng, hng⟩ : ∃ ng, gs.length = ng := ⟨_, rfl⟩
  rw [hng] at hG ⊢
  have hB := ((Owns.start w (L := [no, no]) (by intro r hr; simp at hr; subst hr; exact ⟨rfl, rfl, rfl⟩)).new 0 #[.int .i64 d, .slice GA ng Gc, .int .i64 gl] 24 (by simp [maxLen])).new 1 #[.string ⟨#[]⟩, .int .i64 0, .int .i64 0] 38 (by simp [maxLen])
  simp only [World.size_alloc] at hB
  have HG := Lib.hid hG
  have HB : Hid (Owns w ((w.alloc (.cells #[.int .i64 d, .slice GA ng Gc, .int .i64 gl] 24)).alloc (.cells #[.string ⟨#[]⟩, .int .i64 0, .int .i64 0] 38)) [⟨.slice (some ⟨w.heap.size, 0, none⟩) 3 3, 24, 1, 3, [.int .i64 d, .slice GA ng Gc, .int .i64 gl]⟩, ⟨.slice (some ⟨w.heap.size + 1, 0, none⟩) 3 3, 38, 1, 3, [.string ⟨#[]⟩, .int .i64 0, .int .i64 0]⟩]) := Lib.hid hB
  have HNG := Lib.hid hng
  obtain ⟨pl, hpl⟩ : ∃ pl, pieces.length = pl := ⟨_, rfl⟩
  rw [hpl] at hp ⊢
  have HPM := Lib.hid hpm
  clear hpm
  have HPP := Lib.hid (Rs.ext RS.ext _ _ _ _ HB.out.ext hp)
  have HPW := Lib.hid hp
  have HPL := Lib.hid hpl
  have HGIV := Lib.hid hgiv
  clear hG hB hng hp hpl hgiv
  go_enter Tryd.func16, Tryd.ntmps16
  go_upto_region 1 with fail
  obtain ⟨C, hC⟩ : ∃ x, w.heap.size = x := ⟨_, rfl⟩
  rw [hC] at HB ⊢
  obtain ⟨Q, hQ⟩ : ∃ x, C + 1 = x := ⟨_, rfl⟩
  rw [hQ] at HB ⊢
  have nCQ : C ≠ Q := by omega
  obtain ⟨w1, hw1⟩ : ∃ x, ((w.alloc (.cells #[.int .i64 d, .slice GA ng Gc, .int .i64 gl] 24)).alloc (.cells #[.string ⟨#[]⟩, .int .i64 0, .int .i64 0] 38)) = x := ⟨_, rfl⟩
  rw [hw1] at HB HPP ⊢
  clear hw1 hC hQ
  have HX := Lib.hid (Ext.refl w1)
  have hgv := r9Given_any d gl n m gs pieces _ PA cp w1 (Rs.ext (Rs.ext RI.ext) _ _ _ _ (HB.out.ext.trans HX.out) HG.out) (by rw [HPL.out]; exact HPP.out) HGN.out
  rw [HPL.out] at hgv
  have HGV := Lib.hid hgv
  clear hgv
  have k00 : w1.cell? ⟨C, 0, none⟩ = some (.int .i64 d) := (HB.out.next HX.out).cell 0 rfl 0 rfl
  have k01 : w1.cell? ⟨C, 1, none⟩ = some (.slice GA ng Gc) := (HB.out.next HX.out).cell 0 rfl 1 rfl
  have k02 : w1.cell? ⟨C, 2, none⟩ = some (.int .i64 gl) := (HB.out.next HX.out).cell 0 rfl 2 rfl
  go_wp2_with fail
  refine HGV.out.mono ?_
  clear HGV k00 k01 k02
  rintro e w2 ⟨rfl, hx⟩
  replace HX := Lib.hid (HX.out.trans hx)
  clear hx
  obtain ⟨er, her⟩ : ∃ er, Lo.givE d gl gs n m pieces = er := ⟨_, rfl⟩
  rw [her]
  have HER := Lib.hid her
  clear her
  by_cases h0 : er = 0
  case neg =>
    have hne2 : (er != 0) = true := by rw [bne_iff_ne]; exact h0
    have HR := Lib.hid (Lo.locR_bad (wrong := wrong) (show Lo.givE d gl gs n m pieces ≠ 0 by rw [HER.out]; exact h0))
    rw [HER.out] at HR
    clear h0
    have HS0 := Lib.hid (HB.out.next HX.out)
    have k10 : w2.cell? ⟨Q, 0, none⟩ = some (.string ⟨#[]⟩) := (HB.out.next HX.out).cell 1 rfl 0 rfl
    have k11 : w2.cell? ⟨Q, 1, none⟩ = some (.int .i64 0) := (HB.out.next HX.out).cell 1 rfl 1 rfl
    have k12 : w2.cell? ⟨Q, 2, none⟩ = some (.int .i64 0) := (HB.out.next HX.out).cell 1 rfl 2 rfl
    have f10 : w2.frozen? ⟨Q, 0, none⟩ = false := HS0.out.frozen 1 rfl 0
    have f11 : w2.frozen? ⟨Q, 1, none⟩ = false := HS0.out.frozen 1 rfl 1
    have f12 : w2.frozen? ⟨Q, 2, none⟩ = false := HS0.out.frozen 1 rfl 2
    have HS := Lib.hid (((HS0.out.store 1 rfl 0 (.string ⟨#[]⟩)).store 1 rfl 1 (.int .i64 0)).store 1 rfl 2 (.int .i64 er))
    go_wp2_with fail
    refine bodyPost_ret (results_cell1L (v := .agg #[.string ⟨#[]⟩, .int .i64 0, .int .i64 er]) rfl rfl ?_) rfl ?_
    · go_simp
    exact ⟨by rw [HR.out]; rfl, HS.out.ext⟩
  case pos =>
    subst h0
    obtain ⟨hn60, hP14⟩ := HGIV.out HER.out
    obtain ⟨N, M, rfl, rfl, hW⟩ := Lo.well HER.out
    have hk := Cd.check_ok hW.chk
    have hso := Cd.sizeOf_nat (d := d.toNat) (gl := gl.toNat) (gs := gs) (n := N) (by omega) (by rw [Int.toNat_of_nonneg (by omega), Int.toNat_of_nonneg (by omega)]; exact hW.chk)
    obtain ⟨D, rfl⟩ : ∃ k : Nat, d = k := ⟨d.toNat, by omega⟩
    obtain ⟨g, rfl⟩ : ∃ k : Nat, gl = k := ⟨gl.toNat, by omega⟩
    rw [Int.toNat_natCast, Int.toNat_natCast] at hso
    have hsf := Lo.sizeN_few (D := D) (n := N) (by omega) (by omega)
    obtain ⟨sz, hsz⟩ : ∃ sz, Cd.sizeN D N = sz := ⟨_, rfl⟩
    rw [hsz] at hso hsf
    have hlen := hW.len
    rw [HPL.out] at hlen
    have hset := hW.set
    rw [← hlen] at hset hP14
    have hsiz : ∀ k, k < pl → Cd.bitAt M k = 1 → (pieces.getD k []).length = sz := fun k hk hb => by
      have := hW.siz k (by rw [HPL.out]; exact hk) hb
      rw [Int.toNat_natCast, hsz] at this
      exact this
    have HW := Lib.hid hW
    have HL := Lib.hid (And.intro hlen (And.intro hset hsiz))
    have HSZ : Hid (∀ w' : World, Ext w w' → Calls Tryd.prog 43 #[.agg #[.int .i64 D, .slice GA ng Gc, .int .i64 g], .int .i64 (N : Nat)] w' fun e w'' => e = .returned (.int .i64 (sz : Nat)) ∧ Ext w' w'') := Lib.hid fun w' h => by
      have := rSize_any D g N gs _ w' (Rs.ext (Rs.ext RI.ext) _ _ _ _ h HG.out) HGN.out
      rw [hso] at this
      exact this
    have HFT : Hid (∀ (S : Nat) (w' : World), Lo.Sub S M → Ext w w' → Calls Tryd.prog 42 #[.agg #[.int .i64 D, .slice GA ng Gc, .int .i64 g], .int .i64 (S : Nat), .slice PA pl cp, .int .i64 (sz : Nat)] w' fun e w'' => e = .returned (.bool (Lo.agree (Lo.some_ (Cd.rowsOf D gs g) pieces S))) ∧ Ext w' w'') := Lib.hid fun S w' hs h =>
      r9Fit_any D g gs S sz pl cp pieces PA _ w' (Rs.ext (Rs.ext RI.ext) _ _ _ _ h HG.out) HGN.out HW.out.chk HL.out.1.symm hP14 (Nat.lt_of_le_of_lt (Lo.sub_le hs) HL.out.2.1) (Rs.ext RS.ext _ _ _ _ h HPW.out) (fun k hk hb => HL.out.2.2 k hk (hs k hb)) (by omega)
    have hN14 : Cd.check (D : Int) gs (g : Int) = 0 → (Cd.rowsOf (D : Int) gs (g : Int)).length ≤ 14 := fun _ => by rw [← HL.out.1]; exact hP14
    clear hn60 hk hso hsz hlen hset hsiz hW
    have hM14 : M < 16384 := Nat.lt_of_lt_of_le HL.out.2.1 (show 2 ^ pl ≤ 2 ^ 14 from Nat.pow_le_pow_right (by decide) hP14)
    obtain ⟨b2, hb2⟩ : ∃ b, Lo.corB (D : Int) (g : Int) gs (M : Int) wrong = b := ⟨_, rfl⟩
    obtain ⟨e2, he2⟩ : ∃ e, Lo.corE (D : Int) (g : Int) gs (M : Int) wrong = e := ⟨_, rfl⟩
    have hcc := r9Cor_any D g gs M wrong _ w2 (Rs.ext (Rs.ext RI.ext) _ _ _ _ (HB.out.ext.trans HX.out) HG.out) HGN.out hN14
    rw [hb2, he2] at hcc
    have HCC := Lib.hid hcc
    have HBE := Lib.hid (And.intro hb2 he2)
    have HPL14 := Lib.hid hP14
    clear hcc hb2 he2 hN14
    have k00 : w2.cell? ⟨C, 0, none⟩ = some (.int .i64 D) := (HB.out.next HX.out).cell 0 rfl 0 rfl
    have k01 : w2.cell? ⟨C, 1, none⟩ = some (.slice GA ng Gc) := (HB.out.next HX.out).cell 0 rfl 1 rfl
    have k02 : w2.cell? ⟨C, 2, none⟩ = some (.int .i64 g) := (HB.out.next HX.out).cell 0 rfl 2 rfl
    go_wp2_with fail
    refine HCC.out.mono ?_
    clear HCC k00 k01 k02
    rintro e w3 ⟨rfl, hx⟩
    replace HX := Lib.hid (HX.out.trans hx)
    clear hx
    have hQ1 : Owns w (w3.alloc (.cells #[.bool b2, .int .i64 e2] 31)) [⟨.slice (some ⟨C, 0, none⟩) 3 3, 24, 1, 3, [.int .i64 D, .slice GA ng Gc, .int .i64 g]⟩, ⟨.slice (some ⟨Q, 0, none⟩) 3 3, 38, 1, 3, [.string ⟨#[]⟩, .int .i64 0, .int .i64 0]⟩, ⟨.slice (some ⟨w3.heap.size, 0, none⟩) 2 2, 31, 1, 2, [.bool b2, .int .i64 e2]⟩] := (HB.out.next HX.out).wider.new 2 #[.bool b2, .int .i64 e2] 31 (by simp [maxLen])
    have HQ := Lib.hid hQ1
    have HXQ := Lib.hid ((Ext.refl w3).alloc (.cells #[.bool b2, .int .i64 e2] 31))
    clear hQ1
    go_upto_region 5 with fail
    obtain ⟨T, hT⟩ : ∃ x, w3.heap.size = x := ⟨_, rfl⟩
    obtain ⟨w4, hw4⟩ : ∃ x, w3.alloc (.cells #[.bool b2, .int .i64 e2] 31) = x := ⟨_, rfl⟩
    rw [hT, hw4] at HQ
    rw [hw4] at HXQ
    rw [hT, hw4]
    clear hT hw4
    replace HX := Lib.hid (HX.out.trans HXQ.out)
    have t0 : w4.cell? ⟨T, 0, none⟩ = some (.bool b2) := HQ.out.cell 2 rfl 0 rfl
    have t1 : w4.cell? ⟨T, 1, none⟩ = some (.int .i64 e2) := HQ.out.cell 2 rfl 1 rfl
    by_cases h2 : e2 = 0
    case neg =>
      have hne2 : (e2 != 0) = true := by rw [bne_iff_ne]; exact h2
      have HR := Lib.hid (Lo.locR_cor HER.out (show Lo.corE (D : Int) (g : Int) gs (M : Int) wrong ≠ 0 by rw [HBE.out.2]; exact h2))
      rw [HBE.out.2] at HR
      clear h2
      have HS0 := Lib.hid (HB.out.next HX.out)
      have k10 : w4.cell? ⟨Q, 0, none⟩ = some (.string ⟨#[]⟩) := (HB.out.next HX.out).cell 1 rfl 0 rfl
      have k11 : w4.cell? ⟨Q, 1, none⟩ = some (.int .i64 0) := (HB.out.next HX.out).cell 1 rfl 1 rfl
      have k12 : w4.cell? ⟨Q, 2, none⟩ = some (.int .i64 0) := (HB.out.next HX.out).cell 1 rfl 2 rfl
      have f10 : w4.frozen? ⟨Q, 0, none⟩ = false := HS0.out.frozen 1 rfl 0
      have f11 : w4.frozen? ⟨Q, 1, none⟩ = false := HS0.out.frozen 1 rfl 1
      have f12 : w4.frozen? ⟨Q, 2, none⟩ = false := HS0.out.frozen 1 rfl 2
      have HS := Lib.hid (((HS0.out.store 1 rfl 0 (.string ⟨#[]⟩)).store 1 rfl 1 (.int .i64 0)).store 1 rfl 2 (.int .i64 e2))
      go_wp2_with fail
      refine bodyPost_ret (results_cell1L (v := .agg #[.string ⟨#[]⟩, .int .i64 0, .int .i64 e2]) rfl rfl ?_) rfl ?_
      · go_simp
      exact ⟨by rw [HR.out]; rfl, HS.out.ext⟩
    case pos =>
    subst h2
    cases b2 with
    | false =>
      have HR := Lib.hid (Lo.locR_state HER.out HBE.out.2 HBE.out.1)
      have HS0 := Lib.hid (HB.out.next HX.out)
      have k10 : w4.cell? ⟨Q, 0, none⟩ = some (.string ⟨#[]⟩) := (HB.out.next HX.out).cell 1 rfl 0 rfl
      have k11 : w4.cell? ⟨Q, 1, none⟩ = some (.int .i64 0) := (HB.out.next HX.out).cell 1 rfl 1 rfl
      have k12 : w4.cell? ⟨Q, 2, none⟩ = some (.int .i64 0) := (HB.out.next HX.out).cell 1 rfl 2 rfl
      have f10 : w4.frozen? ⟨Q, 0, none⟩ = false := HS0.out.frozen 1 rfl 0
      have f11 : w4.frozen? ⟨Q, 1, none⟩ = false := HS0.out.frozen 1 rfl 1
      have f12 : w4.frozen? ⟨Q, 2, none⟩ = false := HS0.out.frozen 1 rfl 2
      have HS := Lib.hid (((HS0.out.store 1 rfl 0 (.string ⟨#[]⟩)).store 1 rfl 1 (.int .i64 0)).store 1 rfl 2 (.int .i64 4))
      go_wp2_with fail
      refine bodyPost_ret (results_cell1L (v := .agg #[.string ⟨#[]⟩, .int .i64 0, .int .i64 4]) rfl rfl ?_) rfl ?_
      · go_simp
      exact ⟨by rw [HR.out]; rfl, HS.out.ext⟩
    | true =>
      obtain ⟨wv, rfl, hwv⟩ := Lo.cor_fine HBE.out.2
      have hsu := ((Lo.cor_suff HW.out.chk HL.out.1.symm HPL14.out HL.out.2.1 hwv).2).1 HBE.out.1
      have hdec := Lo.decodes HW.out.chk (n := N) (pieces := pieces) HW.out.set HW.out.len HW.out.n4 HW.out.siz
      have hle := Lo.loc_eq HW.out.set (by rw [← HL.out.1]; omega) hdec hsu
      have HLE := Lib.hid hle
      have HOQ := Lib.hid (HQ.out.sublist (L' := [⟨.slice (some ⟨C, 0, none⟩) 3 3, 24, 1, 3, [.int .i64 D, .slice GA ng Gc, .int .i64 g]⟩, ⟨.slice (some ⟨Q, 0, none⟩) 3 3, 38, 1, 3, [.string ⟨#[]⟩, .int .i64 0, .int .i64 0]⟩]) (by simp))
      clear hsu hdec hle
      go_wp2_with fail
      clear t0 t1
      go_loopw [13, 14] (fun v13 _ wr => ∃ k : Nat, k ≤ M + 1 ∧ v13 = .int .i64 (k : Nat) ∧ Hid (Owns w wr [⟨.slice (some ⟨C, 0, none⟩) 3 3, 24, 1, 3, [.int .i64 D, .slice GA ng Gc, .int .i64 g]⟩, ⟨.slice (some ⟨Q, 0, none⟩) 3 3, 38, 1, 3, [.string ⟨#[]⟩, .int .i64 0, .int .i64 0]⟩] ∧ ∀ t, t < k → Lo.Sub t M → Lo.num t ≤ wv → Lo.decO D g gs N pieces (M - t) = none)) (fun v13 _ _ => M + 1 - (intOf v13).toNat)
      case atStart => exact ⟨0, Nat.zero_le _, rfl, Lib.hid ⟨HOQ.out, fun t h => absurd h (by omega)⟩⟩
      case round =>
        obtain ⟨k, hk, rfl, HI⟩ := hrel
        have HOr := Lib.hid HI.out.1
        by_cases hkM : k ≤ M
        · have hand := and64 k M (by omega) (by omega)
          obtain ⟨z, hz⟩ : ∃ z, k &&& M = z := ⟨_, rfl⟩
          rw [hz] at hand
          by_cases hzk : z = k
          · have hsub : Lo.Sub k M := Lo.and_sub.1 (by rw [hz, hzk])
            have hne : ((z : Int) != (k : Int)) = false := by rw [hzk]; simp
            have hck := cCount_any k wr (by omega)
            rw [Lo.cnt_is] at hck
            obtain ⟨nk, hnk⟩ : ∃ n, Lo.num k = n := ⟨_, rfl⟩
            rw [hnk] at hck
            have HCK := Lib.hid hck
            have HSB := Lib.hid (And.intro hsub hnk)
            have hsame : (z : Int) = (k : Int) := by rw [hzk]
            clear hz hzk hsub hck hnk
            go_wp2_with fail
            refine HCK.out.mono ?_
            clear HCK
            rintro e w' ⟨rfl, rfl⟩
            by_cases hgt : (wv : Int) < (nk : Int)
            · go_wp2_with fail
              go_roundw
              case rel => exact ⟨k + 1, by omega, by go_num, Lib.hid ⟨HI.out.1, fun t ht hs hn => by
                by_cases e : t = k
                · rw [e, HSB.out.2] at hn; omega
                · exact HI.out.2 t (by omega) hs hn⟩⟩
              case measure => simp [intOf]; omega
            · obtain ⟨y, hy⟩ : ∃ y, M - k = y := ⟨_, rfl⟩
              have hw3 : IntKind.i64.wrap ((M : Int) - (k : Int)) = (y : Int) := by rw [IntKind.wrap_i64]; omega
              have hw4 : wrap64 ((M : Int) - (k : Int)) = (y : Int) := by unfold wrap64; omega
              have hrd := rDecode_any D g N (y : Int) gs pieces _ PA pl cp wr (Rs.ext (Rs.ext RI.ext) _ _ _ _ HOr.out.ext HG.out) HGN.out (Rs.ext RS.ext _ _ _ _ HOr.out.ext HPW.out)
              obtain ⟨s, hs⟩ : ∃ s, Cd.decS (D : Int) (g : Int) gs (N : Int) (y : Int) pieces = s := ⟨_, rfl⟩
              obtain ⟨de, hde⟩ : ∃ e, Cd.decE (D : Int) (g : Int) gs (N : Int) (y : Int) pieces = e := ⟨_, rfl⟩
              rw [hs, hde] at hrd
              have HRD := Lib.hid hrd
              have HY := Lib.hid (And.intro hy (And.intro hs hde))
              have k0 : wr.cell? ⟨C, 0, none⟩ = some (.int .i64 D) := HOr.out.cell 0 rfl 0 rfl
              have k1 : wr.cell? ⟨C, 1, none⟩ = some (.slice GA ng Gc) := HOr.out.cell 0 rfl 1 rfl
              have k2 : wr.cell? ⟨C, 2, none⟩ = some (.int .i64 g) := HOr.out.cell 0 rfl 2 rfl
              clear hy hs hde hrd
              go_wp2_with fail
              refine HRD.out.mono ?_
              clear HRD k0 k1 k2
              rintro e w5 ⟨rfl, hx5⟩
              have hR1 : Owns w (w5.alloc (.cells #[.string (sb s), .int .i64 de] 73)) [⟨.slice (some ⟨C, 0, none⟩) 3 3, 24, 1, 3, [.int .i64 D, .slice GA ng Gc, .int .i64 g]⟩, ⟨.slice (some ⟨Q, 0, none⟩) 3 3, 38, 1, 3, [.string ⟨#[]⟩, .int .i64 0, .int .i64 0]⟩, ⟨.slice (some ⟨w5.heap.size, 0, none⟩) 2 2, 73, 1, 2, [.string (sb s), .int .i64 de]⟩] := (HOr.out.next hx5).wider.new 2 #[.string (sb s), .int .i64 de] 73 (by simp [maxLen])
              have HR1 := Lib.hid hR1
              clear hR1 hx5
              go_upto_region 14 with fail
              obtain ⟨R, hR⟩ : ∃ x, w5.heap.size = x := ⟨_, rfl⟩
              obtain ⟨w6, hw6⟩ : ∃ x, w5.alloc (.cells #[.string (sb s), .int .i64 de] 73) = x := ⟨_, rfl⟩
              rw [hR, hw6] at HR1
              rw [hR, hw6]
              clear hR hw6
              have r1 : w6.cell? ⟨R, 1, none⟩ = some (.int .i64 de) := HR1.out.cell 2 rfl 1 rfl
              by_cases hd0 : de = 0
              · have u1 : (de == 0) = true := by rw [hd0]; rfl
                have hdO : Lo.decO D g gs N pieces (M - k) = some s := by
                  unfold Lo.decO
                  rw [HY.out.1, if_pos (HY.out.2.2.trans hd0), HY.out.2.1]
                have hsl : s.length = N := by
                  have h3 : Lo.Sub (M - k) M := Lo.minus_sub HSB.out.1
                  have h4 := Lo.dec_len (d := (D : Int)) (gl := (g : Int)) (gs := gs) (n := N) (m := M) (pieces := pieces) (fun i hi hb => HW.out.siz i (by rw [HW.out.len]; exact hi) hb) (t := M - k) h3 (by rw [HY.out.1]; exact HY.out.2.2.trans hd0)
                  rw [HY.out.1, HY.out.2.1] at h4
                  exact h4
                have hcd := Lo.chTo_differ (d := (D : Int)) (gl := (g : Int)) (gs := gs) (pieces := pieces) HL.out.2.1 hsl
                have hhit := Lo.locS_hit (ok := Lo.okO D g gs N pieces) (N := (Cd.rowsOf (D : Int) gs (g : Int)).length) hkM (by omega) HI.out.2 HSB.out.1 (by rw [HSB.out.2]; omega) hdO
                rw [← HLE.out, ← HL.out.1, ← hcd] at hhit
                have hlr := Lo.locR_some HER.out HBE.out.2 HBE.out.1 (by rw [Int.toNat_natCast, Int.toNat_natCast, Int.toNat_natCast, ← HL.out.1]; exact hhit)
                obtain ⟨dq, hdf⟩ : ∃ dq, Lo.chTo M pieces (Cd.encode (D : Int) (g : Int) gs s) pl = dq := ⟨_, rfl⟩
                rw [hdf] at hlr
                have HLR := Lib.hid hlr
                have hdl4 : s.length ≤ 4096 := by rw [hsl]; exact HW.out.n4
                have HDF : Hid (∀ w' : World, Ext w w' → Calls Tryd.prog 38 #[.agg #[.int .i64 D, .slice GA ng Gc, .int .i64 g], .string (sb s), .int .i64 (M : Nat), .slice PA pl cp] w' fun e w'' => e = .returned (.int .i64 (dq : Nat)) ∧ Ext w' w'') := Lib.hid fun w' h => by
                  rw [← hdf]
                  exact r9Differ_any D g gs s pieces M pl cp PA _ w' (Rs.ext (Rs.ext RI.ext) _ _ _ _ h HG.out) HGN.out HW.out.chk HL.out.1.symm HL.out.2.1 HPL14.out hdl4 (Rs.ext RS.ext _ _ _ _ h HPW.out)
                subst hd0
                clear hdO hsl hcd hhit hlr hdf hdl4
                go_upto_region 15 with fail
                refine wp_atEnd' (lt15 w w6 C Q R ng Gc M pl cp dq GA PA D g s HR1 HDF _ _ _ _ _ _ _ _ _ _ _ _ _ _ _ _ _ _ _ _ _ _ _ _ _ _ _ _ _ _ _ _ _ _ _ _ _ _ _ _ _ _ _ _ _ _ _ _ _ _ _ _ _ _ _ _ _ _ _ _ _ _ _ _ _ _ _ _ _ _ _ ?_)
                rintro u64 u65 u66 u67 u68 u69 u70 u71 u72 wx hO
                have HO := Lib.hid hO
                have q0 : wx.cell? ⟨Q, 0, none⟩ = some (.string (sb s)) := HO.out.cell 1 rfl 0 rfl
                have q1 : wx.cell? ⟨Q, 1, none⟩ = some (.int .i64 (dq : Nat)) := HO.out.cell 1 rfl 1 rfl
                have q2 : wx.cell? ⟨Q, 2, none⟩ = some (.int .i64 0) := HO.out.cell 1 rfl 2 rfl
                clear hO r1
                go_wp2_with fail
                refine bodyPost_ret (results_cell1L (v := .agg #[.string (sb s), .int .i64 (dq : Nat), .int .i64 0]) rfl rfl ?_) rfl ?_
                · go_simp
                exact ⟨by rw [HLR.out], HO.out.ext⟩
              · have u1 : (de == 0) = false := by rw [beq_eq_false_iff_ne]; exact hd0
                have hdO : Lo.decO D g gs N pieces (M - k) = none := by
                  unfold Lo.decO
                  rw [HY.out.1, if_neg (fun h => hd0 (HY.out.2.2.symm.trans h))]
                have HDO := Lib.hid hdO
                clear hd0 hdO
                go_wp2_with fail
                go_roundw
                case rel => exact ⟨k + 1, by omega, by go_num, Lib.hid ⟨HR1.out.sublist (by simp), fun t ht hs hn => by
                  by_cases e : t = k
                  · rw [e]; exact HDO.out
                  · exact HI.out.2 t (by omega) hs hn⟩⟩
                case measure => simp [intOf]; omega
          · have hns : ¬ Lo.Sub k M := fun h => hzk (by rw [← hz]; exact Lo.and_sub.2 h)
            have he : ((z : Int) != (k : Int)) = true := by rw [bne_iff_ne]; omega
            have HNS := Lib.hid hns
            clear hz hns hzk
            go_wp2_with fail
            go_roundw
            case rel => exact ⟨k + 1, by omega, by go_num, Lib.hid ⟨HI.out.1, fun t ht hs hn => by
              by_cases e : t = k
              · rw [e] at hs; exact absurd hs HNS.out
              · exact HI.out.2 t (by omega) hs hn⟩⟩
            case measure => simp [intOf]; omega
        · obtain rfl : k = M + 1 := by omega
          have hms := Lo.locS_miss (ok := Lo.okO D g gs N pieces) (N := (Cd.rowsOf (D : Int) gs (g : Int)).length) (m := M) (by omega) HI.out.2
          rw [← HLE.out] at hms
          have HR := Lib.hid (Lo.locR_none HER.out HBE.out.2 HBE.out.1 (by rw [Int.toNat_natCast, Int.toNat_natCast, Int.toNat_natCast]; exact hms))
          have q0 : wr.cell? ⟨Q, 0, none⟩ = some (.string ⟨#[]⟩) := HOr.out.cell 1 rfl 0 rfl
          have q1 : wr.cell? ⟨Q, 1, none⟩ = some (.int .i64 0) := HOr.out.cell 1 rfl 1 rfl
          have q2 : wr.cell? ⟨Q, 2, none⟩ = some (.int .i64 0) := HOr.out.cell 1 rfl 2 rfl
          have f0 : wr.frozen? ⟨Q, 0, none⟩ = false := HOr.out.frozen 1 rfl 0
          have f1 : wr.frozen? ⟨Q, 1, none⟩ = false := HOr.out.frozen 1 rfl 1
          have f2 : wr.frozen? ⟨Q, 2, none⟩ = false := HOr.out.frozen 1 rfl 2
          have HS := Lib.hid (((HOr.out.store 1 rfl 0 (.string ⟨#[]⟩)).store 1 rfl 1 (.int .i64 0)).store 1 rfl 2 (.int .i64 17))
          clear hms
          go_wp2_with fail
          refine bodyPost_ret (results_cell1L (v := .agg #[.string ⟨#[]⟩, .int .i64 0, .int .i64 17]) rfl rfl ?_) rfl ?_
          · go_simp
          exact ⟨by rw [HR.out]; rfl, HS.out.ext⟩
end Go.Proofs.YtggfkpalkdkbdaaDoor

/- THE WALK over LocateFindsAsSpecified. -/
namespace Lo
theorem clash_one {d gl n m : Int} {gs : List (List Int)} {pieces : List (List UInt8)} {x E x' E' : Int} (h : ClashOut d gl gs n m pieces x E) (k : ClashOut d gl gs n m pieces x' E') : x = x' ∧ E = E' := by
  rcases h with ⟨a1, a2, a3⟩ | ⟨a1, a2, a3, a4⟩ | ⟨a1, a2, ⟨a3, a4, a5⟩ | ⟨X, a3, a4, a5⟩⟩
  · rcases k with ⟨b1, b2, b3⟩ | ⟨b1, _⟩ | ⟨b1, _⟩
    · exact ⟨a2.trans b2.symm, a3.trans b3.symm⟩
    · exact absurd b1 a1
    · exact absurd b1 a1
  · rcases k with ⟨b1, _⟩ | ⟨b1, b2, b3, b4⟩ | ⟨b1, b2, _⟩
    · exact absurd a1 b1
    · exact ⟨a3.trans b3.symm, a4.trans b4.symm⟩
    · omega
  · rcases k with ⟨b1, _⟩ | ⟨b1, b2, b3, b4⟩ | ⟨b1, b2, ⟨b3, b4, b5⟩ | ⟨Y, b3, b4, b5⟩⟩
    · exact absurd a1 b1
    · omega
    · exact ⟨a3.trans b3.symm, a4.trans b4.symm⟩
    · have := a5 Y b5.1 b5.2.1
      rw [b5.2.2.1] at this; cases this
  · rcases k with ⟨b1, _⟩ | ⟨b1, b2, b3, b4⟩ | ⟨b1, b2, ⟨b3, b4, b5⟩ | ⟨Y, b3, b4, b5⟩⟩
    · exact absurd a1 b1
    · omega
    · have := b5 X a5.1 a5.2.1
      rw [a5.2.2.1] at this; cases this
    · have := a5.one b5
      subst this
      exact ⟨a3.trans b3.symm, a4.trans b4.symm⟩
end Lo
namespace Go.Proofs.YtggfkpalkdkbdaaDoor
open Go.RowKit
set_option maxHeartbeats 16000000 in
set_option maxRecDepth 100000 in
theorem law_finds (d gl n m wrong : Int) (gs : List (List Int)) (pieces : List (List UInt8)) (PA : Option Addr) (cp : Nat) (G : Value) (w : World) (hT : Tab w) (hG : Rs (Rs RI) w G gs) (hp : Rs RS w (.slice PA pieces.length cp) pieces) (hgl : gs.length ≤ 4611686018427387904) (hpm : ∀ p ∈ pieces, p.length ≤ 140737488351232) :
    Calls Tryd.prog 4 #[.agg #[.int .i64 d, G, .int .i64 gl], .int .i64 n, .int .i64 m, .slice PA pieces.length cp, .int .i64 wrong] w fun e w' => e = .returned (.bool true) ∧ Ext w w' := by
  have HGL := Lib.hid hgl
  have HPM := Lib.hid hpm
  clear hgl hpm
  obtain ⟨GA, Gc, rfl, _⟩ := hG.form
  obtain ⟨ng, hng⟩ : ∃ ng, gs.length = ng := ⟨_, rfl⟩
  rw [hng] at hG ⊢
  have hB := (Owns.start w (L := [no]) (by intro r hr; simp at hr; subst hr; exact ⟨rfl, rfl, rfl⟩)).new 0 #[.int .i64 d, .slice GA ng Gc, .int .i64 gl] 24 (by simp [maxLen])
  have HG := Lib.hid hG
  have HB : Hid (Owns w (w.alloc (.cells #[.int .i64 d, .slice GA ng Gc, .int .i64 gl] 24)) [⟨.slice (some ⟨w.heap.size, 0, none⟩) 3 3, 24, 1, 3, [.int .i64 d, .slice GA ng Gc, .int .i64 gl]⟩]) := Lib.hid hB
  have HNG := Lib.hid hng
  obtain ⟨pl, hpl⟩ : ∃ pl, pieces.length = pl := ⟨_, rfl⟩
  rw [hpl] at hp ⊢
  have HPP := Lib.hid (Rs.ext RS.ext _ _ _ _ HB.out.ext hp)
  have HPL := Lib.hid hpl
  clear hG hB hng hp hpl
  have HT := Lib.hid (hT.ext HB.out.ext)
  clear hT
  go_enter Tryd.func4, Tryd.ntmps4
  go_upto_region 1 with fail
  obtain ⟨C, hC⟩ : ∃ x, w.heap.size = x := ⟨_, rfl⟩
  rw [hC] at HB ⊢
  obtain ⟨w1, hw1⟩ : ∃ x, (w.alloc (.cells #[.int .i64 d, .slice GA ng Gc, .int .i64 gl] 24)) = x := ⟨_, rfl⟩
  rw [hw1] at HB HT HPP ⊢
  clear hw1 hC
  have HX := Lib.hid (Ext.refl w1)
  have HF := Lib.hid (lFew_any d gl 9 n gs _ PA pl cp w1 (Rs.ext (Rs.ext RI.ext) _ _ _ _ (HB.out.ext.trans HX.out) HG.out) HGL.out)
  have k00 : w1.cell? ⟨C, 0, none⟩ = some (.int .i64 d) := (HB.out.next HX.out).cell 0 rfl 0 rfl
  have k01 : w1.cell? ⟨C, 1, none⟩ = some (.slice GA ng Gc) := (HB.out.next HX.out).cell 0 rfl 1 rfl
  have k02 : w1.cell? ⟨C, 2, none⟩ = some (.int .i64 gl) := (HB.out.next HX.out).cell 0 rfl 2 rfl
  go_wp2_with fail
  refine HF.out.mono ?_
  clear HF k00 k01 k02
  rintro e w2 ⟨b, rfl, hfo, hx⟩
  replace HX := Lib.hid (HX.out.trans hx)
  have HFO := Lib.hid hfo
  clear hfo
  clear hx
  have HSA := Lib.hid (fun w' (h : Ext w1 w') => sanity9_any w' (HT.out.ext h))
  cases b with
  | false =>
    go_wp2_with fail
    refine (HSA.out w2 HX.out).mono ?_
    rintro e w3 ⟨rfl, hx⟩
    go_wp2_with fail
    go_ret
    exact ⟨rfl, HB.out.ext.trans (HX.out.trans hx)⟩
  | true =>
    have hfo := HFO.out (by trivial)
    have hgn : gs.length ≤ 1000000 := by have := hfo.groups; omega
    have HN : Hid (Cd.check d gs gl = 0 → (Cd.rowsOf d gs gl).length ≤ 14) := Lib.hid fun h => by have := hfo.rows h; omega
    have HGV : Hid (Lo.givE d gl gs n m pieces = 0 → n ≤ 60 ∧ (Cd.rowsOf d gs gl).length ≤ 14) := Lib.hid fun h => ⟨hfo.bytes, HN.out (Lo.chkE_ok (Lo.givE_ok h).1).1⟩
    have HGN := Lib.hid hgn
    clear hfo hgn
    obtain ⟨lr, hlr⟩ : ∃ r, Lo.locR d gl gs n m pieces wrong = r := ⟨_, rfl⟩
    obtain ⟨s, bd, e1⟩ := lr
    obtain ⟨b2, hb2⟩ : ∃ b, Lo.fitB d gl gs n m pieces = b := ⟨_, rfl⟩
    obtain ⟨e2, he2⟩ : ∃ e, Lo.givE d gl gs n m pieces = e := ⟨_, rfl⟩
    have HL : Hid (∀ w', Ext w1 w' → Calls Tryd.prog 15 #[.agg #[.int .i64 d, .slice GA ng Gc, .int .i64 gl], .int .i64 n, .int .i64 m, .slice PA pl cp, .int .i64 wrong] w' fun e w'' => e = .returned (.tuple #[.string (sb s), .int .i64 bd, .int .i64 e1]) ∧ Ext w' w'') := Lib.hid fun w' h => by
      have hc := lLocate_any d gl n m wrong gs pieces _ PA cp w' (HT.out.ext h) (Rs.ext (Rs.ext RI.ext) _ _ _ _ (HB.out.ext.trans h) HG.out) (by rw [HPL.out]; exact Rs.ext RS.ext _ _ _ _ h HPP.out) HPM.out HN.out
      rw [HPL.out, hlr] at hc; exact hc
    have HL9 : Hid (∀ w', Ext w1 w' → Calls Tryd.prog 16 #[.agg #[.int .i64 d, .slice GA ng Gc, .int .i64 gl], .int .i64 n, .int .i64 m, .slice PA pl cp, .int .i64 wrong] w' fun e w'' => e = .returned (.agg #[.string (sb s), .int .i64 bd, .int .i64 e1]) ∧ Ext w' w'') := Lib.hid fun w' h => by
      have hc := r9Locate_any d gl gs n m wrong pieces PA cp _ w' (Rs.ext (Rs.ext RI.ext) _ _ _ _ (HB.out.ext.trans h) HG.out) HGN.out HPM.out (by rw [HPL.out]; exact Rs.ext RS.ext _ _ _ _ h HPP.out) HGV.out
      rw [HPL.out, hlr] at hc; exact hc
    have HF2 : Hid (∀ w', Ext w1 w' → Calls Tryd.prog 17 #[.agg #[.int .i64 d, .slice GA ng Gc, .int .i64 gl], .int .i64 n, .int .i64 m, .slice PA pl cp] w' fun e w'' => e = .returned (.tuple #[.bool b2, .int .i64 e2]) ∧ Ext w' w'') := Lib.hid fun w' h => by
      have hc := lFits_any d gl n m gs pieces _ PA cp w' (HT.out.ext h) (Rs.ext (Rs.ext RI.ext) _ _ _ _ (HB.out.ext.trans h) HG.out) (by rw [HPL.out]; exact Rs.ext RS.ext _ _ _ _ h HPP.out)
      rw [HPL.out, hb2, he2] at hc; exact hc
    have HF9 : Hid (∀ w', Ext w1 w' → Calls Tryd.prog 18 #[.agg #[.int .i64 d, .slice GA ng Gc, .int .i64 gl], .int .i64 n, .int .i64 m, .slice PA pl cp] w' fun e w'' => e = .returned (.agg #[.bool b2, .int .i64 e2]) ∧ Ext w' w'') := Lib.hid fun w' h => by
      have hc := r9Fits_any d gl gs n m pieces PA cp _ w' (Rs.ext (Rs.ext RI.ext) _ _ _ _ (HB.out.ext.trans h) HG.out) HGN.out (by rw [HPL.out]; exact Rs.ext RS.ext _ _ _ _ h HPP.out) HGV.out
      rw [HPL.out, hb2, he2] at hc; exact hc
    have HC2 : Hid (∀ w', Ext w1 w' → Calls Tryd.prog 19 #[.agg #[.int .i64 d, .slice GA ng Gc, .int .i64 gl], .int .i64 n, .int .i64 m, .slice PA pl cp] w' fun e w'' => ∃ x E, e = .returned (.tuple #[.int .i64 x, .int .i64 E]) ∧ Lo.ClashOut d gl gs n m pieces x E ∧ Ext w' w'') := Lib.hid fun w' h => by
      have hc := lClash_any d gl n m gs pieces _ PA cp w' (HT.out.ext h) (Rs.ext (Rs.ext RI.ext) _ _ _ _ (HB.out.ext.trans h) HG.out) (by rw [HPL.out]; exact Rs.ext RS.ext _ _ _ _ h HPP.out) HN.out
      rw [HPL.out] at hc; exact hc
    have HC9 : Hid (∀ w', Ext w1 w' → Calls Tryd.prog 20 #[.agg #[.int .i64 d, .slice GA ng Gc, .int .i64 gl], .int .i64 n, .int .i64 m, .slice PA pl cp] w' fun e w'' => ∃ x E, e = .returned (.agg #[.int .i64 x, .int .i64 E]) ∧ Lo.ClashOut d gl gs n m pieces x E ∧ Ext w' w'') := Lib.hid fun w' h => by
      have hc := r9Clash_any d gl gs n m pieces PA cp _ w' (Rs.ext (Rs.ext RI.ext) _ _ _ _ (HB.out.ext.trans h) HG.out) HGN.out (by rw [HPL.out]; exact Rs.ext RS.ext _ _ _ _ h HPP.out) HGV.out
      rw [HPL.out] at hc; exact hc
    clear hlr hb2 he2
    have HL1 := Lib.hid (HL.out w2 HX.out)
    have k00 : w2.cell? ⟨C, 0, none⟩ = some (.int .i64 d) := (HB.out.next HX.out).cell 0 rfl 0 rfl
    have k01 : w2.cell? ⟨C, 1, none⟩ = some (.slice GA ng Gc) := (HB.out.next HX.out).cell 0 rfl 1 rfl
    have k02 : w2.cell? ⟨C, 2, none⟩ = some (.int .i64 gl) := (HB.out.next HX.out).cell 0 rfl 2 rfl
    go_wp2_with fail
    refine HL1.out.mono ?_
    clear HL1 k00 k01 k02
    rintro e w3 ⟨rfl, hx⟩
    replace HX := Lib.hid (HX.out.trans hx)
    clear hx
    have HL2 := Lib.hid (HL9.out w3 HX.out)
    have k00 : w3.cell? ⟨C, 0, none⟩ = some (.int .i64 d) := (HB.out.next HX.out).cell 0 rfl 0 rfl
    have k01 : w3.cell? ⟨C, 1, none⟩ = some (.slice GA ng Gc) := (HB.out.next HX.out).cell 0 rfl 1 rfl
    have k02 : w3.cell? ⟨C, 2, none⟩ = some (.int .i64 gl) := (HB.out.next HX.out).cell 0 rfl 2 rfl
    go_wp2_with fail
    refine HL2.out.mono ?_
    clear HL2 k00 k01 k02
    rintro e w4 ⟨rfl, hx⟩
    replace HX := Lib.hid (HX.out.trans hx)
    clear hx
    have hR1 : Owns w1 (w4.alloc (.cells #[.string (sb s), .int .i64 bd, .int .i64 e1] 38)) [⟨.slice (some ⟨w4.heap.size, 0, none⟩) 3 3, 38, 1, 3, [.string (sb s), .int .i64 bd, .int .i64 e1]⟩] := (((Owns.start w1 (L := [no]) (by intro r hr; simp at hr; subst hr; exact ⟨rfl, rfl, rfl⟩)).next HX.out).new 0 #[.string (sb s), .int .i64 bd, .int .i64 e1] 38 (by simp [maxLen]))
    have HR := Lib.hid hR1
    clear hR1
    go_upto_region 6 with fail
    obtain ⟨Q1, hQ1⟩ : ∃ x, w4.heap.size = x := ⟨_, rfl⟩
    obtain ⟨w5, hw5⟩ : ∃ x, w4.alloc (.cells #[.string (sb s), .int .i64 bd, .int .i64 e1] 38) = x := ⟨_, rfl⟩
    rw [hQ1, hw5] at HR
    rw [hQ1, hw5]
    clear hQ1 hw5
    replace HX := Lib.hid HR.out.ext
    have HF3 := Lib.hid (HF2.out w5 HX.out)
    have k00 : w5.cell? ⟨C, 0, none⟩ = some (.int .i64 d) := (HB.out.next HX.out).cell 0 rfl 0 rfl
    have k01 : w5.cell? ⟨C, 1, none⟩ = some (.slice GA ng Gc) := (HB.out.next HX.out).cell 0 rfl 1 rfl
    have k02 : w5.cell? ⟨C, 2, none⟩ = some (.int .i64 gl) := (HB.out.next HX.out).cell 0 rfl 2 rfl
    go_wp2_with fail
    refine HF3.out.mono ?_
    clear HF3 k00 k01 k02
    rintro e w6 ⟨rfl, hx⟩
    replace HX := Lib.hid (HX.out.trans hx)
    replace HR := Lib.hid (HR.out.next hx)
    clear hx
    have HF4 := Lib.hid (HF9.out w6 HX.out)
    have k00 : w6.cell? ⟨C, 0, none⟩ = some (.int .i64 d) := (HB.out.next HX.out).cell 0 rfl 0 rfl
    have k01 : w6.cell? ⟨C, 1, none⟩ = some (.slice GA ng Gc) := (HB.out.next HX.out).cell 0 rfl 1 rfl
    have k02 : w6.cell? ⟨C, 2, none⟩ = some (.int .i64 gl) := (HB.out.next HX.out).cell 0 rfl 2 rfl
    go_wp2_with fail
    refine HF4.out.mono ?_
    clear HF4 k00 k01 k02
    rintro e w7 ⟨rfl, hx⟩
    replace HX := Lib.hid (HX.out.trans hx)
    replace HR := Lib.hid (HR.out.next hx)
    clear hx
    have hR1 : Owns w1 (w7.alloc (.cells #[.bool b2, .int .i64 e2] 31)) [⟨.slice (some ⟨Q1, 0, none⟩) 3 3, 38, 1, 3, [.string (sb s), .int .i64 bd, .int .i64 e1]⟩, ⟨.slice (some ⟨w7.heap.size, 0, none⟩) 2 2, 31, 1, 2, [.bool b2, .int .i64 e2]⟩] := (HR.out.wider.new 1 #[.bool b2, .int .i64 e2] 31 (by simp [maxLen]))
    replace HR := Lib.hid hR1
    clear hR1
    go_upto_region 8 with fail
    obtain ⟨Q2, hQ2⟩ : ∃ x, w7.heap.size = x := ⟨_, rfl⟩
    obtain ⟨w8, hw8⟩ : ∃ x, w7.alloc (.cells #[.bool b2, .int .i64 e2] 31) = x := ⟨_, rfl⟩
    rw [hQ2, hw8] at HR
    rw [hQ2, hw8]
    clear hQ2 hw8
    replace HX := Lib.hid HR.out.ext
    have HC3 := Lib.hid (HC2.out w8 HX.out)
    have k00 : w8.cell? ⟨C, 0, none⟩ = some (.int .i64 d) := (HB.out.next HX.out).cell 0 rfl 0 rfl
    have k01 : w8.cell? ⟨C, 1, none⟩ = some (.slice GA ng Gc) := (HB.out.next HX.out).cell 0 rfl 1 rfl
    have k02 : w8.cell? ⟨C, 2, none⟩ = some (.int .i64 gl) := (HB.out.next HX.out).cell 0 rfl 2 rfl
    go_wp2_with fail
    refine HC3.out.mono ?_
    clear HC3 k00 k01 k02
    rintro e w9 ⟨x3, e3, rfl, hco, hx⟩
    replace HX := Lib.hid (HX.out.trans hx)
    replace HR := Lib.hid (HR.out.next hx)
    have HCO := Lib.hid hco
    clear hco
    clear hx
    have HC4 := Lib.hid (HC9.out w9 HX.out)
    have k00 : w9.cell? ⟨C, 0, none⟩ = some (.int .i64 d) := (HB.out.next HX.out).cell 0 rfl 0 rfl
    have k01 : w9.cell? ⟨C, 1, none⟩ = some (.slice GA ng Gc) := (HB.out.next HX.out).cell 0 rfl 1 rfl
    have k02 : w9.cell? ⟨C, 2, none⟩ = some (.int .i64 gl) := (HB.out.next HX.out).cell 0 rfl 2 rfl
    go_wp2_with fail
    refine HC4.out.mono ?_
    clear HC4 k00 k01 k02
    rintro e wA ⟨x4, e4, rfl, hco, hx⟩
    replace HX := Lib.hid (HX.out.trans hx)
    replace HR := Lib.hid (HR.out.next hx)
    clear hx
    obtain ⟨rfl, rfl⟩ := Lo.clash_one HCO.out hco
    clear hco
    have hR1 : Owns w1 (wA.alloc (.cells #[.int .i64 x3, .int .i64 e3] 45)) [⟨.slice (some ⟨Q1, 0, none⟩) 3 3, 38, 1, 3, [.string (sb s), .int .i64 bd, .int .i64 e1]⟩, ⟨.slice (some ⟨Q2, 0, none⟩) 2 2, 31, 1, 2, [.bool b2, .int .i64 e2]⟩, ⟨.slice (some ⟨wA.heap.size, 0, none⟩) 2 2, 45, 1, 2, [.int .i64 x3, .int .i64 e3]⟩] := (HR.out.wider.new 2 #[.int .i64 x3, .int .i64 e3] 45 (by simp [maxLen]))
    replace HR := Lib.hid hR1
    clear hR1
    go_upto_region 10 with fail
    obtain ⟨Q3, hQ3⟩ : ∃ x, wA.heap.size = x := ⟨_, rfl⟩
    obtain ⟨wB, hwB⟩ : ∃ x, wA.alloc (.cells #[.int .i64 x3, .int .i64 e3] 45) = x := ⟨_, rfl⟩
    rw [hQ3, hwB] at HR
    rw [hQ3, hwB]
    clear hQ3 hwB
    replace HX := Lib.hid HR.out.ext
    have HS8 := Lib.hid (HSA.out wB HX.out)
    go_wp2_with fail
    refine HS8.out.mono ?_
    clear HS8
    rintro e wC ⟨rfl, hx⟩
    replace HR := Lib.hid (HR.out.next hx)
    have z00 : wC.cell? ⟨Q1, 0, none⟩ = some (.string (sb s)) := HR.out.cell 0 rfl 0 rfl
    have z01 : wC.cell? ⟨Q1, 1, none⟩ = some (.int .i64 bd) := HR.out.cell 0 rfl 1 rfl
    have z02 : wC.cell? ⟨Q1, 2, none⟩ = some (.int .i64 e1) := HR.out.cell 0 rfl 2 rfl
    have z10 : wC.cell? ⟨Q2, 0, none⟩ = some (.bool b2) := HR.out.cell 1 rfl 0 rfl
    have z11 : wC.cell? ⟨Q2, 1, none⟩ = some (.int .i64 e2) := HR.out.cell 1 rfl 1 rfl
    have z20 : wC.cell? ⟨Q3, 0, none⟩ = some (.int .i64 x3) := HR.out.cell 2 rfl 0 rfl
    have z21 : wC.cell? ⟨Q3, 1, none⟩ = some (.int .i64 e3) := HR.out.cell 2 rfl 1 rfl
    have u0 : (!(sb s).toList == (sb s).toList) = false := sb_same rfl
    have u1 : (bd == bd) = true := by simp
    have u2 : (e1 == e1) = true := by simp
    have u3 : (b2 == b2) = true := by simp
    have u4 : (e2 == e2) = true := by simp
    have u5 : (x3 == x3) = true := by simp
    have u6 : (e3 == e3) = true := by simp
    have HE := Lib.hid (HB.out.ext.trans HR.out.ext)
    clear hx
    go_wp2_with fail
    go_ret
    exact ⟨rfl, HE.out⟩
end Go.Proofs.YtggfkpalkdkbdaaDoor
