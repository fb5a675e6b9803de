/- What the program's functions do, step by step: part F of the texts for this claim; no condition beyond what each theorem states. -/
import Derived.Test.YtdmljilcbndmfaaDoorRbTriBunA
import Derived.Test.YtdmljilcbndmfaaDoorRbTriBunB
import Derived.Test.YtdmljilcbndmfaaDoorRbTriBunC
import Derived.Test.YtdmljilcbndmfaaDoorRbTriBunD
import Derived.Test.YtdmljilcbndmfaaDoorRbTriBunE
/- THE WALK over small of the laws of rebuild. -/
namespace Rb
/-- The laws' test of a loss. -/
def Small (d gl : Int) (gs : List (List Int)) (data : List UInt8) (lost piece other most : Int) : Prop := Cd.few gs 30 = true ∧ 0 < Cd.pieces d gs gl ∧ Cd.pieces d gs gl ≤ most ∧ 0 ≤ lost ∧ lost < ((2 ^ (Cd.pieces d gs gl).toNat : Nat) : Int) ∧ 0 ≤ other ∧ other < ((2 ^ (Cd.pieces d gs gl).toNat : Nat) : Int) ∧ 0 ≤ piece ∧ piece < Cd.pieces d gs gl ∧ data.length ≤ 200
instance (d gl : Int) (gs : List (List Int)) (data : List UInt8) (lost piece other most : Int) : Decidable (Small d gl gs data lost piece other most) := by unfold Small; infer_instance
end Rb
namespace Go.Proofs.YtdmljilcbndmfaaDoor
open Go.RowKit Go.Shelf
theorem ex_lens {P : Program} {o : Oper} {a : Act} {w : World} {x : Operand} {t : TypeId} {b : ByteArray} {n : Nat} (ho : o.op = .call { callee := .builtin .len, args := #[x], argTypes := #[t] }) (ht : P.underlying t = some .string) (hx : a.eval x = .string b) (hn : b.size = n) : (execOp a.eval o).run P w = .ok (.value (.int .i64 n)) w := by
  subst hn
  unfold execOp
  simp only [ho, resolve, invoke, builtin, Sem.run_bind, Sem.run_pure, Result.andThen_ok, List.map_toArray, List.map_cons, List.map_nil, hx]
  simp [Builtin.len_, run_underlying ht, Result.andThen]
  rfl
theorem wrap_two (N : Nat) (h : N < 62) : IntKind.i64.wrap (2 ^ N) = ((2 ^ N : Nat) : Int) := by
  have := wrap_pow N h
  rw [IntKind.wrap_i64]; unfold wrap64 at this; exact this
noncomputable def sm_0_code : Code := ((Tryd.f27.body.bind (regionOf 2)).getD .skip)
def sm_0_dsts : List (Option Nat) := [some 9, some 10, some 11, some 12, some 13, some 14, some 15, some 16, some 17, some 18, some 19, some 20, some 21, some 22, some 23, some 24, some 25, some 26, some 27, some 28, some 29, some 30, some 31, some 32, some 33, some 34, some 35, some 36, some 37, some 38, some 39, some 40, some 41, some 42, some 43, some 44, some 45, some 46, some 47, some 48, some 49, some 50, some 51, some 52, some 53, some 54, some 55, some 56, some 57, some 58, some 59, some 60, some 61, some 4]
theorem sm_0_apart : apartD sm_0_dsts = true := by decide +kernel
set_option maxRecDepth 1000000 in
set_option maxHeartbeats 16000000 in
theorem sm_0 (wr : World) (B c most : Nat) (d gl n lost piece other : Int) (gs : List (List Int)) (A : Option Addr) (data : List UInt8) (HG : Hid (Rs (Rs RI) wr (.slice A gs.length c) gs)) (HB : Hid (Cells wr B [.int .i64 d, .slice A gs.length c, .int .i64 gl, .string (sb data), .int .i64 lost, .int .i64 piece, .int .i64 other])) (HF : Hid (Cd.few gs 30 = false)) (c0 c3 c4 c6 c7 c8 c9 c10 c11 c12 c13 c14 c15 c16 c17 c18 c19 c20 c21 c22 c23 c24 c25 c26 c27 c28 c29 c30 c31 c32 c33 c34 c35 c36 c37 c38 c39 c40 c41 c42 c43 c44 c45 c46 c47 c48 c49 c50 c51 c52 c53 c54 c55 c56 c57 c58 c59 c60 c61 : Value) (df : List Deferred) (K : Act → World → Prop)
    (hK : ∀  (u9 u10 u11 u12 u13 u14 u15 u16 u17 u18 u19 u20 u21 u22 u23 u24 u25 u26 u27 u28 u29 u30 u31 u32 u33 u34 u35 u36 u37 u38 u39 u40 u41 u42 u43 u44 u45 u46 u47 u48 u49 u50 u51 u52 u53 u54 u55 u56 u57 u58 u59 u60 u61 : Value) (wx : World), Ext wr wx → K ⟨#[c0, .int .i64 (most : Nat), .pointer (some ⟨B, 0, none⟩), c3, .bool false, .int .i64 n, c6, c7, c8, u9, u10, u11, u12, u13, u14, u15, u16, u17, u18, u19, u20, u21, u22, u23, u24, u25, u26, u27, u28, u29, u30, u31, u32, u33, u34, u35, u36, u37, u38, u39, u40, u41, u42, u43, u44, u45, u46, u47, u48, u49, u50, u51, u52, u53, u54, u55, u56, u57, u58, u59, u60, u61], df⟩ wx) :
    Code.wp Tryd.prog sm_0_code (AtEnd K) ⟨#[c0, .int .i64 (most : Nat), .pointer (some ⟨B, 0, none⟩), c3, c4, .int .i64 n, c6, c7, c8, c9, c10, c11, c12, c13, c14, c15, c16, c17, c18, c19, c20, c21, c22, c23, c24, c25, c26, c27, c28, c29, c30, c31, c32, c33, c34, c35, c36, c37, c38, c39, c40, c41, c42, c43, c44, c45, c46, c47, c48, c49, c50, c51, c52, c53, c54, c55, c56, c57, c58, c59, c60, c61], df⟩ wr := by
  conv => arg 2; whnf
  refine region_inv (by kernel_rfl) [[], [0], [1], [2, 2], [3], [4, 3], [3, 5], [6, 3], [7], [7], [8, 9, 7], [7, 10], [11, 7], [12], [13, 12], [14, 12], [12, 15], [16, 12], [17], [18, 17], [17], [20, 17], [19, 21, 17], [17, 22], [23, 17], [24], [25, 24], [26, 24], [24, 27], [28, 24], [29], [30, 29], [29], [32, 29], [31, 33, 29], [29, 34], [35, 29], [36], [37, 36], [38, 36], [36, 39], [40, 36], [41], [42, 41], [41], [43, 44, 41], [41, 45], [46, 41], [47], [48, 47], [49, 47], [50, 47], [47, 51], [52, 47, 0, 1, 2, 3, 4, 5, 6, 7, 8, 9, 10, 11, 12, 13, 14, 15, 16, 17, 18, 19, 20, 21, 22, 23, 24, 25, 26, 27, 28, 29, 30, 31, 32, 33, 34, 35, 36, 37, 38, 39, 40, 41, 42, 43, 44, 45, 46, 47, 48, 49, 50, 51, 52]] (by kernel_rfl) [0, 1, 2, 3, 4, 5, 6, 7, 8, 9, 10, 11, 12, 13, 14, 15, 16, 17, 18, 19, 20, 21, 22, 23, 24, 25, 26, 27, 28, 29, 30, 31, 32, 33, 34, 35, 36, 37, 38, 39, 40, 41, 42, 43, 44, 45, 46, 47, 48, 49, 50, 51, 52, 53] (by decide +kernel) (by decide +kernel) (by decide +kernel) (fun L a wc => Inv sm_0_dsts [.pointer (some ⟨B, 0, none⟩), .agg #[.int .i64 d, .slice A gs.length c, .int .i64 gl], .bool false, .bool false, undef, undef, .bool false, .bool false, undef, undef, undef, .bool false, .bool false, undef, undef, undef, .bool false, .bool false, undef, undef, undef, undef, undef, .bool false, .bool false, undef, undef, undef, .bool false, .bool false, undef, undef, undef, undef, undef, .bool false, .bool false, undef, undef, undef, .bool false, .bool false, undef, undef, undef, undef, .bool false, .bool false, undef, undef, undef, undef, .bool false, .bool false] ⟨#[c0, .int .i64 (most : Nat), .pointer (some ⟨B, 0, none⟩), c3, c4, .int .i64 n, c6, c7, c8, c9, c10, c11, c12, c13, c14, c15, c16, c17, c18, c19, c20, c21, c22, c23, c24, c25, c26, c27, c28, c29, c30, c31, c32, c33, c34, c35, c36, c37, c38, c39, c40, c41, c42, c43, c44, c45, c46, c47, c48, c49, c50, c51, c52, c53, c54, c55, c56, c57, c58, c59, c60, c61], df⟩ L a ∧ Hid (Ext wr wc)) ⟨Inv.start, Lib.hid ((Ext.refl wr).drew)⟩ ?_ ?_
  · refine ⟨?_, ?_, ?_, ?_, ?_, ?_, ?_, ?_, ?_, ?_, ?_, ?_, ?_, ?_, ?_, ?_, ?_, ?_, ?_, ?_, ?_, ?_, ?_, ?_, ?_, ?_, ?_, ?_, ?_, ?_, ?_, ?_, ?_, ?_, ?_, ?_, ?_, ?_, ?_, ?_, ?_, ?_, ?_, ?_, ?_, ?_, ?_, ?_, ?_, ?_, ?_, ?_, ?_, ?_, trivial⟩
    ·
      rintro L a wc ⟨hv, HO⟩ hL hc hd
      exact wpOp_val rfl rfl (ex_field rfl ((hv.fixed 2 (by decide)).trans rfl) (by go_simp)) ⟨hv.put sm_0_apart 0 rfl (lb rfl) (lb rfl) rfl, HO⟩
    ·
      rintro L a wc ⟨hv, HO⟩ hL hc hd
      have h0 : wc.cell? ⟨B, 0, none⟩ = some (.int .i64 d) := HO.out.cell (HB.out 0 _ rfl)
      have h1 : wc.cell? ⟨B, 1, none⟩ = some (.slice A gs.length c) := HO.out.cell (HB.out 1 _ rfl)
      have h2 : wc.cell? ⟨B, 2, none⟩ = some (.int .i64 gl) := HO.out.cell (HB.out 2 _ rfl)
      exact wpOp_val rfl rfl (ex_load rfl (hv.get 0 rfl rfl (hd 0 (by decide))) (by go_simp)) ⟨hv.put sm_0_apart 1 rfl (lb rfl) (lb rfl) rfl, HO⟩
    ·
      rintro L a wc ⟨hv, HO⟩ hL hc hd
      have hf := HF.out
      refine wpOp_call (R := fun v w1 => v = .bool false ∧ Ext wc w1) rfl rfl (ex_call rfl rfl (by simp only [List.map_toArray, List.map_cons, List.map_nil, (hv.get 1 rfl rfl (hd 1 (by decide)))]; rfl) (enters_of Tryd.func35 (by kernel_rfl) rfl _ _)) ((rFew_any d gl gs 30 _ wc (Rs.ext (Rs.ext RI.ext) _ _ _ _ HO.out HG.out) (by decide)).mono (fun e w' h => ⟨_, h.1.trans (by rw [HF.out]), rfl, h.2⟩)) ?_
      rintro v w' ⟨rfl, hx⟩
      exact ⟨hv.put sm_0_apart 2 rfl (lb rfl) (lb rfl) rfl, Lib.hid (HO.out.trans hx)⟩
    ·
      rintro L a wc ⟨hv, HO⟩ hL hc hd
      exact wpOp_val rfl rfl (ex_move rfl (hv.get 2 rfl rfl (hd 2 (by decide)))) ⟨hv.put sm_0_apart 3 rfl (lb rfl) (lb rfl) rfl, HO⟩
    ·
      rintro L a wc ⟨hv, HO⟩ hL hc hd
      exact wpOp_off rfl ((wanted_at rfl rfl (hv.get 3 rfl rfl (hd 3 (by decide)))).trans rfl) ⟨hv.put sm_0_apart 4 rfl (lb rfl) (lb rfl) rfl, HO⟩
    ·
      rintro L a wc ⟨hv, HO⟩ hL hc hd
      exact wpOp_off rfl ((wanted_at rfl rfl (hv.get 3 rfl rfl (hd 3 (by decide)))).trans rfl) ⟨hv.put sm_0_apart 5 rfl (lb rfl) (lb rfl) rfl, HO⟩
    ·
      rintro L a wc ⟨hv, HO⟩ hL hc hd
      exact wpOp_val rfl rfl (ex_pick rfl (hv.get 3 rfl rfl (hd 3 (by decide))) rfl) ⟨hv.put sm_0_apart 6 rfl (lb rfl) (lb rfl) rfl, HO⟩
    ·
      rintro L a wc ⟨hv, HO⟩ hL hc hd
      exact wpOp_val rfl rfl (ex_move rfl (hv.get 6 rfl rfl (hd 6 (by decide)))) ⟨hv.put sm_0_apart 7 rfl (lb rfl) (lb rfl) rfl, HO⟩
    ·
      rintro L a wc ⟨hv, HO⟩ hL hc hd
      exact wpOp_off rfl ((wanted_at rfl rfl (hv.get 7 rfl rfl (hd 7 (by decide)))).trans rfl) ⟨hv.put sm_0_apart 8 rfl (lb rfl) (lb rfl) rfl, HO⟩
    ·
      rintro L a wc ⟨hv, HO⟩ hL hc hd
      exact wpOp_off rfl ((wanted_at rfl rfl (hv.get 7 rfl rfl (hd 7 (by decide)))).trans rfl) ⟨hv.put sm_0_apart 9 rfl (lb rfl) (lb rfl) rfl, HO⟩
    ·
      rintro L a wc ⟨hv, HO⟩ hL hc hd
      exact wpOp_off rfl ((wanted_at rfl rfl (hv.get 7 rfl rfl (hd 7 (by decide)))).trans rfl) ⟨hv.put sm_0_apart 10 rfl (lb rfl) (lb rfl) rfl, HO⟩
    ·
      rintro L a wc ⟨hv, HO⟩ hL hc hd
      exact wpOp_val rfl rfl (ex_pick rfl (hv.get 7 rfl rfl (hd 7 (by decide))) rfl) ⟨hv.put sm_0_apart 11 rfl (lb rfl) (lb rfl) rfl, HO⟩
    ·
      rintro L a wc ⟨hv, HO⟩ hL hc hd
      exact wpOp_val rfl rfl (ex_move rfl (hv.get 11 rfl rfl (hd 11 (by decide)))) ⟨hv.put sm_0_apart 12 rfl (lb rfl) (lb rfl) rfl, HO⟩
    ·
      rintro L a wc ⟨hv, HO⟩ hL hc hd
      exact wpOp_off rfl ((wanted_at rfl rfl (hv.get 12 rfl rfl (hd 12 (by decide)))).trans rfl) ⟨hv.put sm_0_apart 13 rfl (lb rfl) (lb rfl) rfl, HO⟩
    ·
      rintro L a wc ⟨hv, HO⟩ hL hc hd
      exact wpOp_off rfl ((wanted_at rfl rfl (hv.get 12 rfl rfl (hd 12 (by decide)))).trans rfl) ⟨hv.put sm_0_apart 14 rfl (lb rfl) (lb rfl) rfl, HO⟩
    ·
      rintro L a wc ⟨hv, HO⟩ hL hc hd
      exact wpOp_off rfl ((wanted_at rfl rfl (hv.get 12 rfl rfl (hd 12 (by decide)))).trans rfl) ⟨hv.put sm_0_apart 15 rfl (lb rfl) (lb rfl) rfl, HO⟩
    ·
      rintro L a wc ⟨hv, HO⟩ hL hc hd
      exact wpOp_val rfl rfl (ex_pick rfl (hv.get 12 rfl rfl (hd 12 (by decide))) rfl) ⟨hv.put sm_0_apart 16 rfl (lb rfl) (lb rfl) rfl, HO⟩
    ·
      rintro L a wc ⟨hv, HO⟩ hL hc hd
      exact wpOp_val rfl rfl (ex_move rfl (hv.get 16 rfl rfl (hd 16 (by decide)))) ⟨hv.put sm_0_apart 17 rfl (lb rfl) (lb rfl) rfl, HO⟩
    ·
      rintro L a wc ⟨hv, HO⟩ hL hc hd
      exact wpOp_off rfl ((wanted_at rfl rfl (hv.get 17 rfl rfl (hd 17 (by decide)))).trans rfl) ⟨hv.put sm_0_apart 18 rfl (lb rfl) (lb rfl) rfl, HO⟩
    ·
      rintro L a wc ⟨hv, HO⟩ hL hc hd
      exact wpOp_off rfl ((wanted_at rfl rfl (hv.get 17 rfl rfl (hd 17 (by decide)))).trans rfl) ⟨hv.put sm_0_apart 19 rfl (lb rfl) (lb rfl) rfl, HO⟩
    ·
      rintro L a wc ⟨hv, HO⟩ hL hc hd
      exact wpOp_off rfl ((wanted_at rfl rfl (hv.get 17 rfl rfl (hd 17 (by decide)))).trans rfl) ⟨hv.put sm_0_apart 20 rfl (lb rfl) (lb rfl) rfl, HO⟩
    ·
      rintro L a wc ⟨hv, HO⟩ hL hc hd
      exact wpOp_off rfl ((wanted_at rfl rfl (hv.get 17 rfl rfl (hd 17 (by decide)))).trans rfl) ⟨hv.put sm_0_apart 21 rfl (lb rfl) (lb rfl) rfl, HO⟩
    ·
      rintro L a wc ⟨hv, HO⟩ hL hc hd
      exact wpOp_off rfl ((wanted_at rfl rfl (hv.get 17 rfl rfl (hd 17 (by decide)))).trans rfl) ⟨hv.put sm_0_apart 22 rfl (lb rfl) (lb rfl) rfl, HO⟩
    ·
      rintro L a wc ⟨hv, HO⟩ hL hc hd
      exact wpOp_val rfl rfl (ex_pick rfl (hv.get 17 rfl rfl (hd 17 (by decide))) rfl) ⟨hv.put sm_0_apart 23 rfl (lb rfl) (lb rfl) rfl, HO⟩
    ·
      rintro L a wc ⟨hv, HO⟩ hL hc hd
      exact wpOp_val rfl rfl (ex_move rfl (hv.get 23 rfl rfl (hd 23 (by decide)))) ⟨hv.put sm_0_apart 24 rfl (lb rfl) (lb rfl) rfl, HO⟩
    ·
      rintro L a wc ⟨hv, HO⟩ hL hc hd
      exact wpOp_off rfl ((wanted_at rfl rfl (hv.get 24 rfl rfl (hd 24 (by decide)))).trans rfl) ⟨hv.put sm_0_apart 25 rfl (lb rfl) (lb rfl) rfl, HO⟩
    ·
      rintro L a wc ⟨hv, HO⟩ hL hc hd
      exact wpOp_off rfl ((wanted_at rfl rfl (hv.get 24 rfl rfl (hd 24 (by decide)))).trans rfl) ⟨hv.put sm_0_apart 26 rfl (lb rfl) (lb rfl) rfl, HO⟩
    ·
      rintro L a wc ⟨hv, HO⟩ hL hc hd
      exact wpOp_off rfl ((wanted_at rfl rfl (hv.get 24 rfl rfl (hd 24 (by decide)))).trans rfl) ⟨hv.put sm_0_apart 27 rfl (lb rfl) (lb rfl) rfl, HO⟩
    ·
      rintro L a wc ⟨hv, HO⟩ hL hc hd
      exact wpOp_val rfl rfl (ex_pick rfl (hv.get 24 rfl rfl (hd 24 (by decide))) rfl) ⟨hv.put sm_0_apart 28 rfl (lb rfl) (lb rfl) rfl, HO⟩
    ·
      rintro L a wc ⟨hv, HO⟩ hL hc hd
      exact wpOp_val rfl rfl (ex_move rfl (hv.get 28 rfl rfl (hd 28 (by decide)))) ⟨hv.put sm_0_apart 29 rfl (lb rfl) (lb rfl) rfl, HO⟩
    ·
      rintro L a wc ⟨hv, HO⟩ hL hc hd
      exact wpOp_off rfl ((wanted_at rfl rfl (hv.get 29 rfl rfl (hd 29 (by decide)))).trans rfl) ⟨hv.put sm_0_apart 30 rfl (lb rfl) (lb rfl) rfl, HO⟩
    ·
      rintro L a wc ⟨hv, HO⟩ hL hc hd
      exact wpOp_off rfl ((wanted_at rfl rfl (hv.get 29 rfl rfl (hd 29 (by decide)))).trans rfl) ⟨hv.put sm_0_apart 31 rfl (lb rfl) (lb rfl) rfl, HO⟩
    ·
      rintro L a wc ⟨hv, HO⟩ hL hc hd
      exact wpOp_off rfl ((wanted_at rfl rfl (hv.get 29 rfl rfl (hd 29 (by decide)))).trans rfl) ⟨hv.put sm_0_apart 32 rfl (lb rfl) (lb rfl) rfl, HO⟩
    ·
      rintro L a wc ⟨hv, HO⟩ hL hc hd
      exact wpOp_off rfl ((wanted_at rfl rfl (hv.get 29 rfl rfl (hd 29 (by decide)))).trans rfl) ⟨hv.put sm_0_apart 33 rfl (lb rfl) (lb rfl) rfl, HO⟩
    ·
      rintro L a wc ⟨hv, HO⟩ hL hc hd
      exact wpOp_off rfl ((wanted_at rfl rfl (hv.get 29 rfl rfl (hd 29 (by decide)))).trans rfl) ⟨hv.put sm_0_apart 34 rfl (lb rfl) (lb rfl) rfl, HO⟩
    ·
      rintro L a wc ⟨hv, HO⟩ hL hc hd
      exact wpOp_val rfl rfl (ex_pick rfl (hv.get 29 rfl rfl (hd 29 (by decide))) rfl) ⟨hv.put sm_0_apart 35 rfl (lb rfl) (lb rfl) rfl, HO⟩
    ·
      rintro L a wc ⟨hv, HO⟩ hL hc hd
      exact wpOp_val rfl rfl (ex_move rfl (hv.get 35 rfl rfl (hd 35 (by decide)))) ⟨hv.put sm_0_apart 36 rfl (lb rfl) (lb rfl) rfl, HO⟩
    ·
      rintro L a wc ⟨hv, HO⟩ hL hc hd
      exact wpOp_off rfl ((wanted_at rfl rfl (hv.get 36 rfl rfl (hd 36 (by decide)))).trans rfl) ⟨hv.put sm_0_apart 37 rfl (lb rfl) (lb rfl) rfl, HO⟩
    ·
      rintro L a wc ⟨hv, HO⟩ hL hc hd
      exact wpOp_off rfl ((wanted_at rfl rfl (hv.get 36 rfl rfl (hd 36 (by decide)))).trans rfl) ⟨hv.put sm_0_apart 38 rfl (lb rfl) (lb rfl) rfl, HO⟩
    ·
      rintro L a wc ⟨hv, HO⟩ hL hc hd
      exact wpOp_off rfl ((wanted_at rfl rfl (hv.get 36 rfl rfl (hd 36 (by decide)))).trans rfl) ⟨hv.put sm_0_apart 39 rfl (lb rfl) (lb rfl) rfl, HO⟩
    ·
      rintro L a wc ⟨hv, HO⟩ hL hc hd
      exact wpOp_val rfl rfl (ex_pick rfl (hv.get 36 rfl rfl (hd 36 (by decide))) rfl) ⟨hv.put sm_0_apart 40 rfl (lb rfl) (lb rfl) rfl, HO⟩
    ·
      rintro L a wc ⟨hv, HO⟩ hL hc hd
      exact wpOp_val rfl rfl (ex_move rfl (hv.get 40 rfl rfl (hd 40 (by decide)))) ⟨hv.put sm_0_apart 41 rfl (lb rfl) (lb rfl) rfl, HO⟩
    ·
      rintro L a wc ⟨hv, HO⟩ hL hc hd
      exact wpOp_off rfl ((wanted_at rfl rfl (hv.get 41 rfl rfl (hd 41 (by decide)))).trans rfl) ⟨hv.put sm_0_apart 42 rfl (lb rfl) (lb rfl) rfl, HO⟩
    ·
      rintro L a wc ⟨hv, HO⟩ hL hc hd
      exact wpOp_off rfl ((wanted_at rfl rfl (hv.get 41 rfl rfl (hd 41 (by decide)))).trans rfl) ⟨hv.put sm_0_apart 43 rfl (lb rfl) (lb rfl) rfl, HO⟩
    ·
      rintro L a wc ⟨hv, HO⟩ hL hc hd
      exact wpOp_off rfl ((wanted_at rfl rfl (hv.get 41 rfl rfl (hd 41 (by decide)))).trans rfl) ⟨hv.put sm_0_apart 44 rfl (lb rfl) (lb rfl) rfl, HO⟩
    ·
      rintro L a wc ⟨hv, HO⟩ hL hc hd
      exact wpOp_off rfl ((wanted_at rfl rfl (hv.get 41 rfl rfl (hd 41 (by decide)))).trans rfl) ⟨hv.put sm_0_apart 45 rfl (lb rfl) (lb rfl) rfl, HO⟩
    ·
      rintro L a wc ⟨hv, HO⟩ hL hc hd
      exact wpOp_val rfl rfl (ex_pick rfl (hv.get 41 rfl rfl (hd 41 (by decide))) rfl) ⟨hv.put sm_0_apart 46 rfl (lb rfl) (lb rfl) rfl, HO⟩
    ·
      rintro L a wc ⟨hv, HO⟩ hL hc hd
      exact wpOp_val rfl rfl (ex_move rfl (hv.get 46 rfl rfl (hd 46 (by decide)))) ⟨hv.put sm_0_apart 47 rfl (lb rfl) (lb rfl) rfl, HO⟩
    ·
      rintro L a wc ⟨hv, HO⟩ hL hc hd
      exact wpOp_off rfl ((wanted_at rfl rfl (hv.get 47 rfl rfl (hd 47 (by decide)))).trans rfl) ⟨hv.put sm_0_apart 48 rfl (lb rfl) (lb rfl) rfl, HO⟩
    ·
      rintro L a wc ⟨hv, HO⟩ hL hc hd
      exact wpOp_off rfl ((wanted_at rfl rfl (hv.get 47 rfl rfl (hd 47 (by decide)))).trans rfl) ⟨hv.put sm_0_apart 49 rfl (lb rfl) (lb rfl) rfl, HO⟩
    ·
      rintro L a wc ⟨hv, HO⟩ hL hc hd
      exact wpOp_off rfl ((wanted_at rfl rfl (hv.get 47 rfl rfl (hd 47 (by decide)))).trans rfl) ⟨hv.put sm_0_apart 50 rfl (lb rfl) (lb rfl) rfl, HO⟩
    ·
      rintro L a wc ⟨hv, HO⟩ hL hc hd
      exact wpOp_off rfl ((wanted_at rfl rfl (hv.get 47 rfl rfl (hd 47 (by decide)))).trans rfl) ⟨hv.put sm_0_apart 51 rfl (lb rfl) (lb rfl) rfl, HO⟩
    ·
      rintro L a wc ⟨hv, HO⟩ hL hc hd
      exact wpOp_val rfl rfl (ex_pick rfl (hv.get 47 rfl rfl (hd 47 (by decide))) rfl) ⟨hv.put sm_0_apart 52 rfl (lb rfl) (lb rfl) rfl, HO⟩
    ·
      rintro L a wc ⟨hv, HO⟩ hL hc hd
      exact wpOp_val rfl rfl (ex_assign rfl (hv.get 52 rfl rfl (hd 52 (by decide)))) ⟨hv.put sm_0_apart 53 rfl (lb rfl) (lb rfl) rfl, HO⟩
  · rintro L a wc ⟨hv, HO⟩ hall
    show K a wc
    have ha := act_lit a
    rw [hv.size, hv.defers] at ha
    have hl : ∀ f : Nat → Value, ((List.range (⟨#[c0, .int .i64 (most : Nat), .pointer (some ⟨B, 0, none⟩), c3, c4, .int .i64 n, c6, c7, c8, c9, c10, c11, c12, c13, c14, c15, c16, c17, c18, c19, c20, c21, c22, c23, c24, c25, c26, c27, c28, c29, c30, c31, c32, c33, c34, c35, c36, c37, c38, c39, c40, c41, c42, c43, c44, c45, c46, c47, c48, c49, c50, c51, c52, c53, c54, c55, c56, c57, c58, c59, c60, c61], df⟩ : Act).tmps.size).map f).toArray = #[f 0, f 1, f 2, f 3, f 4, f 5, f 6, f 7, f 8, f 9, f 10, f 11, f 12, f 13, f 14, f 15, f 16, f 17, f 18, f 19, f 20, f 21, f 22, f 23, f 24, f 25, f 26, f 27, f 28, f 29, f 30, f 31, f 32, f 33, f 34, f 35, f 36, f 37, f 38, f 39, f 40, f 41, f 42, f 43, f 44, f 45, f 46, f 47, f 48, f 49, f 50, f 51, f 52, f 53, f 54, f 55, f 56, f 57, f 58, f 59, f 60, f 61] := fun _ => rfl
    rw [hl] at ha
    simp only [hv.fixed 0 (by decide), hv.fixed 1 (by decide), hv.fixed 2 (by decide), hv.fixed 3 (by decide), hv.fixed 5 (by decide), hv.fixed 6 (by decide), hv.fixed 7 (by decide), hv.fixed 8 (by decide), hv.get 53 (d := 4) rfl rfl (hall 53 (by decide))] at ha
    rw [ha]
    exact hK _ _ _ _ _ _ _ _ _ _ _ _ _ _ _ _ _ _ _ _ _ _ _ _ _ _ _ _ _ _ _ _ _ _ _ _ _ _ _ _ _ _ _ _ _ _ _ _ _ _ _ _ _ wc HO.out
noncomputable def sm_1_code : Code := ((Tryd.f27.body.bind (regionOf 2)).getD .skip)
def sm_1_dsts : List (Option Nat) := [some 9, some 10, some 11, some 12, some 13, some 14, some 15, some 16, some 17, some 18, some 19, some 20, some 21, some 22, some 23, some 24, some 25, some 26, some 27, some 28, some 29, some 30, some 31, some 32, some 33, some 34, some 35, some 36, some 37, some 38, some 39, some 40, some 41, some 42, some 43, some 44, some 45, some 46, some 47, some 48, some 49, some 50, some 51, some 52, some 53, some 54, some 55, some 56, some 57, some 58, some 59, some 60, some 61, some 4]
theorem sm_1_apart : apartD sm_1_dsts = true := by decide +kernel
set_option maxRecDepth 1000000 in
set_option maxHeartbeats 16000000 in
theorem sm_1 (wr : World) (B c most : Nat) (d gl n lost piece other : Int) (gs : List (List Int)) (A : Option Addr) (data : List UInt8) (HG : Hid (Rs (Rs RI) wr (.slice A gs.length c) gs)) (HB : Hid (Cells wr B [.int .i64 d, .slice A gs.length c, .int .i64 gl, .string (sb data), .int .i64 lost, .int .i64 piece, .int .i64 other])) (HF : Hid (Cd.few gs 30 = true)) (H1 : Hid (¬ (0 < n))) (c0 c3 c4 c6 c7 c8 c9 c10 c11 c12 c13 c14 c15 c16 c17 c18 c19 c20 c21 c22 c23 c24 c25 c26 c27 c28 c29 c30 c31 c32 c33 c34 c35 c36 c37 c38 c39 c40 c41 c42 c43 c44 c45 c46 c47 c48 c49 c50 c51 c52 c53 c54 c55 c56 c57 c58 c59 c60 c61 : Value) (df : List Deferred) (K : Act → World → Prop)
    (hK : ∀  (u9 u10 u11 u12 u13 u14 u15 u16 u17 u18 u19 u20 u21 u22 u23 u24 u25 u26 u27 u28 u29 u30 u31 u32 u33 u34 u35 u36 u37 u38 u39 u40 u41 u42 u43 u44 u45 u46 u47 u48 u49 u50 u51 u52 u53 u54 u55 u56 u57 u58 u59 u60 u61 : Value) (wx : World), Ext wr wx → K ⟨#[c0, .int .i64 (most : Nat), .pointer (some ⟨B, 0, none⟩), c3, .bool false, .int .i64 n, c6, c7, c8, u9, u10, u11, u12, u13, u14, u15, u16, u17, u18, u19, u20, u21, u22, u23, u24, u25, u26, u27, u28, u29, u30, u31, u32, u33, u34, u35, u36, u37, u38, u39, u40, u41, u42, u43, u44, u45, u46, u47, u48, u49, u50, u51, u52, u53, u54, u55, u56, u57, u58, u59, u60, u61], df⟩ wx) :
    Code.wp Tryd.prog sm_1_code (AtEnd K) ⟨#[c0, .int .i64 (most : Nat), .pointer (some ⟨B, 0, none⟩), c3, c4, .int .i64 n, c6, c7, c8, c9, c10, c11, c12, c13, c14, c15, c16, c17, c18, c19, c20, c21, c22, c23, c24, c25, c26, c27, c28, c29, c30, c31, c32, c33, c34, c35, c36, c37, c38, c39, c40, c41, c42, c43, c44, c45, c46, c47, c48, c49, c50, c51, c52, c53, c54, c55, c56, c57, c58, c59, c60, c61], df⟩ wr := by
  conv => arg 2; whnf
  refine region_inv (by kernel_rfl) [[], [0], [1], [2, 2], [3], [4, 3], [3, 5], [6, 3], [7], [7], [8, 9, 7], [7, 10], [11, 7], [12], [13, 12], [14, 12], [12, 15], [16, 12], [17], [18, 17], [17], [20, 17], [19, 21, 17], [17, 22], [23, 17], [24], [25, 24], [26, 24], [24, 27], [28, 24], [29], [30, 29], [29], [32, 29], [31, 33, 29], [29, 34], [35, 29], [36], [37, 36], [38, 36], [36, 39], [40, 36], [41], [42, 41], [41], [43, 44, 41], [41, 45], [46, 41], [47], [48, 47], [49, 47], [50, 47], [47, 51], [52, 47, 0, 1, 2, 3, 4, 5, 6, 7, 8, 9, 10, 11, 12, 13, 14, 15, 16, 17, 18, 19, 20, 21, 22, 23, 24, 25, 26, 27, 28, 29, 30, 31, 32, 33, 34, 35, 36, 37, 38, 39, 40, 41, 42, 43, 44, 45, 46, 47, 48, 49, 50, 51, 52]] (by kernel_rfl) [0, 1, 2, 3, 4, 5, 6, 7, 8, 9, 10, 11, 12, 13, 14, 15, 16, 17, 18, 19, 20, 21, 22, 23, 24, 25, 26, 27, 28, 29, 30, 31, 32, 33, 34, 35, 36, 37, 38, 39, 40, 41, 42, 43, 44, 45, 46, 47, 48, 49, 50, 51, 52, 53] (by decide +kernel) (by decide +kernel) (by decide +kernel) (fun L a wc => Inv sm_1_dsts [.pointer (some ⟨B, 0, none⟩), .agg #[.int .i64 d, .slice A gs.length c, .int .i64 gl], .bool true, .bool true, .int .i64 n, .bool false, .bool false, .bool false, undef, undef, undef, .bool false, .bool false, undef, undef, undef, .bool false, .bool false, undef, undef, undef, undef, undef, .bool false, .bool false, undef, undef, undef, .bool false, .bool false, undef, undef, undef, undef, undef, .bool false, .bool false, undef, undef, undef, .bool false, .bool false, undef, undef, undef, undef, .bool false, .bool false, undef, undef, undef, undef, .bool false, .bool false] ⟨#[c0, .int .i64 (most : Nat), .pointer (some ⟨B, 0, none⟩), c3, c4, .int .i64 n, c6, c7, c8, c9, c10, c11, c12, c13, c14, c15, c16, c17, c18, c19, c20, c21, c22, c23, c24, c25, c26, c27, c28, c29, c30, c31, c32, c33, c34, c35, c36, c37, c38, c39, c40, c41, c42, c43, c44, c45, c46, c47, c48, c49, c50, c51, c52, c53, c54, c55, c56, c57, c58, c59, c60, c61], df⟩ L a ∧ Hid (Ext wr wc)) ⟨Inv.start, Lib.hid ((Ext.refl wr).drew)⟩ ?_ ?_
  · refine ⟨?_, ?_, ?_, ?_, ?_, ?_, ?_, ?_, ?_, ?_, ?_, ?_, ?_, ?_, ?_, ?_, ?_, ?_, ?_, ?_, ?_, ?_, ?_, ?_, ?_, ?_, ?_, ?_, ?_, ?_, ?_, ?_, ?_, ?_, ?_, ?_, ?_, ?_, ?_, ?_, ?_, ?_, ?_, ?_, ?_, ?_, ?_, ?_, ?_, ?_, ?_, ?_, ?_, ?_, trivial⟩
    ·
      rintro L a wc ⟨hv, HO⟩ hL hc hd
      exact wpOp_val rfl rfl (ex_field rfl ((hv.fixed 2 (by decide)).trans rfl) (by go_simp)) ⟨hv.put sm_1_apart 0 rfl (lb rfl) (lb rfl) rfl, HO⟩
    ·
      rintro L a wc ⟨hv, HO⟩ hL hc hd
      have h0 : wc.cell? ⟨B, 0, none⟩ = some (.int .i64 d) := HO.out.cell (HB.out 0 _ rfl)
      have h1 : wc.cell? ⟨B, 1, none⟩ = some (.slice A gs.length c) := HO.out.cell (HB.out 1 _ rfl)
      have h2 : wc.cell? ⟨B, 2, none⟩ = some (.int .i64 gl) := HO.out.cell (HB.out 2 _ rfl)
      exact wpOp_val rfl rfl (ex_load rfl (hv.get 0 rfl rfl (hd 0 (by decide))) (by go_simp)) ⟨hv.put sm_1_apart 1 rfl (lb rfl) (lb rfl) rfl, HO⟩
    ·
      rintro L a wc ⟨hv, HO⟩ hL hc hd
      have hf := HF.out
      refine wpOp_call (R := fun v w1 => v = .bool true ∧ Ext wc w1) rfl rfl (ex_call rfl rfl (by simp only [List.map_toArray, List.map_cons, List.map_nil, (hv.get 1 rfl rfl (hd 1 (by decide)))]; rfl) (enters_of Tryd.func35 (by kernel_rfl) rfl _ _)) ((rFew_any d gl gs 30 _ wc (Rs.ext (Rs.ext RI.ext) _ _ _ _ HO.out HG.out) (by decide)).mono (fun e w' h => ⟨_, h.1.trans (by rw [HF.out]), rfl, h.2⟩)) ?_
      rintro v w' ⟨rfl, hx⟩
      exact ⟨hv.put sm_1_apart 2 rfl (lb rfl) (lb rfl) rfl, Lib.hid (HO.out.trans hx)⟩
    ·
      rintro L a wc ⟨hv, HO⟩ hL hc hd
      exact wpOp_val rfl rfl (ex_move rfl (hv.get 2 rfl rfl (hd 2 (by decide)))) ⟨hv.put sm_1_apart 3 rfl (lb rfl) (lb rfl) rfl, HO⟩
    ·
      rintro L a wc ⟨hv, HO⟩ hL hc hd
      exact wpOp_val rfl ((wanted_at rfl rfl (hv.get 3 rfl rfl (hd 3 (by decide)))).trans rfl) (ex_move rfl ((hv.fixed 5 (by decide)).trans rfl)) ⟨hv.put sm_1_apart 4 rfl (lb rfl) (lb rfl) rfl, HO⟩
    ·
      rintro L a wc ⟨hv, HO⟩ hL hc hd
      have u := H1.out
      exact wpOp_val rfl ((wanted_at rfl rfl (hv.get 3 rfl rfl (hd 3 (by decide)))).trans rfl) (ex_bin rfl (hv.get 4 rfl rfl (hd 4 (by decide))) rfl (by go_simp)) ⟨hv.put sm_1_apart 5 rfl (lb rfl) (lb rfl) rfl, HO⟩
    ·
      rintro L a wc ⟨hv, HO⟩ hL hc hd
      exact wpOp_val rfl rfl (ex_pick rfl (hv.get 3 rfl rfl (hd 3 (by decide))) (hv.get 5 rfl rfl (hd 5 (by decide)))) ⟨hv.put sm_1_apart 6 rfl (lb rfl) (lb rfl) rfl, HO⟩
    ·
      rintro L a wc ⟨hv, HO⟩ hL hc hd
      exact wpOp_val rfl rfl (ex_move rfl (hv.get 6 rfl rfl (hd 6 (by decide)))) ⟨hv.put sm_1_apart 7 rfl (lb rfl) (lb rfl) rfl, HO⟩
    ·
      rintro L a wc ⟨hv, HO⟩ hL hc hd
      exact wpOp_off rfl ((wanted_at rfl rfl (hv.get 7 rfl rfl (hd 7 (by decide)))).trans rfl) ⟨hv.put sm_1_apart 8 rfl (lb rfl) (lb rfl) rfl, HO⟩
    ·
      rintro L a wc ⟨hv, HO⟩ hL hc hd
      exact wpOp_off rfl ((wanted_at rfl rfl (hv.get 7 rfl rfl (hd 7 (by decide)))).trans rfl) ⟨hv.put sm_1_apart 9 rfl (lb rfl) (lb rfl) rfl, HO⟩
    ·
      rintro L a wc ⟨hv, HO⟩ hL hc hd
      exact wpOp_off rfl ((wanted_at rfl rfl (hv.get 7 rfl rfl (hd 7 (by decide)))).trans rfl) ⟨hv.put sm_1_apart 10 rfl (lb rfl) (lb rfl) rfl, HO⟩
    ·
      rintro L a wc ⟨hv, HO⟩ hL hc hd
      exact wpOp_val rfl rfl (ex_pick rfl (hv.get 7 rfl rfl (hd 7 (by decide))) rfl) ⟨hv.put sm_1_apart 11 rfl (lb rfl) (lb rfl) rfl, HO⟩
    ·
      rintro L a wc ⟨hv, HO⟩ hL hc hd
      exact wpOp_val rfl rfl (ex_move rfl (hv.get 11 rfl rfl (hd 11 (by decide)))) ⟨hv.put sm_1_apart 12 rfl (lb rfl) (lb rfl) rfl, HO⟩
    ·
      rintro L a wc ⟨hv, HO⟩ hL hc hd
      exact wpOp_off rfl ((wanted_at rfl rfl (hv.get 12 rfl rfl (hd 12 (by decide)))).trans rfl) ⟨hv.put sm_1_apart 13 rfl (lb rfl) (lb rfl) rfl, HO⟩
    ·
      rintro L a wc ⟨hv, HO⟩ hL hc hd
      exact wpOp_off rfl ((wanted_at rfl rfl (hv.get 12 rfl rfl (hd 12 (by decide)))).trans rfl) ⟨hv.put sm_1_apart 14 rfl (lb rfl) (lb rfl) rfl, HO⟩
    ·
      rintro L a wc ⟨hv, HO⟩ hL hc hd
      exact wpOp_off rfl ((wanted_at rfl rfl (hv.get 12 rfl rfl (hd 12 (by decide)))).trans rfl) ⟨hv.put sm_1_apart 15 rfl (lb rfl) (lb rfl) rfl, HO⟩
    ·
      rintro L a wc ⟨hv, HO⟩ hL hc hd
      exact wpOp_val rfl rfl (ex_pick rfl (hv.get 12 rfl rfl (hd 12 (by decide))) rfl) ⟨hv.put sm_1_apart 16 rfl (lb rfl) (lb rfl) rfl, HO⟩
    ·
      rintro L a wc ⟨hv, HO⟩ hL hc hd
      exact wpOp_val rfl rfl (ex_move rfl (hv.get 16 rfl rfl (hd 16 (by decide)))) ⟨hv.put sm_1_apart 17 rfl (lb rfl) (lb rfl) rfl, HO⟩
    ·
      rintro L a wc ⟨hv, HO⟩ hL hc hd
      exact wpOp_off rfl ((wanted_at rfl rfl (hv.get 17 rfl rfl (hd 17 (by decide)))).trans rfl) ⟨hv.put sm_1_apart 18 rfl (lb rfl) (lb rfl) rfl, HO⟩
    ·
      rintro L a wc ⟨hv, HO⟩ hL hc hd
      exact wpOp_off rfl ((wanted_at rfl rfl (hv.get 17 rfl rfl (hd 17 (by decide)))).trans rfl) ⟨hv.put sm_1_apart 19 rfl (lb rfl) (lb rfl) rfl, HO⟩
    ·
      rintro L a wc ⟨hv, HO⟩ hL hc hd
      exact wpOp_off rfl ((wanted_at rfl rfl (hv.get 17 rfl rfl (hd 17 (by decide)))).trans rfl) ⟨hv.put sm_1_apart 20 rfl (lb rfl) (lb rfl) rfl, HO⟩
    ·
      rintro L a wc ⟨hv, HO⟩ hL hc hd
      exact wpOp_off rfl ((wanted_at rfl rfl (hv.get 17 rfl rfl (hd 17 (by decide)))).trans rfl) ⟨hv.put sm_1_apart 21 rfl (lb rfl) (lb rfl) rfl, HO⟩
    ·
      rintro L a wc ⟨hv, HO⟩ hL hc hd
      exact wpOp_off rfl ((wanted_at rfl rfl (hv.get 17 rfl rfl (hd 17 (by decide)))).trans rfl) ⟨hv.put sm_1_apart 22 rfl (lb rfl) (lb rfl) rfl, HO⟩
    ·
      rintro L a wc ⟨hv, HO⟩ hL hc hd
      exact wpOp_val rfl rfl (ex_pick rfl (hv.get 17 rfl rfl (hd 17 (by decide))) rfl) ⟨hv.put sm_1_apart 23 rfl (lb rfl) (lb rfl) rfl, HO⟩
    ·
      rintro L a wc ⟨hv, HO⟩ hL hc hd
      exact wpOp_val rfl rfl (ex_move rfl (hv.get 23 rfl rfl (hd 23 (by decide)))) ⟨hv.put sm_1_apart 24 rfl (lb rfl) (lb rfl) rfl, HO⟩
    ·
      rintro L a wc ⟨hv, HO⟩ hL hc hd
      exact wpOp_off rfl ((wanted_at rfl rfl (hv.get 24 rfl rfl (hd 24 (by decide)))).trans rfl) ⟨hv.put sm_1_apart 25 rfl (lb rfl) (lb rfl) rfl, HO⟩
    ·
      rintro L a wc ⟨hv, HO⟩ hL hc hd
      exact wpOp_off rfl ((wanted_at rfl rfl (hv.get 24 rfl rfl (hd 24 (by decide)))).trans rfl) ⟨hv.put sm_1_apart 26 rfl (lb rfl) (lb rfl) rfl, HO⟩
    ·
      rintro L a wc ⟨hv, HO⟩ hL hc hd
      exact wpOp_off rfl ((wanted_at rfl rfl (hv.get 24 rfl rfl (hd 24 (by decide)))).trans rfl) ⟨hv.put sm_1_apart 27 rfl (lb rfl) (lb rfl) rfl, HO⟩
    ·
      rintro L a wc ⟨hv, HO⟩ hL hc hd
      exact wpOp_val rfl rfl (ex_pick rfl (hv.get 24 rfl rfl (hd 24 (by decide))) rfl) ⟨hv.put sm_1_apart 28 rfl (lb rfl) (lb rfl) rfl, HO⟩
    ·
      rintro L a wc ⟨hv, HO⟩ hL hc hd
      exact wpOp_val rfl rfl (ex_move rfl (hv.get 28 rfl rfl (hd 28 (by decide)))) ⟨hv.put sm_1_apart 29 rfl (lb rfl) (lb rfl) rfl, HO⟩
    ·
      rintro L a wc ⟨hv, HO⟩ hL hc hd
      exact wpOp_off rfl ((wanted_at rfl rfl (hv.get 29 rfl rfl (hd 29 (by decide)))).trans rfl) ⟨hv.put sm_1_apart 30 rfl (lb rfl) (lb rfl) rfl, HO⟩
    ·
      rintro L a wc ⟨hv, HO⟩ hL hc hd
      exact wpOp_off rfl ((wanted_at rfl rfl (hv.get 29 rfl rfl (hd 29 (by decide)))).trans rfl) ⟨hv.put sm_1_apart 31 rfl (lb rfl) (lb rfl) rfl, HO⟩
    ·
      rintro L a wc ⟨hv, HO⟩ hL hc hd
      exact wpOp_off rfl ((wanted_at rfl rfl (hv.get 29 rfl rfl (hd 29 (by decide)))).trans rfl) ⟨hv.put sm_1_apart 32 rfl (lb rfl) (lb rfl) rfl, HO⟩
    ·
      rintro L a wc ⟨hv, HO⟩ hL hc hd
      exact wpOp_off rfl ((wanted_at rfl rfl (hv.get 29 rfl rfl (hd 29 (by decide)))).trans rfl) ⟨hv.put sm_1_apart 33 rfl (lb rfl) (lb rfl) rfl, HO⟩
    ·
      rintro L a wc ⟨hv, HO⟩ hL hc hd
      exact wpOp_off rfl ((wanted_at rfl rfl (hv.get 29 rfl rfl (hd 29 (by decide)))).trans rfl) ⟨hv.put sm_1_apart 34 rfl (lb rfl) (lb rfl) rfl, HO⟩
    ·
      rintro L a wc ⟨hv, HO⟩ hL hc hd
      exact wpOp_val rfl rfl (ex_pick rfl (hv.get 29 rfl rfl (hd 29 (by decide))) rfl) ⟨hv.put sm_1_apart 35 rfl (lb rfl) (lb rfl) rfl, HO⟩
    ·
      rintro L a wc ⟨hv, HO⟩ hL hc hd
      exact wpOp_val rfl rfl (ex_move rfl (hv.get 35 rfl rfl (hd 35 (by decide)))) ⟨hv.put sm_1_apart 36 rfl (lb rfl) (lb rfl) rfl, HO⟩
    ·
      rintro L a wc ⟨hv, HO⟩ hL hc hd
      exact wpOp_off rfl ((wanted_at rfl rfl (hv.get 36 rfl rfl (hd 36 (by decide)))).trans rfl) ⟨hv.put sm_1_apart 37 rfl (lb rfl) (lb rfl) rfl, HO⟩
    ·
      rintro L a wc ⟨hv, HO⟩ hL hc hd
      exact wpOp_off rfl ((wanted_at rfl rfl (hv.get 36 rfl rfl (hd 36 (by decide)))).trans rfl) ⟨hv.put sm_1_apart 38 rfl (lb rfl) (lb rfl) rfl, HO⟩
    ·
      rintro L a wc ⟨hv, HO⟩ hL hc hd
      exact wpOp_off rfl ((wanted_at rfl rfl (hv.get 36 rfl rfl (hd 36 (by decide)))).trans rfl) ⟨hv.put sm_1_apart 39 rfl (lb rfl) (lb rfl) rfl, HO⟩
    ·
      rintro L a wc ⟨hv, HO⟩ hL hc hd
      exact wpOp_val rfl rfl (ex_pick rfl (hv.get 36 rfl rfl (hd 36 (by decide))) rfl) ⟨hv.put sm_1_apart 40 rfl (lb rfl) (lb rfl) rfl, HO⟩
    ·
      rintro L a wc ⟨hv, HO⟩ hL hc hd
      exact wpOp_val rfl rfl (ex_move rfl (hv.get 40 rfl rfl (hd 40 (by decide)))) ⟨hv.put sm_1_apart 41 rfl (lb rfl) (lb rfl) rfl, HO⟩
    ·
      rintro L a wc ⟨hv, HO⟩ hL hc hd
      exact wpOp_off rfl ((wanted_at rfl rfl (hv.get 41 rfl rfl (hd 41 (by decide)))).trans rfl) ⟨hv.put sm_1_apart 42 rfl (lb rfl) (lb rfl) rfl, HO⟩
    ·
      rintro L a wc ⟨hv, HO⟩ hL hc hd
      exact wpOp_off rfl ((wanted_at rfl rfl (hv.get 41 rfl rfl (hd 41 (by decide)))).trans rfl) ⟨hv.put sm_1_apart 43 rfl (lb rfl) (lb rfl) rfl, HO⟩
    ·
      rintro L a wc ⟨hv, HO⟩ hL hc hd
      exact wpOp_off rfl ((wanted_at rfl rfl (hv.get 41 rfl rfl (hd 41 (by decide)))).trans rfl) ⟨hv.put sm_1_apart 44 rfl (lb rfl) (lb rfl) rfl, HO⟩
    ·
      rintro L a wc ⟨hv, HO⟩ hL hc hd
      exact wpOp_off rfl ((wanted_at rfl rfl (hv.get 41 rfl rfl (hd 41 (by decide)))).trans rfl) ⟨hv.put sm_1_apart 45 rfl (lb rfl) (lb rfl) rfl, HO⟩
    ·
      rintro L a wc ⟨hv, HO⟩ hL hc hd
      exact wpOp_val rfl rfl (ex_pick rfl (hv.get 41 rfl rfl (hd 41 (by decide))) rfl) ⟨hv.put sm_1_apart 46 rfl (lb rfl) (lb rfl) rfl, HO⟩
    ·
      rintro L a wc ⟨hv, HO⟩ hL hc hd
      exact wpOp_val rfl rfl (ex_move rfl (hv.get 46 rfl rfl (hd 46 (by decide)))) ⟨hv.put sm_1_apart 47 rfl (lb rfl) (lb rfl) rfl, HO⟩
    ·
      rintro L a wc ⟨hv, HO⟩ hL hc hd
      exact wpOp_off rfl ((wanted_at rfl rfl (hv.get 47 rfl rfl (hd 47 (by decide)))).trans rfl) ⟨hv.put sm_1_apart 48 rfl (lb rfl) (lb rfl) rfl, HO⟩
    ·
      rintro L a wc ⟨hv, HO⟩ hL hc hd
      exact wpOp_off rfl ((wanted_at rfl rfl (hv.get 47 rfl rfl (hd 47 (by decide)))).trans rfl) ⟨hv.put sm_1_apart 49 rfl (lb rfl) (lb rfl) rfl, HO⟩
    ·
      rintro L a wc ⟨hv, HO⟩ hL hc hd
      exact wpOp_off rfl ((wanted_at rfl rfl (hv.get 47 rfl rfl (hd 47 (by decide)))).trans rfl) ⟨hv.put sm_1_apart 50 rfl (lb rfl) (lb rfl) rfl, HO⟩
    ·
      rintro L a wc ⟨hv, HO⟩ hL hc hd
      exact wpOp_off rfl ((wanted_at rfl rfl (hv.get 47 rfl rfl (hd 47 (by decide)))).trans rfl) ⟨hv.put sm_1_apart 51 rfl (lb rfl) (lb rfl) rfl, HO⟩
    ·
      rintro L a wc ⟨hv, HO⟩ hL hc hd
      exact wpOp_val rfl rfl (ex_pick rfl (hv.get 47 rfl rfl (hd 47 (by decide))) rfl) ⟨hv.put sm_1_apart 52 rfl (lb rfl) (lb rfl) rfl, HO⟩
    ·
      rintro L a wc ⟨hv, HO⟩ hL hc hd
      exact wpOp_val rfl rfl (ex_assign rfl (hv.get 52 rfl rfl (hd 52 (by decide)))) ⟨hv.put sm_1_apart 53 rfl (lb rfl) (lb rfl) rfl, HO⟩
  · rintro L a wc ⟨hv, HO⟩ hall
    show K a wc
    have ha := act_lit a
    rw [hv.size, hv.defers] at ha
    have hl : ∀ f : Nat → Value, ((List.range (⟨#[c0, .int .i64 (most : Nat), .pointer (some ⟨B, 0, none⟩), c3, c4, .int .i64 n, c6, c7, c8, c9, c10, c11, c12, c13, c14, c15, c16, c17, c18, c19, c20, c21, c22, c23, c24, c25, c26, c27, c28, c29, c30, c31, c32, c33, c34, c35, c36, c37, c38, c39, c40, c41, c42, c43, c44, c45, c46, c47, c48, c49, c50, c51, c52, c53, c54, c55, c56, c57, c58, c59, c60, c61], df⟩ : Act).tmps.size).map f).toArray = #[f 0, f 1, f 2, f 3, f 4, f 5, f 6, f 7, f 8, f 9, f 10, f 11, f 12, f 13, f 14, f 15, f 16, f 17, f 18, f 19, f 20, f 21, f 22, f 23, f 24, f 25, f 26, f 27, f 28, f 29, f 30, f 31, f 32, f 33, f 34, f 35, f 36, f 37, f 38, f 39, f 40, f 41, f 42, f 43, f 44, f 45, f 46, f 47, f 48, f 49, f 50, f 51, f 52, f 53, f 54, f 55, f 56, f 57, f 58, f 59, f 60, f 61] := fun _ => rfl
    rw [hl] at ha
    simp only [hv.fixed 0 (by decide), hv.fixed 1 (by decide), hv.fixed 2 (by decide), hv.fixed 3 (by decide), hv.fixed 5 (by decide), hv.fixed 6 (by decide), hv.fixed 7 (by decide), hv.fixed 8 (by decide), hv.get 53 (d := 4) rfl rfl (hall 53 (by decide))] at ha
    rw [ha]
    exact hK _ _ _ _ _ _ _ _ _ _ _ _ _ _ _ _ _ _ _ _ _ _ _ _ _ _ _ _ _ _ _ _ _ _ _ _ _ _ _ _ _ _ _ _ _ _ _ _ _ _ _ _ _ wc HO.out
noncomputable def sm_2_code : Code := ((Tryd.f27.body.bind (regionOf 2)).getD .skip)
def sm_2_dsts : List (Option Nat) := [some 9, some 10, some 11, some 12, some 13, some 14, some 15, some 16, some 17, some 18, some 19, some 20, some 21, some 22, some 23, some 24, some 25, some 26, some 27, some 28, some 29, some 30, some 31, some 32, some 33, some 34, some 35, some 36, some 37, some 38, some 39, some 40, some 41, some 42, some 43, some 44, some 45, some 46, some 47, some 48, some 49, some 50, some 51, some 52, some 53, some 54, some 55, some 56, some 57, some 58, some 59, some 60, some 61, some 4]
theorem sm_2_apart : apartD sm_2_dsts = true := by decide +kernel
set_option maxRecDepth 1000000 in
set_option maxHeartbeats 16000000 in
theorem sm_2 (wr : World) (B c most : Nat) (d gl n lost piece other : Int) (gs : List (List Int)) (A : Option Addr) (data : List UInt8) (HG : Hid (Rs (Rs RI) wr (.slice A gs.length c) gs)) (HB : Hid (Cells wr B [.int .i64 d, .slice A gs.length c, .int .i64 gl, .string (sb data), .int .i64 lost, .int .i64 piece, .int .i64 other])) (HF : Hid (Cd.few gs 30 = true)) (H1 : Hid ((0 < n))) (H2 : Hid (¬ (n ≤ most))) (c0 c3 c4 c6 c7 c8 c9 c10 c11 c12 c13 c14 c15 c16 c17 c18 c19 c20 c21 c22 c23 c24 c25 c26 c27 c28 c29 c30 c31 c32 c33 c34 c35 c36 c37 c38 c39 c40 c41 c42 c43 c44 c45 c46 c47 c48 c49 c50 c51 c52 c53 c54 c55 c56 c57 c58 c59 c60 c61 : Value) (df : List Deferred) (K : Act → World → Prop)
    (hK : ∀  (u9 u10 u11 u12 u13 u14 u15 u16 u17 u18 u19 u20 u21 u22 u23 u24 u25 u26 u27 u28 u29 u30 u31 u32 u33 u34 u35 u36 u37 u38 u39 u40 u41 u42 u43 u44 u45 u46 u47 u48 u49 u50 u51 u52 u53 u54 u55 u56 u57 u58 u59 u60 u61 : Value) (wx : World), Ext wr wx → K ⟨#[c0, .int .i64 (most : Nat), .pointer (some ⟨B, 0, none⟩), c3, .bool false, .int .i64 n, c6, c7, c8, u9, u10, u11, u12, u13, u14, u15, u16, u17, u18, u19, u20, u21, u22, u23, u24, u25, u26, u27, u28, u29, u30, u31, u32, u33, u34, u35, u36, u37, u38, u39, u40, u41, u42, u43, u44, u45, u46, u47, u48, u49, u50, u51, u52, u53, u54, u55, u56, u57, u58, u59, u60, u61], df⟩ wx) :
    Code.wp Tryd.prog sm_2_code (AtEnd K) ⟨#[c0, .int .i64 (most : Nat), .pointer (some ⟨B, 0, none⟩), c3, c4, .int .i64 n, c6, c7, c8, c9, c10, c11, c12, c13, c14, c15, c16, c17, c18, c19, c20, c21, c22, c23, c24, c25, c26, c27, c28, c29, c30, c31, c32, c33, c34, c35, c36, c37, c38, c39, c40, c41, c42, c43, c44, c45, c46, c47, c48, c49, c50, c51, c52, c53, c54, c55, c56, c57, c58, c59, c60, c61], df⟩ wr := by
  conv => arg 2; whnf
  refine region_inv (by kernel_rfl) [[], [0], [1], [2, 2], [3], [4, 3], [3, 5], [6, 3], [7], [7], [8, 9, 7], [7, 10], [11, 7], [12], [13, 12], [14, 12], [12, 15], [16, 12], [17], [18, 17], [17], [20, 17], [19, 21, 17], [17, 22], [23, 17], [24], [25, 24], [26, 24], [24, 27], [28, 24], [29], [30, 29], [29], [32, 29], [31, 33, 29], [29, 34], [35, 29], [36], [37, 36], [38, 36], [36, 39], [40, 36], [41], [42, 41], [41], [43, 44, 41], [41, 45], [46, 41], [47], [48, 47], [49, 47], [50, 47], [47, 51], [52, 47, 0, 1, 2, 3, 4, 5, 6, 7, 8, 9, 10, 11, 12, 13, 14, 15, 16, 17, 18, 19, 20, 21, 22, 23, 24, 25, 26, 27, 28, 29, 30, 31, 32, 33, 34, 35, 36, 37, 38, 39, 40, 41, 42, 43, 44, 45, 46, 47, 48, 49, 50, 51, 52]] (by kernel_rfl) [0, 1, 2, 3, 4, 5, 6, 7, 8, 9, 10, 11, 12, 13, 14, 15, 16, 17, 18, 19, 20, 21, 22, 23, 24, 25, 26, 27, 28, 29, 30, 31, 32, 33, 34, 35, 36, 37, 38, 39, 40, 41, 42, 43, 44, 45, 46, 47, 48, 49, 50, 51, 52, 53] (by decide +kernel) (by decide +kernel) (by decide +kernel) (fun L a wc => Inv sm_2_dsts [.pointer (some ⟨B, 0, none⟩), .agg #[.int .i64 d, .slice A gs.length c, .int .i64 gl], .bool true, .bool true, .int .i64 n, .bool true, .bool true, .bool true, .int .i64 n, .int .i64 (most : Nat), .bool false, .bool false, .bool false, undef, undef, undef, .bool false, .bool false, undef, undef, undef, undef, undef, .bool false, .bool false, undef, undef, undef, .bool false, .bool false, undef, undef, undef, undef, undef, .bool false, .bool false, undef, undef, undef, .bool false, .bool false, undef, undef, undef, undef, .bool false, .bool false, undef, undef, undef, undef, .bool false, .bool false] ⟨#[c0, .int .i64 (most : Nat), .pointer (some ⟨B, 0, none⟩), c3, c4, .int .i64 n, c6, c7, c8, c9, c10, c11, c12, c13, c14, c15, c16, c17, c18, c19, c20, c21, c22, c23, c24, c25, c26, c27, c28, c29, c30, c31, c32, c33, c34, c35, c36, c37, c38, c39, c40, c41, c42, c43, c44, c45, c46, c47, c48, c49, c50, c51, c52, c53, c54, c55, c56, c57, c58, c59, c60, c61], df⟩ L a ∧ Hid (Ext wr wc)) ⟨Inv.start, Lib.hid ((Ext.refl wr).drew)⟩ ?_ ?_
  · refine ⟨?_, ?_, ?_, ?_, ?_, ?_, ?_, ?_, ?_, ?_, ?_, ?_, ?_, ?_, ?_, ?_, ?_, ?_, ?_, ?_, ?_, ?_, ?_, ?_, ?_, ?_, ?_, ?_, ?_, ?_, ?_, ?_, ?_, ?_, ?_, ?_, ?_, ?_, ?_, ?_, ?_, ?_, ?_, ?_, ?_, ?_, ?_, ?_, ?_, ?_, ?_, ?_, ?_, ?_, trivial⟩
    ·
      rintro L a wc ⟨hv, HO⟩ hL hc hd
      exact wpOp_val rfl rfl (ex_field rfl ((hv.fixed 2 (by decide)).trans rfl) (by go_simp)) ⟨hv.put sm_2_apart 0 rfl (lb rfl) (lb rfl) rfl, HO⟩
    ·
      rintro L a wc ⟨hv, HO⟩ hL hc hd
      have h0 : wc.cell? ⟨B, 0, none⟩ = some (.int .i64 d) := HO.out.cell (HB.out 0 _ rfl)
      have h1 : wc.cell? ⟨B, 1, none⟩ = some (.slice A gs.length c) := HO.out.cell (HB.out 1 _ rfl)
      have h2 : wc.cell? ⟨B, 2, none⟩ = some (.int .i64 gl) := HO.out.cell (HB.out 2 _ rfl)
      exact wpOp_val rfl rfl (ex_load rfl (hv.get 0 rfl rfl (hd 0 (by decide))) (by go_simp)) ⟨hv.put sm_2_apart 1 rfl (lb rfl) (lb rfl) rfl, HO⟩
    ·
      rintro L a wc ⟨hv, HO⟩ hL hc hd
      have hf := HF.out
      refine wpOp_call (R := fun v w1 => v = .bool true ∧ Ext wc w1) rfl rfl (ex_call rfl rfl (by simp only [List.map_toArray, List.map_cons, List.map_nil, (hv.get 1 rfl rfl (hd 1 (by decide)))]; rfl) (enters_of Tryd.func35 (by kernel_rfl) rfl _ _)) ((rFew_any d gl gs 30 _ wc (Rs.ext (Rs.ext RI.ext) _ _ _ _ HO.out HG.out) (by decide)).mono (fun e w' h => ⟨_, h.1.trans (by rw [HF.out]), rfl, h.2⟩)) ?_
      rintro v w' ⟨rfl, hx⟩
      exact ⟨hv.put sm_2_apart 2 rfl (lb rfl) (lb rfl) rfl, Lib.hid (HO.out.trans hx)⟩
    ·
      rintro L a wc ⟨hv, HO⟩ hL hc hd
      exact wpOp_val rfl rfl (ex_move rfl (hv.get 2 rfl rfl (hd 2 (by decide)))) ⟨hv.put sm_2_apart 3 rfl (lb rfl) (lb rfl) rfl, HO⟩
    ·
      rintro L a wc ⟨hv, HO⟩ hL hc hd
      exact wpOp_val rfl ((wanted_at rfl rfl (hv.get 3 rfl rfl (hd 3 (by decide)))).trans rfl) (ex_move rfl ((hv.fixed 5 (by decide)).trans rfl)) ⟨hv.put sm_2_apart 4 rfl (lb rfl) (lb rfl) rfl, HO⟩
    ·
      rintro L a wc ⟨hv, HO⟩ hL hc hd
      have u := H1.out
      exact wpOp_val rfl ((wanted_at rfl rfl (hv.get 3 rfl rfl (hd 3 (by decide)))).trans rfl) (ex_bin rfl (hv.get 4 rfl rfl (hd 4 (by decide))) rfl (by go_simp)) ⟨hv.put sm_2_apart 5 rfl (lb rfl) (lb rfl) rfl, HO⟩
    ·
      rintro L a wc ⟨hv, HO⟩ hL hc hd
      exact wpOp_val rfl rfl (ex_pick rfl (hv.get 3 rfl rfl (hd 3 (by decide))) (hv.get 5 rfl rfl (hd 5 (by decide)))) ⟨hv.put sm_2_apart 6 rfl (lb rfl) (lb rfl) rfl, HO⟩
    ·
      rintro L a wc ⟨hv, HO⟩ hL hc hd
      exact wpOp_val rfl rfl (ex_move rfl (hv.get 6 rfl rfl (hd 6 (by decide)))) ⟨hv.put sm_2_apart 7 rfl (lb rfl) (lb rfl) rfl, HO⟩
    ·
      rintro L a wc ⟨hv, HO⟩ hL hc hd
      exact wpOp_val rfl ((wanted_at rfl rfl (hv.get 7 rfl rfl (hd 7 (by decide)))).trans rfl) (ex_move rfl ((hv.fixed 5 (by decide)).trans rfl)) ⟨hv.put sm_2_apart 8 rfl (lb rfl) (lb rfl) rfl, HO⟩
    ·
      rintro L a wc ⟨hv, HO⟩ hL hc hd
      exact wpOp_val rfl ((wanted_at rfl rfl (hv.get 7 rfl rfl (hd 7 (by decide)))).trans rfl) (ex_move rfl ((hv.fixed 1 (by decide)).trans rfl)) ⟨hv.put sm_2_apart 9 rfl (lb rfl) (lb rfl) rfl, HO⟩
    ·
      rintro L a wc ⟨hv, HO⟩ hL hc hd
      have u := H2.out
      exact wpOp_val rfl ((wanted_at rfl rfl (hv.get 7 rfl rfl (hd 7 (by decide)))).trans rfl) (ex_bin rfl (hv.get 8 rfl rfl (hd 8 (by decide))) (hv.get 9 rfl rfl (hd 9 (by decide))) (by go_simp)) ⟨hv.put sm_2_apart 10 rfl (lb rfl) (lb rfl) rfl, HO⟩
    ·
      rintro L a wc ⟨hv, HO⟩ hL hc hd
      exact wpOp_val rfl rfl (ex_pick rfl (hv.get 7 rfl rfl (hd 7 (by decide))) (hv.get 10 rfl rfl (hd 10 (by decide)))) ⟨hv.put sm_2_apart 11 rfl (lb rfl) (lb rfl) rfl, HO⟩
    ·
      rintro L a wc ⟨hv, HO⟩ hL hc hd
      exact wpOp_val rfl rfl (ex_move rfl (hv.get 11 rfl rfl (hd 11 (by decide)))) ⟨hv.put sm_2_apart 12 rfl (lb rfl) (lb rfl) rfl, HO⟩
    ·
      rintro L a wc ⟨hv, HO⟩ hL hc hd
      exact wpOp_off rfl ((wanted_at rfl rfl (hv.get 12 rfl rfl (hd 12 (by decide)))).trans rfl) ⟨hv.put sm_2_apart 13 rfl (lb rfl) (lb rfl) rfl, HO⟩
    ·
      rintro L a wc ⟨hv, HO⟩ hL hc hd
      exact wpOp_off rfl ((wanted_at rfl rfl (hv.get 12 rfl rfl (hd 12 (by decide)))).trans rfl) ⟨hv.put sm_2_apart 14 rfl (lb rfl) (lb rfl) rfl, HO⟩
    ·
      rintro L a wc ⟨hv, HO⟩ hL hc hd
      exact wpOp_off rfl ((wanted_at rfl rfl (hv.get 12 rfl rfl (hd 12 (by decide)))).trans rfl) ⟨hv.put sm_2_apart 15 rfl (lb rfl) (lb rfl) rfl, HO⟩
    ·
      rintro L a wc ⟨hv, HO⟩ hL hc hd
      exact wpOp_val rfl rfl (ex_pick rfl (hv.get 12 rfl rfl (hd 12 (by decide))) rfl) ⟨hv.put sm_2_apart 16 rfl (lb rfl) (lb rfl) rfl, HO⟩
    ·
      rintro L a wc ⟨hv, HO⟩ hL hc hd
      exact wpOp_val rfl rfl (ex_move rfl (hv.get 16 rfl rfl (hd 16 (by decide)))) ⟨hv.put sm_2_apart 17 rfl (lb rfl) (lb rfl) rfl, HO⟩
    ·
      rintro L a wc ⟨hv, HO⟩ hL hc hd
      exact wpOp_off rfl ((wanted_at rfl rfl (hv.get 17 rfl rfl (hd 17 (by decide)))).trans rfl) ⟨hv.put sm_2_apart 18 rfl (lb rfl) (lb rfl) rfl, HO⟩
    ·
      rintro L a wc ⟨hv, HO⟩ hL hc hd
      exact wpOp_off rfl ((wanted_at rfl rfl (hv.get 17 rfl rfl (hd 17 (by decide)))).trans rfl) ⟨hv.put sm_2_apart 19 rfl (lb rfl) (lb rfl) rfl, HO⟩
    ·
      rintro L a wc ⟨hv, HO⟩ hL hc hd
      exact wpOp_off rfl ((wanted_at rfl rfl (hv.get 17 rfl rfl (hd 17 (by decide)))).trans rfl) ⟨hv.put sm_2_apart 20 rfl (lb rfl) (lb rfl) rfl, HO⟩
    ·
      rintro L a wc ⟨hv, HO⟩ hL hc hd
      exact wpOp_off rfl ((wanted_at rfl rfl (hv.get 17 rfl rfl (hd 17 (by decide)))).trans rfl) ⟨hv.put sm_2_apart 21 rfl (lb rfl) (lb rfl) rfl, HO⟩
    ·
      rintro L a wc ⟨hv, HO⟩ hL hc hd
      exact wpOp_off rfl ((wanted_at rfl rfl (hv.get 17 rfl rfl (hd 17 (by decide)))).trans rfl) ⟨hv.put sm_2_apart 22 rfl (lb rfl) (lb rfl) rfl, HO⟩
    ·
      rintro L a wc ⟨hv, HO⟩ hL hc hd
      exact wpOp_val rfl rfl (ex_pick rfl (hv.get 17 rfl rfl (hd 17 (by decide))) rfl) ⟨hv.put sm_2_apart 23 rfl (lb rfl) (lb rfl) rfl, HO⟩
    ·
      rintro L a wc ⟨hv, HO⟩ hL hc hd
      exact wpOp_val rfl rfl (ex_move rfl (hv.get 23 rfl rfl (hd 23 (by decide)))) ⟨hv.put sm_2_apart 24 rfl (lb rfl) (lb rfl) rfl, HO⟩
    ·
      rintro L a wc ⟨hv, HO⟩ hL hc hd
      exact wpOp_off rfl ((wanted_at rfl rfl (hv.get 24 rfl rfl (hd 24 (by decide)))).trans rfl) ⟨hv.put sm_2_apart 25 rfl (lb rfl) (lb rfl) rfl, HO⟩
    ·
      rintro L a wc ⟨hv, HO⟩ hL hc hd
      exact wpOp_off rfl ((wanted_at rfl rfl (hv.get 24 rfl rfl (hd 24 (by decide)))).trans rfl) ⟨hv.put sm_2_apart 26 rfl (lb rfl) (lb rfl) rfl, HO⟩
    ·
      rintro L a wc ⟨hv, HO⟩ hL hc hd
      exact wpOp_off rfl ((wanted_at rfl rfl (hv.get 24 rfl rfl (hd 24 (by decide)))).trans rfl) ⟨hv.put sm_2_apart 27 rfl (lb rfl) (lb rfl) rfl, HO⟩
    ·
      rintro L a wc ⟨hv, HO⟩ hL hc hd
      exact wpOp_val rfl rfl (ex_pick rfl (hv.get 24 rfl rfl (hd 24 (by decide))) rfl) ⟨hv.put sm_2_apart 28 rfl (lb rfl) (lb rfl) rfl, HO⟩
    ·
      rintro L a wc ⟨hv, HO⟩ hL hc hd
      exact wpOp_val rfl rfl (ex_move rfl (hv.get 28 rfl rfl (hd 28 (by decide)))) ⟨hv.put sm_2_apart 29 rfl (lb rfl) (lb rfl) rfl, HO⟩
    ·
      rintro L a wc ⟨hv, HO⟩ hL hc hd
      exact wpOp_off rfl ((wanted_at rfl rfl (hv.get 29 rfl rfl (hd 29 (by decide)))).trans rfl) ⟨hv.put sm_2_apart 30 rfl (lb rfl) (lb rfl) rfl, HO⟩
    ·
      rintro L a wc ⟨hv, HO⟩ hL hc hd
      exact wpOp_off rfl ((wanted_at rfl rfl (hv.get 29 rfl rfl (hd 29 (by decide)))).trans rfl) ⟨hv.put sm_2_apart 31 rfl (lb rfl) (lb rfl) rfl, HO⟩
    ·
      rintro L a wc ⟨hv, HO⟩ hL hc hd
      exact wpOp_off rfl ((wanted_at rfl rfl (hv.get 29 rfl rfl (hd 29 (by decide)))).trans rfl) ⟨hv.put sm_2_apart 32 rfl (lb rfl) (lb rfl) rfl, HO⟩
    ·
      rintro L a wc ⟨hv, HO⟩ hL hc hd
      exact wpOp_off rfl ((wanted_at rfl rfl (hv.get 29 rfl rfl (hd 29 (by decide)))).trans rfl) ⟨hv.put sm_2_apart 33 rfl (lb rfl) (lb rfl) rfl, HO⟩
    ·
      rintro L a wc ⟨hv, HO⟩ hL hc hd
      exact wpOp_off rfl ((wanted_at rfl rfl (hv.get 29 rfl rfl (hd 29 (by decide)))).trans rfl) ⟨hv.put sm_2_apart 34 rfl (lb rfl) (lb rfl) rfl, HO⟩
    ·
      rintro L a wc ⟨hv, HO⟩ hL hc hd
      exact wpOp_val rfl rfl (ex_pick rfl (hv.get 29 rfl rfl (hd 29 (by decide))) rfl) ⟨hv.put sm_2_apart 35 rfl (lb rfl) (lb rfl) rfl, HO⟩
    ·
      rintro L a wc ⟨hv, HO⟩ hL hc hd
      exact wpOp_val rfl rfl (ex_move rfl (hv.get 35 rfl rfl (hd 35 (by decide)))) ⟨hv.put sm_2_apart 36 rfl (lb rfl) (lb rfl) rfl, HO⟩
    ·
      rintro L a wc ⟨hv, HO⟩ hL hc hd
      exact wpOp_off rfl ((wanted_at rfl rfl (hv.get 36 rfl rfl (hd 36 (by decide)))).trans rfl) ⟨hv.put sm_2_apart 37 rfl (lb rfl) (lb rfl) rfl, HO⟩
    ·
      rintro L a wc ⟨hv, HO⟩ hL hc hd
      exact wpOp_off rfl ((wanted_at rfl rfl (hv.get 36 rfl rfl (hd 36 (by decide)))).trans rfl) ⟨hv.put sm_2_apart 38 rfl (lb rfl) (lb rfl) rfl, HO⟩
    ·
      rintro L a wc ⟨hv, HO⟩ hL hc hd
      exact wpOp_off rfl ((wanted_at rfl rfl (hv.get 36 rfl rfl (hd 36 (by decide)))).trans rfl) ⟨hv.put sm_2_apart 39 rfl (lb rfl) (lb rfl) rfl, HO⟩
    ·
      rintro L a wc ⟨hv, HO⟩ hL hc hd
      exact wpOp_val rfl rfl (ex_pick rfl (hv.get 36 rfl rfl (hd 36 (by decide))) rfl) ⟨hv.put sm_2_apart 40 rfl (lb rfl) (lb rfl) rfl, HO⟩
    ·
      rintro L a wc ⟨hv, HO⟩ hL hc hd
      exact wpOp_val rfl rfl (ex_move rfl (hv.get 40 rfl rfl (hd 40 (by decide)))) ⟨hv.put sm_2_apart 41 rfl (lb rfl) (lb rfl) rfl, HO⟩
    ·
      rintro L a wc ⟨hv, HO⟩ hL hc hd
      exact wpOp_off rfl ((wanted_at rfl rfl (hv.get 41 rfl rfl (hd 41 (by decide)))).trans rfl) ⟨hv.put sm_2_apart 42 rfl (lb rfl) (lb rfl) rfl, HO⟩
    ·
      rintro L a wc ⟨hv, HO⟩ hL hc hd
      exact wpOp_off rfl ((wanted_at rfl rfl (hv.get 41 rfl rfl (hd 41 (by decide)))).trans rfl) ⟨hv.put sm_2_apart 43 rfl (lb rfl) (lb rfl) rfl, HO⟩
    ·
      rintro L a wc ⟨hv, HO⟩ hL hc hd
      exact wpOp_off rfl ((wanted_at rfl rfl (hv.get 41 rfl rfl (hd 41 (by decide)))).trans rfl) ⟨hv.put sm_2_apart 44 rfl (lb rfl) (lb rfl) rfl, HO⟩
    ·
      rintro L a wc ⟨hv, HO⟩ hL hc hd
      exact wpOp_off rfl ((wanted_at rfl rfl (hv.get 41 rfl rfl (hd 41 (by decide)))).trans rfl) ⟨hv.put sm_2_apart 45 rfl (lb rfl) (lb rfl) rfl, HO⟩
    ·
      rintro L a wc ⟨hv, HO⟩ hL hc hd
      exact wpOp_val rfl rfl (ex_pick rfl (hv.get 41 rfl rfl (hd 41 (by decide))) rfl) ⟨hv.put sm_2_apart 46 rfl (lb rfl) (lb rfl) rfl, HO⟩
    ·
      rintro L a wc ⟨hv, HO⟩ hL hc hd
      exact wpOp_val rfl rfl (ex_move rfl (hv.get 46 rfl rfl (hd 46 (by decide)))) ⟨hv.put sm_2_apart 47 rfl (lb rfl) (lb rfl) rfl, HO⟩
    ·
      rintro L a wc ⟨hv, HO⟩ hL hc hd
      exact wpOp_off rfl ((wanted_at rfl rfl (hv.get 47 rfl rfl (hd 47 (by decide)))).trans rfl) ⟨hv.put sm_2_apart 48 rfl (lb rfl) (lb rfl) rfl, HO⟩
    ·
      rintro L a wc ⟨hv, HO⟩ hL hc hd
      exact wpOp_off rfl ((wanted_at rfl rfl (hv.get 47 rfl rfl (hd 47 (by decide)))).trans rfl) ⟨hv.put sm_2_apart 49 rfl (lb rfl) (lb rfl) rfl, HO⟩
    ·
      rintro L a wc ⟨hv, HO⟩ hL hc hd
      exact wpOp_off rfl ((wanted_at rfl rfl (hv.get 47 rfl rfl (hd 47 (by decide)))).trans rfl) ⟨hv.put sm_2_apart 50 rfl (lb rfl) (lb rfl) rfl, HO⟩
    ·
      rintro L a wc ⟨hv, HO⟩ hL hc hd
      exact wpOp_off rfl ((wanted_at rfl rfl (hv.get 47 rfl rfl (hd 47 (by decide)))).trans rfl) ⟨hv.put sm_2_apart 51 rfl (lb rfl) (lb rfl) rfl, HO⟩
    ·
      rintro L a wc ⟨hv, HO⟩ hL hc hd
      exact wpOp_val rfl rfl (ex_pick rfl (hv.get 47 rfl rfl (hd 47 (by decide))) rfl) ⟨hv.put sm_2_apart 52 rfl (lb rfl) (lb rfl) rfl, HO⟩
    ·
      rintro L a wc ⟨hv, HO⟩ hL hc hd
      exact wpOp_val rfl rfl (ex_assign rfl (hv.get 52 rfl rfl (hd 52 (by decide)))) ⟨hv.put sm_2_apart 53 rfl (lb rfl) (lb rfl) rfl, HO⟩
  · rintro L a wc ⟨hv, HO⟩ hall
    show K a wc
    have ha := act_lit a
    rw [hv.size, hv.defers] at ha
    have hl : ∀ f : Nat → Value, ((List.range (⟨#[c0, .int .i64 (most : Nat), .pointer (some ⟨B, 0, none⟩), c3, c4, .int .i64 n, c6, c7, c8, c9, c10, c11, c12, c13, c14, c15, c16, c17, c18, c19, c20, c21, c22, c23, c24, c25, c26, c27, c28, c29, c30, c31, c32, c33, c34, c35, c36, c37, c38, c39, c40, c41, c42, c43, c44, c45, c46, c47, c48, c49, c50, c51, c52, c53, c54, c55, c56, c57, c58, c59, c60, c61], df⟩ : Act).tmps.size).map f).toArray = #[f 0, f 1, f 2, f 3, f 4, f 5, f 6, f 7, f 8, f 9, f 10, f 11, f 12, f 13, f 14, f 15, f 16, f 17, f 18, f 19, f 20, f 21, f 22, f 23, f 24, f 25, f 26, f 27, f 28, f 29, f 30, f 31, f 32, f 33, f 34, f 35, f 36, f 37, f 38, f 39, f 40, f 41, f 42, f 43, f 44, f 45, f 46, f 47, f 48, f 49, f 50, f 51, f 52, f 53, f 54, f 55, f 56, f 57, f 58, f 59, f 60, f 61] := fun _ => rfl
    rw [hl] at ha
    simp only [hv.fixed 0 (by decide), hv.fixed 1 (by decide), hv.fixed 2 (by decide), hv.fixed 3 (by decide), hv.fixed 5 (by decide), hv.fixed 6 (by decide), hv.fixed 7 (by decide), hv.fixed 8 (by decide), hv.get 53 (d := 4) rfl rfl (hall 53 (by decide))] at ha
    rw [ha]
    exact hK _ _ _ _ _ _ _ _ _ _ _ _ _ _ _ _ _ _ _ _ _ _ _ _ _ _ _ _ _ _ _ _ _ _ _ _ _ _ _ _ _ _ _ _ _ _ _ _ _ _ _ _ _ wc HO.out
noncomputable def sm_3_code : Code := ((Tryd.f27.body.bind (regionOf 2)).getD .skip)
def sm_3_dsts : List (Option Nat) := [some 9, some 10, some 11, some 12, some 13, some 14, some 15, some 16, some 17, some 18, some 19, some 20, some 21, some 22, some 23, some 24, some 25, some 26, some 27, some 28, some 29, some 30, some 31, some 32, some 33, some 34, some 35, some 36, some 37, some 38, some 39, some 40, some 41, some 42, some 43, some 44, some 45, some 46, some 47, some 48, some 49, some 50, some 51, some 52, some 53, some 54, some 55, some 56, some 57, some 58, some 59, some 60, some 61, some 4]
theorem sm_3_apart : apartD sm_3_dsts = true := by decide +kernel
set_option maxRecDepth 1000000 in
set_option maxHeartbeats 16000000 in
theorem sm_3 (wr : World) (B N c most : Nat) (d gl n lost piece other : Int) (gs : List (List Int)) (A : Option Addr) (data : List UInt8) (hN : N ≤ 24) (HG : Hid (Rs (Rs RI) wr (.slice A gs.length c) gs)) (HB : Hid (Cells wr B [.int .i64 d, .slice A gs.length c, .int .i64 gl, .string (sb data), .int .i64 lost, .int .i64 piece, .int .i64 other])) (HF : Hid (Cd.few gs 30 = true)) (HN : Hid (n = (N : Int))) (H1 : Hid ((0 < n))) (H2 : Hid ((n ≤ most))) (H3 : Hid (¬ (0 ≤ lost))) (c0 c3 c4 c6 c7 c8 c9 c10 c11 c12 c13 c14 c15 c16 c17 c18 c19 c20 c21 c22 c23 c24 c25 c26 c27 c28 c29 c30 c31 c32 c33 c34 c35 c36 c37 c38 c39 c40 c41 c42 c43 c44 c45 c46 c47 c48 c49 c50 c51 c52 c53 c54 c55 c56 c57 c58 c59 c60 c61 : Value) (df : List Deferred) (K : Act → World → Prop)
    (hK : ∀  (u9 u10 u11 u12 u13 u14 u15 u16 u17 u18 u19 u20 u21 u22 u23 u24 u25 u26 u27 u28 u29 u30 u31 u32 u33 u34 u35 u36 u37 u38 u39 u40 u41 u42 u43 u44 u45 u46 u47 u48 u49 u50 u51 u52 u53 u54 u55 u56 u57 u58 u59 u60 u61 : Value) (wx : World), Ext wr wx → K ⟨#[c0, .int .i64 (most : Nat), .pointer (some ⟨B, 0, none⟩), c3, .bool false, .int .i64 (N : Nat), c6, c7, c8, u9, u10, u11, u12, u13, u14, u15, u16, u17, u18, u19, u20, u21, u22, u23, u24, u25, u26, u27, u28, u29, u30, u31, u32, u33, u34, u35, u36, u37, u38, u39, u40, u41, u42, u43, u44, u45, u46, u47, u48, u49, u50, u51, u52, u53, u54, u55, u56, u57, u58, u59, u60, u61], df⟩ wx) :
    Code.wp Tryd.prog sm_3_code (AtEnd K) ⟨#[c0, .int .i64 (most : Nat), .pointer (some ⟨B, 0, none⟩), c3, c4, .int .i64 (N : Nat), c6, c7, c8, c9, c10, c11, c12, c13, c14, c15, c16, c17, c18, c19, c20, c21, c22, c23, c24, c25, c26, c27, c28, c29, c30, c31, c32, c33, c34, c35, c36, c37, c38, c39, c40, c41, c42, c43, c44, c45, c46, c47, c48, c49, c50, c51, c52, c53, c54, c55, c56, c57, c58, c59, c60, c61], df⟩ wr := by
  conv => arg 2; whnf
  refine region_inv (by kernel_rfl) [[], [0], [1], [2, 2], [3], [4, 3], [3, 5], [6, 3], [7], [7], [8, 9, 7], [7, 10], [11, 7], [12], [13, 12], [14, 12], [12, 15], [16, 12], [17], [18, 17], [17], [20, 17], [19, 21, 17], [17, 22], [23, 17], [24], [25, 24], [26, 24], [24, 27], [28, 24], [29], [30, 29], [29], [32, 29], [31, 33, 29], [29, 34], [35, 29], [36], [37, 36], [38, 36], [36, 39], [40, 36], [41], [42, 41], [41], [43, 44, 41], [41, 45], [46, 41], [47], [48, 47], [49, 47], [50, 47], [47, 51], [52, 47, 0, 1, 2, 3, 4, 5, 6, 7, 8, 9, 10, 11, 12, 13, 14, 15, 16, 17, 18, 19, 20, 21, 22, 23, 24, 25, 26, 27, 28, 29, 30, 31, 32, 33, 34, 35, 36, 37, 38, 39, 40, 41, 42, 43, 44, 45, 46, 47, 48, 49, 50, 51, 52]] (by kernel_rfl) [0, 1, 2, 3, 4, 5, 6, 7, 8, 9, 10, 11, 12, 13, 14, 15, 16, 17, 18, 19, 20, 21, 22, 23, 24, 25, 26, 27, 28, 29, 30, 31, 32, 33, 34, 35, 36, 37, 38, 39, 40, 41, 42, 43, 44, 45, 46, 47, 48, 49, 50, 51, 52, 53] (by decide +kernel) (by decide +kernel) (by decide +kernel) (fun L a wc => Inv sm_3_dsts [.pointer (some ⟨B, 0, none⟩), .agg #[.int .i64 d, .slice A gs.length c, .int .i64 gl], .bool true, .bool true, .int .i64 (N : Nat), .bool true, .bool true, .bool true, .int .i64 (N : Nat), .int .i64 (most : Nat), .bool true, .bool true, .bool true, .pointer (some ⟨B, 4, none⟩), .int .i64 lost, .bool false, .bool false, .bool false, undef, undef, undef, undef, undef, .bool false, .bool false, undef, undef, undef, .bool false, .bool false, undef, undef, undef, undef, undef, .bool false, .bool false, undef, undef, undef, .bool false, .bool false, undef, undef, undef, undef, .bool false, .bool false, undef, undef, undef, undef, .bool false, .bool false] ⟨#[c0, .int .i64 (most : Nat), .pointer (some ⟨B, 0, none⟩), c3, c4, .int .i64 (N : Nat), c6, c7, c8, c9, c10, c11, c12, c13, c14, c15, c16, c17, c18, c19, c20, c21, c22, c23, c24, c25, c26, c27, c28, c29, c30, c31, c32, c33, c34, c35, c36, c37, c38, c39, c40, c41, c42, c43, c44, c45, c46, c47, c48, c49, c50, c51, c52, c53, c54, c55, c56, c57, c58, c59, c60, c61], df⟩ L a ∧ Hid (Ext wr wc)) ⟨Inv.start, Lib.hid ((Ext.refl wr).drew)⟩ ?_ ?_
  · refine ⟨?_, ?_, ?_, ?_, ?_, ?_, ?_, ?_, ?_, ?_, ?_, ?_, ?_, ?_, ?_, ?_, ?_, ?_, ?_, ?_, ?_, ?_, ?_, ?_, ?_, ?_, ?_, ?_, ?_, ?_, ?_, ?_, ?_, ?_, ?_, ?_, ?_, ?_, ?_, ?_, ?_, ?_, ?_, ?_, ?_, ?_, ?_, ?_, ?_, ?_, ?_, ?_, ?_, ?_, trivial⟩
    ·
      rintro L a wc ⟨hv, HO⟩ hL hc hd
      exact wpOp_val rfl rfl (ex_field rfl ((hv.fixed 2 (by decide)).trans rfl) (by go_simp)) ⟨hv.put sm_3_apart 0 rfl (lb rfl) (lb rfl) rfl, HO⟩
    ·
      rintro L a wc ⟨hv, HO⟩ hL hc hd
      have h0 : wc.cell? ⟨B, 0, none⟩ = some (.int .i64 d) := HO.out.cell (HB.out 0 _ rfl)
      have h1 : wc.cell? ⟨B, 1, none⟩ = some (.slice A gs.length c) := HO.out.cell (HB.out 1 _ rfl)
      have h2 : wc.cell? ⟨B, 2, none⟩ = some (.int .i64 gl) := HO.out.cell (HB.out 2 _ rfl)
      exact wpOp_val rfl rfl (ex_load rfl (hv.get 0 rfl rfl (hd 0 (by decide))) (by go_simp)) ⟨hv.put sm_3_apart 1 rfl (lb rfl) (lb rfl) rfl, HO⟩
    ·
      rintro L a wc ⟨hv, HO⟩ hL hc hd
      have hf := HF.out
      refine wpOp_call (R := fun v w1 => v = .bool true ∧ Ext wc w1) rfl rfl (ex_call rfl rfl (by simp only [List.map_toArray, List.map_cons, List.map_nil, (hv.get 1 rfl rfl (hd 1 (by decide)))]; rfl) (enters_of Tryd.func35 (by kernel_rfl) rfl _ _)) ((rFew_any d gl gs 30 _ wc (Rs.ext (Rs.ext RI.ext) _ _ _ _ HO.out HG.out) (by decide)).mono (fun e w' h => ⟨_, h.1.trans (by rw [HF.out]), rfl, h.2⟩)) ?_
      rintro v w' ⟨rfl, hx⟩
      exact ⟨hv.put sm_3_apart 2 rfl (lb rfl) (lb rfl) rfl, Lib.hid (HO.out.trans hx)⟩
    ·
      rintro L a wc ⟨hv, HO⟩ hL hc hd
      exact wpOp_val rfl rfl (ex_move rfl (hv.get 2 rfl rfl (hd 2 (by decide)))) ⟨hv.put sm_3_apart 3 rfl (lb rfl) (lb rfl) rfl, HO⟩
    ·
      rintro L a wc ⟨hv, HO⟩ hL hc hd
      exact wpOp_val rfl ((wanted_at rfl rfl (hv.get 3 rfl rfl (hd 3 (by decide)))).trans rfl) (ex_move rfl ((hv.fixed 5 (by decide)).trans rfl)) ⟨hv.put sm_3_apart 4 rfl (lb rfl) (lb rfl) rfl, HO⟩
    ·
      rintro L a wc ⟨hv, HO⟩ hL hc hd
      have u := H1.out
      rw [HN.out] at u
      have u2 : 0 < N := by omega
      exact wpOp_val rfl ((wanted_at rfl rfl (hv.get 3 rfl rfl (hd 3 (by decide)))).trans rfl) (ex_bin rfl (hv.get 4 rfl rfl (hd 4 (by decide))) rfl (by go_simp)) ⟨hv.put sm_3_apart 5 rfl (lb rfl) (lb rfl) rfl, HO⟩
    ·
      rintro L a wc ⟨hv, HO⟩ hL hc hd
      exact wpOp_val rfl rfl (ex_pick rfl (hv.get 3 rfl rfl (hd 3 (by decide))) (hv.get 5 rfl rfl (hd 5 (by decide)))) ⟨hv.put sm_3_apart 6 rfl (lb rfl) (lb rfl) rfl, HO⟩
    ·
      rintro L a wc ⟨hv, HO⟩ hL hc hd
      exact wpOp_val rfl rfl (ex_move rfl (hv.get 6 rfl rfl (hd 6 (by decide)))) ⟨hv.put sm_3_apart 7 rfl (lb rfl) (lb rfl) rfl, HO⟩
    ·
      rintro L a wc ⟨hv, HO⟩ hL hc hd
      exact wpOp_val rfl ((wanted_at rfl rfl (hv.get 7 rfl rfl (hd 7 (by decide)))).trans rfl) (ex_move rfl ((hv.fixed 5 (by decide)).trans rfl)) ⟨hv.put sm_3_apart 8 rfl (lb rfl) (lb rfl) rfl, HO⟩
    ·
      rintro L a wc ⟨hv, HO⟩ hL hc hd
      exact wpOp_val rfl ((wanted_at rfl rfl (hv.get 7 rfl rfl (hd 7 (by decide)))).trans rfl) (ex_move rfl ((hv.fixed 1 (by decide)).trans rfl)) ⟨hv.put sm_3_apart 9 rfl (lb rfl) (lb rfl) rfl, HO⟩
    ·
      rintro L a wc ⟨hv, HO⟩ hL hc hd
      have u := H2.out
      rw [HN.out] at u
      exact wpOp_val rfl ((wanted_at rfl rfl (hv.get 7 rfl rfl (hd 7 (by decide)))).trans rfl) (ex_bin rfl (hv.get 8 rfl rfl (hd 8 (by decide))) (hv.get 9 rfl rfl (hd 9 (by decide))) (by go_simp)) ⟨hv.put sm_3_apart 10 rfl (lb rfl) (lb rfl) rfl, HO⟩
    ·
      rintro L a wc ⟨hv, HO⟩ hL hc hd
      exact wpOp_val rfl rfl (ex_pick rfl (hv.get 7 rfl rfl (hd 7 (by decide))) (hv.get 10 rfl rfl (hd 10 (by decide)))) ⟨hv.put sm_3_apart 11 rfl (lb rfl) (lb rfl) rfl, HO⟩
    ·
      rintro L a wc ⟨hv, HO⟩ hL hc hd
      exact wpOp_val rfl rfl (ex_move rfl (hv.get 11 rfl rfl (hd 11 (by decide)))) ⟨hv.put sm_3_apart 12 rfl (lb rfl) (lb rfl) rfl, HO⟩
    ·
      rintro L a wc ⟨hv, HO⟩ hL hc hd
      exact wpOp_val rfl ((wanted_at rfl rfl (hv.get 12 rfl rfl (hd 12 (by decide)))).trans rfl) (ex_field rfl ((hv.fixed 2 (by decide)).trans rfl) (by go_simp)) ⟨hv.put sm_3_apart 13 rfl (lb rfl) (lb rfl) rfl, HO⟩
    ·
      rintro L a wc ⟨hv, HO⟩ hL hc hd
      have h0 : wc.cell? ⟨B, 4, none⟩ = some (.int .i64 lost) := HO.out.cell (HB.out 4 _ rfl)
      exact wpOp_val rfl ((wanted_at rfl rfl (hv.get 12 rfl rfl (hd 12 (by decide)))).trans rfl) (ex_load rfl (hv.get 13 rfl rfl (hd 13 (by decide))) (by go_simp)) ⟨hv.put sm_3_apart 14 rfl (lb rfl) (lb rfl) rfl, HO⟩
    ·
      rintro L a wc ⟨hv, HO⟩ hL hc hd
      have u := H3.out
      exact wpOp_val rfl ((wanted_at rfl rfl (hv.get 12 rfl rfl (hd 12 (by decide)))).trans rfl) (ex_bin rfl (hv.get 14 rfl rfl (hd 14 (by decide))) rfl (by go_simp)) ⟨hv.put sm_3_apart 15 rfl (lb rfl) (lb rfl) rfl, HO⟩
    ·
      rintro L a wc ⟨hv, HO⟩ hL hc hd
      exact wpOp_val rfl rfl (ex_pick rfl (hv.get 12 rfl rfl (hd 12 (by decide))) (hv.get 15 rfl rfl (hd 15 (by decide)))) ⟨hv.put sm_3_apart 16 rfl (lb rfl) (lb rfl) rfl, HO⟩
    ·
      rintro L a wc ⟨hv, HO⟩ hL hc hd
      exact wpOp_val rfl rfl (ex_move rfl (hv.get 16 rfl rfl (hd 16 (by decide)))) ⟨hv.put sm_3_apart 17 rfl (lb rfl) (lb rfl) rfl, HO⟩
    ·
      rintro L a wc ⟨hv, HO⟩ hL hc hd
      exact wpOp_off rfl ((wanted_at rfl rfl (hv.get 17 rfl rfl (hd 17 (by decide)))).trans rfl) ⟨hv.put sm_3_apart 18 rfl (lb rfl) (lb rfl) rfl, HO⟩
    ·
      rintro L a wc ⟨hv, HO⟩ hL hc hd
      exact wpOp_off rfl ((wanted_at rfl rfl (hv.get 17 rfl rfl (hd 17 (by decide)))).trans rfl) ⟨hv.put sm_3_apart 19 rfl (lb rfl) (lb rfl) rfl, HO⟩
    ·
      rintro L a wc ⟨hv, HO⟩ hL hc hd
      exact wpOp_off rfl ((wanted_at rfl rfl (hv.get 17 rfl rfl (hd 17 (by decide)))).trans rfl) ⟨hv.put sm_3_apart 20 rfl (lb rfl) (lb rfl) rfl, HO⟩
    ·
      rintro L a wc ⟨hv, HO⟩ hL hc hd
      exact wpOp_off rfl ((wanted_at rfl rfl (hv.get 17 rfl rfl (hd 17 (by decide)))).trans rfl) ⟨hv.put sm_3_apart 21 rfl (lb rfl) (lb rfl) rfl, HO⟩
    ·
      rintro L a wc ⟨hv, HO⟩ hL hc hd
      exact wpOp_off rfl ((wanted_at rfl rfl (hv.get 17 rfl rfl (hd 17 (by decide)))).trans rfl) ⟨hv.put sm_3_apart 22 rfl (lb rfl) (lb rfl) rfl, HO⟩
    ·
      rintro L a wc ⟨hv, HO⟩ hL hc hd
      exact wpOp_val rfl rfl (ex_pick rfl (hv.get 17 rfl rfl (hd 17 (by decide))) rfl) ⟨hv.put sm_3_apart 23 rfl (lb rfl) (lb rfl) rfl, HO⟩
    ·
      rintro L a wc ⟨hv, HO⟩ hL hc hd
      exact wpOp_val rfl rfl (ex_move rfl (hv.get 23 rfl rfl (hd 23 (by decide)))) ⟨hv.put sm_3_apart 24 rfl (lb rfl) (lb rfl) rfl, HO⟩
    ·
      rintro L a wc ⟨hv, HO⟩ hL hc hd
      exact wpOp_off rfl ((wanted_at rfl rfl (hv.get 24 rfl rfl (hd 24 (by decide)))).trans rfl) ⟨hv.put sm_3_apart 25 rfl (lb rfl) (lb rfl) rfl, HO⟩
    ·
      rintro L a wc ⟨hv, HO⟩ hL hc hd
      exact wpOp_off rfl ((wanted_at rfl rfl (hv.get 24 rfl rfl (hd 24 (by decide)))).trans rfl) ⟨hv.put sm_3_apart 26 rfl (lb rfl) (lb rfl) rfl, HO⟩
    ·
      rintro L a wc ⟨hv, HO⟩ hL hc hd
      exact wpOp_off rfl ((wanted_at rfl rfl (hv.get 24 rfl rfl (hd 24 (by decide)))).trans rfl) ⟨hv.put sm_3_apart 27 rfl (lb rfl) (lb rfl) rfl, HO⟩
    ·
      rintro L a wc ⟨hv, HO⟩ hL hc hd
      exact wpOp_val rfl rfl (ex_pick rfl (hv.get 24 rfl rfl (hd 24 (by decide))) rfl) ⟨hv.put sm_3_apart 28 rfl (lb rfl) (lb rfl) rfl, HO⟩
    ·
      rintro L a wc ⟨hv, HO⟩ hL hc hd
      exact wpOp_val rfl rfl (ex_move rfl (hv.get 28 rfl rfl (hd 28 (by decide)))) ⟨hv.put sm_3_apart 29 rfl (lb rfl) (lb rfl) rfl, HO⟩
    ·
      rintro L a wc ⟨hv, HO⟩ hL hc hd
      exact wpOp_off rfl ((wanted_at rfl rfl (hv.get 29 rfl rfl (hd 29 (by decide)))).trans rfl) ⟨hv.put sm_3_apart 30 rfl (lb rfl) (lb rfl) rfl, HO⟩
    ·
      rintro L a wc ⟨hv, HO⟩ hL hc hd
      exact wpOp_off rfl ((wanted_at rfl rfl (hv.get 29 rfl rfl (hd 29 (by decide)))).trans rfl) ⟨hv.put sm_3_apart 31 rfl (lb rfl) (lb rfl) rfl, HO⟩
    ·
      rintro L a wc ⟨hv, HO⟩ hL hc hd
      exact wpOp_off rfl ((wanted_at rfl rfl (hv.get 29 rfl rfl (hd 29 (by decide)))).trans rfl) ⟨hv.put sm_3_apart 32 rfl (lb rfl) (lb rfl) rfl, HO⟩
    ·
      rintro L a wc ⟨hv, HO⟩ hL hc hd
      exact wpOp_off rfl ((wanted_at rfl rfl (hv.get 29 rfl rfl (hd 29 (by decide)))).trans rfl) ⟨hv.put sm_3_apart 33 rfl (lb rfl) (lb rfl) rfl, HO⟩
    ·
      rintro L a wc ⟨hv, HO⟩ hL hc hd
      exact wpOp_off rfl ((wanted_at rfl rfl (hv.get 29 rfl rfl (hd 29 (by decide)))).trans rfl) ⟨hv.put sm_3_apart 34 rfl (lb rfl) (lb rfl) rfl, HO⟩
    ·
      rintro L a wc ⟨hv, HO⟩ hL hc hd
      exact wpOp_val rfl rfl (ex_pick rfl (hv.get 29 rfl rfl (hd 29 (by decide))) rfl) ⟨hv.put sm_3_apart 35 rfl (lb rfl) (lb rfl) rfl, HO⟩
    ·
      rintro L a wc ⟨hv, HO⟩ hL hc hd
      exact wpOp_val rfl rfl (ex_move rfl (hv.get 35 rfl rfl (hd 35 (by decide)))) ⟨hv.put sm_3_apart 36 rfl (lb rfl) (lb rfl) rfl, HO⟩
    ·
      rintro L a wc ⟨hv, HO⟩ hL hc hd
      exact wpOp_off rfl ((wanted_at rfl rfl (hv.get 36 rfl rfl (hd 36 (by decide)))).trans rfl) ⟨hv.put sm_3_apart 37 rfl (lb rfl) (lb rfl) rfl, HO⟩
    ·
      rintro L a wc ⟨hv, HO⟩ hL hc hd
      exact wpOp_off rfl ((wanted_at rfl rfl (hv.get 36 rfl rfl (hd 36 (by decide)))).trans rfl) ⟨hv.put sm_3_apart 38 rfl (lb rfl) (lb rfl) rfl, HO⟩
    ·
      rintro L a wc ⟨hv, HO⟩ hL hc hd
      exact wpOp_off rfl ((wanted_at rfl rfl (hv.get 36 rfl rfl (hd 36 (by decide)))).trans rfl) ⟨hv.put sm_3_apart 39 rfl (lb rfl) (lb rfl) rfl, HO⟩
    ·
      rintro L a wc ⟨hv, HO⟩ hL hc hd
      exact wpOp_val rfl rfl (ex_pick rfl (hv.get 36 rfl rfl (hd 36 (by decide))) rfl) ⟨hv.put sm_3_apart 40 rfl (lb rfl) (lb rfl) rfl, HO⟩
    ·
      rintro L a wc ⟨hv, HO⟩ hL hc hd
      exact wpOp_val rfl rfl (ex_move rfl (hv.get 40 rfl rfl (hd 40 (by decide)))) ⟨hv.put sm_3_apart 41 rfl (lb rfl) (lb rfl) rfl, HO⟩
    ·
      rintro L a wc ⟨hv, HO⟩ hL hc hd
      exact wpOp_off rfl ((wanted_at rfl rfl (hv.get 41 rfl rfl (hd 41 (by decide)))).trans rfl) ⟨hv.put sm_3_apart 42 rfl (lb rfl) (lb rfl) rfl, HO⟩
    ·
      rintro L a wc ⟨hv, HO⟩ hL hc hd
      exact wpOp_off rfl ((wanted_at rfl rfl (hv.get 41 rfl rfl (hd 41 (by decide)))).trans rfl) ⟨hv.put sm_3_apart 43 rfl (lb rfl) (lb rfl) rfl, HO⟩
    ·
      rintro L a wc ⟨hv, HO⟩ hL hc hd
      exact wpOp_off rfl ((wanted_at rfl rfl (hv.get 41 rfl rfl (hd 41 (by decide)))).trans rfl) ⟨hv.put sm_3_apart 44 rfl (lb rfl) (lb rfl) rfl, HO⟩
    ·
      rintro L a wc ⟨hv, HO⟩ hL hc hd
      exact wpOp_off rfl ((wanted_at rfl rfl (hv.get 41 rfl rfl (hd 41 (by decide)))).trans rfl) ⟨hv.put sm_3_apart 45 rfl (lb rfl) (lb rfl) rfl, HO⟩
    ·
      rintro L a wc ⟨hv, HO⟩ hL hc hd
      exact wpOp_val rfl rfl (ex_pick rfl (hv.get 41 rfl rfl (hd 41 (by decide))) rfl) ⟨hv.put sm_3_apart 46 rfl (lb rfl) (lb rfl) rfl, HO⟩
    ·
      rintro L a wc ⟨hv, HO⟩ hL hc hd
      exact wpOp_val rfl rfl (ex_move rfl (hv.get 46 rfl rfl (hd 46 (by decide)))) ⟨hv.put sm_3_apart 47 rfl (lb rfl) (lb rfl) rfl, HO⟩
    ·
      rintro L a wc ⟨hv, HO⟩ hL hc hd
      exact wpOp_off rfl ((wanted_at rfl rfl (hv.get 47 rfl rfl (hd 47 (by decide)))).trans rfl) ⟨hv.put sm_3_apart 48 rfl (lb rfl) (lb rfl) rfl, HO⟩
    ·
      rintro L a wc ⟨hv, HO⟩ hL hc hd
      exact wpOp_off rfl ((wanted_at rfl rfl (hv.get 47 rfl rfl (hd 47 (by decide)))).trans rfl) ⟨hv.put sm_3_apart 49 rfl (lb rfl) (lb rfl) rfl, HO⟩
    ·
      rintro L a wc ⟨hv, HO⟩ hL hc hd
      exact wpOp_off rfl ((wanted_at rfl rfl (hv.get 47 rfl rfl (hd 47 (by decide)))).trans rfl) ⟨hv.put sm_3_apart 50 rfl (lb rfl) (lb rfl) rfl, HO⟩
    ·
      rintro L a wc ⟨hv, HO⟩ hL hc hd
      exact wpOp_off rfl ((wanted_at rfl rfl (hv.get 47 rfl rfl (hd 47 (by decide)))).trans rfl) ⟨hv.put sm_3_apart 51 rfl (lb rfl) (lb rfl) rfl, HO⟩
    ·
      rintro L a wc ⟨hv, HO⟩ hL hc hd
      exact wpOp_val rfl rfl (ex_pick rfl (hv.get 47 rfl rfl (hd 47 (by decide))) rfl) ⟨hv.put sm_3_apart 52 rfl (lb rfl) (lb rfl) rfl, HO⟩
    ·
      rintro L a wc ⟨hv, HO⟩ hL hc hd
      exact wpOp_val rfl rfl (ex_assign rfl (hv.get 52 rfl rfl (hd 52 (by decide)))) ⟨hv.put sm_3_apart 53 rfl (lb rfl) (lb rfl) rfl, HO⟩
  · rintro L a wc ⟨hv, HO⟩ hall
    show K a wc
    have ha := act_lit a
    rw [hv.size, hv.defers] at ha
    have hl : ∀ f : Nat → Value, ((List.range (⟨#[c0, .int .i64 (most : Nat), .pointer (some ⟨B, 0, none⟩), c3, c4, .int .i64 (N : Nat), c6, c7, c8, c9, c10, c11, c12, c13, c14, c15, c16, c17, c18, c19, c20, c21, c22, c23, c24, c25, c26, c27, c28, c29, c30, c31, c32, c33, c34, c35, c36, c37, c38, c39, c40, c41, c42, c43, c44, c45, c46, c47, c48, c49, c50, c51, c52, c53, c54, c55, c56, c57, c58, c59, c60, c61], df⟩ : Act).tmps.size).map f).toArray = #[f 0, f 1, f 2, f 3, f 4, f 5, f 6, f 7, f 8, f 9, f 10, f 11, f 12, f 13, f 14, f 15, f 16, f 17, f 18, f 19, f 20, f 21, f 22, f 23, f 24, f 25, f 26, f 27, f 28, f 29, f 30, f 31, f 32, f 33, f 34, f 35, f 36, f 37, f 38, f 39, f 40, f 41, f 42, f 43, f 44, f 45, f 46, f 47, f 48, f 49, f 50, f 51, f 52, f 53, f 54, f 55, f 56, f 57, f 58, f 59, f 60, f 61] := fun _ => rfl
    rw [hl] at ha
    simp only [hv.fixed 0 (by decide), hv.fixed 1 (by decide), hv.fixed 2 (by decide), hv.fixed 3 (by decide), hv.fixed 5 (by decide), hv.fixed 6 (by decide), hv.fixed 7 (by decide), hv.fixed 8 (by decide), hv.get 53 (d := 4) rfl rfl (hall 53 (by decide))] at ha
    rw [ha]
    exact hK _ _ _ _ _ _ _ _ _ _ _ _ _ _ _ _ _ _ _ _ _ _ _ _ _ _ _ _ _ _ _ _ _ _ _ _ _ _ _ _ _ _ _ _ _ _ _ _ _ _ _ _ _ wc HO.out
noncomputable def sm_4_code : Code := ((Tryd.f27.body.bind (regionOf 2)).getD .skip)
def sm_4_dsts : List (Option Nat) := [some 9, some 10, some 11, some 12, some 13, some 14, some 15, some 16, some 17, some 18, some 19, some 20, some 21, some 22, some 23, some 24, some 25, some 26, some 27, some 28, some 29, some 30, some 31, some 32, some 33, some 34, some 35, some 36, some 37, some 38, some 39, some 40, some 41, some 42, some 43, some 44, some 45, some 46, some 47, some 48, some 49, some 50, some 51, some 52, some 53, some 54, some 55, some 56, some 57, some 58, some 59, some 60, some 61, some 4]
theorem sm_4_apart : apartD sm_4_dsts = true := by decide +kernel
set_option maxRecDepth 1000000 in
set_option maxHeartbeats 16000000 in
theorem sm_4 (wr : World) (B N M c most : Nat) (d gl n lost piece other : Int) (gs : List (List Int)) (A : Option Addr) (data : List UInt8) (hN : N ≤ 24) (hM : Hid (IntKind.i64.wrap (2 ^ N) = (M : Int))) (HG : Hid (Rs (Rs RI) wr (.slice A gs.length c) gs)) (HB : Hid (Cells wr B [.int .i64 d, .slice A gs.length c, .int .i64 gl, .string (sb data), .int .i64 lost, .int .i64 piece, .int .i64 other])) (HF : Hid (Cd.few gs 30 = true)) (HN : Hid (n = (N : Int))) (H1 : Hid ((0 < n))) (H2 : Hid ((n ≤ most))) (H3 : Hid ((0 ≤ lost))) (H4 : Hid (¬ (lost < (M : Int)))) (c0 c3 c4 c6 c7 c8 c9 c10 c11 c12 c13 c14 c15 c16 c17 c18 c19 c20 c21 c22 c23 c24 c25 c26 c27 c28 c29 c30 c31 c32 c33 c34 c35 c36 c37 c38 c39 c40 c41 c42 c43 c44 c45 c46 c47 c48 c49 c50 c51 c52 c53 c54 c55 c56 c57 c58 c59 c60 c61 : Value) (df : List Deferred) (K : Act → World → Prop)
    (hK : ∀  (u9 u10 u11 u12 u13 u14 u15 u16 u17 u18 u19 u20 u21 u22 u23 u24 u25 u26 u27 u28 u29 u30 u31 u32 u33 u34 u35 u36 u37 u38 u39 u40 u41 u42 u43 u44 u45 u46 u47 u48 u49 u50 u51 u52 u53 u54 u55 u56 u57 u58 u59 u60 u61 : Value) (wx : World), Ext wr wx → K ⟨#[c0, .int .i64 (most : Nat), .pointer (some ⟨B, 0, none⟩), c3, .bool false, .int .i64 (N : Nat), c6, c7, c8, u9, u10, u11, u12, u13, u14, u15, u16, u17, u18, u19, u20, u21, u22, u23, u24, u25, u26, u27, u28, u29, u30, u31, u32, u33, u34, u35, u36, u37, u38, u39, u40, u41, u42, u43, u44, u45, u46, u47, u48, u49, u50, u51, u52, u53, u54, u55, u56, u57, u58, u59, u60, u61], df⟩ wx) :
    Code.wp Tryd.prog sm_4_code (AtEnd K) ⟨#[c0, .int .i64 (most : Nat), .pointer (some ⟨B, 0, none⟩), c3, c4, .int .i64 (N : Nat), c6, c7, c8, c9, c10, c11, c12, c13, c14, c15, c16, c17, c18, c19, c20, c21, c22, c23, c24, c25, c26, c27, c28, c29, c30, c31, c32, c33, c34, c35, c36, c37, c38, c39, c40, c41, c42, c43, c44, c45, c46, c47, c48, c49, c50, c51, c52, c53, c54, c55, c56, c57, c58, c59, c60, c61], df⟩ wr := by
  conv => arg 2; whnf
  refine region_inv (by kernel_rfl) [[], [0], [1], [2, 2], [3], [4, 3], [3, 5], [6, 3], [7], [7], [8, 9, 7], [7, 10], [11, 7], [12], [13, 12], [14, 12], [12, 15], [16, 12], [17], [18, 17], [17], [20, 17], [19, 21, 17], [17, 22], [23, 17], [24], [25, 24], [26, 24], [24, 27], [28, 24], [29], [30, 29], [29], [32, 29], [31, 33, 29], [29, 34], [35, 29], [36], [37, 36], [38, 36], [36, 39], [40, 36], [41], [42, 41], [41], [43, 44, 41], [41, 45], [46, 41], [47], [48, 47], [49, 47], [50, 47], [47, 51], [52, 47, 0, 1, 2, 3, 4, 5, 6, 7, 8, 9, 10, 11, 12, 13, 14, 15, 16, 17, 18, 19, 20, 21, 22, 23, 24, 25, 26, 27, 28, 29, 30, 31, 32, 33, 34, 35, 36, 37, 38, 39, 40, 41, 42, 43, 44, 45, 46, 47, 48, 49, 50, 51, 52]] (by kernel_rfl) [0, 1, 2, 3, 4, 5, 6, 7, 8, 9, 10, 11, 12, 13, 14, 15, 16, 17, 18, 19, 20, 21, 22, 23, 24, 25, 26, 27, 28, 29, 30, 31, 32, 33, 34, 35, 36, 37, 38, 39, 40, 41, 42, 43, 44, 45, 46, 47, 48, 49, 50, 51, 52, 53] (by decide +kernel) (by decide +kernel) (by decide +kernel) (fun L a wc => Inv sm_4_dsts [.pointer (some ⟨B, 0, none⟩), .agg #[.int .i64 d, .slice A gs.length c, .int .i64 gl], .bool true, .bool true, .int .i64 (N : Nat), .bool true, .bool true, .bool true, .int .i64 (N : Nat), .int .i64 (most : Nat), .bool true, .bool true, .bool true, .pointer (some ⟨B, 4, none⟩), .int .i64 lost, .bool true, .bool true, .bool true, .pointer (some ⟨B, 4, none⟩), .int .i64 lost, .int .i64 (N : Nat), .int .i64 (M : Nat), .bool false, .bool false, .bool false, undef, undef, undef, .bool false, .bool false, undef, undef, undef, undef, undef, .bool false, .bool false, undef, undef, undef, .bool false, .bool false, undef, undef, undef, undef, .bool false, .bool false, undef, undef, undef, undef, .bool false, .bool false] ⟨#[c0, .int .i64 (most : Nat), .pointer (some ⟨B, 0, none⟩), c3, c4, .int .i64 (N : Nat), c6, c7, c8, c9, c10, c11, c12, c13, c14, c15, c16, c17, c18, c19, c20, c21, c22, c23, c24, c25, c26, c27, c28, c29, c30, c31, c32, c33, c34, c35, c36, c37, c38, c39, c40, c41, c42, c43, c44, c45, c46, c47, c48, c49, c50, c51, c52, c53, c54, c55, c56, c57, c58, c59, c60, c61], df⟩ L a ∧ Hid (Ext wr wc)) ⟨Inv.start, Lib.hid ((Ext.refl wr).drew)⟩ ?_ ?_
  · refine ⟨?_, ?_, ?_, ?_, ?_, ?_, ?_, ?_, ?_, ?_, ?_, ?_, ?_, ?_, ?_, ?_, ?_, ?_, ?_, ?_, ?_, ?_, ?_, ?_, ?_, ?_, ?_, ?_, ?_, ?_, ?_, ?_, ?_, ?_, ?_, ?_, ?_, ?_, ?_, ?_, ?_, ?_, ?_, ?_, ?_, ?_, ?_, ?_, ?_, ?_, ?_, ?_, ?_, ?_, trivial⟩
    ·
      rintro L a wc ⟨hv, HO⟩ hL hc hd
      exact wpOp_val rfl rfl (ex_field rfl ((hv.fixed 2 (by decide)).trans rfl) (by go_simp)) ⟨hv.put sm_4_apart 0 rfl (lb rfl) (lb rfl) rfl, HO⟩
    ·
      rintro L a wc ⟨hv, HO⟩ hL hc hd
      have h0 : wc.cell? ⟨B, 0, none⟩ = some (.int .i64 d) := HO.out.cell (HB.out 0 _ rfl)
      have h1 : wc.cell? ⟨B, 1, none⟩ = some (.slice A gs.length c) := HO.out.cell (HB.out 1 _ rfl)
      have h2 : wc.cell? ⟨B, 2, none⟩ = some (.int .i64 gl) := HO.out.cell (HB.out 2 _ rfl)
      exact wpOp_val rfl rfl (ex_load rfl (hv.get 0 rfl rfl (hd 0 (by decide))) (by go_simp)) ⟨hv.put sm_4_apart 1 rfl (lb rfl) (lb rfl) rfl, HO⟩
    ·
      rintro L a wc ⟨hv, HO⟩ hL hc hd
      have hf := HF.out
      refine wpOp_call (R := fun v w1 => v = .bool true ∧ Ext wc w1) rfl rfl (ex_call rfl rfl (by simp only [List.map_toArray, List.map_cons, List.map_nil, (hv.get 1 rfl rfl (hd 1 (by decide)))]; rfl) (enters_of Tryd.func35 (by kernel_rfl) rfl _ _)) ((rFew_any d gl gs 30 _ wc (Rs.ext (Rs.ext RI.ext) _ _ _ _ HO.out HG.out) (by decide)).mono (fun e w' h => ⟨_, h.1.trans (by rw [HF.out]), rfl, h.2⟩)) ?_
      rintro v w' ⟨rfl, hx⟩
      exact ⟨hv.put sm_4_apart 2 rfl (lb rfl) (lb rfl) rfl, Lib.hid (HO.out.trans hx)⟩
    ·
      rintro L a wc ⟨hv, HO⟩ hL hc hd
      exact wpOp_val rfl rfl (ex_move rfl (hv.get 2 rfl rfl (hd 2 (by decide)))) ⟨hv.put sm_4_apart 3 rfl (lb rfl) (lb rfl) rfl, HO⟩
    ·
      rintro L a wc ⟨hv, HO⟩ hL hc hd
      exact wpOp_val rfl ((wanted_at rfl rfl (hv.get 3 rfl rfl (hd 3 (by decide)))).trans rfl) (ex_move rfl ((hv.fixed 5 (by decide)).trans rfl)) ⟨hv.put sm_4_apart 4 rfl (lb rfl) (lb rfl) rfl, HO⟩
    ·
      rintro L a wc ⟨hv, HO⟩ hL hc hd
      have u := H1.out
      rw [HN.out] at u
      have u2 : 0 < N := by omega
      exact wpOp_val rfl ((wanted_at rfl rfl (hv.get 3 rfl rfl (hd 3 (by decide)))).trans rfl) (ex_bin rfl (hv.get 4 rfl rfl (hd 4 (by decide))) rfl (by go_simp)) ⟨hv.put sm_4_apart 5 rfl (lb rfl) (lb rfl) rfl, HO⟩
    ·
      rintro L a wc ⟨hv, HO⟩ hL hc hd
      exact wpOp_val rfl rfl (ex_pick rfl (hv.get 3 rfl rfl (hd 3 (by decide))) (hv.get 5 rfl rfl (hd 5 (by decide)))) ⟨hv.put sm_4_apart 6 rfl (lb rfl) (lb rfl) rfl, HO⟩
    ·
      rintro L a wc ⟨hv, HO⟩ hL hc hd
      exact wpOp_val rfl rfl (ex_move rfl (hv.get 6 rfl rfl (hd 6 (by decide)))) ⟨hv.put sm_4_apart 7 rfl (lb rfl) (lb rfl) rfl, HO⟩
    ·
      rintro L a wc ⟨hv, HO⟩ hL hc hd
      exact wpOp_val rfl ((wanted_at rfl rfl (hv.get 7 rfl rfl (hd 7 (by decide)))).trans rfl) (ex_move rfl ((hv.fixed 5 (by decide)).trans rfl)) ⟨hv.put sm_4_apart 8 rfl (lb rfl) (lb rfl) rfl, HO⟩
    ·
      rintro L a wc ⟨hv, HO⟩ hL hc hd
      exact wpOp_val rfl ((wanted_at rfl rfl (hv.get 7 rfl rfl (hd 7 (by decide)))).trans rfl) (ex_move rfl ((hv.fixed 1 (by decide)).trans rfl)) ⟨hv.put sm_4_apart 9 rfl (lb rfl) (lb rfl) rfl, HO⟩
    ·
      rintro L a wc ⟨hv, HO⟩ hL hc hd
      have u := H2.out
      rw [HN.out] at u
      exact wpOp_val rfl ((wanted_at rfl rfl (hv.get 7 rfl rfl (hd 7 (by decide)))).trans rfl) (ex_bin rfl (hv.get 8 rfl rfl (hd 8 (by decide))) (hv.get 9 rfl rfl (hd 9 (by decide))) (by go_simp)) ⟨hv.put sm_4_apart 10 rfl (lb rfl) (lb rfl) rfl, HO⟩
    ·
      rintro L a wc ⟨hv, HO⟩ hL hc hd
      exact wpOp_val rfl rfl (ex_pick rfl (hv.get 7 rfl rfl (hd 7 (by decide))) (hv.get 10 rfl rfl (hd 10 (by decide)))) ⟨hv.put sm_4_apart 11 rfl (lb rfl) (lb rfl) rfl, HO⟩
    ·
      rintro L a wc ⟨hv, HO⟩ hL hc hd
      exact wpOp_val rfl rfl (ex_move rfl (hv.get 11 rfl rfl (hd 11 (by decide)))) ⟨hv.put sm_4_apart 12 rfl (lb rfl) (lb rfl) rfl, HO⟩
    ·
      rintro L a wc ⟨hv, HO⟩ hL hc hd
      exact wpOp_val rfl ((wanted_at rfl rfl (hv.get 12 rfl rfl (hd 12 (by decide)))).trans rfl) (ex_field rfl ((hv.fixed 2 (by decide)).trans rfl) (by go_simp)) ⟨hv.put sm_4_apart 13 rfl (lb rfl) (lb rfl) rfl, HO⟩
    ·
      rintro L a wc ⟨hv, HO⟩ hL hc hd
      have h0 : wc.cell? ⟨B, 4, none⟩ = some (.int .i64 lost) := HO.out.cell (HB.out 4 _ rfl)
      exact wpOp_val rfl ((wanted_at rfl rfl (hv.get 12 rfl rfl (hd 12 (by decide)))).trans rfl) (ex_load rfl (hv.get 13 rfl rfl (hd 13 (by decide))) (by go_simp)) ⟨hv.put sm_4_apart 14 rfl (lb rfl) (lb rfl) rfl, HO⟩
    ·
      rintro L a wc ⟨hv, HO⟩ hL hc hd
      have u := H3.out
      exact wpOp_val rfl ((wanted_at rfl rfl (hv.get 12 rfl rfl (hd 12 (by decide)))).trans rfl) (ex_bin rfl (hv.get 14 rfl rfl (hd 14 (by decide))) rfl (by go_simp)) ⟨hv.put sm_4_apart 15 rfl (lb rfl) (lb rfl) rfl, HO⟩
    ·
      rintro L a wc ⟨hv, HO⟩ hL hc hd
      exact wpOp_val rfl rfl (ex_pick rfl (hv.get 12 rfl rfl (hd 12 (by decide))) (hv.get 15 rfl rfl (hd 15 (by decide)))) ⟨hv.put sm_4_apart 16 rfl (lb rfl) (lb rfl) rfl, HO⟩
    ·
      rintro L a wc ⟨hv, HO⟩ hL hc hd
      exact wpOp_val rfl rfl (ex_move rfl (hv.get 16 rfl rfl (hd 16 (by decide)))) ⟨hv.put sm_4_apart 17 rfl (lb rfl) (lb rfl) rfl, HO⟩
    ·
      rintro L a wc ⟨hv, HO⟩ hL hc hd
      exact wpOp_val rfl ((wanted_at rfl rfl (hv.get 17 rfl rfl (hd 17 (by decide)))).trans rfl) (ex_field rfl ((hv.fixed 2 (by decide)).trans rfl) (by go_simp)) ⟨hv.put sm_4_apart 18 rfl (lb rfl) (lb rfl) rfl, HO⟩
    ·
      rintro L a wc ⟨hv, HO⟩ hL hc hd
      have h0 : wc.cell? ⟨B, 4, none⟩ = some (.int .i64 lost) := HO.out.cell (HB.out 4 _ rfl)
      exact wpOp_val rfl ((wanted_at rfl rfl (hv.get 17 rfl rfl (hd 17 (by decide)))).trans rfl) (ex_load rfl (hv.get 18 rfl rfl (hd 18 (by decide))) (by go_simp)) ⟨hv.put sm_4_apart 19 rfl (lb rfl) (lb rfl) rfl, HO⟩
    ·
      rintro L a wc ⟨hv, HO⟩ hL hc hd
      exact wpOp_val rfl ((wanted_at rfl rfl (hv.get 17 rfl rfl (hd 17 (by decide)))).trans rfl) (ex_move rfl ((hv.fixed 5 (by decide)).trans rfl)) ⟨hv.put sm_4_apart 20 rfl (lb rfl) (lb rfl) rfl, HO⟩
    ·
      rintro L a wc ⟨hv, HO⟩ hL hc hd
      have hm := hM.out
      exact wpOp_val rfl ((wanted_at rfl rfl (hv.get 17 rfl rfl (hd 17 (by decide)))).trans rfl) (ex_bin rfl rfl (hv.get 20 rfl rfl (hd 20 (by decide))) (by go_simp)) ⟨hv.put sm_4_apart 21 rfl (lb rfl) (lb rfl) rfl, HO⟩
    ·
      rintro L a wc ⟨hv, HO⟩ hL hc hd
      have u := H4.out
      exact wpOp_val rfl ((wanted_at rfl rfl (hv.get 17 rfl rfl (hd 17 (by decide)))).trans rfl) (ex_bin rfl (hv.get 19 rfl rfl (hd 19 (by decide))) (hv.get 21 rfl rfl (hd 21 (by decide))) (by go_simp)) ⟨hv.put sm_4_apart 22 rfl (lb rfl) (lb rfl) rfl, HO⟩
    ·
      rintro L a wc ⟨hv, HO⟩ hL hc hd
      exact wpOp_val rfl rfl (ex_pick rfl (hv.get 17 rfl rfl (hd 17 (by decide))) (hv.get 22 rfl rfl (hd 22 (by decide)))) ⟨hv.put sm_4_apart 23 rfl (lb rfl) (lb rfl) rfl, HO⟩
    ·
      rintro L a wc ⟨hv, HO⟩ hL hc hd
      exact wpOp_val rfl rfl (ex_move rfl (hv.get 23 rfl rfl (hd 23 (by decide)))) ⟨hv.put sm_4_apart 24 rfl (lb rfl) (lb rfl) rfl, HO⟩
    ·
      rintro L a wc ⟨hv, HO⟩ hL hc hd
      exact wpOp_off rfl ((wanted_at rfl rfl (hv.get 24 rfl rfl (hd 24 (by decide)))).trans rfl) ⟨hv.put sm_4_apart 25 rfl (lb rfl) (lb rfl) rfl, HO⟩
    ·
      rintro L a wc ⟨hv, HO⟩ hL hc hd
      exact wpOp_off rfl ((wanted_at rfl rfl (hv.get 24 rfl rfl (hd 24 (by decide)))).trans rfl) ⟨hv.put sm_4_apart 26 rfl (lb rfl) (lb rfl) rfl, HO⟩
    ·
      rintro L a wc ⟨hv, HO⟩ hL hc hd
      exact wpOp_off rfl ((wanted_at rfl rfl (hv.get 24 rfl rfl (hd 24 (by decide)))).trans rfl) ⟨hv.put sm_4_apart 27 rfl (lb rfl) (lb rfl) rfl, HO⟩
    ·
      rintro L a wc ⟨hv, HO⟩ hL hc hd
      exact wpOp_val rfl rfl (ex_pick rfl (hv.get 24 rfl rfl (hd 24 (by decide))) rfl) ⟨hv.put sm_4_apart 28 rfl (lb rfl) (lb rfl) rfl, HO⟩
    ·
      rintro L a wc ⟨hv, HO⟩ hL hc hd
      exact wpOp_val rfl rfl (ex_move rfl (hv.get 28 rfl rfl (hd 28 (by decide)))) ⟨hv.put sm_4_apart 29 rfl (lb rfl) (lb rfl) rfl, HO⟩
    ·
      rintro L a wc ⟨hv, HO⟩ hL hc hd
      exact wpOp_off rfl ((wanted_at rfl rfl (hv.get 29 rfl rfl (hd 29 (by decide)))).trans rfl) ⟨hv.put sm_4_apart 30 rfl (lb rfl) (lb rfl) rfl, HO⟩
    ·
      rintro L a wc ⟨hv, HO⟩ hL hc hd
      exact wpOp_off rfl ((wanted_at rfl rfl (hv.get 29 rfl rfl (hd 29 (by decide)))).trans rfl) ⟨hv.put sm_4_apart 31 rfl (lb rfl) (lb rfl) rfl, HO⟩
    ·
      rintro L a wc ⟨hv, HO⟩ hL hc hd
      exact wpOp_off rfl ((wanted_at rfl rfl (hv.get 29 rfl rfl (hd 29 (by decide)))).trans rfl) ⟨hv.put sm_4_apart 32 rfl (lb rfl) (lb rfl) rfl, HO⟩
    ·
      rintro L a wc ⟨hv, HO⟩ hL hc hd
      exact wpOp_off rfl ((wanted_at rfl rfl (hv.get 29 rfl rfl (hd 29 (by decide)))).trans rfl) ⟨hv.put sm_4_apart 33 rfl (lb rfl) (lb rfl) rfl, HO⟩
    ·
      rintro L a wc ⟨hv, HO⟩ hL hc hd
      exact wpOp_off rfl ((wanted_at rfl rfl (hv.get 29 rfl rfl (hd 29 (by decide)))).trans rfl) ⟨hv.put sm_4_apart 34 rfl (lb rfl) (lb rfl) rfl, HO⟩
    ·
      rintro L a wc ⟨hv, HO⟩ hL hc hd
      exact wpOp_val rfl rfl (ex_pick rfl (hv.get 29 rfl rfl (hd 29 (by decide))) rfl) ⟨hv.put sm_4_apart 35 rfl (lb rfl) (lb rfl) rfl, HO⟩
    ·
      rintro L a wc ⟨hv, HO⟩ hL hc hd
      exact wpOp_val rfl rfl (ex_move rfl (hv.get 35 rfl rfl (hd 35 (by decide)))) ⟨hv.put sm_4_apart 36 rfl (lb rfl) (lb rfl) rfl, HO⟩
    ·
      rintro L a wc ⟨hv, HO⟩ hL hc hd
      exact wpOp_off rfl ((wanted_at rfl rfl (hv.get 36 rfl rfl (hd 36 (by decide)))).trans rfl) ⟨hv.put sm_4_apart 37 rfl (lb rfl) (lb rfl) rfl, HO⟩
    ·
      rintro L a wc ⟨hv, HO⟩ hL hc hd
      exact wpOp_off rfl ((wanted_at rfl rfl (hv.get 36 rfl rfl (hd 36 (by decide)))).trans rfl) ⟨hv.put sm_4_apart 38 rfl (lb rfl) (lb rfl) rfl, HO⟩
    ·
      rintro L a wc ⟨hv, HO⟩ hL hc hd
      exact wpOp_off rfl ((wanted_at rfl rfl (hv.get 36 rfl rfl (hd 36 (by decide)))).trans rfl) ⟨hv.put sm_4_apart 39 rfl (lb rfl) (lb rfl) rfl, HO⟩
    ·
      rintro L a wc ⟨hv, HO⟩ hL hc hd
      exact wpOp_val rfl rfl (ex_pick rfl (hv.get 36 rfl rfl (hd 36 (by decide))) rfl) ⟨hv.put sm_4_apart 40 rfl (lb rfl) (lb rfl) rfl, HO⟩
    ·
      rintro L a wc ⟨hv, HO⟩ hL hc hd
      exact wpOp_val rfl rfl (ex_move rfl (hv.get 40 rfl rfl (hd 40 (by decide)))) ⟨hv.put sm_4_apart 41 rfl (lb rfl) (lb rfl) rfl, HO⟩
    ·
      rintro L a wc ⟨hv, HO⟩ hL hc hd
      exact wpOp_off rfl ((wanted_at rfl rfl (hv.get 41 rfl rfl (hd 41 (by decide)))).trans rfl) ⟨hv.put sm_4_apart 42 rfl (lb rfl) (lb rfl) rfl, HO⟩
    ·
      rintro L a wc ⟨hv, HO⟩ hL hc hd
      exact wpOp_off rfl ((wanted_at rfl rfl (hv.get 41 rfl rfl (hd 41 (by decide)))).trans rfl) ⟨hv.put sm_4_apart 43 rfl (lb rfl) (lb rfl) rfl, HO⟩
    ·
      rintro L a wc ⟨hv, HO⟩ hL hc hd
      exact wpOp_off rfl ((wanted_at rfl rfl (hv.get 41 rfl rfl (hd 41 (by decide)))).trans rfl) ⟨hv.put sm_4_apart 44 rfl (lb rfl) (lb rfl) rfl, HO⟩
    ·
      rintro L a wc ⟨hv, HO⟩ hL hc hd
      exact wpOp_off rfl ((wanted_at rfl rfl (hv.get 41 rfl rfl (hd 41 (by decide)))).trans rfl) ⟨hv.put sm_4_apart 45 rfl (lb rfl) (lb rfl) rfl, HO⟩
    ·
      rintro L a wc ⟨hv, HO⟩ hL hc hd
      exact wpOp_val rfl rfl (ex_pick rfl (hv.get 41 rfl rfl (hd 41 (by decide))) rfl) ⟨hv.put sm_4_apart 46 rfl (lb rfl) (lb rfl) rfl, HO⟩
    ·
      rintro L a wc ⟨hv, HO⟩ hL hc hd
      exact wpOp_val rfl rfl (ex_move rfl (hv.get 46 rfl rfl (hd 46 (by decide)))) ⟨hv.put sm_4_apart 47 rfl (lb rfl) (lb rfl) rfl, HO⟩
    ·
      rintro L a wc ⟨hv, HO⟩ hL hc hd
      exact wpOp_off rfl ((wanted_at rfl rfl (hv.get 47 rfl rfl (hd 47 (by decide)))).trans rfl) ⟨hv.put sm_4_apart 48 rfl (lb rfl) (lb rfl) rfl, HO⟩
    ·
      rintro L a wc ⟨hv, HO⟩ hL hc hd
      exact wpOp_off rfl ((wanted_at rfl rfl (hv.get 47 rfl rfl (hd 47 (by decide)))).trans rfl) ⟨hv.put sm_4_apart 49 rfl (lb rfl) (lb rfl) rfl, HO⟩
    ·
      rintro L a wc ⟨hv, HO⟩ hL hc hd
      exact wpOp_off rfl ((wanted_at rfl rfl (hv.get 47 rfl rfl (hd 47 (by decide)))).trans rfl) ⟨hv.put sm_4_apart 50 rfl (lb rfl) (lb rfl) rfl, HO⟩
    ·
      rintro L a wc ⟨hv, HO⟩ hL hc hd
      exact wpOp_off rfl ((wanted_at rfl rfl (hv.get 47 rfl rfl (hd 47 (by decide)))).trans rfl) ⟨hv.put sm_4_apart 51 rfl (lb rfl) (lb rfl) rfl, HO⟩
    ·
      rintro L a wc ⟨hv, HO⟩ hL hc hd
      exact wpOp_val rfl rfl (ex_pick rfl (hv.get 47 rfl rfl (hd 47 (by decide))) rfl) ⟨hv.put sm_4_apart 52 rfl (lb rfl) (lb rfl) rfl, HO⟩
    ·
      rintro L a wc ⟨hv, HO⟩ hL hc hd
      exact wpOp_val rfl rfl (ex_assign rfl (hv.get 52 rfl rfl (hd 52 (by decide)))) ⟨hv.put sm_4_apart 53 rfl (lb rfl) (lb rfl) rfl, HO⟩
  · rintro L a wc ⟨hv, HO⟩ hall
    show K a wc
    have ha := act_lit a
    rw [hv.size, hv.defers] at ha
    have hl : ∀ f : Nat → Value, ((List.range (⟨#[c0, .int .i64 (most : Nat), .pointer (some ⟨B, 0, none⟩), c3, c4, .int .i64 (N : Nat), c6, c7, c8, c9, c10, c11, c12, c13, c14, c15, c16, c17, c18, c19, c20, c21, c22, c23, c24, c25, c26, c27, c28, c29, c30, c31, c32, c33, c34, c35, c36, c37, c38, c39, c40, c41, c42, c43, c44, c45, c46, c47, c48, c49, c50, c51, c52, c53, c54, c55, c56, c57, c58, c59, c60, c61], df⟩ : Act).tmps.size).map f).toArray = #[f 0, f 1, f 2, f 3, f 4, f 5, f 6, f 7, f 8, f 9, f 10, f 11, f 12, f 13, f 14, f 15, f 16, f 17, f 18, f 19, f 20, f 21, f 22, f 23, f 24, f 25, f 26, f 27, f 28, f 29, f 30, f 31, f 32, f 33, f 34, f 35, f 36, f 37, f 38, f 39, f 40, f 41, f 42, f 43, f 44, f 45, f 46, f 47, f 48, f 49, f 50, f 51, f 52, f 53, f 54, f 55, f 56, f 57, f 58, f 59, f 60, f 61] := fun _ => rfl
    rw [hl] at ha
    simp only [hv.fixed 0 (by decide), hv.fixed 1 (by decide), hv.fixed 2 (by decide), hv.fixed 3 (by decide), hv.fixed 5 (by decide), hv.fixed 6 (by decide), hv.fixed 7 (by decide), hv.fixed 8 (by decide), hv.get 53 (d := 4) rfl rfl (hall 53 (by decide))] at ha
    rw [ha]
    exact hK _ _ _ _ _ _ _ _ _ _ _ _ _ _ _ _ _ _ _ _ _ _ _ _ _ _ _ _ _ _ _ _ _ _ _ _ _ _ _ _ _ _ _ _ _ _ _ _ _ _ _ _ _ wc HO.out
noncomputable def sm_5_code : Code := ((Tryd.f27.body.bind (regionOf 2)).getD .skip)
def sm_5_dsts : List (Option Nat) := [some 9, some 10, some 11, some 12, some 13, some 14, some 15, some 16, some 17, some 18, some 19, some 20, some 21, some 22, some 23, some 24, some 25, some 26, some 27, some 28, some 29, some 30, some 31, some 32, some 33, some 34, some 35, some 36, some 37, some 38, some 39, some 40, some 41, some 42, some 43, some 44, some 45, some 46, some 47, some 48, some 49, some 50, some 51, some 52, some 53, some 54, some 55, some 56, some 57, some 58, some 59, some 60, some 61, some 4]
theorem sm_5_apart : apartD sm_5_dsts = true := by decide +kernel
set_option maxRecDepth 1000000 in
set_option maxHeartbeats 16000000 in
theorem sm_5 (wr : World) (B N M c most : Nat) (d gl n lost piece other : Int) (gs : List (List Int)) (A : Option Addr) (data : List UInt8) (hN : N ≤ 24) (hM : Hid (IntKind.i64.wrap (2 ^ N) = (M : Int))) (HG : Hid (Rs (Rs RI) wr (.slice A gs.length c) gs)) (HB : Hid (Cells wr B [.int .i64 d, .slice A gs.length c, .int .i64 gl, .string (sb data), .int .i64 lost, .int .i64 piece, .int .i64 other])) (HF : Hid (Cd.few gs 30 = true)) (HN : Hid (n = (N : Int))) (H1 : Hid ((0 < n))) (H2 : Hid ((n ≤ most))) (H3 : Hid ((0 ≤ lost))) (H4 : Hid ((lost < (M : Int)))) (H5 : Hid (¬ (0 ≤ other))) (c0 c3 c4 c6 c7 c8 c9 c10 c11 c12 c13 c14 c15 c16 c17 c18 c19 c20 c21 c22 c23 c24 c25 c26 c27 c28 c29 c30 c31 c32 c33 c34 c35 c36 c37 c38 c39 c40 c41 c42 c43 c44 c45 c46 c47 c48 c49 c50 c51 c52 c53 c54 c55 c56 c57 c58 c59 c60 c61 : Value) (df : List Deferred) (K : Act → World → Prop)
    (hK : ∀  (u9 u10 u11 u12 u13 u14 u15 u16 u17 u18 u19 u20 u21 u22 u23 u24 u25 u26 u27 u28 u29 u30 u31 u32 u33 u34 u35 u36 u37 u38 u39 u40 u41 u42 u43 u44 u45 u46 u47 u48 u49 u50 u51 u52 u53 u54 u55 u56 u57 u58 u59 u60 u61 : Value) (wx : World), Ext wr wx → K ⟨#[c0, .int .i64 (most : Nat), .pointer (some ⟨B, 0, none⟩), c3, .bool false, .int .i64 (N : Nat), c6, c7, c8, u9, u10, u11, u12, u13, u14, u15, u16, u17, u18, u19, u20, u21, u22, u23, u24, u25, u26, u27, u28, u29, u30, u31, u32, u33, u34, u35, u36, u37, u38, u39, u40, u41, u42, u43, u44, u45, u46, u47, u48, u49, u50, u51, u52, u53, u54, u55, u56, u57, u58, u59, u60, u61], df⟩ wx) :
    Code.wp Tryd.prog sm_5_code (AtEnd K) ⟨#[c0, .int .i64 (most : Nat), .pointer (some ⟨B, 0, none⟩), c3, c4, .int .i64 (N : Nat), c6, c7, c8, c9, c10, c11, c12, c13, c14, c15, c16, c17, c18, c19, c20, c21, c22, c23, c24, c25, c26, c27, c28, c29, c30, c31, c32, c33, c34, c35, c36, c37, c38, c39, c40, c41, c42, c43, c44, c45, c46, c47, c48, c49, c50, c51, c52, c53, c54, c55, c56, c57, c58, c59, c60, c61], df⟩ wr := by
  conv => arg 2; whnf
  refine region_inv (by kernel_rfl) [[], [0], [1], [2, 2], [3], [4, 3], [3, 5], [6, 3], [7], [7], [8, 9, 7], [7, 10], [11, 7], [12], [13, 12], [14, 12], [12, 15], [16, 12], [17], [18, 17], [17], [20, 17], [19, 21, 17], [17, 22], [23, 17], [24], [25, 24], [26, 24], [24, 27], [28, 24], [29], [30, 29], [29], [32, 29], [31, 33, 29], [29, 34], [35, 29], [36], [37, 36], [38, 36], [36, 39], [40, 36], [41], [42, 41], [41], [43, 44, 41], [41, 45], [46, 41], [47], [48, 47], [49, 47], [50, 47], [47, 51], [52, 47, 0, 1, 2, 3, 4, 5, 6, 7, 8, 9, 10, 11, 12, 13, 14, 15, 16, 17, 18, 19, 20, 21, 22, 23, 24, 25, 26, 27, 28, 29, 30, 31, 32, 33, 34, 35, 36, 37, 38, 39, 40, 41, 42, 43, 44, 45, 46, 47, 48, 49, 50, 51, 52]] (by kernel_rfl) [0, 1, 2, 3, 4, 5, 6, 7, 8, 9, 10, 11, 12, 13, 14, 15, 16, 17, 18, 19, 20, 21, 22, 23, 24, 25, 26, 27, 28, 29, 30, 31, 32, 33, 34, 35, 36, 37, 38, 39, 40, 41, 42, 43, 44, 45, 46, 47, 48, 49, 50, 51, 52, 53] (by decide +kernel) (by decide +kernel) (by decide +kernel) (fun L a wc => Inv sm_5_dsts [.pointer (some ⟨B, 0, none⟩), .agg #[.int .i64 d, .slice A gs.length c, .int .i64 gl], .bool true, .bool true, .int .i64 (N : Nat), .bool true, .bool true, .bool true, .int .i64 (N : Nat), .int .i64 (most : Nat), .bool true, .bool true, .bool true, .pointer (some ⟨B, 4, none⟩), .int .i64 lost, .bool true, .bool true, .bool true, .pointer (some ⟨B, 4, none⟩), .int .i64 lost, .int .i64 (N : Nat), .int .i64 (M : Nat), .bool true, .bool true, .bool true, .pointer (some ⟨B, 6, none⟩), .int .i64 other, .bool false, .bool false, .bool false, undef, undef, undef, undef, undef, .bool false, .bool false, undef, undef, undef, .bool false, .bool false, undef, undef, undef, undef, .bool false, .bool false, undef, undef, undef, undef, .bool false, .bool false] ⟨#[c0, .int .i64 (most : Nat), .pointer (some ⟨B, 0, none⟩), c3, c4, .int .i64 (N : Nat), c6, c7, c8, c9, c10, c11, c12, c13, c14, c15, c16, c17, c18, c19, c20, c21, c22, c23, c24, c25, c26, c27, c28, c29, c30, c31, c32, c33, c34, c35, c36, c37, c38, c39, c40, c41, c42, c43, c44, c45, c46, c47, c48, c49, c50, c51, c52, c53, c54, c55, c56, c57, c58, c59, c60, c61], df⟩ L a ∧ Hid (Ext wr wc)) ⟨Inv.start, Lib.hid ((Ext.refl wr).drew)⟩ ?_ ?_
  · refine ⟨?_, ?_, ?_, ?_, ?_, ?_, ?_, ?_, ?_, ?_, ?_, ?_, ?_, ?_, ?_, ?_, ?_, ?_, ?_, ?_, ?_, ?_, ?_, ?_, ?_, ?_, ?_, ?_, ?_, ?_, ?_, ?_, ?_, ?_, ?_, ?_, ?_, ?_, ?_, ?_, ?_, ?_, ?_, ?_, ?_, ?_, ?_, ?_, ?_, ?_, ?_, ?_, ?_, ?_, trivial⟩
    ·
      rintro L a wc ⟨hv, HO⟩ hL hc hd
      exact wpOp_val rfl rfl (ex_field rfl ((hv.fixed 2 (by decide)).trans rfl) (by go_simp)) ⟨hv.put sm_5_apart 0 rfl (lb rfl) (lb rfl) rfl, HO⟩
    ·
      rintro L a wc ⟨hv, HO⟩ hL hc hd
      have h0 : wc.cell? ⟨B, 0, none⟩ = some (.int .i64 d) := HO.out.cell (HB.out 0 _ rfl)
      have h1 : wc.cell? ⟨B, 1, none⟩ = some (.slice A gs.length c) := HO.out.cell (HB.out 1 _ rfl)
      have h2 : wc.cell? ⟨B, 2, none⟩ = some (.int .i64 gl) := HO.out.cell (HB.out 2 _ rfl)
      exact wpOp_val rfl rfl (ex_load rfl (hv.get 0 rfl rfl (hd 0 (by decide))) (by go_simp)) ⟨hv.put sm_5_apart 1 rfl (lb rfl) (lb rfl) rfl, HO⟩
    ·
      rintro L a wc ⟨hv, HO⟩ hL hc hd
      have hf := HF.out
      refine wpOp_call (R := fun v w1 => v = .bool true ∧ Ext wc w1) rfl rfl (ex_call rfl rfl (by simp only [List.map_toArray, List.map_cons, List.map_nil, (hv.get 1 rfl rfl (hd 1 (by decide)))]; rfl) (enters_of Tryd.func35 (by kernel_rfl) rfl _ _)) ((rFew_any d gl gs 30 _ wc (Rs.ext (Rs.ext RI.ext) _ _ _ _ HO.out HG.out) (by decide)).mono (fun e w' h => ⟨_, h.1.trans (by rw [HF.out]), rfl, h.2⟩)) ?_
      rintro v w' ⟨rfl, hx⟩
      exact ⟨hv.put sm_5_apart 2 rfl (lb rfl) (lb rfl) rfl, Lib.hid (HO.out.trans hx)⟩
    ·
      rintro L a wc ⟨hv, HO⟩ hL hc hd
      exact wpOp_val rfl rfl (ex_move rfl (hv.get 2 rfl rfl (hd 2 (by decide)))) ⟨hv.put sm_5_apart 3 rfl (lb rfl) (lb rfl) rfl, HO⟩
    ·
      rintro L a wc ⟨hv, HO⟩ hL hc hd
      exact wpOp_val rfl ((wanted_at rfl rfl (hv.get 3 rfl rfl (hd 3 (by decide)))).trans rfl) (ex_move rfl ((hv.fixed 5 (by decide)).trans rfl)) ⟨hv.put sm_5_apart 4 rfl (lb rfl) (lb rfl) rfl, HO⟩
    ·
      rintro L a wc ⟨hv, HO⟩ hL hc hd
      have u := H1.out
      rw [HN.out] at u
      have u2 : 0 < N := by omega
      exact wpOp_val rfl ((wanted_at rfl rfl (hv.get 3 rfl rfl (hd 3 (by decide)))).trans rfl) (ex_bin rfl (hv.get 4 rfl rfl (hd 4 (by decide))) rfl (by go_simp)) ⟨hv.put sm_5_apart 5 rfl (lb rfl) (lb rfl) rfl, HO⟩
    ·
      rintro L a wc ⟨hv, HO⟩ hL hc hd
      exact wpOp_val rfl rfl (ex_pick rfl (hv.get 3 rfl rfl (hd 3 (by decide))) (hv.get 5 rfl rfl (hd 5 (by decide)))) ⟨hv.put sm_5_apart 6 rfl (lb rfl) (lb rfl) rfl, HO⟩
    ·
      rintro L a wc ⟨hv, HO⟩ hL hc hd
      exact wpOp_val rfl rfl (ex_move rfl (hv.get 6 rfl rfl (hd 6 (by decide)))) ⟨hv.put sm_5_apart 7 rfl (lb rfl) (lb rfl) rfl, HO⟩
    ·
      rintro L a wc ⟨hv, HO⟩ hL hc hd
      exact wpOp_val rfl ((wanted_at rfl rfl (hv.get 7 rfl rfl (hd 7 (by decide)))).trans rfl) (ex_move rfl ((hv.fixed 5 (by decide)).trans rfl)) ⟨hv.put sm_5_apart 8 rfl (lb rfl) (lb rfl) rfl, HO⟩
    ·
      rintro L a wc ⟨hv, HO⟩ hL hc hd
      exact wpOp_val rfl ((wanted_at rfl rfl (hv.get 7 rfl rfl (hd 7 (by decide)))).trans rfl) (ex_move rfl ((hv.fixed 1 (by decide)).trans rfl)) ⟨hv.put sm_5_apart 9 rfl (lb rfl) (lb rfl) rfl, HO⟩
    ·
      rintro L a wc ⟨hv, HO⟩ hL hc hd
      have u := H2.out
      rw [HN.out] at u
      exact wpOp_val rfl ((wanted_at rfl rfl (hv.get 7 rfl rfl (hd 7 (by decide)))).trans rfl) (ex_bin rfl (hv.get 8 rfl rfl (hd 8 (by decide))) (hv.get 9 rfl rfl (hd 9 (by decide))) (by go_simp)) ⟨hv.put sm_5_apart 10 rfl (lb rfl) (lb rfl) rfl, HO⟩
    ·
      rintro L a wc ⟨hv, HO⟩ hL hc hd
      exact wpOp_val rfl rfl (ex_pick rfl (hv.get 7 rfl rfl (hd 7 (by decide))) (hv.get 10 rfl rfl (hd 10 (by decide)))) ⟨hv.put sm_5_apart 11 rfl (lb rfl) (lb rfl) rfl, HO⟩
    ·
      rintro L a wc ⟨hv, HO⟩ hL hc hd
      exact wpOp_val rfl rfl (ex_move rfl (hv.get 11 rfl rfl (hd 11 (by decide)))) ⟨hv.put sm_5_apart 12 rfl (lb rfl) (lb rfl) rfl, HO⟩
    ·
      rintro L a wc ⟨hv, HO⟩ hL hc hd
      exact wpOp_val rfl ((wanted_at rfl rfl (hv.get 12 rfl rfl (hd 12 (by decide)))).trans rfl) (ex_field rfl ((hv.fixed 2 (by decide)).trans rfl) (by go_simp)) ⟨hv.put sm_5_apart 13 rfl (lb rfl) (lb rfl) rfl, HO⟩
    ·
      rintro L a wc ⟨hv, HO⟩ hL hc hd
      have h0 : wc.cell? ⟨B, 4, none⟩ = some (.int .i64 lost) := HO.out.cell (HB.out 4 _ rfl)
      exact wpOp_val rfl ((wanted_at rfl rfl (hv.get 12 rfl rfl (hd 12 (by decide)))).trans rfl) (ex_load rfl (hv.get 13 rfl rfl (hd 13 (by decide))) (by go_simp)) ⟨hv.put sm_5_apart 14 rfl (lb rfl) (lb rfl) rfl, HO⟩
    ·
      rintro L a wc ⟨hv, HO⟩ hL hc hd
      have u := H3.out
      exact wpOp_val rfl ((wanted_at rfl rfl (hv.get 12 rfl rfl (hd 12 (by decide)))).trans rfl) (ex_bin rfl (hv.get 14 rfl rfl (hd 14 (by decide))) rfl (by go_simp)) ⟨hv.put sm_5_apart 15 rfl (lb rfl) (lb rfl) rfl, HO⟩
    ·
      rintro L a wc ⟨hv, HO⟩ hL hc hd
      exact wpOp_val rfl rfl (ex_pick rfl (hv.get 12 rfl rfl (hd 12 (by decide))) (hv.get 15 rfl rfl (hd 15 (by decide)))) ⟨hv.put sm_5_apart 16 rfl (lb rfl) (lb rfl) rfl, HO⟩
    ·
      rintro L a wc ⟨hv, HO⟩ hL hc hd
      exact wpOp_val rfl rfl (ex_move rfl (hv.get 16 rfl rfl (hd 16 (by decide)))) ⟨hv.put sm_5_apart 17 rfl (lb rfl) (lb rfl) rfl, HO⟩
    ·
      rintro L a wc ⟨hv, HO⟩ hL hc hd
      exact wpOp_val rfl ((wanted_at rfl rfl (hv.get 17 rfl rfl (hd 17 (by decide)))).trans rfl) (ex_field rfl ((hv.fixed 2 (by decide)).trans rfl) (by go_simp)) ⟨hv.put sm_5_apart 18 rfl (lb rfl) (lb rfl) rfl, HO⟩
    ·
      rintro L a wc ⟨hv, HO⟩ hL hc hd
      have h0 : wc.cell? ⟨B, 4, none⟩ = some (.int .i64 lost) := HO.out.cell (HB.out 4 _ rfl)
      exact wpOp_val rfl ((wanted_at rfl rfl (hv.get 17 rfl rfl (hd 17 (by decide)))).trans rfl) (ex_load rfl (hv.get 18 rfl rfl (hd 18 (by decide))) (by go_simp)) ⟨hv.put sm_5_apart 19 rfl (lb rfl) (lb rfl) rfl, HO⟩
    ·
      rintro L a wc ⟨hv, HO⟩ hL hc hd
      exact wpOp_val rfl ((wanted_at rfl rfl (hv.get 17 rfl rfl (hd 17 (by decide)))).trans rfl) (ex_move rfl ((hv.fixed 5 (by decide)).trans rfl)) ⟨hv.put sm_5_apart 20 rfl (lb rfl) (lb rfl) rfl, HO⟩
    ·
      rintro L a wc ⟨hv, HO⟩ hL hc hd
      have hm := hM.out
      exact wpOp_val rfl ((wanted_at rfl rfl (hv.get 17 rfl rfl (hd 17 (by decide)))).trans rfl) (ex_bin rfl rfl (hv.get 20 rfl rfl (hd 20 (by decide))) (by go_simp)) ⟨hv.put sm_5_apart 21 rfl (lb rfl) (lb rfl) rfl, HO⟩
    ·
      rintro L a wc ⟨hv, HO⟩ hL hc hd
      have u := H4.out
      exact wpOp_val rfl ((wanted_at rfl rfl (hv.get 17 rfl rfl (hd 17 (by decide)))).trans rfl) (ex_bin rfl (hv.get 19 rfl rfl (hd 19 (by decide))) (hv.get 21 rfl rfl (hd 21 (by decide))) (by go_simp)) ⟨hv.put sm_5_apart 22 rfl (lb rfl) (lb rfl) rfl, HO⟩
    ·
      rintro L a wc ⟨hv, HO⟩ hL hc hd
      exact wpOp_val rfl rfl (ex_pick rfl (hv.get 17 rfl rfl (hd 17 (by decide))) (hv.get 22 rfl rfl (hd 22 (by decide)))) ⟨hv.put sm_5_apart 23 rfl (lb rfl) (lb rfl) rfl, HO⟩
    ·
      rintro L a wc ⟨hv, HO⟩ hL hc hd
      exact wpOp_val rfl rfl (ex_move rfl (hv.get 23 rfl rfl (hd 23 (by decide)))) ⟨hv.put sm_5_apart 24 rfl (lb rfl) (lb rfl) rfl, HO⟩
    ·
      rintro L a wc ⟨hv, HO⟩ hL hc hd
      exact wpOp_val rfl ((wanted_at rfl rfl (hv.get 24 rfl rfl (hd 24 (by decide)))).trans rfl) (ex_field rfl ((hv.fixed 2 (by decide)).trans rfl) (by go_simp)) ⟨hv.put sm_5_apart 25 rfl (lb rfl) (lb rfl) rfl, HO⟩
    ·
      rintro L a wc ⟨hv, HO⟩ hL hc hd
      have h0 : wc.cell? ⟨B, 6, none⟩ = some (.int .i64 other) := HO.out.cell (HB.out 6 _ rfl)
      exact wpOp_val rfl ((wanted_at rfl rfl (hv.get 24 rfl rfl (hd 24 (by decide)))).trans rfl) (ex_load rfl (hv.get 25 rfl rfl (hd 25 (by decide))) (by go_simp)) ⟨hv.put sm_5_apart 26 rfl (lb rfl) (lb rfl) rfl, HO⟩
    ·
      rintro L a wc ⟨hv, HO⟩ hL hc hd
      have u := H5.out
      exact wpOp_val rfl ((wanted_at rfl rfl (hv.get 24 rfl rfl (hd 24 (by decide)))).trans rfl) (ex_bin rfl (hv.get 26 rfl rfl (hd 26 (by decide))) rfl (by go_simp)) ⟨hv.put sm_5_apart 27 rfl (lb rfl) (lb rfl) rfl, HO⟩
    ·
      rintro L a wc ⟨hv, HO⟩ hL hc hd
      exact wpOp_val rfl rfl (ex_pick rfl (hv.get 24 rfl rfl (hd 24 (by decide))) (hv.get 27 rfl rfl (hd 27 (by decide)))) ⟨hv.put sm_5_apart 28 rfl (lb rfl) (lb rfl) rfl, HO⟩
    ·
      rintro L a wc ⟨hv, HO⟩ hL hc hd
      exact wpOp_val rfl rfl (ex_move rfl (hv.get 28 rfl rfl (hd 28 (by decide)))) ⟨hv.put sm_5_apart 29 rfl (lb rfl) (lb rfl) rfl, HO⟩
    ·
      rintro L a wc ⟨hv, HO⟩ hL hc hd
      exact wpOp_off rfl ((wanted_at rfl rfl (hv.get 29 rfl rfl (hd 29 (by decide)))).trans rfl) ⟨hv.put sm_5_apart 30 rfl (lb rfl) (lb rfl) rfl, HO⟩
    ·
      rintro L a wc ⟨hv, HO⟩ hL hc hd
      exact wpOp_off rfl ((wanted_at rfl rfl (hv.get 29 rfl rfl (hd 29 (by decide)))).trans rfl) ⟨hv.put sm_5_apart 31 rfl (lb rfl) (lb rfl) rfl, HO⟩
    ·
      rintro L a wc ⟨hv, HO⟩ hL hc hd
      exact wpOp_off rfl ((wanted_at rfl rfl (hv.get 29 rfl rfl (hd 29 (by decide)))).trans rfl) ⟨hv.put sm_5_apart 32 rfl (lb rfl) (lb rfl) rfl, HO⟩
    ·
      rintro L a wc ⟨hv, HO⟩ hL hc hd
      exact wpOp_off rfl ((wanted_at rfl rfl (hv.get 29 rfl rfl (hd 29 (by decide)))).trans rfl) ⟨hv.put sm_5_apart 33 rfl (lb rfl) (lb rfl) rfl, HO⟩
    ·
      rintro L a wc ⟨hv, HO⟩ hL hc hd
      exact wpOp_off rfl ((wanted_at rfl rfl (hv.get 29 rfl rfl (hd 29 (by decide)))).trans rfl) ⟨hv.put sm_5_apart 34 rfl (lb rfl) (lb rfl) rfl, HO⟩
    ·
      rintro L a wc ⟨hv, HO⟩ hL hc hd
      exact wpOp_val rfl rfl (ex_pick rfl (hv.get 29 rfl rfl (hd 29 (by decide))) rfl) ⟨hv.put sm_5_apart 35 rfl (lb rfl) (lb rfl) rfl, HO⟩
    ·
      rintro L a wc ⟨hv, HO⟩ hL hc hd
      exact wpOp_val rfl rfl (ex_move rfl (hv.get 35 rfl rfl (hd 35 (by decide)))) ⟨hv.put sm_5_apart 36 rfl (lb rfl) (lb rfl) rfl, HO⟩
    ·
      rintro L a wc ⟨hv, HO⟩ hL hc hd
      exact wpOp_off rfl ((wanted_at rfl rfl (hv.get 36 rfl rfl (hd 36 (by decide)))).trans rfl) ⟨hv.put sm_5_apart 37 rfl (lb rfl) (lb rfl) rfl, HO⟩
    ·
      rintro L a wc ⟨hv, HO⟩ hL hc hd
      exact wpOp_off rfl ((wanted_at rfl rfl (hv.get 36 rfl rfl (hd 36 (by decide)))).trans rfl) ⟨hv.put sm_5_apart 38 rfl (lb rfl) (lb rfl) rfl, HO⟩
    ·
      rintro L a wc ⟨hv, HO⟩ hL hc hd
      exact wpOp_off rfl ((wanted_at rfl rfl (hv.get 36 rfl rfl (hd 36 (by decide)))).trans rfl) ⟨hv.put sm_5_apart 39 rfl (lb rfl) (lb rfl) rfl, HO⟩
    ·
      rintro L a wc ⟨hv, HO⟩ hL hc hd
      exact wpOp_val rfl rfl (ex_pick rfl (hv.get 36 rfl rfl (hd 36 (by decide))) rfl) ⟨hv.put sm_5_apart 40 rfl (lb rfl) (lb rfl) rfl, HO⟩
    ·
      rintro L a wc ⟨hv, HO⟩ hL hc hd
      exact wpOp_val rfl rfl (ex_move rfl (hv.get 40 rfl rfl (hd 40 (by decide)))) ⟨hv.put sm_5_apart 41 rfl (lb rfl) (lb rfl) rfl, HO⟩
    ·
      rintro L a wc ⟨hv, HO⟩ hL hc hd
      exact wpOp_off rfl ((wanted_at rfl rfl (hv.get 41 rfl rfl (hd 41 (by decide)))).trans rfl) ⟨hv.put sm_5_apart 42 rfl (lb rfl) (lb rfl) rfl, HO⟩
    ·
      rintro L a wc ⟨hv, HO⟩ hL hc hd
      exact wpOp_off rfl ((wanted_at rfl rfl (hv.get 41 rfl rfl (hd 41 (by decide)))).trans rfl) ⟨hv.put sm_5_apart 43 rfl (lb rfl) (lb rfl) rfl, HO⟩
    ·
      rintro L a wc ⟨hv, HO⟩ hL hc hd
      exact wpOp_off rfl ((wanted_at rfl rfl (hv.get 41 rfl rfl (hd 41 (by decide)))).trans rfl) ⟨hv.put sm_5_apart 44 rfl (lb rfl) (lb rfl) rfl, HO⟩
    ·
      rintro L a wc ⟨hv, HO⟩ hL hc hd
      exact wpOp_off rfl ((wanted_at rfl rfl (hv.get 41 rfl rfl (hd 41 (by decide)))).trans rfl) ⟨hv.put sm_5_apart 45 rfl (lb rfl) (lb rfl) rfl, HO⟩
    ·
      rintro L a wc ⟨hv, HO⟩ hL hc hd
      exact wpOp_val rfl rfl (ex_pick rfl (hv.get 41 rfl rfl (hd 41 (by decide))) rfl) ⟨hv.put sm_5_apart 46 rfl (lb rfl) (lb rfl) rfl, HO⟩
    ·
      rintro L a wc ⟨hv, HO⟩ hL hc hd
      exact wpOp_val rfl rfl (ex_move rfl (hv.get 46 rfl rfl (hd 46 (by decide)))) ⟨hv.put sm_5_apart 47 rfl (lb rfl) (lb rfl) rfl, HO⟩
    ·
      rintro L a wc ⟨hv, HO⟩ hL hc hd
      exact wpOp_off rfl ((wanted_at rfl rfl (hv.get 47 rfl rfl (hd 47 (by decide)))).trans rfl) ⟨hv.put sm_5_apart 48 rfl (lb rfl) (lb rfl) rfl, HO⟩
    ·
      rintro L a wc ⟨hv, HO⟩ hL hc hd
      exact wpOp_off rfl ((wanted_at rfl rfl (hv.get 47 rfl rfl (hd 47 (by decide)))).trans rfl) ⟨hv.put sm_5_apart 49 rfl (lb rfl) (lb rfl) rfl, HO⟩
    ·
      rintro L a wc ⟨hv, HO⟩ hL hc hd
      exact wpOp_off rfl ((wanted_at rfl rfl (hv.get 47 rfl rfl (hd 47 (by decide)))).trans rfl) ⟨hv.put sm_5_apart 50 rfl (lb rfl) (lb rfl) rfl, HO⟩
    ·
      rintro L a wc ⟨hv, HO⟩ hL hc hd
      exact wpOp_off rfl ((wanted_at rfl rfl (hv.get 47 rfl rfl (hd 47 (by decide)))).trans rfl) ⟨hv.put sm_5_apart 51 rfl (lb rfl) (lb rfl) rfl, HO⟩
    ·
      rintro L a wc ⟨hv, HO⟩ hL hc hd
      exact wpOp_val rfl rfl (ex_pick rfl (hv.get 47 rfl rfl (hd 47 (by decide))) rfl) ⟨hv.put sm_5_apart 52 rfl (lb rfl) (lb rfl) rfl, HO⟩
    ·
      rintro L a wc ⟨hv, HO⟩ hL hc hd
      exact wpOp_val rfl rfl (ex_assign rfl (hv.get 52 rfl rfl (hd 52 (by decide)))) ⟨hv.put sm_5_apart 53 rfl (lb rfl) (lb rfl) rfl, HO⟩
  · rintro L a wc ⟨hv, HO⟩ hall
    show K a wc
    have ha := act_lit a
    rw [hv.size, hv.defers] at ha
    have hl : ∀ f : Nat → Value, ((List.range (⟨#[c0, .int .i64 (most : Nat), .pointer (some ⟨B, 0, none⟩), c3, c4, .int .i64 (N : Nat), c6, c7, c8, c9, c10, c11, c12, c13, c14, c15, c16, c17, c18, c19, c20, c21, c22, c23, c24, c25, c26, c27, c28, c29, c30, c31, c32, c33, c34, c35, c36, c37, c38, c39, c40, c41, c42, c43, c44, c45, c46, c47, c48, c49, c50, c51, c52, c53, c54, c55, c56, c57, c58, c59, c60, c61], df⟩ : Act).tmps.size).map f).toArray = #[f 0, f 1, f 2, f 3, f 4, f 5, f 6, f 7, f 8, f 9, f 10, f 11, f 12, f 13, f 14, f 15, f 16, f 17, f 18, f 19, f 20, f 21, f 22, f 23, f 24, f 25, f 26, f 27, f 28, f 29, f 30, f 31, f 32, f 33, f 34, f 35, f 36, f 37, f 38, f 39, f 40, f 41, f 42, f 43, f 44, f 45, f 46, f 47, f 48, f 49, f 50, f 51, f 52, f 53, f 54, f 55, f 56, f 57, f 58, f 59, f 60, f 61] := fun _ => rfl
    rw [hl] at ha
    simp only [hv.fixed 0 (by decide), hv.fixed 1 (by decide), hv.fixed 2 (by decide), hv.fixed 3 (by decide), hv.fixed 5 (by decide), hv.fixed 6 (by decide), hv.fixed 7 (by decide), hv.fixed 8 (by decide), hv.get 53 (d := 4) rfl rfl (hall 53 (by decide))] at ha
    rw [ha]
    exact hK _ _ _ _ _ _ _ _ _ _ _ _ _ _ _ _ _ _ _ _ _ _ _ _ _ _ _ _ _ _ _ _ _ _ _ _ _ _ _ _ _ _ _ _ _ _ _ _ _ _ _ _ _ wc HO.out
noncomputable def sm_6_code : Code := ((Tryd.f27.body.bind (regionOf 2)).getD .skip)
def sm_6_dsts : List (Option Nat) := [some 9, some 10, some 11, some 12, some 13, some 14, some 15, some 16, some 17, some 18, some 19, some 20, some 21, some 22, some 23, some 24, some 25, some 26, some 27, some 28, some 29, some 30, some 31, some 32, some 33, some 34, some 35, some 36, some 37, some 38, some 39, some 40, some 41, some 42, some 43, some 44, some 45, some 46, some 47, some 48, some 49, some 50, some 51, some 52, some 53, some 54, some 55, some 56, some 57, some 58, some 59, some 60, some 61, some 4]
theorem sm_6_apart : apartD sm_6_dsts = true := by decide +kernel
set_option maxRecDepth 1000000 in
set_option maxHeartbeats 16000000 in
theorem sm_6 (wr : World) (B N M c most : Nat) (d gl n lost piece other : Int) (gs : List (List Int)) (A : Option Addr) (data : List UInt8) (hN : N ≤ 24) (hM : Hid (IntKind.i64.wrap (2 ^ N) = (M : Int))) (HG : Hid (Rs (Rs RI) wr (.slice A gs.length c) gs)) (HB : Hid (Cells wr B [.int .i64 d, .slice A gs.length c, .int .i64 gl, .string (sb data), .int .i64 lost, .int .i64 piece, .int .i64 other])) (HF : Hid (Cd.few gs 30 = true)) (HN : Hid (n = (N : Int))) (H1 : Hid ((0 < n))) (H2 : Hid ((n ≤ most))) (H3 : Hid ((0 ≤ lost))) (H4 : Hid ((lost < (M : Int)))) (H5 : Hid ((0 ≤ other))) (H6 : Hid (¬ (other < (M : Int)))) (c0 c3 c4 c6 c7 c8 c9 c10 c11 c12 c13 c14 c15 c16 c17 c18 c19 c20 c21 c22 c23 c24 c25 c26 c27 c28 c29 c30 c31 c32 c33 c34 c35 c36 c37 c38 c39 c40 c41 c42 c43 c44 c45 c46 c47 c48 c49 c50 c51 c52 c53 c54 c55 c56 c57 c58 c59 c60 c61 : Value) (df : List Deferred) (K : Act → World → Prop)
    (hK : ∀  (u9 u10 u11 u12 u13 u14 u15 u16 u17 u18 u19 u20 u21 u22 u23 u24 u25 u26 u27 u28 u29 u30 u31 u32 u33 u34 u35 u36 u37 u38 u39 u40 u41 u42 u43 u44 u45 u46 u47 u48 u49 u50 u51 u52 u53 u54 u55 u56 u57 u58 u59 u60 u61 : Value) (wx : World), Ext wr wx → K ⟨#[c0, .int .i64 (most : Nat), .pointer (some ⟨B, 0, none⟩), c3, .bool false, .int .i64 (N : Nat), c6, c7, c8, u9, u10, u11, u12, u13, u14, u15, u16, u17, u18, u19, u20, u21, u22, u23, u24, u25, u26, u27, u28, u29, u30, u31, u32, u33, u34, u35, u36, u37, u38, u39, u40, u41, u42, u43, u44, u45, u46, u47, u48, u49, u50, u51, u52, u53, u54, u55, u56, u57, u58, u59, u60, u61], df⟩ wx) :
    Code.wp Tryd.prog sm_6_code (AtEnd K) ⟨#[c0, .int .i64 (most : Nat), .pointer (some ⟨B, 0, none⟩), c3, c4, .int .i64 (N : Nat), c6, c7, c8, c9, c10, c11, c12, c13, c14, c15, c16, c17, c18, c19, c20, c21, c22, c23, c24, c25, c26, c27, c28, c29, c30, c31, c32, c33, c34, c35, c36, c37, c38, c39, c40, c41, c42, c43, c44, c45, c46, c47, c48, c49, c50, c51, c52, c53, c54, c55, c56, c57, c58, c59, c60, c61], df⟩ wr := by
  conv => arg 2; whnf
  refine region_inv (by kernel_rfl) [[], [0], [1], [2, 2], [3], [4, 3], [3, 5], [6, 3], [7], [7], [8, 9, 7], [7, 10], [11, 7], [12], [13, 12], [14, 12], [12, 15], [16, 12], [17], [18, 17], [17], [20, 17], [19, 21, 17], [17, 22], [23, 17], [24], [25, 24], [26, 24], [24, 27], [28, 24], [29], [30, 29], [29], [32, 29], [31, 33, 29], [29, 34], [35, 29], [36], [37, 36], [38, 36], [36, 39], [40, 36], [41], [42, 41], [41], [43, 44, 41], [41, 45], [46, 41], [47], [48, 47], [49, 47], [50, 47], [47, 51], [52, 47, 0, 1, 2, 3, 4, 5, 6, 7, 8, 9, 10, 11, 12, 13, 14, 15, 16, 17, 18, 19, 20, 21, 22, 23, 24, 25, 26, 27, 28, 29, 30, 31, 32, 33, 34, 35, 36, 37, 38, 39, 40, 41, 42, 43, 44, 45, 46, 47, 48, 49, 50, 51, 52]] (by kernel_rfl) [0, 1, 2, 3, 4, 5, 6, 7, 8, 9, 10, 11, 12, 13, 14, 15, 16, 17, 18, 19, 20, 21, 22, 23, 24, 25, 26, 27, 28, 29, 30, 31, 32, 33, 34, 35, 36, 37, 38, 39, 40, 41, 42, 43, 44, 45, 46, 47, 48, 49, 50, 51, 52, 53] (by decide +kernel) (by decide +kernel) (by decide +kernel) (fun L a wc => Inv sm_6_dsts [.pointer (some ⟨B, 0, none⟩), .agg #[.int .i64 d, .slice A gs.length c, .int .i64 gl], .bool true, .bool true, .int .i64 (N : Nat), .bool true, .bool true, .bool true, .int .i64 (N : Nat), .int .i64 (most : Nat), .bool true, .bool true, .bool true, .pointer (some ⟨B, 4, none⟩), .int .i64 lost, .bool true, .bool true, .bool true, .pointer (some ⟨B, 4, none⟩), .int .i64 lost, .int .i64 (N : Nat), .int .i64 (M : Nat), .bool true, .bool true, .bool true, .pointer (some ⟨B, 6, none⟩), .int .i64 other, .bool true, .bool true, .bool true, .pointer (some ⟨B, 6, none⟩), .int .i64 other, .int .i64 (N : Nat), .int .i64 (M : Nat), .bool false, .bool false, .bool false, undef, undef, undef, .bool false, .bool false, undef, undef, undef, undef, .bool false, .bool false, undef, undef, undef, undef, .bool false, .bool false] ⟨#[c0, .int .i64 (most : Nat), .pointer (some ⟨B, 0, none⟩), c3, c4, .int .i64 (N : Nat), c6, c7, c8, c9, c10, c11, c12, c13, c14, c15, c16, c17, c18, c19, c20, c21, c22, c23, c24, c25, c26, c27, c28, c29, c30, c31, c32, c33, c34, c35, c36, c37, c38, c39, c40, c41, c42, c43, c44, c45, c46, c47, c48, c49, c50, c51, c52, c53, c54, c55, c56, c57, c58, c59, c60, c61], df⟩ L a ∧ Hid (Ext wr wc)) ⟨Inv.start, Lib.hid ((Ext.refl wr).drew)⟩ ?_ ?_
  · refine ⟨?_, ?_, ?_, ?_, ?_, ?_, ?_, ?_, ?_, ?_, ?_, ?_, ?_, ?_, ?_, ?_, ?_, ?_, ?_, ?_, ?_, ?_, ?_, ?_, ?_, ?_, ?_, ?_, ?_, ?_, ?_, ?_, ?_, ?_, ?_, ?_, ?_, ?_, ?_, ?_, ?_, ?_, ?_, ?_, ?_, ?_, ?_, ?_, ?_, ?_, ?_, ?_, ?_, ?_, trivial⟩
    ·
      rintro L a wc ⟨hv, HO⟩ hL hc hd
      exact wpOp_val rfl rfl (ex_field rfl ((hv.fixed 2 (by decide)).trans rfl) (by go_simp)) ⟨hv.put sm_6_apart 0 rfl (lb rfl) (lb rfl) rfl, HO⟩
    ·
      rintro L a wc ⟨hv, HO⟩ hL hc hd
      have h0 : wc.cell? ⟨B, 0, none⟩ = some (.int .i64 d) := HO.out.cell (HB.out 0 _ rfl)
      have h1 : wc.cell? ⟨B, 1, none⟩ = some (.slice A gs.length c) := HO.out.cell (HB.out 1 _ rfl)
      have h2 : wc.cell? ⟨B, 2, none⟩ = some (.int .i64 gl) := HO.out.cell (HB.out 2 _ rfl)
      exact wpOp_val rfl rfl (ex_load rfl (hv.get 0 rfl rfl (hd 0 (by decide))) (by go_simp)) ⟨hv.put sm_6_apart 1 rfl (lb rfl) (lb rfl) rfl, HO⟩
    ·
      rintro L a wc ⟨hv, HO⟩ hL hc hd
      have hf := HF.out
      refine wpOp_call (R := fun v w1 => v = .bool true ∧ Ext wc w1) rfl rfl (ex_call rfl rfl (by simp only [List.map_toArray, List.map_cons, List.map_nil, (hv.get 1 rfl rfl (hd 1 (by decide)))]; rfl) (enters_of Tryd.func35 (by kernel_rfl) rfl _ _)) ((rFew_any d gl gs 30 _ wc (Rs.ext (Rs.ext RI.ext) _ _ _ _ HO.out HG.out) (by decide)).mono (fun e w' h => ⟨_, h.1.trans (by rw [HF.out]), rfl, h.2⟩)) ?_
      rintro v w' ⟨rfl, hx⟩
      exact ⟨hv.put sm_6_apart 2 rfl (lb rfl) (lb rfl) rfl, Lib.hid (HO.out.trans hx)⟩
    ·
      rintro L a wc ⟨hv, HO⟩ hL hc hd
      exact wpOp_val rfl rfl (ex_move rfl (hv.get 2 rfl rfl (hd 2 (by decide)))) ⟨hv.put sm_6_apart 3 rfl (lb rfl) (lb rfl) rfl, HO⟩
    ·
      rintro L a wc ⟨hv, HO⟩ hL hc hd
      exact wpOp_val rfl ((wanted_at rfl rfl (hv.get 3 rfl rfl (hd 3 (by decide)))).trans rfl) (ex_move rfl ((hv.fixed 5 (by decide)).trans rfl)) ⟨hv.put sm_6_apart 4 rfl (lb rfl) (lb rfl) rfl, HO⟩
    ·
      rintro L a wc ⟨hv, HO⟩ hL hc hd
      have u := H1.out
      rw [HN.out] at u
      have u2 : 0 < N := by omega
      exact wpOp_val rfl ((wanted_at rfl rfl (hv.get 3 rfl rfl (hd 3 (by decide)))).trans rfl) (ex_bin rfl (hv.get 4 rfl rfl (hd 4 (by decide))) rfl (by go_simp)) ⟨hv.put sm_6_apart 5 rfl (lb rfl) (lb rfl) rfl, HO⟩
    ·
      rintro L a wc ⟨hv, HO⟩ hL hc hd
      exact wpOp_val rfl rfl (ex_pick rfl (hv.get 3 rfl rfl (hd 3 (by decide))) (hv.get 5 rfl rfl (hd 5 (by decide)))) ⟨hv.put sm_6_apart 6 rfl (lb rfl) (lb rfl) rfl, HO⟩
    ·
      rintro L a wc ⟨hv, HO⟩ hL hc hd
      exact wpOp_val rfl rfl (ex_move rfl (hv.get 6 rfl rfl (hd 6 (by decide)))) ⟨hv.put sm_6_apart 7 rfl (lb rfl) (lb rfl) rfl, HO⟩
    ·
      rintro L a wc ⟨hv, HO⟩ hL hc hd
      exact wpOp_val rfl ((wanted_at rfl rfl (hv.get 7 rfl rfl (hd 7 (by decide)))).trans rfl) (ex_move rfl ((hv.fixed 5 (by decide)).trans rfl)) ⟨hv.put sm_6_apart 8 rfl (lb rfl) (lb rfl) rfl, HO⟩
    ·
      rintro L a wc ⟨hv, HO⟩ hL hc hd
      exact wpOp_val rfl ((wanted_at rfl rfl (hv.get 7 rfl rfl (hd 7 (by decide)))).trans rfl) (ex_move rfl ((hv.fixed 1 (by decide)).trans rfl)) ⟨hv.put sm_6_apart 9 rfl (lb rfl) (lb rfl) rfl, HO⟩
    ·
      rintro L a wc ⟨hv, HO⟩ hL hc hd
      have u := H2.out
      rw [HN.out] at u
      exact wpOp_val rfl ((wanted_at rfl rfl (hv.get 7 rfl rfl (hd 7 (by decide)))).trans rfl) (ex_bin rfl (hv.get 8 rfl rfl (hd 8 (by decide))) (hv.get 9 rfl rfl (hd 9 (by decide))) (by go_simp)) ⟨hv.put sm_6_apart 10 rfl (lb rfl) (lb rfl) rfl, HO⟩
    ·
      rintro L a wc ⟨hv, HO⟩ hL hc hd
      exact wpOp_val rfl rfl (ex_pick rfl (hv.get 7 rfl rfl (hd 7 (by decide))) (hv.get 10 rfl rfl (hd 10 (by decide)))) ⟨hv.put sm_6_apart 11 rfl (lb rfl) (lb rfl) rfl, HO⟩
    ·
      rintro L a wc ⟨hv, HO⟩ hL hc hd
      exact wpOp_val rfl rfl (ex_move rfl (hv.get 11 rfl rfl (hd 11 (by decide)))) ⟨hv.put sm_6_apart 12 rfl (lb rfl) (lb rfl) rfl, HO⟩
    ·
      rintro L a wc ⟨hv, HO⟩ hL hc hd
      exact wpOp_val rfl ((wanted_at rfl rfl (hv.get 12 rfl rfl (hd 12 (by decide)))).trans rfl) (ex_field rfl ((hv.fixed 2 (by decide)).trans rfl) (by go_simp)) ⟨hv.put sm_6_apart 13 rfl (lb rfl) (lb rfl) rfl, HO⟩
    ·
      rintro L a wc ⟨hv, HO⟩ hL hc hd
      have h0 : wc.cell? ⟨B, 4, none⟩ = some (.int .i64 lost) := HO.out.cell (HB.out 4 _ rfl)
      exact wpOp_val rfl ((wanted_at rfl rfl (hv.get 12 rfl rfl (hd 12 (by decide)))).trans rfl) (ex_load rfl (hv.get 13 rfl rfl (hd 13 (by decide))) (by go_simp)) ⟨hv.put sm_6_apart 14 rfl (lb rfl) (lb rfl) rfl, HO⟩
    ·
      rintro L a wc ⟨hv, HO⟩ hL hc hd
      have u := H3.out
      exact wpOp_val rfl ((wanted_at rfl rfl (hv.get 12 rfl rfl (hd 12 (by decide)))).trans rfl) (ex_bin rfl (hv.get 14 rfl rfl (hd 14 (by decide))) rfl (by go_simp)) ⟨hv.put sm_6_apart 15 rfl (lb rfl) (lb rfl) rfl, HO⟩
    ·
      rintro L a wc ⟨hv, HO⟩ hL hc hd
      exact wpOp_val rfl rfl (ex_pick rfl (hv.get 12 rfl rfl (hd 12 (by decide))) (hv.get 15 rfl rfl (hd 15 (by decide)))) ⟨hv.put sm_6_apart 16 rfl (lb rfl) (lb rfl) rfl, HO⟩
    ·
      rintro L a wc ⟨hv, HO⟩ hL hc hd
      exact wpOp_val rfl rfl (ex_move rfl (hv.get 16 rfl rfl (hd 16 (by decide)))) ⟨hv.put sm_6_apart 17 rfl (lb rfl) (lb rfl) rfl, HO⟩
    ·
      rintro L a wc ⟨hv, HO⟩ hL hc hd
      exact wpOp_val rfl ((wanted_at rfl rfl (hv.get 17 rfl rfl (hd 17 (by decide)))).trans rfl) (ex_field rfl ((hv.fixed 2 (by decide)).trans rfl) (by go_simp)) ⟨hv.put sm_6_apart 18 rfl (lb rfl) (lb rfl) rfl, HO⟩
    ·
      rintro L a wc ⟨hv, HO⟩ hL hc hd
      have h0 : wc.cell? ⟨B, 4, none⟩ = some (.int .i64 lost) := HO.out.cell (HB.out 4 _ rfl)
      exact wpOp_val rfl ((wanted_at rfl rfl (hv.get 17 rfl rfl (hd 17 (by decide)))).trans rfl) (ex_load rfl (hv.get 18 rfl rfl (hd 18 (by decide))) (by go_simp)) ⟨hv.put sm_6_apart 19 rfl (lb rfl) (lb rfl) rfl, HO⟩
    ·
      rintro L a wc ⟨hv, HO⟩ hL hc hd
      exact wpOp_val rfl ((wanted_at rfl rfl (hv.get 17 rfl rfl (hd 17 (by decide)))).trans rfl) (ex_move rfl ((hv.fixed 5 (by decide)).trans rfl)) ⟨hv.put sm_6_apart 20 rfl (lb rfl) (lb rfl) rfl, HO⟩
    ·
      rintro L a wc ⟨hv, HO⟩ hL hc hd
      have hm := hM.out
      exact wpOp_val rfl ((wanted_at rfl rfl (hv.get 17 rfl rfl (hd 17 (by decide)))).trans rfl) (ex_bin rfl rfl (hv.get 20 rfl rfl (hd 20 (by decide))) (by go_simp)) ⟨hv.put sm_6_apart 21 rfl (lb rfl) (lb rfl) rfl, HO⟩
    ·
      rintro L a wc ⟨hv, HO⟩ hL hc hd
      have u := H4.out
      exact wpOp_val rfl ((wanted_at rfl rfl (hv.get 17 rfl rfl (hd 17 (by decide)))).trans rfl) (ex_bin rfl (hv.get 19 rfl rfl (hd 19 (by decide))) (hv.get 21 rfl rfl (hd 21 (by decide))) (by go_simp)) ⟨hv.put sm_6_apart 22 rfl (lb rfl) (lb rfl) rfl, HO⟩
    ·
      rintro L a wc ⟨hv, HO⟩ hL hc hd
      exact wpOp_val rfl rfl (ex_pick rfl (hv.get 17 rfl rfl (hd 17 (by decide))) (hv.get 22 rfl rfl (hd 22 (by decide)))) ⟨hv.put sm_6_apart 23 rfl (lb rfl) (lb rfl) rfl, HO⟩
    ·
      rintro L a wc ⟨hv, HO⟩ hL hc hd
      exact wpOp_val rfl rfl (ex_move rfl (hv.get 23 rfl rfl (hd 23 (by decide)))) ⟨hv.put sm_6_apart 24 rfl (lb rfl) (lb rfl) rfl, HO⟩
    ·
      rintro L a wc ⟨hv, HO⟩ hL hc hd
      exact wpOp_val rfl ((wanted_at rfl rfl (hv.get 24 rfl rfl (hd 24 (by decide)))).trans rfl) (ex_field rfl ((hv.fixed 2 (by decide)).trans rfl) (by go_simp)) ⟨hv.put sm_6_apart 25 rfl (lb rfl) (lb rfl) rfl, HO⟩
    ·
      rintro L a wc ⟨hv, HO⟩ hL hc hd
      have h0 : wc.cell? ⟨B, 6, none⟩ = some (.int .i64 other) := HO.out.cell (HB.out 6 _ rfl)
      exact wpOp_val rfl ((wanted_at rfl rfl (hv.get 24 rfl rfl (hd 24 (by decide)))).trans rfl) (ex_load rfl (hv.get 25 rfl rfl (hd 25 (by decide))) (by go_simp)) ⟨hv.put sm_6_apart 26 rfl (lb rfl) (lb rfl) rfl, HO⟩
    ·
      rintro L a wc ⟨hv, HO⟩ hL hc hd
      have u := H5.out
      exact wpOp_val rfl ((wanted_at rfl rfl (hv.get 24 rfl rfl (hd 24 (by decide)))).trans rfl) (ex_bin rfl (hv.get 26 rfl rfl (hd 26 (by decide))) rfl (by go_simp)) ⟨hv.put sm_6_apart 27 rfl (lb rfl) (lb rfl) rfl, HO⟩
    ·
      rintro L a wc ⟨hv, HO⟩ hL hc hd
      exact wpOp_val rfl rfl (ex_pick rfl (hv.get 24 rfl rfl (hd 24 (by decide))) (hv.get 27 rfl rfl (hd 27 (by decide)))) ⟨hv.put sm_6_apart 28 rfl (lb rfl) (lb rfl) rfl, HO⟩
    ·
      rintro L a wc ⟨hv, HO⟩ hL hc hd
      exact wpOp_val rfl rfl (ex_move rfl (hv.get 28 rfl rfl (hd 28 (by decide)))) ⟨hv.put sm_6_apart 29 rfl (lb rfl) (lb rfl) rfl, HO⟩
    ·
      rintro L a wc ⟨hv, HO⟩ hL hc hd
      exact wpOp_val rfl ((wanted_at rfl rfl (hv.get 29 rfl rfl (hd 29 (by decide)))).trans rfl) (ex_field rfl ((hv.fixed 2 (by decide)).trans rfl) (by go_simp)) ⟨hv.put sm_6_apart 30 rfl (lb rfl) (lb rfl) rfl, HO⟩
    ·
      rintro L a wc ⟨hv, HO⟩ hL hc hd
      have h0 : wc.cell? ⟨B, 6, none⟩ = some (.int .i64 other) := HO.out.cell (HB.out 6 _ rfl)
      exact wpOp_val rfl ((wanted_at rfl rfl (hv.get 29 rfl rfl (hd 29 (by decide)))).trans rfl) (ex_load rfl (hv.get 30 rfl rfl (hd 30 (by decide))) (by go_simp)) ⟨hv.put sm_6_apart 31 rfl (lb rfl) (lb rfl) rfl, HO⟩
    ·
      rintro L a wc ⟨hv, HO⟩ hL hc hd
      exact wpOp_val rfl ((wanted_at rfl rfl (hv.get 29 rfl rfl (hd 29 (by decide)))).trans rfl) (ex_move rfl ((hv.fixed 5 (by decide)).trans rfl)) ⟨hv.put sm_6_apart 32 rfl (lb rfl) (lb rfl) rfl, HO⟩
    ·
      rintro L a wc ⟨hv, HO⟩ hL hc hd
      have hm := hM.out
      exact wpOp_val rfl ((wanted_at rfl rfl (hv.get 29 rfl rfl (hd 29 (by decide)))).trans rfl) (ex_bin rfl rfl (hv.get 32 rfl rfl (hd 32 (by decide))) (by go_simp)) ⟨hv.put sm_6_apart 33 rfl (lb rfl) (lb rfl) rfl, HO⟩
    ·
      rintro L a wc ⟨hv, HO⟩ hL hc hd
      have u := H6.out
      exact wpOp_val rfl ((wanted_at rfl rfl (hv.get 29 rfl rfl (hd 29 (by decide)))).trans rfl) (ex_bin rfl (hv.get 31 rfl rfl (hd 31 (by decide))) (hv.get 33 rfl rfl (hd 33 (by decide))) (by go_simp)) ⟨hv.put sm_6_apart 34 rfl (lb rfl) (lb rfl) rfl, HO⟩
    ·
      rintro L a wc ⟨hv, HO⟩ hL hc hd
      exact wpOp_val rfl rfl (ex_pick rfl (hv.get 29 rfl rfl (hd 29 (by decide))) (hv.get 34 rfl rfl (hd 34 (by decide)))) ⟨hv.put sm_6_apart 35 rfl (lb rfl) (lb rfl) rfl, HO⟩
    ·
      rintro L a wc ⟨hv, HO⟩ hL hc hd
      exact wpOp_val rfl rfl (ex_move rfl (hv.get 35 rfl rfl (hd 35 (by decide)))) ⟨hv.put sm_6_apart 36 rfl (lb rfl) (lb rfl) rfl, HO⟩
    ·
      rintro L a wc ⟨hv, HO⟩ hL hc hd
      exact wpOp_off rfl ((wanted_at rfl rfl (hv.get 36 rfl rfl (hd 36 (by decide)))).trans rfl) ⟨hv.put sm_6_apart 37 rfl (lb rfl) (lb rfl) rfl, HO⟩
    ·
      rintro L a wc ⟨hv, HO⟩ hL hc hd
      exact wpOp_off rfl ((wanted_at rfl rfl (hv.get 36 rfl rfl (hd 36 (by decide)))).trans rfl) ⟨hv.put sm_6_apart 38 rfl (lb rfl) (lb rfl) rfl, HO⟩
    ·
      rintro L a wc ⟨hv, HO⟩ hL hc hd
      exact wpOp_off rfl ((wanted_at rfl rfl (hv.get 36 rfl rfl (hd 36 (by decide)))).trans rfl) ⟨hv.put sm_6_apart 39 rfl (lb rfl) (lb rfl) rfl, HO⟩
    ·
      rintro L a wc ⟨hv, HO⟩ hL hc hd
      exact wpOp_val rfl rfl (ex_pick rfl (hv.get 36 rfl rfl (hd 36 (by decide))) rfl) ⟨hv.put sm_6_apart 40 rfl (lb rfl) (lb rfl) rfl, HO⟩
    ·
      rintro L a wc ⟨hv, HO⟩ hL hc hd
      exact wpOp_val rfl rfl (ex_move rfl (hv.get 40 rfl rfl (hd 40 (by decide)))) ⟨hv.put sm_6_apart 41 rfl (lb rfl) (lb rfl) rfl, HO⟩
    ·
      rintro L a wc ⟨hv, HO⟩ hL hc hd
      exact wpOp_off rfl ((wanted_at rfl rfl (hv.get 41 rfl rfl (hd 41 (by decide)))).trans rfl) ⟨hv.put sm_6_apart 42 rfl (lb rfl) (lb rfl) rfl, HO⟩
    ·
      rintro L a wc ⟨hv, HO⟩ hL hc hd
      exact wpOp_off rfl ((wanted_at rfl rfl (hv.get 41 rfl rfl (hd 41 (by decide)))).trans rfl) ⟨hv.put sm_6_apart 43 rfl (lb rfl) (lb rfl) rfl, HO⟩
    ·
      rintro L a wc ⟨hv, HO⟩ hL hc hd
      exact wpOp_off rfl ((wanted_at rfl rfl (hv.get 41 rfl rfl (hd 41 (by decide)))).trans rfl) ⟨hv.put sm_6_apart 44 rfl (lb rfl) (lb rfl) rfl, HO⟩
    ·
      rintro L a wc ⟨hv, HO⟩ hL hc hd
      exact wpOp_off rfl ((wanted_at rfl rfl (hv.get 41 rfl rfl (hd 41 (by decide)))).trans rfl) ⟨hv.put sm_6_apart 45 rfl (lb rfl) (lb rfl) rfl, HO⟩
    ·
      rintro L a wc ⟨hv, HO⟩ hL hc hd
      exact wpOp_val rfl rfl (ex_pick rfl (hv.get 41 rfl rfl (hd 41 (by decide))) rfl) ⟨hv.put sm_6_apart 46 rfl (lb rfl) (lb rfl) rfl, HO⟩
    ·
      rintro L a wc ⟨hv, HO⟩ hL hc hd
      exact wpOp_val rfl rfl (ex_move rfl (hv.get 46 rfl rfl (hd 46 (by decide)))) ⟨hv.put sm_6_apart 47 rfl (lb rfl) (lb rfl) rfl, HO⟩
    ·
      rintro L a wc ⟨hv, HO⟩ hL hc hd
      exact wpOp_off rfl ((wanted_at rfl rfl (hv.get 47 rfl rfl (hd 47 (by decide)))).trans rfl) ⟨hv.put sm_6_apart 48 rfl (lb rfl) (lb rfl) rfl, HO⟩
    ·
      rintro L a wc ⟨hv, HO⟩ hL hc hd
      exact wpOp_off rfl ((wanted_at rfl rfl (hv.get 47 rfl rfl (hd 47 (by decide)))).trans rfl) ⟨hv.put sm_6_apart 49 rfl (lb rfl) (lb rfl) rfl, HO⟩
    ·
      rintro L a wc ⟨hv, HO⟩ hL hc hd
      exact wpOp_off rfl ((wanted_at rfl rfl (hv.get 47 rfl rfl (hd 47 (by decide)))).trans rfl) ⟨hv.put sm_6_apart 50 rfl (lb rfl) (lb rfl) rfl, HO⟩
    ·
      rintro L a wc ⟨hv, HO⟩ hL hc hd
      exact wpOp_off rfl ((wanted_at rfl rfl (hv.get 47 rfl rfl (hd 47 (by decide)))).trans rfl) ⟨hv.put sm_6_apart 51 rfl (lb rfl) (lb rfl) rfl, HO⟩
    ·
      rintro L a wc ⟨hv, HO⟩ hL hc hd
      exact wpOp_val rfl rfl (ex_pick rfl (hv.get 47 rfl rfl (hd 47 (by decide))) rfl) ⟨hv.put sm_6_apart 52 rfl (lb rfl) (lb rfl) rfl, HO⟩
    ·
      rintro L a wc ⟨hv, HO⟩ hL hc hd
      exact wpOp_val rfl rfl (ex_assign rfl (hv.get 52 rfl rfl (hd 52 (by decide)))) ⟨hv.put sm_6_apart 53 rfl (lb rfl) (lb rfl) rfl, HO⟩
  · rintro L a wc ⟨hv, HO⟩ hall
    show K a wc
    have ha := act_lit a
    rw [hv.size, hv.defers] at ha
    have hl : ∀ f : Nat → Value, ((List.range (⟨#[c0, .int .i64 (most : Nat), .pointer (some ⟨B, 0, none⟩), c3, c4, .int .i64 (N : Nat), c6, c7, c8, c9, c10, c11, c12, c13, c14, c15, c16, c17, c18, c19, c20, c21, c22, c23, c24, c25, c26, c27, c28, c29, c30, c31, c32, c33, c34, c35, c36, c37, c38, c39, c40, c41, c42, c43, c44, c45, c46, c47, c48, c49, c50, c51, c52, c53, c54, c55, c56, c57, c58, c59, c60, c61], df⟩ : Act).tmps.size).map f).toArray = #[f 0, f 1, f 2, f 3, f 4, f 5, f 6, f 7, f 8, f 9, f 10, f 11, f 12, f 13, f 14, f 15, f 16, f 17, f 18, f 19, f 20, f 21, f 22, f 23, f 24, f 25, f 26, f 27, f 28, f 29, f 30, f 31, f 32, f 33, f 34, f 35, f 36, f 37, f 38, f 39, f 40, f 41, f 42, f 43, f 44, f 45, f 46, f 47, f 48, f 49, f 50, f 51, f 52, f 53, f 54, f 55, f 56, f 57, f 58, f 59, f 60, f 61] := fun _ => rfl
    rw [hl] at ha
    simp only [hv.fixed 0 (by decide), hv.fixed 1 (by decide), hv.fixed 2 (by decide), hv.fixed 3 (by decide), hv.fixed 5 (by decide), hv.fixed 6 (by decide), hv.fixed 7 (by decide), hv.fixed 8 (by decide), hv.get 53 (d := 4) rfl rfl (hall 53 (by decide))] at ha
    rw [ha]
    exact hK _ _ _ _ _ _ _ _ _ _ _ _ _ _ _ _ _ _ _ _ _ _ _ _ _ _ _ _ _ _ _ _ _ _ _ _ _ _ _ _ _ _ _ _ _ _ _ _ _ _ _ _ _ wc HO.out
noncomputable def sm_7_code : Code := ((Tryd.f27.body.bind (regionOf 2)).getD .skip)
def sm_7_dsts : List (Option Nat) := [some 9, some 10, some 11, some 12, some 13, some 14, some 15, some 16, some 17, some 18, some 19, some 20, some 21, some 22, some 23, some 24, some 25, some 26, some 27, some 28, some 29, some 30, some 31, some 32, some 33, some 34, some 35, some 36, some 37, some 38, some 39, some 40, some 41, some 42, some 43, some 44, some 45, some 46, some 47, some 48, some 49, some 50, some 51, some 52, some 53, some 54, some 55, some 56, some 57, some 58, some 59, some 60, some 61, some 4]
theorem sm_7_apart : apartD sm_7_dsts = true := by decide +kernel
set_option maxRecDepth 1000000 in
set_option maxHeartbeats 16000000 in
theorem sm_7 (wr : World) (B N M c most : Nat) (d gl n lost piece other : Int) (gs : List (List Int)) (A : Option Addr) (data : List UInt8) (hN : N ≤ 24) (hM : Hid (IntKind.i64.wrap (2 ^ N) = (M : Int))) (HG : Hid (Rs (Rs RI) wr (.slice A gs.length c) gs)) (HB : Hid (Cells wr B [.int .i64 d, .slice A gs.length c, .int .i64 gl, .string (sb data), .int .i64 lost, .int .i64 piece, .int .i64 other])) (HF : Hid (Cd.few gs 30 = true)) (HN : Hid (n = (N : Int))) (H1 : Hid ((0 < n))) (H2 : Hid ((n ≤ most))) (H3 : Hid ((0 ≤ lost))) (H4 : Hid ((lost < (M : Int)))) (H5 : Hid ((0 ≤ other))) (H6 : Hid ((other < (M : Int)))) (H7 : Hid (¬ (0 ≤ piece))) (c0 c3 c4 c6 c7 c8 c9 c10 c11 c12 c13 c14 c15 c16 c17 c18 c19 c20 c21 c22 c23 c24 c25 c26 c27 c28 c29 c30 c31 c32 c33 c34 c35 c36 c37 c38 c39 c40 c41 c42 c43 c44 c45 c46 c47 c48 c49 c50 c51 c52 c53 c54 c55 c56 c57 c58 c59 c60 c61 : Value) (df : List Deferred) (K : Act → World → Prop)
    (hK : ∀  (u9 u10 u11 u12 u13 u14 u15 u16 u17 u18 u19 u20 u21 u22 u23 u24 u25 u26 u27 u28 u29 u30 u31 u32 u33 u34 u35 u36 u37 u38 u39 u40 u41 u42 u43 u44 u45 u46 u47 u48 u49 u50 u51 u52 u53 u54 u55 u56 u57 u58 u59 u60 u61 : Value) (wx : World), Ext wr wx → K ⟨#[c0, .int .i64 (most : Nat), .pointer (some ⟨B, 0, none⟩), c3, .bool false, .int .i64 (N : Nat), c6, c7, c8, u9, u10, u11, u12, u13, u14, u15, u16, u17, u18, u19, u20, u21, u22, u23, u24, u25, u26, u27, u28, u29, u30, u31, u32, u33, u34, u35, u36, u37, u38, u39, u40, u41, u42, u43, u44, u45, u46, u47, u48, u49, u50, u51, u52, u53, u54, u55, u56, u57, u58, u59, u60, u61], df⟩ wx) :
    Code.wp Tryd.prog sm_7_code (AtEnd K) ⟨#[c0, .int .i64 (most : Nat), .pointer (some ⟨B, 0, none⟩), c3, c4, .int .i64 (N : Nat), c6, c7, c8, c9, c10, c11, c12, c13, c14, c15, c16, c17, c18, c19, c20, c21, c22, c23, c24, c25, c26, c27, c28, c29, c30, c31, c32, c33, c34, c35, c36, c37, c38, c39, c40, c41, c42, c43, c44, c45, c46, c47, c48, c49, c50, c51, c52, c53, c54, c55, c56, c57, c58, c59, c60, c61], df⟩ wr := by
  conv => arg 2; whnf
  refine region_inv (by kernel_rfl) [[], [0], [1], [2, 2], [3], [4, 3], [3, 5], [6, 3], [7], [7], [8, 9, 7], [7, 10], [11, 7], [12], [13, 12], [14, 12], [12, 15], [16, 12], [17], [18, 17], [17], [20, 17], [19, 21, 17], [17, 22], [23, 17], [24], [25, 24], [26, 24], [24, 27], [28, 24], [29], [30, 29], [29], [32, 29], [31, 33, 29], [29, 34], [35, 29], [36], [37, 36], [38, 36], [36, 39], [40, 36], [41], [42, 41], [41], [43, 44, 41], [41, 45], [46, 41], [47], [48, 47], [49, 47], [50, 47], [47, 51], [52, 47, 0, 1, 2, 3, 4, 5, 6, 7, 8, 9, 10, 11, 12, 13, 14, 15, 16, 17, 18, 19, 20, 21, 22, 23, 24, 25, 26, 27, 28, 29, 30, 31, 32, 33, 34, 35, 36, 37, 38, 39, 40, 41, 42, 43, 44, 45, 46, 47, 48, 49, 50, 51, 52]] (by kernel_rfl) [0, 1, 2, 3, 4, 5, 6, 7, 8, 9, 10, 11, 12, 13, 14, 15, 16, 17, 18, 19, 20, 21, 22, 23, 24, 25, 26, 27, 28, 29, 30, 31, 32, 33, 34, 35, 36, 37, 38, 39, 40, 41, 42, 43, 44, 45, 46, 47, 48, 49, 50, 51, 52, 53] (by decide +kernel) (by decide +kernel) (by decide +kernel) (fun L a wc => Inv sm_7_dsts [.pointer (some ⟨B, 0, none⟩), .agg #[.int .i64 d, .slice A gs.length c, .int .i64 gl], .bool true, .bool true, .int .i64 (N : Nat), .bool true, .bool true, .bool true, .int .i64 (N : Nat), .int .i64 (most : Nat), .bool true, .bool true, .bool true, .pointer (some ⟨B, 4, none⟩), .int .i64 lost, .bool true, .bool true, .bool true, .pointer (some ⟨B, 4, none⟩), .int .i64 lost, .int .i64 (N : Nat), .int .i64 (M : Nat), .bool true, .bool true, .bool true, .pointer (some ⟨B, 6, none⟩), .int .i64 other, .bool true, .bool true, .bool true, .pointer (some ⟨B, 6, none⟩), .int .i64 other, .int .i64 (N : Nat), .int .i64 (M : Nat), .bool true, .bool true, .bool true, .pointer (some ⟨B, 5, none⟩), .int .i64 piece, .bool false, .bool false, .bool false, undef, undef, undef, undef, .bool false, .bool false, undef, undef, undef, undef, .bool false, .bool false] ⟨#[c0, .int .i64 (most : Nat), .pointer (some ⟨B, 0, none⟩), c3, c4, .int .i64 (N : Nat), c6, c7, c8, c9, c10, c11, c12, c13, c14, c15, c16, c17, c18, c19, c20, c21, c22, c23, c24, c25, c26, c27, c28, c29, c30, c31, c32, c33, c34, c35, c36, c37, c38, c39, c40, c41, c42, c43, c44, c45, c46, c47, c48, c49, c50, c51, c52, c53, c54, c55, c56, c57, c58, c59, c60, c61], df⟩ L a ∧ Hid (Ext wr wc)) ⟨Inv.start, Lib.hid ((Ext.refl wr).drew)⟩ ?_ ?_
  · refine ⟨?_, ?_, ?_, ?_, ?_, ?_, ?_, ?_, ?_, ?_, ?_, ?_, ?_, ?_, ?_, ?_, ?_, ?_, ?_, ?_, ?_, ?_, ?_, ?_, ?_, ?_, ?_, ?_, ?_, ?_, ?_, ?_, ?_, ?_, ?_, ?_, ?_, ?_, ?_, ?_, ?_, ?_, ?_, ?_, ?_, ?_, ?_, ?_, ?_, ?_, ?_, ?_, ?_, ?_, trivial⟩
    ·
      rintro L a wc ⟨hv, HO⟩ hL hc hd
      exact wpOp_val rfl rfl (ex_field rfl ((hv.fixed 2 (by decide)).trans rfl) (by go_simp)) ⟨hv.put sm_7_apart 0 rfl (lb rfl) (lb rfl) rfl, HO⟩
    ·
      rintro L a wc ⟨hv, HO⟩ hL hc hd
      have h0 : wc.cell? ⟨B, 0, none⟩ = some (.int .i64 d) := HO.out.cell (HB.out 0 _ rfl)
      have h1 : wc.cell? ⟨B, 1, none⟩ = some (.slice A gs.length c) := HO.out.cell (HB.out 1 _ rfl)
      have h2 : wc.cell? ⟨B, 2, none⟩ = some (.int .i64 gl) := HO.out.cell (HB.out 2 _ rfl)
      exact wpOp_val rfl rfl (ex_load rfl (hv.get 0 rfl rfl (hd 0 (by decide))) (by go_simp)) ⟨hv.put sm_7_apart 1 rfl (lb rfl) (lb rfl) rfl, HO⟩
    ·
      rintro L a wc ⟨hv, HO⟩ hL hc hd
      have hf := HF.out
      refine wpOp_call (R := fun v w1 => v = .bool true ∧ Ext wc w1) rfl rfl (ex_call rfl rfl (by simp only [List.map_toArray, List.map_cons, List.map_nil, (hv.get 1 rfl rfl (hd 1 (by decide)))]; rfl) (enters_of Tryd.func35 (by kernel_rfl) rfl _ _)) ((rFew_any d gl gs 30 _ wc (Rs.ext (Rs.ext RI.ext) _ _ _ _ HO.out HG.out) (by decide)).mono (fun e w' h => ⟨_, h.1.trans (by rw [HF.out]), rfl, h.2⟩)) ?_
      rintro v w' ⟨rfl, hx⟩
      exact ⟨hv.put sm_7_apart 2 rfl (lb rfl) (lb rfl) rfl, Lib.hid (HO.out.trans hx)⟩
    ·
      rintro L a wc ⟨hv, HO⟩ hL hc hd
      exact wpOp_val rfl rfl (ex_move rfl (hv.get 2 rfl rfl (hd 2 (by decide)))) ⟨hv.put sm_7_apart 3 rfl (lb rfl) (lb rfl) rfl, HO⟩
    ·
      rintro L a wc ⟨hv, HO⟩ hL hc hd
      exact wpOp_val rfl ((wanted_at rfl rfl (hv.get 3 rfl rfl (hd 3 (by decide)))).trans rfl) (ex_move rfl ((hv.fixed 5 (by decide)).trans rfl)) ⟨hv.put sm_7_apart 4 rfl (lb rfl) (lb rfl) rfl, HO⟩
    ·
      rintro L a wc ⟨hv, HO⟩ hL hc hd
      have u := H1.out
      rw [HN.out] at u
      have u2 : 0 < N := by omega
      exact wpOp_val rfl ((wanted_at rfl rfl (hv.get 3 rfl rfl (hd 3 (by decide)))).trans rfl) (ex_bin rfl (hv.get 4 rfl rfl (hd 4 (by decide))) rfl (by go_simp)) ⟨hv.put sm_7_apart 5 rfl (lb rfl) (lb rfl) rfl, HO⟩
    ·
      rintro L a wc ⟨hv, HO⟩ hL hc hd
      exact wpOp_val rfl rfl (ex_pick rfl (hv.get 3 rfl rfl (hd 3 (by decide))) (hv.get 5 rfl rfl (hd 5 (by decide)))) ⟨hv.put sm_7_apart 6 rfl (lb rfl) (lb rfl) rfl, HO⟩
    ·
      rintro L a wc ⟨hv, HO⟩ hL hc hd
      exact wpOp_val rfl rfl (ex_move rfl (hv.get 6 rfl rfl (hd 6 (by decide)))) ⟨hv.put sm_7_apart 7 rfl (lb rfl) (lb rfl) rfl, HO⟩
    ·
      rintro L a wc ⟨hv, HO⟩ hL hc hd
      exact wpOp_val rfl ((wanted_at rfl rfl (hv.get 7 rfl rfl (hd 7 (by decide)))).trans rfl) (ex_move rfl ((hv.fixed 5 (by decide)).trans rfl)) ⟨hv.put sm_7_apart 8 rfl (lb rfl) (lb rfl) rfl, HO⟩
    ·
      rintro L a wc ⟨hv, HO⟩ hL hc hd
      exact wpOp_val rfl ((wanted_at rfl rfl (hv.get 7 rfl rfl (hd 7 (by decide)))).trans rfl) (ex_move rfl ((hv.fixed 1 (by decide)).trans rfl)) ⟨hv.put sm_7_apart 9 rfl (lb rfl) (lb rfl) rfl, HO⟩
    ·
      rintro L a wc ⟨hv, HO⟩ hL hc hd
      have u := H2.out
      rw [HN.out] at u
      exact wpOp_val rfl ((wanted_at rfl rfl (hv.get 7 rfl rfl (hd 7 (by decide)))).trans rfl) (ex_bin rfl (hv.get 8 rfl rfl (hd 8 (by decide))) (hv.get 9 rfl rfl (hd 9 (by decide))) (by go_simp)) ⟨hv.put sm_7_apart 10 rfl (lb rfl) (lb rfl) rfl, HO⟩
    ·
      rintro L a wc ⟨hv, HO⟩ hL hc hd
      exact wpOp_val rfl rfl (ex_pick rfl (hv.get 7 rfl rfl (hd 7 (by decide))) (hv.get 10 rfl rfl (hd 10 (by decide)))) ⟨hv.put sm_7_apart 11 rfl (lb rfl) (lb rfl) rfl, HO⟩
    ·
      rintro L a wc ⟨hv, HO⟩ hL hc hd
      exact wpOp_val rfl rfl (ex_move rfl (hv.get 11 rfl rfl (hd 11 (by decide)))) ⟨hv.put sm_7_apart 12 rfl (lb rfl) (lb rfl) rfl, HO⟩
    ·
      rintro L a wc ⟨hv, HO⟩ hL hc hd
      exact wpOp_val rfl ((wanted_at rfl rfl (hv.get 12 rfl rfl (hd 12 (by decide)))).trans rfl) (ex_field rfl ((hv.fixed 2 (by decide)).trans rfl) (by go_simp)) ⟨hv.put sm_7_apart 13 rfl (lb rfl) (lb rfl) rfl, HO⟩
    ·
      rintro L a wc ⟨hv, HO⟩ hL hc hd
      have h0 : wc.cell? ⟨B, 4, none⟩ = some (.int .i64 lost) := HO.out.cell (HB.out 4 _ rfl)
      exact wpOp_val rfl ((wanted_at rfl rfl (hv.get 12 rfl rfl (hd 12 (by decide)))).trans rfl) (ex_load rfl (hv.get 13 rfl rfl (hd 13 (by decide))) (by go_simp)) ⟨hv.put sm_7_apart 14 rfl (lb rfl) (lb rfl) rfl, HO⟩
    ·
      rintro L a wc ⟨hv, HO⟩ hL hc hd
      have u := H3.out
      exact wpOp_val rfl ((wanted_at rfl rfl (hv.get 12 rfl rfl (hd 12 (by decide)))).trans rfl) (ex_bin rfl (hv.get 14 rfl rfl (hd 14 (by decide))) rfl (by go_simp)) ⟨hv.put sm_7_apart 15 rfl (lb rfl) (lb rfl) rfl, HO⟩
    ·
      rintro L a wc ⟨hv, HO⟩ hL hc hd
      exact wpOp_val rfl rfl (ex_pick rfl (hv.get 12 rfl rfl (hd 12 (by decide))) (hv.get 15 rfl rfl (hd 15 (by decide)))) ⟨hv.put sm_7_apart 16 rfl (lb rfl) (lb rfl) rfl, HO⟩
    ·
      rintro L a wc ⟨hv, HO⟩ hL hc hd
      exact wpOp_val rfl rfl (ex_move rfl (hv.get 16 rfl rfl (hd 16 (by decide)))) ⟨hv.put sm_7_apart 17 rfl (lb rfl) (lb rfl) rfl, HO⟩
    ·
      rintro L a wc ⟨hv, HO⟩ hL hc hd
      exact wpOp_val rfl ((wanted_at rfl rfl (hv.get 17 rfl rfl (hd 17 (by decide)))).trans rfl) (ex_field rfl ((hv.fixed 2 (by decide)).trans rfl) (by go_simp)) ⟨hv.put sm_7_apart 18 rfl (lb rfl) (lb rfl) rfl, HO⟩
    ·
      rintro L a wc ⟨hv, HO⟩ hL hc hd
      have h0 : wc.cell? ⟨B, 4, none⟩ = some (.int .i64 lost) := HO.out.cell (HB.out 4 _ rfl)
      exact wpOp_val rfl ((wanted_at rfl rfl (hv.get 17 rfl rfl (hd 17 (by decide)))).trans rfl) (ex_load rfl (hv.get 18 rfl rfl (hd 18 (by decide))) (by go_simp)) ⟨hv.put sm_7_apart 19 rfl (lb rfl) (lb rfl) rfl, HO⟩
    ·
      rintro L a wc ⟨hv, HO⟩ hL hc hd
      exact wpOp_val rfl ((wanted_at rfl rfl (hv.get 17 rfl rfl (hd 17 (by decide)))).trans rfl) (ex_move rfl ((hv.fixed 5 (by decide)).trans rfl)) ⟨hv.put sm_7_apart 20 rfl (lb rfl) (lb rfl) rfl, HO⟩
    ·
      rintro L a wc ⟨hv, HO⟩ hL hc hd
      have hm := hM.out
      exact wpOp_val rfl ((wanted_at rfl rfl (hv.get 17 rfl rfl (hd 17 (by decide)))).trans rfl) (ex_bin rfl rfl (hv.get 20 rfl rfl (hd 20 (by decide))) (by go_simp)) ⟨hv.put sm_7_apart 21 rfl (lb rfl) (lb rfl) rfl, HO⟩
    ·
      rintro L a wc ⟨hv, HO⟩ hL hc hd
      have u := H4.out
      exact wpOp_val rfl ((wanted_at rfl rfl (hv.get 17 rfl rfl (hd 17 (by decide)))).trans rfl) (ex_bin rfl (hv.get 19 rfl rfl (hd 19 (by decide))) (hv.get 21 rfl rfl (hd 21 (by decide))) (by go_simp)) ⟨hv.put sm_7_apart 22 rfl (lb rfl) (lb rfl) rfl, HO⟩
    ·
      rintro L a wc ⟨hv, HO⟩ hL hc hd
      exact wpOp_val rfl rfl (ex_pick rfl (hv.get 17 rfl rfl (hd 17 (by decide))) (hv.get 22 rfl rfl (hd 22 (by decide)))) ⟨hv.put sm_7_apart 23 rfl (lb rfl) (lb rfl) rfl, HO⟩
    ·
      rintro L a wc ⟨hv, HO⟩ hL hc hd
      exact wpOp_val rfl rfl (ex_move rfl (hv.get 23 rfl rfl (hd 23 (by decide)))) ⟨hv.put sm_7_apart 24 rfl (lb rfl) (lb rfl) rfl, HO⟩
    ·
      rintro L a wc ⟨hv, HO⟩ hL hc hd
      exact wpOp_val rfl ((wanted_at rfl rfl (hv.get 24 rfl rfl (hd 24 (by decide)))).trans rfl) (ex_field rfl ((hv.fixed 2 (by decide)).trans rfl) (by go_simp)) ⟨hv.put sm_7_apart 25 rfl (lb rfl) (lb rfl) rfl, HO⟩
    ·
      rintro L a wc ⟨hv, HO⟩ hL hc hd
      have h0 : wc.cell? ⟨B, 6, none⟩ = some (.int .i64 other) := HO.out.cell (HB.out 6 _ rfl)
      exact wpOp_val rfl ((wanted_at rfl rfl (hv.get 24 rfl rfl (hd 24 (by decide)))).trans rfl) (ex_load rfl (hv.get 25 rfl rfl (hd 25 (by decide))) (by go_simp)) ⟨hv.put sm_7_apart 26 rfl (lb rfl) (lb rfl) rfl, HO⟩
    ·
      rintro L a wc ⟨hv, HO⟩ hL hc hd
      have u := H5.out
      exact wpOp_val rfl ((wanted_at rfl rfl (hv.get 24 rfl rfl (hd 24 (by decide)))).trans rfl) (ex_bin rfl (hv.get 26 rfl rfl (hd 26 (by decide))) rfl (by go_simp)) ⟨hv.put sm_7_apart 27 rfl (lb rfl) (lb rfl) rfl, HO⟩
    ·
      rintro L a wc ⟨hv, HO⟩ hL hc hd
      exact wpOp_val rfl rfl (ex_pick rfl (hv.get 24 rfl rfl (hd 24 (by decide))) (hv.get 27 rfl rfl (hd 27 (by decide)))) ⟨hv.put sm_7_apart 28 rfl (lb rfl) (lb rfl) rfl, HO⟩
    ·
      rintro L a wc ⟨hv, HO⟩ hL hc hd
      exact wpOp_val rfl rfl (ex_move rfl (hv.get 28 rfl rfl (hd 28 (by decide)))) ⟨hv.put sm_7_apart 29 rfl (lb rfl) (lb rfl) rfl, HO⟩
    ·
      rintro L a wc ⟨hv, HO⟩ hL hc hd
      exact wpOp_val rfl ((wanted_at rfl rfl (hv.get 29 rfl rfl (hd 29 (by decide)))).trans rfl) (ex_field rfl ((hv.fixed 2 (by decide)).trans rfl) (by go_simp)) ⟨hv.put sm_7_apart 30 rfl (lb rfl) (lb rfl) rfl, HO⟩
    ·
      rintro L a wc ⟨hv, HO⟩ hL hc hd
      have h0 : wc.cell? ⟨B, 6, none⟩ = some (.int .i64 other) := HO.out.cell (HB.out 6 _ rfl)
      exact wpOp_val rfl ((wanted_at rfl rfl (hv.get 29 rfl rfl (hd 29 (by decide)))).trans rfl) (ex_load rfl (hv.get 30 rfl rfl (hd 30 (by decide))) (by go_simp)) ⟨hv.put sm_7_apart 31 rfl (lb rfl) (lb rfl) rfl, HO⟩
    ·
      rintro L a wc ⟨hv, HO⟩ hL hc hd
      exact wpOp_val rfl ((wanted_at rfl rfl (hv.get 29 rfl rfl (hd 29 (by decide)))).trans rfl) (ex_move rfl ((hv.fixed 5 (by decide)).trans rfl)) ⟨hv.put sm_7_apart 32 rfl (lb rfl) (lb rfl) rfl, HO⟩
    ·
      rintro L a wc ⟨hv, HO⟩ hL hc hd
      have hm := hM.out
      exact wpOp_val rfl ((wanted_at rfl rfl (hv.get 29 rfl rfl (hd 29 (by decide)))).trans rfl) (ex_bin rfl rfl (hv.get 32 rfl rfl (hd 32 (by decide))) (by go_simp)) ⟨hv.put sm_7_apart 33 rfl (lb rfl) (lb rfl) rfl, HO⟩
    ·
      rintro L a wc ⟨hv, HO⟩ hL hc hd
      have u := H6.out
      exact wpOp_val rfl ((wanted_at rfl rfl (hv.get 29 rfl rfl (hd 29 (by decide)))).trans rfl) (ex_bin rfl (hv.get 31 rfl rfl (hd 31 (by decide))) (hv.get 33 rfl rfl (hd 33 (by decide))) (by go_simp)) ⟨hv.put sm_7_apart 34 rfl (lb rfl) (lb rfl) rfl, HO⟩
    ·
      rintro L a wc ⟨hv, HO⟩ hL hc hd
      exact wpOp_val rfl rfl (ex_pick rfl (hv.get 29 rfl rfl (hd 29 (by decide))) (hv.get 34 rfl rfl (hd 34 (by decide)))) ⟨hv.put sm_7_apart 35 rfl (lb rfl) (lb rfl) rfl, HO⟩
    ·
      rintro L a wc ⟨hv, HO⟩ hL hc hd
      exact wpOp_val rfl rfl (ex_move rfl (hv.get 35 rfl rfl (hd 35 (by decide)))) ⟨hv.put sm_7_apart 36 rfl (lb rfl) (lb rfl) rfl, HO⟩
    ·
      rintro L a wc ⟨hv, HO⟩ hL hc hd
      exact wpOp_val rfl ((wanted_at rfl rfl (hv.get 36 rfl rfl (hd 36 (by decide)))).trans rfl) (ex_field rfl ((hv.fixed 2 (by decide)).trans rfl) (by go_simp)) ⟨hv.put sm_7_apart 37 rfl (lb rfl) (lb rfl) rfl, HO⟩
    ·
      rintro L a wc ⟨hv, HO⟩ hL hc hd
      have h0 : wc.cell? ⟨B, 5, none⟩ = some (.int .i64 piece) := HO.out.cell (HB.out 5 _ rfl)
      exact wpOp_val rfl ((wanted_at rfl rfl (hv.get 36 rfl rfl (hd 36 (by decide)))).trans rfl) (ex_load rfl (hv.get 37 rfl rfl (hd 37 (by decide))) (by go_simp)) ⟨hv.put sm_7_apart 38 rfl (lb rfl) (lb rfl) rfl, HO⟩
    ·
      rintro L a wc ⟨hv, HO⟩ hL hc hd
      have u := H7.out
      exact wpOp_val rfl ((wanted_at rfl rfl (hv.get 36 rfl rfl (hd 36 (by decide)))).trans rfl) (ex_bin rfl (hv.get 38 rfl rfl (hd 38 (by decide))) rfl (by go_simp)) ⟨hv.put sm_7_apart 39 rfl (lb rfl) (lb rfl) rfl, HO⟩
    ·
      rintro L a wc ⟨hv, HO⟩ hL hc hd
      exact wpOp_val rfl rfl (ex_pick rfl (hv.get 36 rfl rfl (hd 36 (by decide))) (hv.get 39 rfl rfl (hd 39 (by decide)))) ⟨hv.put sm_7_apart 40 rfl (lb rfl) (lb rfl) rfl, HO⟩
    ·
      rintro L a wc ⟨hv, HO⟩ hL hc hd
      exact wpOp_val rfl rfl (ex_move rfl (hv.get 40 rfl rfl (hd 40 (by decide)))) ⟨hv.put sm_7_apart 41 rfl (lb rfl) (lb rfl) rfl, HO⟩
    ·
      rintro L a wc ⟨hv, HO⟩ hL hc hd
      exact wpOp_off rfl ((wanted_at rfl rfl (hv.get 41 rfl rfl (hd 41 (by decide)))).trans rfl) ⟨hv.put sm_7_apart 42 rfl (lb rfl) (lb rfl) rfl, HO⟩
    ·
      rintro L a wc ⟨hv, HO⟩ hL hc hd
      exact wpOp_off rfl ((wanted_at rfl rfl (hv.get 41 rfl rfl (hd 41 (by decide)))).trans rfl) ⟨hv.put sm_7_apart 43 rfl (lb rfl) (lb rfl) rfl, HO⟩
    ·
      rintro L a wc ⟨hv, HO⟩ hL hc hd
      exact wpOp_off rfl ((wanted_at rfl rfl (hv.get 41 rfl rfl (hd 41 (by decide)))).trans rfl) ⟨hv.put sm_7_apart 44 rfl (lb rfl) (lb rfl) rfl, HO⟩
    ·
      rintro L a wc ⟨hv, HO⟩ hL hc hd
      exact wpOp_off rfl ((wanted_at rfl rfl (hv.get 41 rfl rfl (hd 41 (by decide)))).trans rfl) ⟨hv.put sm_7_apart 45 rfl (lb rfl) (lb rfl) rfl, HO⟩
    ·
      rintro L a wc ⟨hv, HO⟩ hL hc hd
      exact wpOp_val rfl rfl (ex_pick rfl (hv.get 41 rfl rfl (hd 41 (by decide))) rfl) ⟨hv.put sm_7_apart 46 rfl (lb rfl) (lb rfl) rfl, HO⟩
    ·
      rintro L a wc ⟨hv, HO⟩ hL hc hd
      exact wpOp_val rfl rfl (ex_move rfl (hv.get 46 rfl rfl (hd 46 (by decide)))) ⟨hv.put sm_7_apart 47 rfl (lb rfl) (lb rfl) rfl, HO⟩
    ·
      rintro L a wc ⟨hv, HO⟩ hL hc hd
      exact wpOp_off rfl ((wanted_at rfl rfl (hv.get 47 rfl rfl (hd 47 (by decide)))).trans rfl) ⟨hv.put sm_7_apart 48 rfl (lb rfl) (lb rfl) rfl, HO⟩
    ·
      rintro L a wc ⟨hv, HO⟩ hL hc hd
      exact wpOp_off rfl ((wanted_at rfl rfl (hv.get 47 rfl rfl (hd 47 (by decide)))).trans rfl) ⟨hv.put sm_7_apart 49 rfl (lb rfl) (lb rfl) rfl, HO⟩
    ·
      rintro L a wc ⟨hv, HO⟩ hL hc hd
      exact wpOp_off rfl ((wanted_at rfl rfl (hv.get 47 rfl rfl (hd 47 (by decide)))).trans rfl) ⟨hv.put sm_7_apart 50 rfl (lb rfl) (lb rfl) rfl, HO⟩
    ·
      rintro L a wc ⟨hv, HO⟩ hL hc hd
      exact wpOp_off rfl ((wanted_at rfl rfl (hv.get 47 rfl rfl (hd 47 (by decide)))).trans rfl) ⟨hv.put sm_7_apart 51 rfl (lb rfl) (lb rfl) rfl, HO⟩
    ·
      rintro L a wc ⟨hv, HO⟩ hL hc hd
      exact wpOp_val rfl rfl (ex_pick rfl (hv.get 47 rfl rfl (hd 47 (by decide))) rfl) ⟨hv.put sm_7_apart 52 rfl (lb rfl) (lb rfl) rfl, HO⟩
    ·
      rintro L a wc ⟨hv, HO⟩ hL hc hd
      exact wpOp_val rfl rfl (ex_assign rfl (hv.get 52 rfl rfl (hd 52 (by decide)))) ⟨hv.put sm_7_apart 53 rfl (lb rfl) (lb rfl) rfl, HO⟩
  · rintro L a wc ⟨hv, HO⟩ hall
    show K a wc
    have ha := act_lit a
    rw [hv.size, hv.defers] at ha
    have hl : ∀ f : Nat → Value, ((List.range (⟨#[c0, .int .i64 (most : Nat), .pointer (some ⟨B, 0, none⟩), c3, c4, .int .i64 (N : Nat), c6, c7, c8, c9, c10, c11, c12, c13, c14, c15, c16, c17, c18, c19, c20, c21, c22, c23, c24, c25, c26, c27, c28, c29, c30, c31, c32, c33, c34, c35, c36, c37, c38, c39, c40, c41, c42, c43, c44, c45, c46, c47, c48, c49, c50, c51, c52, c53, c54, c55, c56, c57, c58, c59, c60, c61], df⟩ : Act).tmps.size).map f).toArray = #[f 0, f 1, f 2, f 3, f 4, f 5, f 6, f 7, f 8, f 9, f 10, f 11, f 12, f 13, f 14, f 15, f 16, f 17, f 18, f 19, f 20, f 21, f 22, f 23, f 24, f 25, f 26, f 27, f 28, f 29, f 30, f 31, f 32, f 33, f 34, f 35, f 36, f 37, f 38, f 39, f 40, f 41, f 42, f 43, f 44, f 45, f 46, f 47, f 48, f 49, f 50, f 51, f 52, f 53, f 54, f 55, f 56, f 57, f 58, f 59, f 60, f 61] := fun _ => rfl
    rw [hl] at ha
    simp only [hv.fixed 0 (by decide), hv.fixed 1 (by decide), hv.fixed 2 (by decide), hv.fixed 3 (by decide), hv.fixed 5 (by decide), hv.fixed 6 (by decide), hv.fixed 7 (by decide), hv.fixed 8 (by decide), hv.get 53 (d := 4) rfl rfl (hall 53 (by decide))] at ha
    rw [ha]
    exact hK _ _ _ _ _ _ _ _ _ _ _ _ _ _ _ _ _ _ _ _ _ _ _ _ _ _ _ _ _ _ _ _ _ _ _ _ _ _ _ _ _ _ _ _ _ _ _ _ _ _ _ _ _ wc HO.out
noncomputable def sm_8_code : Code := ((Tryd.f27.body.bind (regionOf 2)).getD .skip)
def sm_8_dsts : List (Option Nat) := [some 9, some 10, some 11, some 12, some 13, some 14, some 15, some 16, some 17, some 18, some 19, some 20, some 21, some 22, some 23, some 24, some 25, some 26, some 27, some 28, some 29, some 30, some 31, some 32, some 33, some 34, some 35, some 36, some 37, some 38, some 39, some 40, some 41, some 42, some 43, some 44, some 45, some 46, some 47, some 48, some 49, some 50, some 51, some 52, some 53, some 54, some 55, some 56, some 57, some 58, some 59, some 60, some 61, some 4]
theorem sm_8_apart : apartD sm_8_dsts = true := by decide +kernel
set_option maxRecDepth 1000000 in
set_option maxHeartbeats 16000000 in
theorem sm_8 (wr : World) (B N M c most : Nat) (d gl n lost piece other : Int) (gs : List (List Int)) (A : Option Addr) (data : List UInt8) (hN : N ≤ 24) (hM : Hid (IntKind.i64.wrap (2 ^ N) = (M : Int))) (HG : Hid (Rs (Rs RI) wr (.slice A gs.length c) gs)) (HB : Hid (Cells wr B [.int .i64 d, .slice A gs.length c, .int .i64 gl, .string (sb data), .int .i64 lost, .int .i64 piece, .int .i64 other])) (HF : Hid (Cd.few gs 30 = true)) (HN : Hid (n = (N : Int))) (H1 : Hid ((0 < n))) (H2 : Hid ((n ≤ most))) (H3 : Hid ((0 ≤ lost))) (H4 : Hid ((lost < (M : Int)))) (H5 : Hid ((0 ≤ other))) (H6 : Hid ((other < (M : Int)))) (H7 : Hid ((0 ≤ piece))) (H8 : Hid (¬ (piece < n))) (c0 c3 c4 c6 c7 c8 c9 c10 c11 c12 c13 c14 c15 c16 c17 c18 c19 c20 c21 c22 c23 c24 c25 c26 c27 c28 c29 c30 c31 c32 c33 c34 c35 c36 c37 c38 c39 c40 c41 c42 c43 c44 c45 c46 c47 c48 c49 c50 c51 c52 c53 c54 c55 c56 c57 c58 c59 c60 c61 : Value) (df : List Deferred) (K : Act → World → Prop)
    (hK : ∀  (u9 u10 u11 u12 u13 u14 u15 u16 u17 u18 u19 u20 u21 u22 u23 u24 u25 u26 u27 u28 u29 u30 u31 u32 u33 u34 u35 u36 u37 u38 u39 u40 u41 u42 u43 u44 u45 u46 u47 u48 u49 u50 u51 u52 u53 u54 u55 u56 u57 u58 u59 u60 u61 : Value) (wx : World), Ext wr wx → K ⟨#[c0, .int .i64 (most : Nat), .pointer (some ⟨B, 0, none⟩), c3, .bool false, .int .i64 (N : Nat), c6, c7, c8, u9, u10, u11, u12, u13, u14, u15, u16, u17, u18, u19, u20, u21, u22, u23, u24, u25, u26, u27, u28, u29, u30, u31, u32, u33, u34, u35, u36, u37, u38, u39, u40, u41, u42, u43, u44, u45, u46, u47, u48, u49, u50, u51, u52, u53, u54, u55, u56, u57, u58, u59, u60, u61], df⟩ wx) :
    Code.wp Tryd.prog sm_8_code (AtEnd K) ⟨#[c0, .int .i64 (most : Nat), .pointer (some ⟨B, 0, none⟩), c3, c4, .int .i64 (N : Nat), c6, c7, c8, c9, c10, c11, c12, c13, c14, c15, c16, c17, c18, c19, c20, c21, c22, c23, c24, c25, c26, c27, c28, c29, c30, c31, c32, c33, c34, c35, c36, c37, c38, c39, c40, c41, c42, c43, c44, c45, c46, c47, c48, c49, c50, c51, c52, c53, c54, c55, c56, c57, c58, c59, c60, c61], df⟩ wr := by
  conv => arg 2; whnf
  refine region_inv (by kernel_rfl) [[], [0], [1], [2, 2], [3], [4, 3], [3, 5], [6, 3], [7], [7], [8, 9, 7], [7, 10], [11, 7], [12], [13, 12], [14, 12], [12, 15], [16, 12], [17], [18, 17], [17], [20, 17], [19, 21, 17], [17, 22], [23, 17], [24], [25, 24], [26, 24], [24, 27], [28, 24], [29], [30, 29], [29], [32, 29], [31, 33, 29], [29, 34], [35, 29], [36], [37, 36], [38, 36], [36, 39], [40, 36], [41], [42, 41], [41], [43, 44, 41], [41, 45], [46, 41], [47], [48, 47], [49, 47], [50, 47], [47, 51], [52, 47, 0, 1, 2, 3, 4, 5, 6, 7, 8, 9, 10, 11, 12, 13, 14, 15, 16, 17, 18, 19, 20, 21, 22, 23, 24, 25, 26, 27, 28, 29, 30, 31, 32, 33, 34, 35, 36, 37, 38, 39, 40, 41, 42, 43, 44, 45, 46, 47, 48, 49, 50, 51, 52]] (by kernel_rfl) [0, 1, 2, 3, 4, 5, 6, 7, 8, 9, 10, 11, 12, 13, 14, 15, 16, 17, 18, 19, 20, 21, 22, 23, 24, 25, 26, 27, 28, 29, 30, 31, 32, 33, 34, 35, 36, 37, 38, 39, 40, 41, 42, 43, 44, 45, 46, 47, 48, 49, 50, 51, 52, 53] (by decide +kernel) (by decide +kernel) (by decide +kernel) (fun L a wc => Inv sm_8_dsts [.pointer (some ⟨B, 0, none⟩), .agg #[.int .i64 d, .slice A gs.length c, .int .i64 gl], .bool true, .bool true, .int .i64 (N : Nat), .bool true, .bool true, .bool true, .int .i64 (N : Nat), .int .i64 (most : Nat), .bool true, .bool true, .bool true, .pointer (some ⟨B, 4, none⟩), .int .i64 lost, .bool true, .bool true, .bool true, .pointer (some ⟨B, 4, none⟩), .int .i64 lost, .int .i64 (N : Nat), .int .i64 (M : Nat), .bool true, .bool true, .bool true, .pointer (some ⟨B, 6, none⟩), .int .i64 other, .bool true, .bool true, .bool true, .pointer (some ⟨B, 6, none⟩), .int .i64 other, .int .i64 (N : Nat), .int .i64 (M : Nat), .bool true, .bool true, .bool true, .pointer (some ⟨B, 5, none⟩), .int .i64 piece, .bool true, .bool true, .bool true, .pointer (some ⟨B, 5, none⟩), .int .i64 piece, .int .i64 (N : Nat), .bool false, .bool false, .bool false, undef, undef, undef, undef, .bool false, .bool false] ⟨#[c0, .int .i64 (most : Nat), .pointer (some ⟨B, 0, none⟩), c3, c4, .int .i64 (N : Nat), c6, c7, c8, c9, c10, c11, c12, c13, c14, c15, c16, c17, c18, c19, c20, c21, c22, c23, c24, c25, c26, c27, c28, c29, c30, c31, c32, c33, c34, c35, c36, c37, c38, c39, c40, c41, c42, c43, c44, c45, c46, c47, c48, c49, c50, c51, c52, c53, c54, c55, c56, c57, c58, c59, c60, c61], df⟩ L a ∧ Hid (Ext wr wc)) ⟨Inv.start, Lib.hid ((Ext.refl wr).drew)⟩ ?_ ?_
  · refine ⟨?_, ?_, ?_, ?_, ?_, ?_, ?_, ?_, ?_, ?_, ?_, ?_, ?_, ?_, ?_, ?_, ?_, ?_, ?_, ?_, ?_, ?_, ?_, ?_, ?_, ?_, ?_, ?_, ?_, ?_, ?_, ?_, ?_, ?_, ?_, ?_, ?_, ?_, ?_, ?_, ?_, ?_, ?_, ?_, ?_, ?_, ?_, ?_, ?_, ?_, ?_, ?_, ?_, ?_, trivial⟩
    ·
      rintro L a wc ⟨hv, HO⟩ hL hc hd
      exact wpOp_val rfl rfl (ex_field rfl ((hv.fixed 2 (by decide)).trans rfl) (by go_simp)) ⟨hv.put sm_8_apart 0 rfl (lb rfl) (lb rfl) rfl, HO⟩
    ·
      rintro L a wc ⟨hv, HO⟩ hL hc hd
      have h0 : wc.cell? ⟨B, 0, none⟩ = some (.int .i64 d) := HO.out.cell (HB.out 0 _ rfl)
      have h1 : wc.cell? ⟨B, 1, none⟩ = some (.slice A gs.length c) := HO.out.cell (HB.out 1 _ rfl)
      have h2 : wc.cell? ⟨B, 2, none⟩ = some (.int .i64 gl) := HO.out.cell (HB.out 2 _ rfl)
      exact wpOp_val rfl rfl (ex_load rfl (hv.get 0 rfl rfl (hd 0 (by decide))) (by go_simp)) ⟨hv.put sm_8_apart 1 rfl (lb rfl) (lb rfl) rfl, HO⟩
    ·
      rintro L a wc ⟨hv, HO⟩ hL hc hd
      have hf := HF.out
      refine wpOp_call (R := fun v w1 => v = .bool true ∧ Ext wc w1) rfl rfl (ex_call rfl rfl (by simp only [List.map_toArray, List.map_cons, List.map_nil, (hv.get 1 rfl rfl (hd 1 (by decide)))]; rfl) (enters_of Tryd.func35 (by kernel_rfl) rfl _ _)) ((rFew_any d gl gs 30 _ wc (Rs.ext (Rs.ext RI.ext) _ _ _ _ HO.out HG.out) (by decide)).mono (fun e w' h => ⟨_, h.1.trans (by rw [HF.out]), rfl, h.2⟩)) ?_
      rintro v w' ⟨rfl, hx⟩
      exact ⟨hv.put sm_8_apart 2 rfl (lb rfl) (lb rfl) rfl, Lib.hid (HO.out.trans hx)⟩
    ·
      rintro L a wc ⟨hv, HO⟩ hL hc hd
      exact wpOp_val rfl rfl (ex_move rfl (hv.get 2 rfl rfl (hd 2 (by decide)))) ⟨hv.put sm_8_apart 3 rfl (lb rfl) (lb rfl) rfl, HO⟩
    ·
      rintro L a wc ⟨hv, HO⟩ hL hc hd
      exact wpOp_val rfl ((wanted_at rfl rfl (hv.get 3 rfl rfl (hd 3 (by decide)))).trans rfl) (ex_move rfl ((hv.fixed 5 (by decide)).trans rfl)) ⟨hv.put sm_8_apart 4 rfl (lb rfl) (lb rfl) rfl, HO⟩
    ·
      rintro L a wc ⟨hv, HO⟩ hL hc hd
      have u := H1.out
      rw [HN.out] at u
      have u2 : 0 < N := by omega
      exact wpOp_val rfl ((wanted_at rfl rfl (hv.get 3 rfl rfl (hd 3 (by decide)))).trans rfl) (ex_bin rfl (hv.get 4 rfl rfl (hd 4 (by decide))) rfl (by go_simp)) ⟨hv.put sm_8_apart 5 rfl (lb rfl) (lb rfl) rfl, HO⟩
    ·
      rintro L a wc ⟨hv, HO⟩ hL hc hd
      exact wpOp_val rfl rfl (ex_pick rfl (hv.get 3 rfl rfl (hd 3 (by decide))) (hv.get 5 rfl rfl (hd 5 (by decide)))) ⟨hv.put sm_8_apart 6 rfl (lb rfl) (lb rfl) rfl, HO⟩
    ·
      rintro L a wc ⟨hv, HO⟩ hL hc hd
      exact wpOp_val rfl rfl (ex_move rfl (hv.get 6 rfl rfl (hd 6 (by decide)))) ⟨hv.put sm_8_apart 7 rfl (lb rfl) (lb rfl) rfl, HO⟩
    ·
      rintro L a wc ⟨hv, HO⟩ hL hc hd
      exact wpOp_val rfl ((wanted_at rfl rfl (hv.get 7 rfl rfl (hd 7 (by decide)))).trans rfl) (ex_move rfl ((hv.fixed 5 (by decide)).trans rfl)) ⟨hv.put sm_8_apart 8 rfl (lb rfl) (lb rfl) rfl, HO⟩
    ·
      rintro L a wc ⟨hv, HO⟩ hL hc hd
      exact wpOp_val rfl ((wanted_at rfl rfl (hv.get 7 rfl rfl (hd 7 (by decide)))).trans rfl) (ex_move rfl ((hv.fixed 1 (by decide)).trans rfl)) ⟨hv.put sm_8_apart 9 rfl (lb rfl) (lb rfl) rfl, HO⟩
    ·
      rintro L a wc ⟨hv, HO⟩ hL hc hd
      have u := H2.out
      rw [HN.out] at u
      exact wpOp_val rfl ((wanted_at rfl rfl (hv.get 7 rfl rfl (hd 7 (by decide)))).trans rfl) (ex_bin rfl (hv.get 8 rfl rfl (hd 8 (by decide))) (hv.get 9 rfl rfl (hd 9 (by decide))) (by go_simp)) ⟨hv.put sm_8_apart 10 rfl (lb rfl) (lb rfl) rfl, HO⟩
    ·
      rintro L a wc ⟨hv, HO⟩ hL hc hd
      exact wpOp_val rfl rfl (ex_pick rfl (hv.get 7 rfl rfl (hd 7 (by decide))) (hv.get 10 rfl rfl (hd 10 (by decide)))) ⟨hv.put sm_8_apart 11 rfl (lb rfl) (lb rfl) rfl, HO⟩
    ·
      rintro L a wc ⟨hv, HO⟩ hL hc hd
      exact wpOp_val rfl rfl (ex_move rfl (hv.get 11 rfl rfl (hd 11 (by decide)))) ⟨hv.put sm_8_apart 12 rfl (lb rfl) (lb rfl) rfl, HO⟩
    ·
      rintro L a wc ⟨hv, HO⟩ hL hc hd
      exact wpOp_val rfl ((wanted_at rfl rfl (hv.get 12 rfl rfl (hd 12 (by decide)))).trans rfl) (ex_field rfl ((hv.fixed 2 (by decide)).trans rfl) (by go_simp)) ⟨hv.put sm_8_apart 13 rfl (lb rfl) (lb rfl) rfl, HO⟩
    ·
      rintro L a wc ⟨hv, HO⟩ hL hc hd
      have h0 : wc.cell? ⟨B, 4, none⟩ = some (.int .i64 lost) := HO.out.cell (HB.out 4 _ rfl)
      exact wpOp_val rfl ((wanted_at rfl rfl (hv.get 12 rfl rfl (hd 12 (by decide)))).trans rfl) (ex_load rfl (hv.get 13 rfl rfl (hd 13 (by decide))) (by go_simp)) ⟨hv.put sm_8_apart 14 rfl (lb rfl) (lb rfl) rfl, HO⟩
    ·
      rintro L a wc ⟨hv, HO⟩ hL hc hd
      have u := H3.out
      exact wpOp_val rfl ((wanted_at rfl rfl (hv.get 12 rfl rfl (hd 12 (by decide)))).trans rfl) (ex_bin rfl (hv.get 14 rfl rfl (hd 14 (by decide))) rfl (by go_simp)) ⟨hv.put sm_8_apart 15 rfl (lb rfl) (lb rfl) rfl, HO⟩
    ·
      rintro L a wc ⟨hv, HO⟩ hL hc hd
      exact wpOp_val rfl rfl (ex_pick rfl (hv.get 12 rfl rfl (hd 12 (by decide))) (hv.get 15 rfl rfl (hd 15 (by decide)))) ⟨hv.put sm_8_apart 16 rfl (lb rfl) (lb rfl) rfl, HO⟩
    ·
      rintro L a wc ⟨hv, HO⟩ hL hc hd
      exact wpOp_val rfl rfl (ex_move rfl (hv.get 16 rfl rfl (hd 16 (by decide)))) ⟨hv.put sm_8_apart 17 rfl (lb rfl) (lb rfl) rfl, HO⟩
    ·
      rintro L a wc ⟨hv, HO⟩ hL hc hd
      exact wpOp_val rfl ((wanted_at rfl rfl (hv.get 17 rfl rfl (hd 17 (by decide)))).trans rfl) (ex_field rfl ((hv.fixed 2 (by decide)).trans rfl) (by go_simp)) ⟨hv.put sm_8_apart 18 rfl (lb rfl) (lb rfl) rfl, HO⟩
    ·
      rintro L a wc ⟨hv, HO⟩ hL hc hd
      have h0 : wc.cell? ⟨B, 4, none⟩ = some (.int .i64 lost) := HO.out.cell (HB.out 4 _ rfl)
      exact wpOp_val rfl ((wanted_at rfl rfl (hv.get 17 rfl rfl (hd 17 (by decide)))).trans rfl) (ex_load rfl (hv.get 18 rfl rfl (hd 18 (by decide))) (by go_simp)) ⟨hv.put sm_8_apart 19 rfl (lb rfl) (lb rfl) rfl, HO⟩
    ·
      rintro L a wc ⟨hv, HO⟩ hL hc hd
      exact wpOp_val rfl ((wanted_at rfl rfl (hv.get 17 rfl rfl (hd 17 (by decide)))).trans rfl) (ex_move rfl ((hv.fixed 5 (by decide)).trans rfl)) ⟨hv.put sm_8_apart 20 rfl (lb rfl) (lb rfl) rfl, HO⟩
    ·
      rintro L a wc ⟨hv, HO⟩ hL hc hd
      have hm := hM.out
      exact wpOp_val rfl ((wanted_at rfl rfl (hv.get 17 rfl rfl (hd 17 (by decide)))).trans rfl) (ex_bin rfl rfl (hv.get 20 rfl rfl (hd 20 (by decide))) (by go_simp)) ⟨hv.put sm_8_apart 21 rfl (lb rfl) (lb rfl) rfl, HO⟩
    ·
      rintro L a wc ⟨hv, HO⟩ hL hc hd
      have u := H4.out
      exact wpOp_val rfl ((wanted_at rfl rfl (hv.get 17 rfl rfl (hd 17 (by decide)))).trans rfl) (ex_bin rfl (hv.get 19 rfl rfl (hd 19 (by decide))) (hv.get 21 rfl rfl (hd 21 (by decide))) (by go_simp)) ⟨hv.put sm_8_apart 22 rfl (lb rfl) (lb rfl) rfl, HO⟩
    ·
      rintro L a wc ⟨hv, HO⟩ hL hc hd
      exact wpOp_val rfl rfl (ex_pick rfl (hv.get 17 rfl rfl (hd 17 (by decide))) (hv.get 22 rfl rfl (hd 22 (by decide)))) ⟨hv.put sm_8_apart 23 rfl (lb rfl) (lb rfl) rfl, HO⟩
    ·
      rintro L a wc ⟨hv, HO⟩ hL hc hd
      exact wpOp_val rfl rfl (ex_move rfl (hv.get 23 rfl rfl (hd 23 (by decide)))) ⟨hv.put sm_8_apart 24 rfl (lb rfl) (lb rfl) rfl, HO⟩
    ·
      rintro L a wc ⟨hv, HO⟩ hL hc hd
      exact wpOp_val rfl ((wanted_at rfl rfl (hv.get 24 rfl rfl (hd 24 (by decide)))).trans rfl) (ex_field rfl ((hv.fixed 2 (by decide)).trans rfl) (by go_simp)) ⟨hv.put sm_8_apart 25 rfl (lb rfl) (lb rfl) rfl, HO⟩
    ·
      rintro L a wc ⟨hv, HO⟩ hL hc hd
      have h0 : wc.cell? ⟨B, 6, none⟩ = some (.int .i64 other) := HO.out.cell (HB.out 6 _ rfl)
      exact wpOp_val rfl ((wanted_at rfl rfl (hv.get 24 rfl rfl (hd 24 (by decide)))).trans rfl) (ex_load rfl (hv.get 25 rfl rfl (hd 25 (by decide))) (by go_simp)) ⟨hv.put sm_8_apart 26 rfl (lb rfl) (lb rfl) rfl, HO⟩
    ·
      rintro L a wc ⟨hv, HO⟩ hL hc hd
      have u := H5.out
      exact wpOp_val rfl ((wanted_at rfl rfl (hv.get 24 rfl rfl (hd 24 (by decide)))).trans rfl) (ex_bin rfl (hv.get 26 rfl rfl (hd 26 (by decide))) rfl (by go_simp)) ⟨hv.put sm_8_apart 27 rfl (lb rfl) (lb rfl) rfl, HO⟩
    ·
      rintro L a wc ⟨hv, HO⟩ hL hc hd
      exact wpOp_val rfl rfl (ex_pick rfl (hv.get 24 rfl rfl (hd 24 (by decide))) (hv.get 27 rfl rfl (hd 27 (by decide)))) ⟨hv.put sm_8_apart 28 rfl (lb rfl) (lb rfl) rfl, HO⟩
    ·
      rintro L a wc ⟨hv, HO⟩ hL hc hd
      exact wpOp_val rfl rfl (ex_move rfl (hv.get 28 rfl rfl (hd 28 (by decide)))) ⟨hv.put sm_8_apart 29 rfl (lb rfl) (lb rfl) rfl, HO⟩
    ·
      rintro L a wc ⟨hv, HO⟩ hL hc hd
      exact wpOp_val rfl ((wanted_at rfl rfl (hv.get 29 rfl rfl (hd 29 (by decide)))).trans rfl) (ex_field rfl ((hv.fixed 2 (by decide)).trans rfl) (by go_simp)) ⟨hv.put sm_8_apart 30 rfl (lb rfl) (lb rfl) rfl, HO⟩
    ·
      rintro L a wc ⟨hv, HO⟩ hL hc hd
      have h0 : wc.cell? ⟨B, 6, none⟩ = some (.int .i64 other) := HO.out.cell (HB.out 6 _ rfl)
      exact wpOp_val rfl ((wanted_at rfl rfl (hv.get 29 rfl rfl (hd 29 (by decide)))).trans rfl) (ex_load rfl (hv.get 30 rfl rfl (hd 30 (by decide))) (by go_simp)) ⟨hv.put sm_8_apart 31 rfl (lb rfl) (lb rfl) rfl, HO⟩
    ·
      rintro L a wc ⟨hv, HO⟩ hL hc hd
      exact wpOp_val rfl ((wanted_at rfl rfl (hv.get 29 rfl rfl (hd 29 (by decide)))).trans rfl) (ex_move rfl ((hv.fixed 5 (by decide)).trans rfl)) ⟨hv.put sm_8_apart 32 rfl (lb rfl) (lb rfl) rfl, HO⟩
    ·
      rintro L a wc ⟨hv, HO⟩ hL hc hd
      have hm := hM.out
      exact wpOp_val rfl ((wanted_at rfl rfl (hv.get 29 rfl rfl (hd 29 (by decide)))).trans rfl) (ex_bin rfl rfl (hv.get 32 rfl rfl (hd 32 (by decide))) (by go_simp)) ⟨hv.put sm_8_apart 33 rfl (lb rfl) (lb rfl) rfl, HO⟩
    ·
      rintro L a wc ⟨hv, HO⟩ hL hc hd
      have u := H6.out
      exact wpOp_val rfl ((wanted_at rfl rfl (hv.get 29 rfl rfl (hd 29 (by decide)))).trans rfl) (ex_bin rfl (hv.get 31 rfl rfl (hd 31 (by decide))) (hv.get 33 rfl rfl (hd 33 (by decide))) (by go_simp)) ⟨hv.put sm_8_apart 34 rfl (lb rfl) (lb rfl) rfl, HO⟩
    ·
      rintro L a wc ⟨hv, HO⟩ hL hc hd
      exact wpOp_val rfl rfl (ex_pick rfl (hv.get 29 rfl rfl (hd 29 (by decide))) (hv.get 34 rfl rfl (hd 34 (by decide)))) ⟨hv.put sm_8_apart 35 rfl (lb rfl) (lb rfl) rfl, HO⟩
    ·
      rintro L a wc ⟨hv, HO⟩ hL hc hd
      exact wpOp_val rfl rfl (ex_move rfl (hv.get 35 rfl rfl (hd 35 (by decide)))) ⟨hv.put sm_8_apart 36 rfl (lb rfl) (lb rfl) rfl, HO⟩
    ·
      rintro L a wc ⟨hv, HO⟩ hL hc hd
      exact wpOp_val rfl ((wanted_at rfl rfl (hv.get 36 rfl rfl (hd 36 (by decide)))).trans rfl) (ex_field rfl ((hv.fixed 2 (by decide)).trans rfl) (by go_simp)) ⟨hv.put sm_8_apart 37 rfl (lb rfl) (lb rfl) rfl, HO⟩
    ·
      rintro L a wc ⟨hv, HO⟩ hL hc hd
      have h0 : wc.cell? ⟨B, 5, none⟩ = some (.int .i64 piece) := HO.out.cell (HB.out 5 _ rfl)
      exact wpOp_val rfl ((wanted_at rfl rfl (hv.get 36 rfl rfl (hd 36 (by decide)))).trans rfl) (ex_load rfl (hv.get 37 rfl rfl (hd 37 (by decide))) (by go_simp)) ⟨hv.put sm_8_apart 38 rfl (lb rfl) (lb rfl) rfl, HO⟩
    ·
      rintro L a wc ⟨hv, HO⟩ hL hc hd
      have u := H7.out
      exact wpOp_val rfl ((wanted_at rfl rfl (hv.get 36 rfl rfl (hd 36 (by decide)))).trans rfl) (ex_bin rfl (hv.get 38 rfl rfl (hd 38 (by decide))) rfl (by go_simp)) ⟨hv.put sm_8_apart 39 rfl (lb rfl) (lb rfl) rfl, HO⟩
    ·
      rintro L a wc ⟨hv, HO⟩ hL hc hd
      exact wpOp_val rfl rfl (ex_pick rfl (hv.get 36 rfl rfl (hd 36 (by decide))) (hv.get 39 rfl rfl (hd 39 (by decide)))) ⟨hv.put sm_8_apart 40 rfl (lb rfl) (lb rfl) rfl, HO⟩
    ·
      rintro L a wc ⟨hv, HO⟩ hL hc hd
      exact wpOp_val rfl rfl (ex_move rfl (hv.get 40 rfl rfl (hd 40 (by decide)))) ⟨hv.put sm_8_apart 41 rfl (lb rfl) (lb rfl) rfl, HO⟩
    ·
      rintro L a wc ⟨hv, HO⟩ hL hc hd
      exact wpOp_val rfl ((wanted_at rfl rfl (hv.get 41 rfl rfl (hd 41 (by decide)))).trans rfl) (ex_field rfl ((hv.fixed 2 (by decide)).trans rfl) (by go_simp)) ⟨hv.put sm_8_apart 42 rfl (lb rfl) (lb rfl) rfl, HO⟩
    ·
      rintro L a wc ⟨hv, HO⟩ hL hc hd
      have h0 : wc.cell? ⟨B, 5, none⟩ = some (.int .i64 piece) := HO.out.cell (HB.out 5 _ rfl)
      exact wpOp_val rfl ((wanted_at rfl rfl (hv.get 41 rfl rfl (hd 41 (by decide)))).trans rfl) (ex_load rfl (hv.get 42 rfl rfl (hd 42 (by decide))) (by go_simp)) ⟨hv.put sm_8_apart 43 rfl (lb rfl) (lb rfl) rfl, HO⟩
    ·
      rintro L a wc ⟨hv, HO⟩ hL hc hd
      exact wpOp_val rfl ((wanted_at rfl rfl (hv.get 41 rfl rfl (hd 41 (by decide)))).trans rfl) (ex_move rfl ((hv.fixed 5 (by decide)).trans rfl)) ⟨hv.put sm_8_apart 44 rfl (lb rfl) (lb rfl) rfl, HO⟩
    ·
      rintro L a wc ⟨hv, HO⟩ hL hc hd
      have u := H8.out
      rw [HN.out] at u
      exact wpOp_val rfl ((wanted_at rfl rfl (hv.get 41 rfl rfl (hd 41 (by decide)))).trans rfl) (ex_bin rfl (hv.get 43 rfl rfl (hd 43 (by decide))) (hv.get 44 rfl rfl (hd 44 (by decide))) (by go_simp)) ⟨hv.put sm_8_apart 45 rfl (lb rfl) (lb rfl) rfl, HO⟩
    ·
      rintro L a wc ⟨hv, HO⟩ hL hc hd
      exact wpOp_val rfl rfl (ex_pick rfl (hv.get 41 rfl rfl (hd 41 (by decide))) (hv.get 45 rfl rfl (hd 45 (by decide)))) ⟨hv.put sm_8_apart 46 rfl (lb rfl) (lb rfl) rfl, HO⟩
    ·
      rintro L a wc ⟨hv, HO⟩ hL hc hd
      exact wpOp_val rfl rfl (ex_move rfl (hv.get 46 rfl rfl (hd 46 (by decide)))) ⟨hv.put sm_8_apart 47 rfl (lb rfl) (lb rfl) rfl, HO⟩
    ·
      rintro L a wc ⟨hv, HO⟩ hL hc hd
      exact wpOp_off rfl ((wanted_at rfl rfl (hv.get 47 rfl rfl (hd 47 (by decide)))).trans rfl) ⟨hv.put sm_8_apart 48 rfl (lb rfl) (lb rfl) rfl, HO⟩
    ·
      rintro L a wc ⟨hv, HO⟩ hL hc hd
      exact wpOp_off rfl ((wanted_at rfl rfl (hv.get 47 rfl rfl (hd 47 (by decide)))).trans rfl) ⟨hv.put sm_8_apart 49 rfl (lb rfl) (lb rfl) rfl, HO⟩
    ·
      rintro L a wc ⟨hv, HO⟩ hL hc hd
      exact wpOp_off rfl ((wanted_at rfl rfl (hv.get 47 rfl rfl (hd 47 (by decide)))).trans rfl) ⟨hv.put sm_8_apart 50 rfl (lb rfl) (lb rfl) rfl, HO⟩
    ·
      rintro L a wc ⟨hv, HO⟩ hL hc hd
      exact wpOp_off rfl ((wanted_at rfl rfl (hv.get 47 rfl rfl (hd 47 (by decide)))).trans rfl) ⟨hv.put sm_8_apart 51 rfl (lb rfl) (lb rfl) rfl, HO⟩
    ·
      rintro L a wc ⟨hv, HO⟩ hL hc hd
      exact wpOp_val rfl rfl (ex_pick rfl (hv.get 47 rfl rfl (hd 47 (by decide))) rfl) ⟨hv.put sm_8_apart 52 rfl (lb rfl) (lb rfl) rfl, HO⟩
    ·
      rintro L a wc ⟨hv, HO⟩ hL hc hd
      exact wpOp_val rfl rfl (ex_assign rfl (hv.get 52 rfl rfl (hd 52 (by decide)))) ⟨hv.put sm_8_apart 53 rfl (lb rfl) (lb rfl) rfl, HO⟩
  · rintro L a wc ⟨hv, HO⟩ hall
    show K a wc
    have ha := act_lit a
    rw [hv.size, hv.defers] at ha
    have hl : ∀ f : Nat → Value, ((List.range (⟨#[c0, .int .i64 (most : Nat), .pointer (some ⟨B, 0, none⟩), c3, c4, .int .i64 (N : Nat), c6, c7, c8, c9, c10, c11, c12, c13, c14, c15, c16, c17, c18, c19, c20, c21, c22, c23, c24, c25, c26, c27, c28, c29, c30, c31, c32, c33, c34, c35, c36, c37, c38, c39, c40, c41, c42, c43, c44, c45, c46, c47, c48, c49, c50, c51, c52, c53, c54, c55, c56, c57, c58, c59, c60, c61], df⟩ : Act).tmps.size).map f).toArray = #[f 0, f 1, f 2, f 3, f 4, f 5, f 6, f 7, f 8, f 9, f 10, f 11, f 12, f 13, f 14, f 15, f 16, f 17, f 18, f 19, f 20, f 21, f 22, f 23, f 24, f 25, f 26, f 27, f 28, f 29, f 30, f 31, f 32, f 33, f 34, f 35, f 36, f 37, f 38, f 39, f 40, f 41, f 42, f 43, f 44, f 45, f 46, f 47, f 48, f 49, f 50, f 51, f 52, f 53, f 54, f 55, f 56, f 57, f 58, f 59, f 60, f 61] := fun _ => rfl
    rw [hl] at ha
    simp only [hv.fixed 0 (by decide), hv.fixed 1 (by decide), hv.fixed 2 (by decide), hv.fixed 3 (by decide), hv.fixed 5 (by decide), hv.fixed 6 (by decide), hv.fixed 7 (by decide), hv.fixed 8 (by decide), hv.get 53 (d := 4) rfl rfl (hall 53 (by decide))] at ha
    rw [ha]
    exact hK _ _ _ _ _ _ _ _ _ _ _ _ _ _ _ _ _ _ _ _ _ _ _ _ _ _ _ _ _ _ _ _ _ _ _ _ _ _ _ _ _ _ _ _ _ _ _ _ _ _ _ _ _ wc HO.out
noncomputable def sm_9_code : Code := ((Tryd.f27.body.bind (regionOf 2)).getD .skip)
def sm_9_dsts : List (Option Nat) := [some 9, some 10, some 11, some 12, some 13, some 14, some 15, some 16, some 17, some 18, some 19, some 20, some 21, some 22, some 23, some 24, some 25, some 26, some 27, some 28, some 29, some 30, some 31, some 32, some 33, some 34, some 35, some 36, some 37, some 38, some 39, some 40, some 41, some 42, some 43, some 44, some 45, some 46, some 47, some 48, some 49, some 50, some 51, some 52, some 53, some 54, some 55, some 56, some 57, some 58, some 59, some 60, some 61, some 4]
theorem sm_9_apart : apartD sm_9_dsts = true := by decide +kernel
set_option maxRecDepth 1000000 in
set_option maxHeartbeats 16000000 in
theorem sm_9 (wr : World) (B N M c most : Nat) (d gl n lost piece other : Int) (gs : List (List Int)) (A : Option Addr) (data : List UInt8) (hN : N ≤ 24) (hM : Hid (IntKind.i64.wrap (2 ^ N) = (M : Int))) (HG : Hid (Rs (Rs RI) wr (.slice A gs.length c) gs)) (HB : Hid (Cells wr B [.int .i64 d, .slice A gs.length c, .int .i64 gl, .string (sb data), .int .i64 lost, .int .i64 piece, .int .i64 other])) (HF : Hid (Cd.few gs 30 = true)) (HN : Hid (n = (N : Int))) (H1 : Hid ((0 < n))) (H2 : Hid ((n ≤ most))) (H3 : Hid ((0 ≤ lost))) (H4 : Hid ((lost < (M : Int)))) (H5 : Hid ((0 ≤ other))) (H6 : Hid ((other < (M : Int)))) (H7 : Hid ((0 ≤ piece))) (H8 : Hid ((piece < n))) (H9 : Hid (¬ (data.length ≤ 200))) (c0 c3 c4 c6 c7 c8 c9 c10 c11 c12 c13 c14 c15 c16 c17 c18 c19 c20 c21 c22 c23 c24 c25 c26 c27 c28 c29 c30 c31 c32 c33 c34 c35 c36 c37 c38 c39 c40 c41 c42 c43 c44 c45 c46 c47 c48 c49 c50 c51 c52 c53 c54 c55 c56 c57 c58 c59 c60 c61 : Value) (df : List Deferred) (K : Act → World → Prop)
    (hK : ∀  (u9 u10 u11 u12 u13 u14 u15 u16 u17 u18 u19 u20 u21 u22 u23 u24 u25 u26 u27 u28 u29 u30 u31 u32 u33 u34 u35 u36 u37 u38 u39 u40 u41 u42 u43 u44 u45 u46 u47 u48 u49 u50 u51 u52 u53 u54 u55 u56 u57 u58 u59 u60 u61 : Value) (wx : World), Ext wr wx → K ⟨#[c0, .int .i64 (most : Nat), .pointer (some ⟨B, 0, none⟩), c3, .bool false, .int .i64 (N : Nat), c6, c7, c8, u9, u10, u11, u12, u13, u14, u15, u16, u17, u18, u19, u20, u21, u22, u23, u24, u25, u26, u27, u28, u29, u30, u31, u32, u33, u34, u35, u36, u37, u38, u39, u40, u41, u42, u43, u44, u45, u46, u47, u48, u49, u50, u51, u52, u53, u54, u55, u56, u57, u58, u59, u60, u61], df⟩ wx) :
    Code.wp Tryd.prog sm_9_code (AtEnd K) ⟨#[c0, .int .i64 (most : Nat), .pointer (some ⟨B, 0, none⟩), c3, c4, .int .i64 (N : Nat), c6, c7, c8, c9, c10, c11, c12, c13, c14, c15, c16, c17, c18, c19, c20, c21, c22, c23, c24, c25, c26, c27, c28, c29, c30, c31, c32, c33, c34, c35, c36, c37, c38, c39, c40, c41, c42, c43, c44, c45, c46, c47, c48, c49, c50, c51, c52, c53, c54, c55, c56, c57, c58, c59, c60, c61], df⟩ wr := by
  conv => arg 2; whnf
  refine region_inv (by kernel_rfl) [[], [0], [1], [2, 2], [3], [4, 3], [3, 5], [6, 3], [7], [7], [8, 9, 7], [7, 10], [11, 7], [12], [13, 12], [14, 12], [12, 15], [16, 12], [17], [18, 17], [17], [20, 17], [19, 21, 17], [17, 22], [23, 17], [24], [25, 24], [26, 24], [24, 27], [28, 24], [29], [30, 29], [29], [32, 29], [31, 33, 29], [29, 34], [35, 29], [36], [37, 36], [38, 36], [36, 39], [40, 36], [41], [42, 41], [41], [43, 44, 41], [41, 45], [46, 41], [47], [48, 47], [49, 47], [50, 47], [47, 51], [52, 47, 0, 1, 2, 3, 4, 5, 6, 7, 8, 9, 10, 11, 12, 13, 14, 15, 16, 17, 18, 19, 20, 21, 22, 23, 24, 25, 26, 27, 28, 29, 30, 31, 32, 33, 34, 35, 36, 37, 38, 39, 40, 41, 42, 43, 44, 45, 46, 47, 48, 49, 50, 51, 52]] (by kernel_rfl) [0, 1, 2, 3, 4, 5, 6, 7, 8, 9, 10, 11, 12, 13, 14, 15, 16, 17, 18, 19, 20, 21, 22, 23, 24, 25, 26, 27, 28, 29, 30, 31, 32, 33, 34, 35, 36, 37, 38, 39, 40, 41, 42, 43, 44, 45, 46, 47, 48, 49, 50, 51, 52, 53] (by decide +kernel) (by decide +kernel) (by decide +kernel) (fun L a wc => Inv sm_9_dsts [.pointer (some ⟨B, 0, none⟩), .agg #[.int .i64 d, .slice A gs.length c, .int .i64 gl], .bool true, .bool true, .int .i64 (N : Nat), .bool true, .bool true, .bool true, .int .i64 (N : Nat), .int .i64 (most : Nat), .bool true, .bool true, .bool true, .pointer (some ⟨B, 4, none⟩), .int .i64 lost, .bool true, .bool true, .bool true, .pointer (some ⟨B, 4, none⟩), .int .i64 lost, .int .i64 (N : Nat), .int .i64 (M : Nat), .bool true, .bool true, .bool true, .pointer (some ⟨B, 6, none⟩), .int .i64 other, .bool true, .bool true, .bool true, .pointer (some ⟨B, 6, none⟩), .int .i64 other, .int .i64 (N : Nat), .int .i64 (M : Nat), .bool true, .bool true, .bool true, .pointer (some ⟨B, 5, none⟩), .int .i64 piece, .bool true, .bool true, .bool true, .pointer (some ⟨B, 5, none⟩), .int .i64 piece, .int .i64 (N : Nat), .bool true, .bool true, .bool true, .pointer (some ⟨B, 3, none⟩), .string (sb data), .int .i64 (data.length : Nat), .bool false, .bool false, .bool false] ⟨#[c0, .int .i64 (most : Nat), .pointer (some ⟨B, 0, none⟩), c3, c4, .int .i64 (N : Nat), c6, c7, c8, c9, c10, c11, c12, c13, c14, c15, c16, c17, c18, c19, c20, c21, c22, c23, c24, c25, c26, c27, c28, c29, c30, c31, c32, c33, c34, c35, c36, c37, c38, c39, c40, c41, c42, c43, c44, c45, c46, c47, c48, c49, c50, c51, c52, c53, c54, c55, c56, c57, c58, c59, c60, c61], df⟩ L a ∧ Hid (Ext wr wc)) ⟨Inv.start, Lib.hid ((Ext.refl wr).drew)⟩ ?_ ?_
  · refine ⟨?_, ?_, ?_, ?_, ?_, ?_, ?_, ?_, ?_, ?_, ?_, ?_, ?_, ?_, ?_, ?_, ?_, ?_, ?_, ?_, ?_, ?_, ?_, ?_, ?_, ?_, ?_, ?_, ?_, ?_, ?_, ?_, ?_, ?_, ?_, ?_, ?_, ?_, ?_, ?_, ?_, ?_, ?_, ?_, ?_, ?_, ?_, ?_, ?_, ?_, ?_, ?_, ?_, ?_, trivial⟩
    ·
      rintro L a wc ⟨hv, HO⟩ hL hc hd
      exact wpOp_val rfl rfl (ex_field rfl ((hv.fixed 2 (by decide)).trans rfl) (by go_simp)) ⟨hv.put sm_9_apart 0 rfl (lb rfl) (lb rfl) rfl, HO⟩
    ·
      rintro L a wc ⟨hv, HO⟩ hL hc hd
      have h0 : wc.cell? ⟨B, 0, none⟩ = some (.int .i64 d) := HO.out.cell (HB.out 0 _ rfl)
      have h1 : wc.cell? ⟨B, 1, none⟩ = some (.slice A gs.length c) := HO.out.cell (HB.out 1 _ rfl)
      have h2 : wc.cell? ⟨B, 2, none⟩ = some (.int .i64 gl) := HO.out.cell (HB.out 2 _ rfl)
      exact wpOp_val rfl rfl (ex_load rfl (hv.get 0 rfl rfl (hd 0 (by decide))) (by go_simp)) ⟨hv.put sm_9_apart 1 rfl (lb rfl) (lb rfl) rfl, HO⟩
    ·
      rintro L a wc ⟨hv, HO⟩ hL hc hd
      have hf := HF.out
      refine wpOp_call (R := fun v w1 => v = .bool true ∧ Ext wc w1) rfl rfl (ex_call rfl rfl (by simp only [List.map_toArray, List.map_cons, List.map_nil, (hv.get 1 rfl rfl (hd 1 (by decide)))]; rfl) (enters_of Tryd.func35 (by kernel_rfl) rfl _ _)) ((rFew_any d gl gs 30 _ wc (Rs.ext (Rs.ext RI.ext) _ _ _ _ HO.out HG.out) (by decide)).mono (fun e w' h => ⟨_, h.1.trans (by rw [HF.out]), rfl, h.2⟩)) ?_
      rintro v w' ⟨rfl, hx⟩
      exact ⟨hv.put sm_9_apart 2 rfl (lb rfl) (lb rfl) rfl, Lib.hid (HO.out.trans hx)⟩
    ·
      rintro L a wc ⟨hv, HO⟩ hL hc hd
      exact wpOp_val rfl rfl (ex_move rfl (hv.get 2 rfl rfl (hd 2 (by decide)))) ⟨hv.put sm_9_apart 3 rfl (lb rfl) (lb rfl) rfl, HO⟩
    ·
      rintro L a wc ⟨hv, HO⟩ hL hc hd
      exact wpOp_val rfl ((wanted_at rfl rfl (hv.get 3 rfl rfl (hd 3 (by decide)))).trans rfl) (ex_move rfl ((hv.fixed 5 (by decide)).trans rfl)) ⟨hv.put sm_9_apart 4 rfl (lb rfl) (lb rfl) rfl, HO⟩
    ·
      rintro L a wc ⟨hv, HO⟩ hL hc hd
      have u := H1.out
      rw [HN.out] at u
      have u2 : 0 < N := by omega
      exact wpOp_val rfl ((wanted_at rfl rfl (hv.get 3 rfl rfl (hd 3 (by decide)))).trans rfl) (ex_bin rfl (hv.get 4 rfl rfl (hd 4 (by decide))) rfl (by go_simp)) ⟨hv.put sm_9_apart 5 rfl (lb rfl) (lb rfl) rfl, HO⟩
    ·
      rintro L a wc ⟨hv, HO⟩ hL hc hd
      exact wpOp_val rfl rfl (ex_pick rfl (hv.get 3 rfl rfl (hd 3 (by decide))) (hv.get 5 rfl rfl (hd 5 (by decide)))) ⟨hv.put sm_9_apart 6 rfl (lb rfl) (lb rfl) rfl, HO⟩
    ·
      rintro L a wc ⟨hv, HO⟩ hL hc hd
      exact wpOp_val rfl rfl (ex_move rfl (hv.get 6 rfl rfl (hd 6 (by decide)))) ⟨hv.put sm_9_apart 7 rfl (lb rfl) (lb rfl) rfl, HO⟩
    ·
      rintro L a wc ⟨hv, HO⟩ hL hc hd
      exact wpOp_val rfl ((wanted_at rfl rfl (hv.get 7 rfl rfl (hd 7 (by decide)))).trans rfl) (ex_move rfl ((hv.fixed 5 (by decide)).trans rfl)) ⟨hv.put sm_9_apart 8 rfl (lb rfl) (lb rfl) rfl, HO⟩
    ·
      rintro L a wc ⟨hv, HO⟩ hL hc hd
      exact wpOp_val rfl ((wanted_at rfl rfl (hv.get 7 rfl rfl (hd 7 (by decide)))).trans rfl) (ex_move rfl ((hv.fixed 1 (by decide)).trans rfl)) ⟨hv.put sm_9_apart 9 rfl (lb rfl) (lb rfl) rfl, HO⟩
    ·
      rintro L a wc ⟨hv, HO⟩ hL hc hd
      have u := H2.out
      rw [HN.out] at u
      exact wpOp_val rfl ((wanted_at rfl rfl (hv.get 7 rfl rfl (hd 7 (by decide)))).trans rfl) (ex_bin rfl (hv.get 8 rfl rfl (hd 8 (by decide))) (hv.get 9 rfl rfl (hd 9 (by decide))) (by go_simp)) ⟨hv.put sm_9_apart 10 rfl (lb rfl) (lb rfl) rfl, HO⟩
    ·
      rintro L a wc ⟨hv, HO⟩ hL hc hd
      exact wpOp_val rfl rfl (ex_pick rfl (hv.get 7 rfl rfl (hd 7 (by decide))) (hv.get 10 rfl rfl (hd 10 (by decide)))) ⟨hv.put sm_9_apart 11 rfl (lb rfl) (lb rfl) rfl, HO⟩
    ·
      rintro L a wc ⟨hv, HO⟩ hL hc hd
      exact wpOp_val rfl rfl (ex_move rfl (hv.get 11 rfl rfl (hd 11 (by decide)))) ⟨hv.put sm_9_apart 12 rfl (lb rfl) (lb rfl) rfl, HO⟩
    ·
      rintro L a wc ⟨hv, HO⟩ hL hc hd
      exact wpOp_val rfl ((wanted_at rfl rfl (hv.get 12 rfl rfl (hd 12 (by decide)))).trans rfl) (ex_field rfl ((hv.fixed 2 (by decide)).trans rfl) (by go_simp)) ⟨hv.put sm_9_apart 13 rfl (lb rfl) (lb rfl) rfl, HO⟩
    ·
      rintro L a wc ⟨hv, HO⟩ hL hc hd
      have h0 : wc.cell? ⟨B, 4, none⟩ = some (.int .i64 lost) := HO.out.cell (HB.out 4 _ rfl)
      exact wpOp_val rfl ((wanted_at rfl rfl (hv.get 12 rfl rfl (hd 12 (by decide)))).trans rfl) (ex_load rfl (hv.get 13 rfl rfl (hd 13 (by decide))) (by go_simp)) ⟨hv.put sm_9_apart 14 rfl (lb rfl) (lb rfl) rfl, HO⟩
    ·
      rintro L a wc ⟨hv, HO⟩ hL hc hd
      have u := H3.out
      exact wpOp_val rfl ((wanted_at rfl rfl (hv.get 12 rfl rfl (hd 12 (by decide)))).trans rfl) (ex_bin rfl (hv.get 14 rfl rfl (hd 14 (by decide))) rfl (by go_simp)) ⟨hv.put sm_9_apart 15 rfl (lb rfl) (lb rfl) rfl, HO⟩
    ·
      rintro L a wc ⟨hv, HO⟩ hL hc hd
      exact wpOp_val rfl rfl (ex_pick rfl (hv.get 12 rfl rfl (hd 12 (by decide))) (hv.get 15 rfl rfl (hd 15 (by decide)))) ⟨hv.put sm_9_apart 16 rfl (lb rfl) (lb rfl) rfl, HO⟩
    ·
      rintro L a wc ⟨hv, HO⟩ hL hc hd
      exact wpOp_val rfl rfl (ex_move rfl (hv.get 16 rfl rfl (hd 16 (by decide)))) ⟨hv.put sm_9_apart 17 rfl (lb rfl) (lb rfl) rfl, HO⟩
    ·
      rintro L a wc ⟨hv, HO⟩ hL hc hd
      exact wpOp_val rfl ((wanted_at rfl rfl (hv.get 17 rfl rfl (hd 17 (by decide)))).trans rfl) (ex_field rfl ((hv.fixed 2 (by decide)).trans rfl) (by go_simp)) ⟨hv.put sm_9_apart 18 rfl (lb rfl) (lb rfl) rfl, HO⟩
    ·
      rintro L a wc ⟨hv, HO⟩ hL hc hd
      have h0 : wc.cell? ⟨B, 4, none⟩ = some (.int .i64 lost) := HO.out.cell (HB.out 4 _ rfl)
      exact wpOp_val rfl ((wanted_at rfl rfl (hv.get 17 rfl rfl (hd 17 (by decide)))).trans rfl) (ex_load rfl (hv.get 18 rfl rfl (hd 18 (by decide))) (by go_simp)) ⟨hv.put sm_9_apart 19 rfl (lb rfl) (lb rfl) rfl, HO⟩
    ·
      rintro L a wc ⟨hv, HO⟩ hL hc hd
      exact wpOp_val rfl ((wanted_at rfl rfl (hv.get 17 rfl rfl (hd 17 (by decide)))).trans rfl) (ex_move rfl ((hv.fixed 5 (by decide)).trans rfl)) ⟨hv.put sm_9_apart 20 rfl (lb rfl) (lb rfl) rfl, HO⟩
    ·
      rintro L a wc ⟨hv, HO⟩ hL hc hd
      have hm := hM.out
      exact wpOp_val rfl ((wanted_at rfl rfl (hv.get 17 rfl rfl (hd 17 (by decide)))).trans rfl) (ex_bin rfl rfl (hv.get 20 rfl rfl (hd 20 (by decide))) (by go_simp)) ⟨hv.put sm_9_apart 21 rfl (lb rfl) (lb rfl) rfl, HO⟩
    ·
      rintro L a wc ⟨hv, HO⟩ hL hc hd
      have u := H4.out
      exact wpOp_val rfl ((wanted_at rfl rfl (hv.get 17 rfl rfl (hd 17 (by decide)))).trans rfl) (ex_bin rfl (hv.get 19 rfl rfl (hd 19 (by decide))) (hv.get 21 rfl rfl (hd 21 (by decide))) (by go_simp)) ⟨hv.put sm_9_apart 22 rfl (lb rfl) (lb rfl) rfl, HO⟩
    ·
      rintro L a wc ⟨hv, HO⟩ hL hc hd
      exact wpOp_val rfl rfl (ex_pick rfl (hv.get 17 rfl rfl (hd 17 (by decide))) (hv.get 22 rfl rfl (hd 22 (by decide)))) ⟨hv.put sm_9_apart 23 rfl (lb rfl) (lb rfl) rfl, HO⟩
    ·
      rintro L a wc ⟨hv, HO⟩ hL hc hd
      exact wpOp_val rfl rfl (ex_move rfl (hv.get 23 rfl rfl (hd 23 (by decide)))) ⟨hv.put sm_9_apart 24 rfl (lb rfl) (lb rfl) rfl, HO⟩
    ·
      rintro L a wc ⟨hv, HO⟩ hL hc hd
      exact wpOp_val rfl ((wanted_at rfl rfl (hv.get 24 rfl rfl (hd 24 (by decide)))).trans rfl) (ex_field rfl ((hv.fixed 2 (by decide)).trans rfl) (by go_simp)) ⟨hv.put sm_9_apart 25 rfl (lb rfl) (lb rfl) rfl, HO⟩
    ·
      rintro L a wc ⟨hv, HO⟩ hL hc hd
      have h0 : wc.cell? ⟨B, 6, none⟩ = some (.int .i64 other) := HO.out.cell (HB.out 6 _ rfl)
      exact wpOp_val rfl ((wanted_at rfl rfl (hv.get 24 rfl rfl (hd 24 (by decide)))).trans rfl) (ex_load rfl (hv.get 25 rfl rfl (hd 25 (by decide))) (by go_simp)) ⟨hv.put sm_9_apart 26 rfl (lb rfl) (lb rfl) rfl, HO⟩
    ·
      rintro L a wc ⟨hv, HO⟩ hL hc hd
      have u := H5.out
      exact wpOp_val rfl ((wanted_at rfl rfl (hv.get 24 rfl rfl (hd 24 (by decide)))).trans rfl) (ex_bin rfl (hv.get 26 rfl rfl (hd 26 (by decide))) rfl (by go_simp)) ⟨hv.put sm_9_apart 27 rfl (lb rfl) (lb rfl) rfl, HO⟩
    ·
      rintro L a wc ⟨hv, HO⟩ hL hc hd
      exact wpOp_val rfl rfl (ex_pick rfl (hv.get 24 rfl rfl (hd 24 (by decide))) (hv.get 27 rfl rfl (hd 27 (by decide)))) ⟨hv.put sm_9_apart 28 rfl (lb rfl) (lb rfl) rfl, HO⟩
    ·
      rintro L a wc ⟨hv, HO⟩ hL hc hd
      exact wpOp_val rfl rfl (ex_move rfl (hv.get 28 rfl rfl (hd 28 (by decide)))) ⟨hv.put sm_9_apart 29 rfl (lb rfl) (lb rfl) rfl, HO⟩
    ·
      rintro L a wc ⟨hv, HO⟩ hL hc hd
      exact wpOp_val rfl ((wanted_at rfl rfl (hv.get 29 rfl rfl (hd 29 (by decide)))).trans rfl) (ex_field rfl ((hv.fixed 2 (by decide)).trans rfl) (by go_simp)) ⟨hv.put sm_9_apart 30 rfl (lb rfl) (lb rfl) rfl, HO⟩
    ·
      rintro L a wc ⟨hv, HO⟩ hL hc hd
      have h0 : wc.cell? ⟨B, 6, none⟩ = some (.int .i64 other) := HO.out.cell (HB.out 6 _ rfl)
      exact wpOp_val rfl ((wanted_at rfl rfl (hv.get 29 rfl rfl (hd 29 (by decide)))).trans rfl) (ex_load rfl (hv.get 30 rfl rfl (hd 30 (by decide))) (by go_simp)) ⟨hv.put sm_9_apart 31 rfl (lb rfl) (lb rfl) rfl, HO⟩
    ·
      rintro L a wc ⟨hv, HO⟩ hL hc hd
      exact wpOp_val rfl ((wanted_at rfl rfl (hv.get 29 rfl rfl (hd 29 (by decide)))).trans rfl) (ex_move rfl ((hv.fixed 5 (by decide)).trans rfl)) ⟨hv.put sm_9_apart 32 rfl (lb rfl) (lb rfl) rfl, HO⟩
    ·
      rintro L a wc ⟨hv, HO⟩ hL hc hd
      have hm := hM.out
      exact wpOp_val rfl ((wanted_at rfl rfl (hv.get 29 rfl rfl (hd 29 (by decide)))).trans rfl) (ex_bin rfl rfl (hv.get 32 rfl rfl (hd 32 (by decide))) (by go_simp)) ⟨hv.put sm_9_apart 33 rfl (lb rfl) (lb rfl) rfl, HO⟩
    ·
      rintro L a wc ⟨hv, HO⟩ hL hc hd
      have u := H6.out
      exact wpOp_val rfl ((wanted_at rfl rfl (hv.get 29 rfl rfl (hd 29 (by decide)))).trans rfl) (ex_bin rfl (hv.get 31 rfl rfl (hd 31 (by decide))) (hv.get 33 rfl rfl (hd 33 (by decide))) (by go_simp)) ⟨hv.put sm_9_apart 34 rfl (lb rfl) (lb rfl) rfl, HO⟩
    ·
      rintro L a wc ⟨hv, HO⟩ hL hc hd
      exact wpOp_val rfl rfl (ex_pick rfl (hv.get 29 rfl rfl (hd 29 (by decide))) (hv.get 34 rfl rfl (hd 34 (by decide)))) ⟨hv.put sm_9_apart 35 rfl (lb rfl) (lb rfl) rfl, HO⟩
    ·
      rintro L a wc ⟨hv, HO⟩ hL hc hd
      exact wpOp_val rfl rfl (ex_move rfl (hv.get 35 rfl rfl (hd 35 (by decide)))) ⟨hv.put sm_9_apart 36 rfl (lb rfl) (lb rfl) rfl, HO⟩
    ·
      rintro L a wc ⟨hv, HO⟩ hL hc hd
      exact wpOp_val rfl ((wanted_at rfl rfl (hv.get 36 rfl rfl (hd 36 (by decide)))).trans rfl) (ex_field rfl ((hv.fixed 2 (by decide)).trans rfl) (by go_simp)) ⟨hv.put sm_9_apart 37 rfl (lb rfl) (lb rfl) rfl, HO⟩
    ·
      rintro L a wc ⟨hv, HO⟩ hL hc hd
      have h0 : wc.cell? ⟨B, 5, none⟩ = some (.int .i64 piece) := HO.out.cell (HB.out 5 _ rfl)
      exact wpOp_val rfl ((wanted_at rfl rfl (hv.get 36 rfl rfl (hd 36 (by decide)))).trans rfl) (ex_load rfl (hv.get 37 rfl rfl (hd 37 (by decide))) (by go_simp)) ⟨hv.put sm_9_apart 38 rfl (lb rfl) (lb rfl) rfl, HO⟩
    ·
      rintro L a wc ⟨hv, HO⟩ hL hc hd
      have u := H7.out
      exact wpOp_val rfl ((wanted_at rfl rfl (hv.get 36 rfl rfl (hd 36 (by decide)))).trans rfl) (ex_bin rfl (hv.get 38 rfl rfl (hd 38 (by decide))) rfl (by go_simp)) ⟨hv.put sm_9_apart 39 rfl (lb rfl) (lb rfl) rfl, HO⟩
    ·
      rintro L a wc ⟨hv, HO⟩ hL hc hd
      exact wpOp_val rfl rfl (ex_pick rfl (hv.get 36 rfl rfl (hd 36 (by decide))) (hv.get 39 rfl rfl (hd 39 (by decide)))) ⟨hv.put sm_9_apart 40 rfl (lb rfl) (lb rfl) rfl, HO⟩
    ·
      rintro L a wc ⟨hv, HO⟩ hL hc hd
      exact wpOp_val rfl rfl (ex_move rfl (hv.get 40 rfl rfl (hd 40 (by decide)))) ⟨hv.put sm_9_apart 41 rfl (lb rfl) (lb rfl) rfl, HO⟩
    ·
      rintro L a wc ⟨hv, HO⟩ hL hc hd
      exact wpOp_val rfl ((wanted_at rfl rfl (hv.get 41 rfl rfl (hd 41 (by decide)))).trans rfl) (ex_field rfl ((hv.fixed 2 (by decide)).trans rfl) (by go_simp)) ⟨hv.put sm_9_apart 42 rfl (lb rfl) (lb rfl) rfl, HO⟩
    ·
      rintro L a wc ⟨hv, HO⟩ hL hc hd
      have h0 : wc.cell? ⟨B, 5, none⟩ = some (.int .i64 piece) := HO.out.cell (HB.out 5 _ rfl)
      exact wpOp_val rfl ((wanted_at rfl rfl (hv.get 41 rfl rfl (hd 41 (by decide)))).trans rfl) (ex_load rfl (hv.get 42 rfl rfl (hd 42 (by decide))) (by go_simp)) ⟨hv.put sm_9_apart 43 rfl (lb rfl) (lb rfl) rfl, HO⟩
    ·
      rintro L a wc ⟨hv, HO⟩ hL hc hd
      exact wpOp_val rfl ((wanted_at rfl rfl (hv.get 41 rfl rfl (hd 41 (by decide)))).trans rfl) (ex_move rfl ((hv.fixed 5 (by decide)).trans rfl)) ⟨hv.put sm_9_apart 44 rfl (lb rfl) (lb rfl) rfl, HO⟩
    ·
      rintro L a wc ⟨hv, HO⟩ hL hc hd
      have u := H8.out
      rw [HN.out] at u
      exact wpOp_val rfl ((wanted_at rfl rfl (hv.get 41 rfl rfl (hd 41 (by decide)))).trans rfl) (ex_bin rfl (hv.get 43 rfl rfl (hd 43 (by decide))) (hv.get 44 rfl rfl (hd 44 (by decide))) (by go_simp)) ⟨hv.put sm_9_apart 45 rfl (lb rfl) (lb rfl) rfl, HO⟩
    ·
      rintro L a wc ⟨hv, HO⟩ hL hc hd
      exact wpOp_val rfl rfl (ex_pick rfl (hv.get 41 rfl rfl (hd 41 (by decide))) (hv.get 45 rfl rfl (hd 45 (by decide)))) ⟨hv.put sm_9_apart 46 rfl (lb rfl) (lb rfl) rfl, HO⟩
    ·
      rintro L a wc ⟨hv, HO⟩ hL hc hd
      exact wpOp_val rfl rfl (ex_move rfl (hv.get 46 rfl rfl (hd 46 (by decide)))) ⟨hv.put sm_9_apart 47 rfl (lb rfl) (lb rfl) rfl, HO⟩
    ·
      rintro L a wc ⟨hv, HO⟩ hL hc hd
      exact wpOp_val rfl ((wanted_at rfl rfl (hv.get 47 rfl rfl (hd 47 (by decide)))).trans rfl) (ex_field rfl ((hv.fixed 2 (by decide)).trans rfl) (by go_simp)) ⟨hv.put sm_9_apart 48 rfl (lb rfl) (lb rfl) rfl, HO⟩
    ·
      rintro L a wc ⟨hv, HO⟩ hL hc hd
      have h0 : wc.cell? ⟨B, 3, none⟩ = some (.string (sb data)) := HO.out.cell (HB.out 3 _ rfl)
      exact wpOp_val rfl ((wanted_at rfl rfl (hv.get 47 rfl rfl (hd 47 (by decide)))).trans rfl) (ex_load rfl (hv.get 48 rfl rfl (hd 48 (by decide))) (by go_simp)) ⟨hv.put sm_9_apart 49 rfl (lb rfl) (lb rfl) rfl, HO⟩
    ·
      rintro L a wc ⟨hv, HO⟩ hL hc hd
      exact wpOp_val rfl ((wanted_at rfl rfl (hv.get 47 rfl rfl (hd 47 (by decide)))).trans rfl) (ex_lens rfl Tryd.underlying9 (hv.get 49 rfl rfl (hd 49 (by decide))) (size_sb _)) ⟨hv.put sm_9_apart 50 rfl (lb rfl) (lb rfl) rfl, HO⟩
    ·
      rintro L a wc ⟨hv, HO⟩ hL hc hd
      have u := H9.out
      have u2 : (200 : Int) < (data.length : Int) := by omega
      exact wpOp_val rfl ((wanted_at rfl rfl (hv.get 47 rfl rfl (hd 47 (by decide)))).trans rfl) (ex_bin rfl (hv.get 50 rfl rfl (hd 50 (by decide))) rfl (by go_simp)) ⟨hv.put sm_9_apart 51 rfl (lb rfl) (lb rfl) rfl, HO⟩
    ·
      rintro L a wc ⟨hv, HO⟩ hL hc hd
      exact wpOp_val rfl rfl (ex_pick rfl (hv.get 47 rfl rfl (hd 47 (by decide))) (hv.get 51 rfl rfl (hd 51 (by decide)))) ⟨hv.put sm_9_apart 52 rfl (lb rfl) (lb rfl) rfl, HO⟩
    ·
      rintro L a wc ⟨hv, HO⟩ hL hc hd
      exact wpOp_val rfl rfl (ex_assign rfl (hv.get 52 rfl rfl (hd 52 (by decide)))) ⟨hv.put sm_9_apart 53 rfl (lb rfl) (lb rfl) rfl, HO⟩
  · rintro L a wc ⟨hv, HO⟩ hall
    show K a wc
    have ha := act_lit a
    rw [hv.size, hv.defers] at ha
    have hl : ∀ f : Nat → Value, ((List.range (⟨#[c0, .int .i64 (most : Nat), .pointer (some ⟨B, 0, none⟩), c3, c4, .int .i64 (N : Nat), c6, c7, c8, c9, c10, c11, c12, c13, c14, c15, c16, c17, c18, c19, c20, c21, c22, c23, c24, c25, c26, c27, c28, c29, c30, c31, c32, c33, c34, c35, c36, c37, c38, c39, c40, c41, c42, c43, c44, c45, c46, c47, c48, c49, c50, c51, c52, c53, c54, c55, c56, c57, c58, c59, c60, c61], df⟩ : Act).tmps.size).map f).toArray = #[f 0, f 1, f 2, f 3, f 4, f 5, f 6, f 7, f 8, f 9, f 10, f 11, f 12, f 13, f 14, f 15, f 16, f 17, f 18, f 19, f 20, f 21, f 22, f 23, f 24, f 25, f 26, f 27, f 28, f 29, f 30, f 31, f 32, f 33, f 34, f 35, f 36, f 37, f 38, f 39, f 40, f 41, f 42, f 43, f 44, f 45, f 46, f 47, f 48, f 49, f 50, f 51, f 52, f 53, f 54, f 55, f 56, f 57, f 58, f 59, f 60, f 61] := fun _ => rfl
    rw [hl] at ha
    simp only [hv.fixed 0 (by decide), hv.fixed 1 (by decide), hv.fixed 2 (by decide), hv.fixed 3 (by decide), hv.fixed 5 (by decide), hv.fixed 6 (by decide), hv.fixed 7 (by decide), hv.fixed 8 (by decide), hv.get 53 (d := 4) rfl rfl (hall 53 (by decide))] at ha
    rw [ha]
    exact hK _ _ _ _ _ _ _ _ _ _ _ _ _ _ _ _ _ _ _ _ _ _ _ _ _ _ _ _ _ _ _ _ _ _ _ _ _ _ _ _ _ _ _ _ _ _ _ _ _ _ _ _ _ wc HO.out
noncomputable def sm_10_code : Code := ((Tryd.f27.body.bind (regionOf 2)).getD .skip)
def sm_10_dsts : List (Option Nat) := [some 9, some 10, some 11, some 12, some 13, some 14, some 15, some 16, some 17, some 18, some 19, some 20, some 21, some 22, some 23, some 24, some 25, some 26, some 27, some 28, some 29, some 30, some 31, some 32, some 33, some 34, some 35, some 36, some 37, some 38, some 39, some 40, some 41, some 42, some 43, some 44, some 45, some 46, some 47, some 48, some 49, some 50, some 51, some 52, some 53, some 54, some 55, some 56, some 57, some 58, some 59, some 60, some 61, some 4]
theorem sm_10_apart : apartD sm_10_dsts = true := by decide +kernel
set_option maxRecDepth 1000000 in
set_option maxHeartbeats 16000000 in
theorem sm_10 (wr : World) (B N M c most : Nat) (d gl n lost piece other : Int) (gs : List (List Int)) (A : Option Addr) (data : List UInt8) (hN : N ≤ 24) (hM : Hid (IntKind.i64.wrap (2 ^ N) = (M : Int))) (HG : Hid (Rs (Rs RI) wr (.slice A gs.length c) gs)) (HB : Hid (Cells wr B [.int .i64 d, .slice A gs.length c, .int .i64 gl, .string (sb data), .int .i64 lost, .int .i64 piece, .int .i64 other])) (HF : Hid (Cd.few gs 30 = true)) (HN : Hid (n = (N : Int))) (H1 : Hid ((0 < n))) (H2 : Hid ((n ≤ most))) (H3 : Hid ((0 ≤ lost))) (H4 : Hid ((lost < (M : Int)))) (H5 : Hid ((0 ≤ other))) (H6 : Hid ((other < (M : Int)))) (H7 : Hid ((0 ≤ piece))) (H8 : Hid ((piece < n))) (H9 : Hid ((data.length ≤ 200))) (c0 c3 c4 c6 c7 c8 c9 c10 c11 c12 c13 c14 c15 c16 c17 c18 c19 c20 c21 c22 c23 c24 c25 c26 c27 c28 c29 c30 c31 c32 c33 c34 c35 c36 c37 c38 c39 c40 c41 c42 c43 c44 c45 c46 c47 c48 c49 c50 c51 c52 c53 c54 c55 c56 c57 c58 c59 c60 c61 : Value) (df : List Deferred) (K : Act → World → Prop)
    (hK : ∀  (u9 u10 u11 u12 u13 u14 u15 u16 u17 u18 u19 u20 u21 u22 u23 u24 u25 u26 u27 u28 u29 u30 u31 u32 u33 u34 u35 u36 u37 u38 u39 u40 u41 u42 u43 u44 u45 u46 u47 u48 u49 u50 u51 u52 u53 u54 u55 u56 u57 u58 u59 u60 u61 : Value) (wx : World), Ext wr wx → K ⟨#[c0, .int .i64 (most : Nat), .pointer (some ⟨B, 0, none⟩), c3, .bool true, .int .i64 (N : Nat), c6, c7, c8, u9, u10, u11, u12, u13, u14, u15, u16, u17, u18, u19, u20, u21, u22, u23, u24, u25, u26, u27, u28, u29, u30, u31, u32, u33, u34, u35, u36, u37, u38, u39, u40, u41, u42, u43, u44, u45, u46, u47, u48, u49, u50, u51, u52, u53, u54, u55, u56, u57, u58, u59, u60, u61], df⟩ wx) :
    Code.wp Tryd.prog sm_10_code (AtEnd K) ⟨#[c0, .int .i64 (most : Nat), .pointer (some ⟨B, 0, none⟩), c3, c4, .int .i64 (N : Nat), c6, c7, c8, c9, c10, c11, c12, c13, c14, c15, c16, c17, c18, c19, c20, c21, c22, c23, c24, c25, c26, c27, c28, c29, c30, c31, c32, c33, c34, c35, c36, c37, c38, c39, c40, c41, c42, c43, c44, c45, c46, c47, c48, c49, c50, c51, c52, c53, c54, c55, c56, c57, c58, c59, c60, c61], df⟩ wr := by
  conv => arg 2; whnf
  refine region_inv (by kernel_rfl) [[], [0], [1], [2, 2], [3], [4, 3], [3, 5], [6, 3], [7], [7], [8, 9, 7], [7, 10], [11, 7], [12], [13, 12], [14, 12], [12, 15], [16, 12], [17], [18, 17], [17], [20, 17], [19, 21, 17], [17, 22], [23, 17], [24], [25, 24], [26, 24], [24, 27], [28, 24], [29], [30, 29], [29], [32, 29], [31, 33, 29], [29, 34], [35, 29], [36], [37, 36], [38, 36], [36, 39], [40, 36], [41], [42, 41], [41], [43, 44, 41], [41, 45], [46, 41], [47], [48, 47], [49, 47], [50, 47], [47, 51], [52, 47, 0, 1, 2, 3, 4, 5, 6, 7, 8, 9, 10, 11, 12, 13, 14, 15, 16, 17, 18, 19, 20, 21, 22, 23, 24, 25, 26, 27, 28, 29, 30, 31, 32, 33, 34, 35, 36, 37, 38, 39, 40, 41, 42, 43, 44, 45, 46, 47, 48, 49, 50, 51, 52]] (by kernel_rfl) [0, 1, 2, 3, 4, 5, 6, 7, 8, 9, 10, 11, 12, 13, 14, 15, 16, 17, 18, 19, 20, 21, 22, 23, 24, 25, 26, 27, 28, 29, 30, 31, 32, 33, 34, 35, 36, 37, 38, 39, 40, 41, 42, 43, 44, 45, 46, 47, 48, 49, 50, 51, 52, 53] (by decide +kernel) (by decide +kernel) (by decide +kernel) (fun L a wc => Inv sm_10_dsts [.pointer (some ⟨B, 0, none⟩), .agg #[.int .i64 d, .slice A gs.length c, .int .i64 gl], .bool true, .bool true, .int .i64 (N : Nat), .bool true, .bool true, .bool true, .int .i64 (N : Nat), .int .i64 (most : Nat), .bool true, .bool true, .bool true, .pointer (some ⟨B, 4, none⟩), .int .i64 lost, .bool true, .bool true, .bool true, .pointer (some ⟨B, 4, none⟩), .int .i64 lost, .int .i64 (N : Nat), .int .i64 (M : Nat), .bool true, .bool true, .bool true, .pointer (some ⟨B, 6, none⟩), .int .i64 other, .bool true, .bool true, .bool true, .pointer (some ⟨B, 6, none⟩), .int .i64 other, .int .i64 (N : Nat), .int .i64 (M : Nat), .bool true, .bool true, .bool true, .pointer (some ⟨B, 5, none⟩), .int .i64 piece, .bool true, .bool true, .bool true, .pointer (some ⟨B, 5, none⟩), .int .i64 piece, .int .i64 (N : Nat), .bool true, .bool true, .bool true, .pointer (some ⟨B, 3, none⟩), .string (sb data), .int .i64 (data.length : Nat), .bool true, .bool true, .bool true] ⟨#[c0, .int .i64 (most : Nat), .pointer (some ⟨B, 0, none⟩), c3, c4, .int .i64 (N : Nat), c6, c7, c8, c9, c10, c11, c12, c13, c14, c15, c16, c17, c18, c19, c20, c21, c22, c23, c24, c25, c26, c27, c28, c29, c30, c31, c32, c33, c34, c35, c36, c37, c38, c39, c40, c41, c42, c43, c44, c45, c46, c47, c48, c49, c50, c51, c52, c53, c54, c55, c56, c57, c58, c59, c60, c61], df⟩ L a ∧ Hid (Ext wr wc)) ⟨Inv.start, Lib.hid ((Ext.refl wr).drew)⟩ ?_ ?_
  · refine ⟨?_, ?_, ?_, ?_, ?_, ?_, ?_, ?_, ?_, ?_, ?_, ?_, ?_, ?_, ?_, ?_, ?_, ?_, ?_, ?_, ?_, ?_, ?_, ?_, ?_, ?_, ?_, ?_, ?_, ?_, ?_, ?_, ?_, ?_, ?_, ?_, ?_, ?_, ?_, ?_, ?_, ?_, ?_, ?_, ?_, ?_, ?_, ?_, ?_, ?_, ?_, ?_, ?_, ?_, trivial⟩
    ·
      rintro L a wc ⟨hv, HO⟩ hL hc hd
      exact wpOp_val rfl rfl (ex_field rfl ((hv.fixed 2 (by decide)).trans rfl) (by go_simp)) ⟨hv.put sm_10_apart 0 rfl (lb rfl) (lb rfl) rfl, HO⟩
    ·
      rintro L a wc ⟨hv, HO⟩ hL hc hd
      have h0 : wc.cell? ⟨B, 0, none⟩ = some (.int .i64 d) := HO.out.cell (HB.out 0 _ rfl)
      have h1 : wc.cell? ⟨B, 1, none⟩ = some (.slice A gs.length c) := HO.out.cell (HB.out 1 _ rfl)
      have h2 : wc.cell? ⟨B, 2, none⟩ = some (.int .i64 gl) := HO.out.cell (HB.out 2 _ rfl)
      exact wpOp_val rfl rfl (ex_load rfl (hv.get 0 rfl rfl (hd 0 (by decide))) (by go_simp)) ⟨hv.put sm_10_apart 1 rfl (lb rfl) (lb rfl) rfl, HO⟩
    ·
      rintro L a wc ⟨hv, HO⟩ hL hc hd
      have hf := HF.out
      refine wpOp_call (R := fun v w1 => v = .bool true ∧ Ext wc w1) rfl rfl (ex_call rfl rfl (by simp only [List.map_toArray, List.map_cons, List.map_nil, (hv.get 1 rfl rfl (hd 1 (by decide)))]; rfl) (enters_of Tryd.func35 (by kernel_rfl) rfl _ _)) ((rFew_any d gl gs 30 _ wc (Rs.ext (Rs.ext RI.ext) _ _ _ _ HO.out HG.out) (by decide)).mono (fun e w' h => ⟨_, h.1.trans (by rw [HF.out]), rfl, h.2⟩)) ?_
      rintro v w' ⟨rfl, hx⟩
      exact ⟨hv.put sm_10_apart 2 rfl (lb rfl) (lb rfl) rfl, Lib.hid (HO.out.trans hx)⟩
    ·
      rintro L a wc ⟨hv, HO⟩ hL hc hd
      exact wpOp_val rfl rfl (ex_move rfl (hv.get 2 rfl rfl (hd 2 (by decide)))) ⟨hv.put sm_10_apart 3 rfl (lb rfl) (lb rfl) rfl, HO⟩
    ·
      rintro L a wc ⟨hv, HO⟩ hL hc hd
      exact wpOp_val rfl ((wanted_at rfl rfl (hv.get 3 rfl rfl (hd 3 (by decide)))).trans rfl) (ex_move rfl ((hv.fixed 5 (by decide)).trans rfl)) ⟨hv.put sm_10_apart 4 rfl (lb rfl) (lb rfl) rfl, HO⟩
    ·
      rintro L a wc ⟨hv, HO⟩ hL hc hd
      have u := H1.out
      rw [HN.out] at u
      have u2 : 0 < N := by omega
      exact wpOp_val rfl ((wanted_at rfl rfl (hv.get 3 rfl rfl (hd 3 (by decide)))).trans rfl) (ex_bin rfl (hv.get 4 rfl rfl (hd 4 (by decide))) rfl (by go_simp)) ⟨hv.put sm_10_apart 5 rfl (lb rfl) (lb rfl) rfl, HO⟩
    ·
      rintro L a wc ⟨hv, HO⟩ hL hc hd
      exact wpOp_val rfl rfl (ex_pick rfl (hv.get 3 rfl rfl (hd 3 (by decide))) (hv.get 5 rfl rfl (hd 5 (by decide)))) ⟨hv.put sm_10_apart 6 rfl (lb rfl) (lb rfl) rfl, HO⟩
    ·
      rintro L a wc ⟨hv, HO⟩ hL hc hd
      exact wpOp_val rfl rfl (ex_move rfl (hv.get 6 rfl rfl (hd 6 (by decide)))) ⟨hv.put sm_10_apart 7 rfl (lb rfl) (lb rfl) rfl, HO⟩
    ·
      rintro L a wc ⟨hv, HO⟩ hL hc hd
      exact wpOp_val rfl ((wanted_at rfl rfl (hv.get 7 rfl rfl (hd 7 (by decide)))).trans rfl) (ex_move rfl ((hv.fixed 5 (by decide)).trans rfl)) ⟨hv.put sm_10_apart 8 rfl (lb rfl) (lb rfl) rfl, HO⟩
    ·
      rintro L a wc ⟨hv, HO⟩ hL hc hd
      exact wpOp_val rfl ((wanted_at rfl rfl (hv.get 7 rfl rfl (hd 7 (by decide)))).trans rfl) (ex_move rfl ((hv.fixed 1 (by decide)).trans rfl)) ⟨hv.put sm_10_apart 9 rfl (lb rfl) (lb rfl) rfl, HO⟩
    ·
      rintro L a wc ⟨hv, HO⟩ hL hc hd
      have u := H2.out
      rw [HN.out] at u
      exact wpOp_val rfl ((wanted_at rfl rfl (hv.get 7 rfl rfl (hd 7 (by decide)))).trans rfl) (ex_bin rfl (hv.get 8 rfl rfl (hd 8 (by decide))) (hv.get 9 rfl rfl (hd 9 (by decide))) (by go_simp)) ⟨hv.put sm_10_apart 10 rfl (lb rfl) (lb rfl) rfl, HO⟩
    ·
      rintro L a wc ⟨hv, HO⟩ hL hc hd
      exact wpOp_val rfl rfl (ex_pick rfl (hv.get 7 rfl rfl (hd 7 (by decide))) (hv.get 10 rfl rfl (hd 10 (by decide)))) ⟨hv.put sm_10_apart 11 rfl (lb rfl) (lb rfl) rfl, HO⟩
    ·
      rintro L a wc ⟨hv, HO⟩ hL hc hd
      exact wpOp_val rfl rfl (ex_move rfl (hv.get 11 rfl rfl (hd 11 (by decide)))) ⟨hv.put sm_10_apart 12 rfl (lb rfl) (lb rfl) rfl, HO⟩
    ·
      rintro L a wc ⟨hv, HO⟩ hL hc hd
      exact wpOp_val rfl ((wanted_at rfl rfl (hv.get 12 rfl rfl (hd 12 (by decide)))).trans rfl) (ex_field rfl ((hv.fixed 2 (by decide)).trans rfl) (by go_simp)) ⟨hv.put sm_10_apart 13 rfl (lb rfl) (lb rfl) rfl, HO⟩
    ·
      rintro L a wc ⟨hv, HO⟩ hL hc hd
      have h0 : wc.cell? ⟨B, 4, none⟩ = some (.int .i64 lost) := HO.out.cell (HB.out 4 _ rfl)
      exact wpOp_val rfl ((wanted_at rfl rfl (hv.get 12 rfl rfl (hd 12 (by decide)))).trans rfl) (ex_load rfl (hv.get 13 rfl rfl (hd 13 (by decide))) (by go_simp)) ⟨hv.put sm_10_apart 14 rfl (lb rfl) (lb rfl) rfl, HO⟩
    ·
      rintro L a wc ⟨hv, HO⟩ hL hc hd
      have u := H3.out
      exact wpOp_val rfl ((wanted_at rfl rfl (hv.get 12 rfl rfl (hd 12 (by decide)))).trans rfl) (ex_bin rfl (hv.get 14 rfl rfl (hd 14 (by decide))) rfl (by go_simp)) ⟨hv.put sm_10_apart 15 rfl (lb rfl) (lb rfl) rfl, HO⟩
    ·
      rintro L a wc ⟨hv, HO⟩ hL hc hd
      exact wpOp_val rfl rfl (ex_pick rfl (hv.get 12 rfl rfl (hd 12 (by decide))) (hv.get 15 rfl rfl (hd 15 (by decide)))) ⟨hv.put sm_10_apart 16 rfl (lb rfl) (lb rfl) rfl, HO⟩
    ·
      rintro L a wc ⟨hv, HO⟩ hL hc hd
      exact wpOp_val rfl rfl (ex_move rfl (hv.get 16 rfl rfl (hd 16 (by decide)))) ⟨hv.put sm_10_apart 17 rfl (lb rfl) (lb rfl) rfl, HO⟩
    ·
      rintro L a wc ⟨hv, HO⟩ hL hc hd
      exact wpOp_val rfl ((wanted_at rfl rfl (hv.get 17 rfl rfl (hd 17 (by decide)))).trans rfl) (ex_field rfl ((hv.fixed 2 (by decide)).trans rfl) (by go_simp)) ⟨hv.put sm_10_apart 18 rfl (lb rfl) (lb rfl) rfl, HO⟩
    ·
      rintro L a wc ⟨hv, HO⟩ hL hc hd
      have h0 : wc.cell? ⟨B, 4, none⟩ = some (.int .i64 lost) := HO.out.cell (HB.out 4 _ rfl)
      exact wpOp_val rfl ((wanted_at rfl rfl (hv.get 17 rfl rfl (hd 17 (by decide)))).trans rfl) (ex_load rfl (hv.get 18 rfl rfl (hd 18 (by decide))) (by go_simp)) ⟨hv.put sm_10_apart 19 rfl (lb rfl) (lb rfl) rfl, HO⟩
    ·
      rintro L a wc ⟨hv, HO⟩ hL hc hd
      exact wpOp_val rfl ((wanted_at rfl rfl (hv.get 17 rfl rfl (hd 17 (by decide)))).trans rfl) (ex_move rfl ((hv.fixed 5 (by decide)).trans rfl)) ⟨hv.put sm_10_apart 20 rfl (lb rfl) (lb rfl) rfl, HO⟩
    ·
      rintro L a wc ⟨hv, HO⟩ hL hc hd
      have hm := hM.out
      exact wpOp_val rfl ((wanted_at rfl rfl (hv.get 17 rfl rfl (hd 17 (by decide)))).trans rfl) (ex_bin rfl rfl (hv.get 20 rfl rfl (hd 20 (by decide))) (by go_simp)) ⟨hv.put sm_10_apart 21 rfl (lb rfl) (lb rfl) rfl, HO⟩
    ·
      rintro L a wc ⟨hv, HO⟩ hL hc hd
      have u := H4.out
      exact wpOp_val rfl ((wanted_at rfl rfl (hv.get 17 rfl rfl (hd 17 (by decide)))).trans rfl) (ex_bin rfl (hv.get 19 rfl rfl (hd 19 (by decide))) (hv.get 21 rfl rfl (hd 21 (by decide))) (by go_simp)) ⟨hv.put sm_10_apart 22 rfl (lb rfl) (lb rfl) rfl, HO⟩
    ·
      rintro L a wc ⟨hv, HO⟩ hL hc hd
      exact wpOp_val rfl rfl (ex_pick rfl (hv.get 17 rfl rfl (hd 17 (by decide))) (hv.get 22 rfl rfl (hd 22 (by decide)))) ⟨hv.put sm_10_apart 23 rfl (lb rfl) (lb rfl) rfl, HO⟩
    ·
      rintro L a wc ⟨hv, HO⟩ hL hc hd
      exact wpOp_val rfl rfl (ex_move rfl (hv.get 23 rfl rfl (hd 23 (by decide)))) ⟨hv.put sm_10_apart 24 rfl (lb rfl) (lb rfl) rfl, HO⟩
    ·
      rintro L a wc ⟨hv, HO⟩ hL hc hd
      exact wpOp_val rfl ((wanted_at rfl rfl (hv.get 24 rfl rfl (hd 24 (by decide)))).trans rfl) (ex_field rfl ((hv.fixed 2 (by decide)).trans rfl) (by go_simp)) ⟨hv.put sm_10_apart 25 rfl (lb rfl) (lb rfl) rfl, HO⟩
    ·
      rintro L a wc ⟨hv, HO⟩ hL hc hd
      have h0 : wc.cell? ⟨B, 6, none⟩ = some (.int .i64 other) := HO.out.cell (HB.out 6 _ rfl)
      exact wpOp_val rfl ((wanted_at rfl rfl (hv.get 24 rfl rfl (hd 24 (by decide)))).trans rfl) (ex_load rfl (hv.get 25 rfl rfl (hd 25 (by decide))) (by go_simp)) ⟨hv.put sm_10_apart 26 rfl (lb rfl) (lb rfl) rfl, HO⟩
    ·
      rintro L a wc ⟨hv, HO⟩ hL hc hd
      have u := H5.out
      exact wpOp_val rfl ((wanted_at rfl rfl (hv.get 24 rfl rfl (hd 24 (by decide)))).trans rfl) (ex_bin rfl (hv.get 26 rfl rfl (hd 26 (by decide))) rfl (by go_simp)) ⟨hv.put sm_10_apart 27 rfl (lb rfl) (lb rfl) rfl, HO⟩
    ·
      rintro L a wc ⟨hv, HO⟩ hL hc hd
      exact wpOp_val rfl rfl (ex_pick rfl (hv.get 24 rfl rfl (hd 24 (by decide))) (hv.get 27 rfl rfl (hd 27 (by decide)))) ⟨hv.put sm_10_apart 28 rfl (lb rfl) (lb rfl) rfl, HO⟩
    ·
      rintro L a wc ⟨hv, HO⟩ hL hc hd
      exact wpOp_val rfl rfl (ex_move rfl (hv.get 28 rfl rfl (hd 28 (by decide)))) ⟨hv.put sm_10_apart 29 rfl (lb rfl) (lb rfl) rfl, HO⟩
    ·
      rintro L a wc ⟨hv, HO⟩ hL hc hd
      exact wpOp_val rfl ((wanted_at rfl rfl (hv.get 29 rfl rfl (hd 29 (by decide)))).trans rfl) (ex_field rfl ((hv.fixed 2 (by decide)).trans rfl) (by go_simp)) ⟨hv.put sm_10_apart 30 rfl (lb rfl) (lb rfl) rfl, HO⟩
    ·
      rintro L a wc ⟨hv, HO⟩ hL hc hd
      have h0 : wc.cell? ⟨B, 6, none⟩ = some (.int .i64 other) := HO.out.cell (HB.out 6 _ rfl)
      exact wpOp_val rfl ((wanted_at rfl rfl (hv.get 29 rfl rfl (hd 29 (by decide)))).trans rfl) (ex_load rfl (hv.get 30 rfl rfl (hd 30 (by decide))) (by go_simp)) ⟨hv.put sm_10_apart 31 rfl (lb rfl) (lb rfl) rfl, HO⟩
    ·
      rintro L a wc ⟨hv, HO⟩ hL hc hd
      exact wpOp_val rfl ((wanted_at rfl rfl (hv.get 29 rfl rfl (hd 29 (by decide)))).trans rfl) (ex_move rfl ((hv.fixed 5 (by decide)).trans rfl)) ⟨hv.put sm_10_apart 32 rfl (lb rfl) (lb rfl) rfl, HO⟩
    ·
      rintro L a wc ⟨hv, HO⟩ hL hc hd
      have hm := hM.out
      exact wpOp_val rfl ((wanted_at rfl rfl (hv.get 29 rfl rfl (hd 29 (by decide)))).trans rfl) (ex_bin rfl rfl (hv.get 32 rfl rfl (hd 32 (by decide))) (by go_simp)) ⟨hv.put sm_10_apart 33 rfl (lb rfl) (lb rfl) rfl, HO⟩
    ·
      rintro L a wc ⟨hv, HO⟩ hL hc hd
      have u := H6.out
      exact wpOp_val rfl ((wanted_at rfl rfl (hv.get 29 rfl rfl (hd 29 (by decide)))).trans rfl) (ex_bin rfl (hv.get 31 rfl rfl (hd 31 (by decide))) (hv.get 33 rfl rfl (hd 33 (by decide))) (by go_simp)) ⟨hv.put sm_10_apart 34 rfl (lb rfl) (lb rfl) rfl, HO⟩
    ·
      rintro L a wc ⟨hv, HO⟩ hL hc hd
      exact wpOp_val rfl rfl (ex_pick rfl (hv.get 29 rfl rfl (hd 29 (by decide))) (hv.get 34 rfl rfl (hd 34 (by decide)))) ⟨hv.put sm_10_apart 35 rfl (lb rfl) (lb rfl) rfl, HO⟩
    ·
      rintro L a wc ⟨hv, HO⟩ hL hc hd
      exact wpOp_val rfl rfl (ex_move rfl (hv.get 35 rfl rfl (hd 35 (by decide)))) ⟨hv.put sm_10_apart 36 rfl (lb rfl) (lb rfl) rfl, HO⟩
    ·
      rintro L a wc ⟨hv, HO⟩ hL hc hd
      exact wpOp_val rfl ((wanted_at rfl rfl (hv.get 36 rfl rfl (hd 36 (by decide)))).trans rfl) (ex_field rfl ((hv.fixed 2 (by decide)).trans rfl) (by go_simp)) ⟨hv.put sm_10_apart 37 rfl (lb rfl) (lb rfl) rfl, HO⟩
    ·
      rintro L a wc ⟨hv, HO⟩ hL hc hd
      have h0 : wc.cell? ⟨B, 5, none⟩ = some (.int .i64 piece) := HO.out.cell (HB.out 5 _ rfl)
      exact wpOp_val rfl ((wanted_at rfl rfl (hv.get 36 rfl rfl (hd 36 (by decide)))).trans rfl) (ex_load rfl (hv.get 37 rfl rfl (hd 37 (by decide))) (by go_simp)) ⟨hv.put sm_10_apart 38 rfl (lb rfl) (lb rfl) rfl, HO⟩
    ·
      rintro L a wc ⟨hv, HO⟩ hL hc hd
      have u := H7.out
      exact wpOp_val rfl ((wanted_at rfl rfl (hv.get 36 rfl rfl (hd 36 (by decide)))).trans rfl) (ex_bin rfl (hv.get 38 rfl rfl (hd 38 (by decide))) rfl (by go_simp)) ⟨hv.put sm_10_apart 39 rfl (lb rfl) (lb rfl) rfl, HO⟩
    ·
      rintro L a wc ⟨hv, HO⟩ hL hc hd
      exact wpOp_val rfl rfl (ex_pick rfl (hv.get 36 rfl rfl (hd 36 (by decide))) (hv.get 39 rfl rfl (hd 39 (by decide)))) ⟨hv.put sm_10_apart 40 rfl (lb rfl) (lb rfl) rfl, HO⟩
    ·
      rintro L a wc ⟨hv, HO⟩ hL hc hd
      exact wpOp_val rfl rfl (ex_move rfl (hv.get 40 rfl rfl (hd 40 (by decide)))) ⟨hv.put sm_10_apart 41 rfl (lb rfl) (lb rfl) rfl, HO⟩
    ·
      rintro L a wc ⟨hv, HO⟩ hL hc hd
      exact wpOp_val rfl ((wanted_at rfl rfl (hv.get 41 rfl rfl (hd 41 (by decide)))).trans rfl) (ex_field rfl ((hv.fixed 2 (by decide)).trans rfl) (by go_simp)) ⟨hv.put sm_10_apart 42 rfl (lb rfl) (lb rfl) rfl, HO⟩
    ·
      rintro L a wc ⟨hv, HO⟩ hL hc hd
      have h0 : wc.cell? ⟨B, 5, none⟩ = some (.int .i64 piece) := HO.out.cell (HB.out 5 _ rfl)
      exact wpOp_val rfl ((wanted_at rfl rfl (hv.get 41 rfl rfl (hd 41 (by decide)))).trans rfl) (ex_load rfl (hv.get 42 rfl rfl (hd 42 (by decide))) (by go_simp)) ⟨hv.put sm_10_apart 43 rfl (lb rfl) (lb rfl) rfl, HO⟩
    ·
      rintro L a wc ⟨hv, HO⟩ hL hc hd
      exact wpOp_val rfl ((wanted_at rfl rfl (hv.get 41 rfl rfl (hd 41 (by decide)))).trans rfl) (ex_move rfl ((hv.fixed 5 (by decide)).trans rfl)) ⟨hv.put sm_10_apart 44 rfl (lb rfl) (lb rfl) rfl, HO⟩
    ·
      rintro L a wc ⟨hv, HO⟩ hL hc hd
      have u := H8.out
      rw [HN.out] at u
      exact wpOp_val rfl ((wanted_at rfl rfl (hv.get 41 rfl rfl (hd 41 (by decide)))).trans rfl) (ex_bin rfl (hv.get 43 rfl rfl (hd 43 (by decide))) (hv.get 44 rfl rfl (hd 44 (by decide))) (by go_simp)) ⟨hv.put sm_10_apart 45 rfl (lb rfl) (lb rfl) rfl, HO⟩
    ·
      rintro L a wc ⟨hv, HO⟩ hL hc hd
      exact wpOp_val rfl rfl (ex_pick rfl (hv.get 41 rfl rfl (hd 41 (by decide))) (hv.get 45 rfl rfl (hd 45 (by decide)))) ⟨hv.put sm_10_apart 46 rfl (lb rfl) (lb rfl) rfl, HO⟩
    ·
      rintro L a wc ⟨hv, HO⟩ hL hc hd
      exact wpOp_val rfl rfl (ex_move rfl (hv.get 46 rfl rfl (hd 46 (by decide)))) ⟨hv.put sm_10_apart 47 rfl (lb rfl) (lb rfl) rfl, HO⟩
    ·
      rintro L a wc ⟨hv, HO⟩ hL hc hd
      exact wpOp_val rfl ((wanted_at rfl rfl (hv.get 47 rfl rfl (hd 47 (by decide)))).trans rfl) (ex_field rfl ((hv.fixed 2 (by decide)).trans rfl) (by go_simp)) ⟨hv.put sm_10_apart 48 rfl (lb rfl) (lb rfl) rfl, HO⟩
    ·
      rintro L a wc ⟨hv, HO⟩ hL hc hd
      have h0 : wc.cell? ⟨B, 3, none⟩ = some (.string (sb data)) := HO.out.cell (HB.out 3 _ rfl)
      exact wpOp_val rfl ((wanted_at rfl rfl (hv.get 47 rfl rfl (hd 47 (by decide)))).trans rfl) (ex_load rfl (hv.get 48 rfl rfl (hd 48 (by decide))) (by go_simp)) ⟨hv.put sm_10_apart 49 rfl (lb rfl) (lb rfl) rfl, HO⟩
    ·
      rintro L a wc ⟨hv, HO⟩ hL hc hd
      exact wpOp_val rfl ((wanted_at rfl rfl (hv.get 47 rfl rfl (hd 47 (by decide)))).trans rfl) (ex_lens rfl Tryd.underlying9 (hv.get 49 rfl rfl (hd 49 (by decide))) (size_sb _)) ⟨hv.put sm_10_apart 50 rfl (lb rfl) (lb rfl) rfl, HO⟩
    ·
      rintro L a wc ⟨hv, HO⟩ hL hc hd
      have u := H9.out
      have u2 : (data.length : Int) ≤ 200 := by omega
      exact wpOp_val rfl ((wanted_at rfl rfl (hv.get 47 rfl rfl (hd 47 (by decide)))).trans rfl) (ex_bin rfl (hv.get 50 rfl rfl (hd 50 (by decide))) rfl (by go_simp)) ⟨hv.put sm_10_apart 51 rfl (lb rfl) (lb rfl) rfl, HO⟩
    ·
      rintro L a wc ⟨hv, HO⟩ hL hc hd
      exact wpOp_val rfl rfl (ex_pick rfl (hv.get 47 rfl rfl (hd 47 (by decide))) (hv.get 51 rfl rfl (hd 51 (by decide)))) ⟨hv.put sm_10_apart 52 rfl (lb rfl) (lb rfl) rfl, HO⟩
    ·
      rintro L a wc ⟨hv, HO⟩ hL hc hd
      exact wpOp_val rfl rfl (ex_assign rfl (hv.get 52 rfl rfl (hd 52 (by decide)))) ⟨hv.put sm_10_apart 53 rfl (lb rfl) (lb rfl) rfl, HO⟩
  · rintro L a wc ⟨hv, HO⟩ hall
    show K a wc
    have ha := act_lit a
    rw [hv.size, hv.defers] at ha
    have hl : ∀ f : Nat → Value, ((List.range (⟨#[c0, .int .i64 (most : Nat), .pointer (some ⟨B, 0, none⟩), c3, c4, .int .i64 (N : Nat), c6, c7, c8, c9, c10, c11, c12, c13, c14, c15, c16, c17, c18, c19, c20, c21, c22, c23, c24, c25, c26, c27, c28, c29, c30, c31, c32, c33, c34, c35, c36, c37, c38, c39, c40, c41, c42, c43, c44, c45, c46, c47, c48, c49, c50, c51, c52, c53, c54, c55, c56, c57, c58, c59, c60, c61], df⟩ : Act).tmps.size).map f).toArray = #[f 0, f 1, f 2, f 3, f 4, f 5, f 6, f 7, f 8, f 9, f 10, f 11, f 12, f 13, f 14, f 15, f 16, f 17, f 18, f 19, f 20, f 21, f 22, f 23, f 24, f 25, f 26, f 27, f 28, f 29, f 30, f 31, f 32, f 33, f 34, f 35, f 36, f 37, f 38, f 39, f 40, f 41, f 42, f 43, f 44, f 45, f 46, f 47, f 48, f 49, f 50, f 51, f 52, f 53, f 54, f 55, f 56, f 57, f 58, f 59, f 60, f 61] := fun _ => rfl
    rw [hl] at ha
    simp only [hv.fixed 0 (by decide), hv.fixed 1 (by decide), hv.fixed 2 (by decide), hv.fixed 3 (by decide), hv.fixed 5 (by decide), hv.fixed 6 (by decide), hv.fixed 7 (by decide), hv.fixed 8 (by decide), hv.get 53 (d := 4) rfl rfl (hall 53 (by decide))] at ha
    rw [ha]
    exact hK _ _ _ _ _ _ _ _ _ _ _ _ _ _ _ _ _ _ _ _ _ _ _ _ _ _ _ _ _ _ _ _ _ _ _ _ _ _ _ _ _ _ _ _ _ _ _ _ _ _ _ _ _ wc HO.out
set_option maxHeartbeats 8000000 in
set_option maxRecDepth 100000 in
theorem small_any (d gl lost piece other : Int) (gs : List (List Int)) (data : List UInt8) (most : Nat) (G : Value) (w : World) (hG : Rs (Rs RI) w G gs) (hn : gs.length ≤ 4611686018427387904) (hm : most ≤ 24) :
    Calls Tryd.prog 27 #[.agg #[.int .i64 d, G, .int .i64 gl, .string (sb data), .int .i64 lost, .int .i64 piece, .int .i64 other], .int .i64 (most : Nat)] w fun e w' => e = .returned (.bool (decide (Rb.Small d gl gs data lost piece other most))) ∧ Ext w w' := by
  obtain ⟨A, c, rfl, hl⟩ := hG.form
  have hx0 := (Ext.refl w).alloc (.cells #[.int .i64 d, .slice A gs.length c, .int .i64 gl, .string (sb data), .int .i64 lost, .int .i64 piece, .int .i64 other] 63)
  have HX := Lib.hid (And.intro hx0 (And.intro (Rs.ext (Rs.ext RI.ext) _ _ _ _ hx0 hG) hn))
  have HB := Lib.hid (cells_new w #[.int .i64 d, .slice A gs.length c, .int .i64 gl, .string (sb data), .int .i64 lost, .int .i64 piece, .int .i64 other] 63)
  clear hG hx0 hn
  go_enter Tryd.func27, Tryd.ntmps27
  go_wp2_with fail
  refine (rPieces_any d gl gs _ _ HX.out.2.1 HX.out.2.2).mono ?_
  rintro e w1 ⟨rfl, hx1⟩
  have HX1 := Lib.hid (HX.out.1.trans hx1)
  have HG1 := Lib.hid (Rs.ext (Rs.ext RI.ext) _ _ _ _ hx1 HX.out.2.1)
  have HB1 := Lib.hid (HB.out.ext hx1)
  clear hx1
  obtain ⟨n, hn⟩ : ∃ n, Cd.pieces d gs gl = n := ⟨_, rfl⟩
  have HD : Hid (Rb.Small d gl gs data lost piece other most ↔ Cd.few gs 30 = true ∧ 0 < n ∧ n ≤ (most : Int) ∧ 0 ≤ lost ∧ lost < ((2 ^ n.toNat : Nat) : Int) ∧ 0 ≤ other ∧ other < ((2 ^ n.toNat : Nat) : Int) ∧ 0 ≤ piece ∧ piece < n ∧ data.length ≤ 200) := Lib.hid (by unfold Rb.Small; rw [hn])
  rw [hn]
  clear hn HX HB
  go_wp2_with fail
  cases hf : Cd.few gs 30 with
  | false =>
    have HF := Lib.hid hf
    refine wp_atEnd' (sm_0 w1 w.heap.size  c most d gl n lost piece other gs A data  HG1 HB1 HF _ _ _ _ _ _ _ _ _ _ _ _ _ _ _ _ _ _ _ _ _ _ _ _ _ _ _ _ _ _ _ _ _ _ _ _ _ _ _ _ _ _ _ _ _ _ _ _ _ _ _ _ _ _ _ _ _ _ _ _ _ ?_)
    intro u9 u10 u11 u12 u13 u14 u15 u16 u17 u18 u19 u20 u21 u22 u23 u24 u25 u26 u27 u28 u29 u30 u31 u32 u33 u34 u35 u36 u37 u38 u39 u40 u41 u42 u43 u44 u45 u46 u47 u48 u49 u50 u51 u52 u53 u54 u55 u56 u57 u58 u59 u60 u61 w2 hx2
    have HX2 := Lib.hid (HX1.out.trans hx2)
    clear hx2
    go_wp2_with fail
    go_ret
    exact ⟨ret_bool (decide_eq_false fun h => by have h1 := (HD.out.1 h).1; rw [HF.out] at h1; cases h1).symm, HX2.out⟩
  | true =>
  have HF := Lib.hid hf
  clear hf
  by_cases q1 : 0 < n
  case neg =>
    have HE := Lib.hid q1
    refine wp_atEnd' (sm_1 w1 w.heap.size  c most d gl n lost piece other gs A data  HG1 HB1 HF  (Lib.hid q1) _ _ _ _ _ _ _ _ _ _ _ _ _ _ _ _ _ _ _ _ _ _ _ _ _ _ _ _ _ _ _ _ _ _ _ _ _ _ _ _ _ _ _ _ _ _ _ _ _ _ _ _ _ _ _ _ _ _ _ _ _ ?_)
    intro u9 u10 u11 u12 u13 u14 u15 u16 u17 u18 u19 u20 u21 u22 u23 u24 u25 u26 u27 u28 u29 u30 u31 u32 u33 u34 u35 u36 u37 u38 u39 u40 u41 u42 u43 u44 u45 u46 u47 u48 u49 u50 u51 u52 u53 u54 u55 u56 u57 u58 u59 u60 u61 w2 hx2
    have HX2 := Lib.hid (HX1.out.trans hx2)
    clear hx2
    go_wp2_with fail
    go_ret
    exact ⟨ret_bool (decide_eq_false fun h => by have h1 := (HD.out.1 h).2.1; have h2 := HE.out; omega).symm, HX2.out⟩
  case pos =>
  have H1 := Lib.hid q1
  by_cases q2 : n ≤ (most : Int)
  case neg =>
    have HE := Lib.hid q2
    refine wp_atEnd' (sm_2 w1 w.heap.size  c most d gl n lost piece other gs A data  HG1 HB1 HF H1 (Lib.hid q2) _ _ _ _ _ _ _ _ _ _ _ _ _ _ _ _ _ _ _ _ _ _ _ _ _ _ _ _ _ _ _ _ _ _ _ _ _ _ _ _ _ _ _ _ _ _ _ _ _ _ _ _ _ _ _ _ _ _ _ _ _ ?_)
    intro u9 u10 u11 u12 u13 u14 u15 u16 u17 u18 u19 u20 u21 u22 u23 u24 u25 u26 u27 u28 u29 u30 u31 u32 u33 u34 u35 u36 u37 u38 u39 u40 u41 u42 u43 u44 u45 u46 u47 u48 u49 u50 u51 u52 u53 u54 u55 u56 u57 u58 u59 u60 u61 w2 hx2
    have HX2 := Lib.hid (HX1.out.trans hx2)
    clear hx2
    go_wp2_with fail
    go_ret
    exact ⟨ret_bool (decide_eq_false fun h => by have h1 := (HD.out.1 h).2.2.1; have h2 := HE.out; omega).symm, HX2.out⟩
  case pos =>
  have H2 := Lib.hid q2
  obtain ⟨N, hNn⟩ : ∃ N : Nat, n = (N : Int) := ⟨n.toNat, by omega⟩
  have hN24 : N ≤ 24 := by omega
  obtain ⟨M, hMM⟩ : ∃ M : Nat, 2 ^ N = M := ⟨_, rfl⟩
  have hNN : n.toNat = N := by omega
  have hM : Hid (IntKind.i64.wrap (2 ^ N) = (M : Int)) := Lib.hid (by rw [← hMM]; exact wrap_two N (by omega))
  have HD : Hid (Rb.Small d gl gs data lost piece other most ↔ Cd.few gs 30 = true ∧ 0 < n ∧ n ≤ (most : Int) ∧ 0 ≤ lost ∧ lost < (M : Int) ∧ 0 ≤ other ∧ other < (M : Int) ∧ 0 ≤ piece ∧ piece < n ∧ data.length ≤ 200) := Lib.hid (by have := HD.out; rw [hNN, hMM] at this; exact this)
  have HN := Lib.hid hNn
  clear hNn hMM hNN
  by_cases q3 : 0 ≤ lost
  case neg =>
    have HE := Lib.hid q3
    have hnn := HN.out
    subst hnn
    refine wp_atEnd' (sm_3 w1 w.heap.size N c most d gl (N : Int) lost piece other gs A data hN24 HG1 HB1 HF (Lib.hid rfl) H1 H2 (Lib.hid q3) _ _ _ _ _ _ _ _ _ _ _ _ _ _ _ _ _ _ _ _ _ _ _ _ _ _ _ _ _ _ _ _ _ _ _ _ _ _ _ _ _ _ _ _ _ _ _ _ _ _ _ _ _ _ _ _ _ _ _ _ _ ?_)
    intro u9 u10 u11 u12 u13 u14 u15 u16 u17 u18 u19 u20 u21 u22 u23 u24 u25 u26 u27 u28 u29 u30 u31 u32 u33 u34 u35 u36 u37 u38 u39 u40 u41 u42 u43 u44 u45 u46 u47 u48 u49 u50 u51 u52 u53 u54 u55 u56 u57 u58 u59 u60 u61 w2 hx2
    have HX2 := Lib.hid (HX1.out.trans hx2)
    clear hx2
    go_wp2_with fail
    go_ret
    exact ⟨ret_bool (decide_eq_false fun h => by have h1 := (HD.out.1 h).2.2.2.1; have h2 := HE.out; omega).symm, HX2.out⟩
  case pos =>
  have H3 := Lib.hid q3
  by_cases q4 : lost < (M : Int)
  case neg =>
    have HE := Lib.hid q4
    have hnn := HN.out
    subst hnn
    refine wp_atEnd' (sm_4 w1 w.heap.size N M c most d gl (N : Int) lost piece other gs A data hN24 hM HG1 HB1 HF (Lib.hid rfl) H1 H2 H3 (Lib.hid q4) _ _ _ _ _ _ _ _ _ _ _ _ _ _ _ _ _ _ _ _ _ _ _ _ _ _ _ _ _ _ _ _ _ _ _ _ _ _ _ _ _ _ _ _ _ _ _ _ _ _ _ _ _ _ _ _ _ _ _ _ _ ?_)
    intro u9 u10 u11 u12 u13 u14 u15 u16 u17 u18 u19 u20 u21 u22 u23 u24 u25 u26 u27 u28 u29 u30 u31 u32 u33 u34 u35 u36 u37 u38 u39 u40 u41 u42 u43 u44 u45 u46 u47 u48 u49 u50 u51 u52 u53 u54 u55 u56 u57 u58 u59 u60 u61 w2 hx2
    have HX2 := Lib.hid (HX1.out.trans hx2)
    clear hx2
    go_wp2_with fail
    go_ret
    exact ⟨ret_bool (decide_eq_false fun h => by have h1 := (HD.out.1 h).2.2.2.2.1; have h2 := HE.out; omega).symm, HX2.out⟩
  case pos =>
  have H4 := Lib.hid q4
  by_cases q5 : 0 ≤ other
  case neg =>
    have HE := Lib.hid q5
    have hnn := HN.out
    subst hnn
    refine wp_atEnd' (sm_5 w1 w.heap.size N M c most d gl (N : Int) lost piece other gs A data hN24 hM HG1 HB1 HF (Lib.hid rfl) H1 H2 H3 H4 (Lib.hid q5) _ _ _ _ _ _ _ _ _ _ _ _ _ _ _ _ _ _ _ _ _ _ _ _ _ _ _ _ _ _ _ _ _ _ _ _ _ _ _ _ _ _ _ _ _ _ _ _ _ _ _ _ _ _ _ _ _ _ _ _ _ ?_)
    intro u9 u10 u11 u12 u13 u14 u15 u16 u17 u18 u19 u20 u21 u22 u23 u24 u25 u26 u27 u28 u29 u30 u31 u32 u33 u34 u35 u36 u37 u38 u39 u40 u41 u42 u43 u44 u45 u46 u47 u48 u49 u50 u51 u52 u53 u54 u55 u56 u57 u58 u59 u60 u61 w2 hx2
    have HX2 := Lib.hid (HX1.out.trans hx2)
    clear hx2
    go_wp2_with fail
    go_ret
    exact ⟨ret_bool (decide_eq_false fun h => by have h1 := (HD.out.1 h).2.2.2.2.2.1; have h2 := HE.out; omega).symm, HX2.out⟩
  case pos =>
  have H5 := Lib.hid q5
  by_cases q6 : other < (M : Int)
  case neg =>
    have HE := Lib.hid q6
    have hnn := HN.out
    subst hnn
    refine wp_atEnd' (sm_6 w1 w.heap.size N M c most d gl (N : Int) lost piece other gs A data hN24 hM HG1 HB1 HF (Lib.hid rfl) H1 H2 H3 H4 H5 (Lib.hid q6) _ _ _ _ _ _ _ _ _ _ _ _ _ _ _ _ _ _ _ _ _ _ _ _ _ _ _ _ _ _ _ _ _ _ _ _ _ _ _ _ _ _ _ _ _ _ _ _ _ _ _ _ _ _ _ _ _ _ _ _ _ ?_)
    intro u9 u10 u11 u12 u13 u14 u15 u16 u17 u18 u19 u20 u21 u22 u23 u24 u25 u26 u27 u28 u29 u30 u31 u32 u33 u34 u35 u36 u37 u38 u39 u40 u41 u42 u43 u44 u45 u46 u47 u48 u49 u50 u51 u52 u53 u54 u55 u56 u57 u58 u59 u60 u61 w2 hx2
    have HX2 := Lib.hid (HX1.out.trans hx2)
    clear hx2
    go_wp2_with fail
    go_ret
    exact ⟨ret_bool (decide_eq_false fun h => by have h1 := (HD.out.1 h).2.2.2.2.2.2.1; have h2 := HE.out; omega).symm, HX2.out⟩
  case pos =>
  have H6 := Lib.hid q6
  by_cases q7 : 0 ≤ piece
  case neg =>
    have HE := Lib.hid q7
    have hnn := HN.out
    subst hnn
    refine wp_atEnd' (sm_7 w1 w.heap.size N M c most d gl (N : Int) lost piece other gs A data hN24 hM HG1 HB1 HF (Lib.hid rfl) H1 H2 H3 H4 H5 H6 (Lib.hid q7) _ _ _ _ _ _ _ _ _ _ _ _ _ _ _ _ _ _ _ _ _ _ _ _ _ _ _ _ _ _ _ _ _ _ _ _ _ _ _ _ _ _ _ _ _ _ _ _ _ _ _ _ _ _ _ _ _ _ _ _ _ ?_)
    intro u9 u10 u11 u12 u13 u14 u15 u16 u17 u18 u19 u20 u21 u22 u23 u24 u25 u26 u27 u28 u29 u30 u31 u32 u33 u34 u35 u36 u37 u38 u39 u40 u41 u42 u43 u44 u45 u46 u47 u48 u49 u50 u51 u52 u53 u54 u55 u56 u57 u58 u59 u60 u61 w2 hx2
    have HX2 := Lib.hid (HX1.out.trans hx2)
    clear hx2
    go_wp2_with fail
    go_ret
    exact ⟨ret_bool (decide_eq_false fun h => by have h1 := (HD.out.1 h).2.2.2.2.2.2.2.1; have h2 := HE.out; omega).symm, HX2.out⟩
  case pos =>
  have H7 := Lib.hid q7
  by_cases q8 : piece < n
  case neg =>
    have HE := Lib.hid q8
    have hnn := HN.out
    subst hnn
    refine wp_atEnd' (sm_8 w1 w.heap.size N M c most d gl (N : Int) lost piece other gs A data hN24 hM HG1 HB1 HF (Lib.hid rfl) H1 H2 H3 H4 H5 H6 H7 (Lib.hid q8) _ _ _ _ _ _ _ _ _ _ _ _ _ _ _ _ _ _ _ _ _ _ _ _ _ _ _ _ _ _ _ _ _ _ _ _ _ _ _ _ _ _ _ _ _ _ _ _ _ _ _ _ _ _ _ _ _ _ _ _ _ ?_)
    intro u9 u10 u11 u12 u13 u14 u15 u16 u17 u18 u19 u20 u21 u22 u23 u24 u25 u26 u27 u28 u29 u30 u31 u32 u33 u34 u35 u36 u37 u38 u39 u40 u41 u42 u43 u44 u45 u46 u47 u48 u49 u50 u51 u52 u53 u54 u55 u56 u57 u58 u59 u60 u61 w2 hx2
    have HX2 := Lib.hid (HX1.out.trans hx2)
    clear hx2
    go_wp2_with fail
    go_ret
    exact ⟨ret_bool (decide_eq_false fun h => by have h1 := (HD.out.1 h).2.2.2.2.2.2.2.2.1; have h2 := HE.out; omega).symm, HX2.out⟩
  case pos =>
  have H8 := Lib.hid q8
  by_cases q9 : data.length ≤ 200
  case neg =>
    have HE := Lib.hid q9
    have hnn := HN.out
    subst hnn
    refine wp_atEnd' (sm_9 w1 w.heap.size N M c most d gl (N : Int) lost piece other gs A data hN24 hM HG1 HB1 HF (Lib.hid rfl) H1 H2 H3 H4 H5 H6 H7 H8 (Lib.hid q9) _ _ _ _ _ _ _ _ _ _ _ _ _ _ _ _ _ _ _ _ _ _ _ _ _ _ _ _ _ _ _ _ _ _ _ _ _ _ _ _ _ _ _ _ _ _ _ _ _ _ _ _ _ _ _ _ _ _ _ _ _ ?_)
    intro u9 u10 u11 u12 u13 u14 u15 u16 u17 u18 u19 u20 u21 u22 u23 u24 u25 u26 u27 u28 u29 u30 u31 u32 u33 u34 u35 u36 u37 u38 u39 u40 u41 u42 u43 u44 u45 u46 u47 u48 u49 u50 u51 u52 u53 u54 u55 u56 u57 u58 u59 u60 u61 w2 hx2
    have HX2 := Lib.hid (HX1.out.trans hx2)
    clear hx2
    go_wp2_with fail
    go_ret
    exact ⟨ret_bool (decide_eq_false fun h => by have h1 := (HD.out.1 h).2.2.2.2.2.2.2.2.2; have h2 := HE.out; omega).symm, HX2.out⟩
  case pos =>
  have H9 := Lib.hid q9
  have hnn := HN.out
  subst hnn
  refine wp_atEnd' (sm_10 w1 w.heap.size N M c most d gl (N : Int) lost piece other gs A data hN24 hM HG1 HB1 HF (Lib.hid rfl) H1 H2 H3 H4 H5 H6 H7 H8 H9 _ _ _ _ _ _ _ _ _ _ _ _ _ _ _ _ _ _ _ _ _ _ _ _ _ _ _ _ _ _ _ _ _ _ _ _ _ _ _ _ _ _ _ _ _ _ _ _ _ _ _ _ _ _ _ _ _ _ _ _ _ ?_)
  intro u9 u10 u11 u12 u13 u14 u15 u16 u17 u18 u19 u20 u21 u22 u23 u24 u25 u26 u27 u28 u29 u30 u31 u32 u33 u34 u35 u36 u37 u38 u39 u40 u41 u42 u43 u44 u45 u46 u47 u48 u49 u50 u51 u52 u53 u54 u55 u56 u57 u58 u59 u60 u61 w2 hx2
  have HX2 := Lib.hid (HX1.out.trans hx2)
  clear hx2
  go_wp2_with fail
  go_ret
  exact ⟨ret_bool (decide_eq_true (HD.out.2 ⟨HF.out, H1.out, H2.out, H3.out, H4.out, H5.out, H6.out, H7.out, H8.out, H9.out⟩)).symm, HX2.out⟩
end Go.Proofs.YtdmljilcbndmfaaDoor
