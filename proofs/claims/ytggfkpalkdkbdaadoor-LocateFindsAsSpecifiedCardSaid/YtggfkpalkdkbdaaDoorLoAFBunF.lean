/- What the program's functions do, step by step: part F of the texts for this claim; no condition beyond what each theorem states. -/
import Derived.Test.YtggfkpalkdkbdaaDoorLoAFBunA
import Derived.Test.YtggfkpalkdkbdaaDoorLoAFBunB
import Derived.Test.YtggfkpalkdkbdaaDoorLoAFBunC
import Derived.Test.YtggfkpalkdkbdaaDoorLoAFBunD
import Derived.Test.YtggfkpalkdkbdaaDoorLoAFBunE
/- THE WALK over Differ of quietusref09. -/
namespace Go.Proofs.YtggfkpalkdkbdaaDoor
open Go.RowKit
noncomputable def df_no_code : Code := ((Tryd.f38.body.bind (regionOf 6)).getD .skip)
def df_no_dsts : List (Option Nat) := [some 28, some 29, some 30, some 31, some 32, some 33, some 34, some 35, some 36, some 37, some 38, some 39, some 40, some 41, some 42, some 43, some 44]
theorem df_no_apart : apartD df_no_dsts = true := by decide +kernel
set_option maxRecDepth 1000000 in
set_option maxHeartbeats 16000000 in
theorem df_no (wr : World) (M k P cp R : Nat) (pd : Addr) (hk : k < P) (hP14 : P ≤ 14) (HBB : Hid (bits .and .i64 ((M : Int) / 2 ^ k) 1 = ((0 : Nat) : Int))) (c0 c1 c4 c5 c6 c7 c8 c10 c12 c13 c14 c15 c16 c17 c18 c19 c20 c21 c22 c23 c24 c25 c26 c27 c28 c29 c30 c31 c32 c33 c34 c35 c36 c37 c38 c39 c40 c41 c42 c43 c44 c45 c46 c47 c48 c49 : Value) (df : List Deferred) (K : Act → World → Prop)
    (hK : ∀  (u28 u29 u30 u31 u32 u33 u34 u35 u36 u37 u38 u39 u40 u41 u42 u43 : Value) (wx : World), Ext wr wx → K ⟨#[c0, c1, .int .i64 (M : Nat), .slice (some pd) P cp, c4, c5, c6, c7, c8, .pointer (some ⟨R, 0, none⟩), c10, .int .i64 (k : Nat), c12, c13, c14, c15, c16, c17, c18, c19, c20, c21, c22, c23, c24, c25, c26, c27, u28, u29, u30, u31, u32, u33, u34, u35, u36, u37, u38, u39, u40, u41, u42, u43, .bool false, c45, c46, c47, c48, c49], df⟩ wx) :
    Code.wp Tryd.prog df_no_code (AtEnd K) ⟨#[c0, c1, .int .i64 (M : Nat), .slice (some pd) P cp, c4, c5, c6, c7, c8, .pointer (some ⟨R, 0, none⟩), c10, .int .i64 (k : Nat), c12, c13, c14, c15, c16, c17, c18, c19, c20, c21, c22, c23, c24, c25, c26, c27, c28, c29, c30, c31, c32, c33, c34, c35, c36, c37, c38, c39, c40, c41, c42, c43, c44, c45, c46, c47, c48, c49], df⟩ wr := by
  conv => arg 2; whnf
  refine region_inv (by kernel_rfl) [[], [], [0, 1], [2], [3], [4], [5], [6, 5], [5], [7, 8, 5], [9, 5], [5], [5], [11, 12, 5], [13, 5], [10, 14, 5], [5, 15]] (by kernel_rfl) [0, 1, 2, 3, 4, 5, 6, 7, 8, 9, 10, 11, 12, 13, 14, 15, 16] (by decide +kernel) (by decide +kernel) (by decide +kernel) (fun L a wc => Inv df_no_dsts [.int .i64 (M : Nat), .int .i64 (k : Nat), .int .i64 ((M : Int) / 2 ^ k), .int .i64 (0 : Nat), .bool false, .bool false, undef, undef, undef, undef, undef, undef, undef, undef, undef, undef, .bool false] ⟨#[c0, c1, .int .i64 (M : Nat), .slice (some pd) P cp, c4, c5, c6, c7, c8, .pointer (some ⟨R, 0, none⟩), c10, .int .i64 (k : Nat), c12, c13, c14, c15, c16, c17, c18, c19, c20, c21, c22, c23, c24, c25, c26, c27, c28, c29, c30, c31, c32, c33, c34, c35, c36, c37, c38, c39, c40, c41, c42, c43, c44, c45, c46, c47, c48, c49], df⟩ L a ∧ Hid (Ext wr wc)) ⟨Inv.start, Lib.hid ((Ext.refl wr).drew)⟩ ?_ ?_
  · refine ⟨?_, ?_, ?_, ?_, ?_, ?_, ?_, ?_, ?_, ?_, ?_, ?_, ?_, ?_, ?_, ?_, ?_, trivial⟩
    ·
      rintro L a wc ⟨hv, HO⟩ hL hc hd
      exact wpOp_val rfl rfl (ex_move rfl ((hv.fixed 2 (by decide)).trans rfl)) ⟨hv.put df_no_apart 0 rfl (lb rfl) (lb rfl) rfl, HO⟩
    ·
      rintro L a wc ⟨hv, HO⟩ hL hc hd
      exact wpOp_val rfl rfl (ex_move rfl ((hv.fixed 11 (by decide)).trans rfl)) ⟨hv.put df_no_apart 1 rfl (lb rfl) (lb rfl) rfl, HO⟩
    ·
      rintro L a wc ⟨hv, HO⟩ hL hc hd
      have u0 : (0 : Int) ≤ (k : Int) := by omega
      have u1 : (k : Int) < 64 := by omega
      exact wpOp_val rfl rfl (ex_bin rfl (hv.get 0 rfl rfl (hd 0 (by decide))) (hv.get 1 rfl rfl (hd 1 (by decide))) (by go_simp)) ⟨hv.put df_no_apart 2 rfl (lb rfl) (lb rfl) rfl, HO⟩
    ·
      rintro L a wc ⟨hv, HO⟩ hL hc hd
      have u := HBB.out
      exact wpOp_val rfl rfl (ex_bin rfl (hv.get 2 rfl rfl (hd 2 (by decide))) rfl (by go_simp)) ⟨hv.put df_no_apart 3 rfl (lb rfl) (lb rfl) rfl, HO⟩
    ·
      rintro L a wc ⟨hv, HO⟩ hL hc hd
      exact wpOp_val rfl rfl (ex_bin rfl (hv.get 3 rfl rfl (hd 3 (by decide))) rfl (by go_simp)) ⟨hv.put df_no_apart 4 rfl (lb rfl) (lb rfl) rfl, HO⟩
    ·
      rintro L a wc ⟨hv, HO⟩ hL hc hd
      exact wpOp_val rfl rfl (ex_move rfl (hv.get 4 rfl rfl (hd 4 (by decide)))) ⟨hv.put df_no_apart 5 rfl (lb rfl) (lb rfl) rfl, HO⟩
    ·
      rintro L a wc ⟨hv, HO⟩ hL hc hd
      exact wpOp_off rfl ((wanted_at rfl rfl (hv.get 5 rfl rfl (hd 5 (by decide)))).trans rfl) ⟨hv.put df_no_apart 6 rfl (lb rfl) (lb rfl) rfl, HO⟩
    ·
      rintro L a wc ⟨hv, HO⟩ hL hc hd
      exact wpOp_off rfl ((wanted_at rfl rfl (hv.get 5 rfl rfl (hd 5 (by decide)))).trans rfl) ⟨hv.put df_no_apart 7 rfl (lb rfl) (lb rfl) rfl, HO⟩
    ·
      rintro L a wc ⟨hv, HO⟩ hL hc hd
      exact wpOp_off rfl ((wanted_at rfl rfl (hv.get 5 rfl rfl (hd 5 (by decide)))).trans rfl) ⟨hv.put df_no_apart 8 rfl (lb rfl) (lb rfl) rfl, HO⟩
    ·
      rintro L a wc ⟨hv, HO⟩ hL hc hd
      exact wpOp_off rfl ((wanted_at rfl rfl (hv.get 5 rfl rfl (hd 5 (by decide)))).trans rfl) ⟨hv.put df_no_apart 9 rfl (lb rfl) (lb rfl) rfl, HO⟩
    ·
      rintro L a wc ⟨hv, HO⟩ hL hc hd
      exact wpOp_off rfl ((wanted_at rfl rfl (hv.get 5 rfl rfl (hd 5 (by decide)))).trans rfl) ⟨hv.put df_no_apart 10 rfl (lb rfl) (lb rfl) rfl, HO⟩
    ·
      rintro L a wc ⟨hv, HO⟩ hL hc hd
      exact wpOp_off rfl ((wanted_at rfl rfl (hv.get 5 rfl rfl (hd 5 (by decide)))).trans rfl) ⟨hv.put df_no_apart 11 rfl (lb rfl) (lb rfl) rfl, HO⟩
    ·
      rintro L a wc ⟨hv, HO⟩ hL hc hd
      exact wpOp_off rfl ((wanted_at rfl rfl (hv.get 5 rfl rfl (hd 5 (by decide)))).trans rfl) ⟨hv.put df_no_apart 12 rfl (lb rfl) (lb rfl) rfl, HO⟩
    ·
      rintro L a wc ⟨hv, HO⟩ hL hc hd
      exact wpOp_off rfl ((wanted_at rfl rfl (hv.get 5 rfl rfl (hd 5 (by decide)))).trans rfl) ⟨hv.put df_no_apart 13 rfl (lb rfl) (lb rfl) rfl, HO⟩
    ·
      rintro L a wc ⟨hv, HO⟩ hL hc hd
      exact wpOp_off rfl ((wanted_at rfl rfl (hv.get 5 rfl rfl (hd 5 (by decide)))).trans rfl) ⟨hv.put df_no_apart 14 rfl (lb rfl) (lb rfl) rfl, HO⟩
    ·
      rintro L a wc ⟨hv, HO⟩ hL hc hd
      exact wpOp_off rfl ((wanted_at rfl rfl (hv.get 5 rfl rfl (hd 5 (by decide)))).trans rfl) ⟨hv.put df_no_apart 15 rfl (lb rfl) (lb rfl) rfl, HO⟩
    ·
      rintro L a wc ⟨hv, HO⟩ hL hc hd
      exact wpOp_val rfl rfl (ex_pick rfl (hv.get 5 rfl rfl (hd 5 (by decide))) rfl) ⟨hv.put df_no_apart 16 rfl (lb rfl) (lb rfl) rfl, HO⟩
  · rintro L a wc ⟨hv, HO⟩ hall
    show K a wc
    have ha := act_n rl50 hv.size hv.defers rfl
    simp +decide only [hv.fixed, hv.get 16 (d := 44) rfl rfl (hall 16 (by decide))] at ha
    rw [ha]
    exact hK _ _ _ _ _ _ _ _ _ _ _ _ _ _ _ _ wc HO.out
noncomputable def df_same_code : Code := ((Tryd.f38.body.bind (regionOf 6)).getD .skip)
def df_same_dsts : List (Option Nat) := [some 28, some 29, some 30, some 31, some 32, some 33, some 34, some 35, some 36, some 37, some 38, some 39, some 40, some 41, some 42, some 43, some 44]
theorem df_same_apart : apartD df_same_dsts = true := by decide +kernel
set_option maxRecDepth 1000000 in
set_option maxHeartbeats 16000000 in
theorem df_same (wr : World) (M k P oc cp R : Nat) (od pd : Addr) (hk : k < P) (hP14 : P ≤ 14) (HBB : Hid (bits .and .i64 ((M : Int) / 2 ^ k) 1 = ((1 : Nat) : Int))) (o p : List UInt8) (r0 : wr.cell? ⟨R, 0, none⟩ = some (.slice (some od) P oc)) (ho : wr.cell? (od.add k) = some (sv o)) (hp : wr.cell? (pd.add k) = some (sv p)) (hs : (!(sb o).toList == (sb p).toList) = false) (c0 c1 c4 c5 c6 c7 c8 c10 c12 c13 c14 c15 c16 c17 c18 c19 c20 c21 c22 c23 c24 c25 c26 c27 c28 c29 c30 c31 c32 c33 c34 c35 c36 c37 c38 c39 c40 c41 c42 c43 c44 c45 c46 c47 c48 c49 : Value) (df : List Deferred) (K : Act → World → Prop)
    (hK : ∀  (u28 u29 u30 u31 u32 u33 u34 u35 u36 u37 u38 u39 u40 u41 u42 u43 : Value) (wx : World), Ext wr wx → K ⟨#[c0, c1, .int .i64 (M : Nat), .slice (some pd) P cp, c4, c5, c6, c7, c8, .pointer (some ⟨R, 0, none⟩), c10, .int .i64 (k : Nat), c12, c13, c14, c15, c16, c17, c18, c19, c20, c21, c22, c23, c24, c25, c26, c27, u28, u29, u30, u31, u32, u33, u34, u35, u36, u37, u38, u39, u40, u41, u42, u43, .bool false, c45, c46, c47, c48, c49], df⟩ wx) :
    Code.wp Tryd.prog df_same_code (AtEnd K) ⟨#[c0, c1, .int .i64 (M : Nat), .slice (some pd) P cp, c4, c5, c6, c7, c8, .pointer (some ⟨R, 0, none⟩), c10, .int .i64 (k : Nat), c12, c13, c14, c15, c16, c17, c18, c19, c20, c21, c22, c23, c24, c25, c26, c27, c28, c29, c30, c31, c32, c33, c34, c35, c36, c37, c38, c39, c40, c41, c42, c43, c44, c45, c46, c47, c48, c49], df⟩ wr := by
  conv => arg 2; whnf
  refine region_inv (by kernel_rfl) [[], [], [0, 1], [2], [3], [4], [5], [6, 5], [5], [7, 8, 5], [9, 5], [5], [5], [11, 12, 5], [13, 5], [10, 14, 5], [5, 15]] (by kernel_rfl) [0, 1, 2, 3, 4, 5, 6, 7, 8, 9, 10, 11, 12, 13, 14, 15, 16] (by decide +kernel) (by decide +kernel) (by decide +kernel) (fun L a wc => Inv df_same_dsts [.int .i64 (M : Nat), .int .i64 (k : Nat), .int .i64 ((M : Int) / 2 ^ k), .int .i64 (1 : Nat), .bool true, .bool true, .pointer (some ⟨R, 0, none⟩), .slice (some od) P oc, .int .i64 (k : Nat), .pointer (some (od.add k)), .string (sb o), .slice (some pd) P cp, .int .i64 (k : Nat), .pointer (some (pd.add k)), .string (sb p), .bool false, .bool false] ⟨#[c0, c1, .int .i64 (M : Nat), .slice (some pd) P cp, c4, c5, c6, c7, c8, .pointer (some ⟨R, 0, none⟩), c10, .int .i64 (k : Nat), c12, c13, c14, c15, c16, c17, c18, c19, c20, c21, c22, c23, c24, c25, c26, c27, c28, c29, c30, c31, c32, c33, c34, c35, c36, c37, c38, c39, c40, c41, c42, c43, c44, c45, c46, c47, c48, c49], df⟩ L a ∧ Hid (Ext wr wc)) ⟨Inv.start, Lib.hid ((Ext.refl wr).drew)⟩ ?_ ?_
  · refine ⟨?_, ?_, ?_, ?_, ?_, ?_, ?_, ?_, ?_, ?_, ?_, ?_, ?_, ?_, ?_, ?_, ?_, trivial⟩
    ·
      rintro L a wc ⟨hv, HO⟩ hL hc hd
      exact wpOp_val rfl rfl (ex_move rfl ((hv.fixed 2 (by decide)).trans rfl)) ⟨hv.put df_same_apart 0 rfl (lb rfl) (lb rfl) rfl, HO⟩
    ·
      rintro L a wc ⟨hv, HO⟩ hL hc hd
      exact wpOp_val rfl rfl (ex_move rfl ((hv.fixed 11 (by decide)).trans rfl)) ⟨hv.put df_same_apart 1 rfl (lb rfl) (lb rfl) rfl, HO⟩
    ·
      rintro L a wc ⟨hv, HO⟩ hL hc hd
      have u0 : (0 : Int) ≤ (k : Int) := by omega
      have u1 : (k : Int) < 64 := by omega
      exact wpOp_val rfl rfl (ex_bin rfl (hv.get 0 rfl rfl (hd 0 (by decide))) (hv.get 1 rfl rfl (hd 1 (by decide))) (by go_simp)) ⟨hv.put df_same_apart 2 rfl (lb rfl) (lb rfl) rfl, HO⟩
    ·
      rintro L a wc ⟨hv, HO⟩ hL hc hd
      have u := HBB.out
      exact wpOp_val rfl rfl (ex_bin rfl (hv.get 2 rfl rfl (hd 2 (by decide))) rfl (by go_simp)) ⟨hv.put df_same_apart 3 rfl (lb rfl) (lb rfl) rfl, HO⟩
    ·
      rintro L a wc ⟨hv, HO⟩ hL hc hd
      exact wpOp_val rfl rfl (ex_bin rfl (hv.get 3 rfl rfl (hd 3 (by decide))) rfl (by go_simp)) ⟨hv.put df_same_apart 4 rfl (lb rfl) (lb rfl) rfl, HO⟩
    ·
      rintro L a wc ⟨hv, HO⟩ hL hc hd
      exact wpOp_val rfl rfl (ex_move rfl (hv.get 4 rfl rfl (hd 4 (by decide)))) ⟨hv.put df_same_apart 5 rfl (lb rfl) (lb rfl) rfl, HO⟩
    ·
      rintro L a wc ⟨hv, HO⟩ hL hc hd
      exact wpOp_val rfl ((wanted_at rfl rfl (hv.get 5 rfl rfl (hd 5 (by decide)))).trans rfl) (ex_field rfl ((hv.fixed 9 (by decide)).trans rfl) (by go_simp)) ⟨hv.put df_same_apart 6 rfl (lb rfl) (lb rfl) rfl, HO⟩
    ·
      rintro L a wc ⟨hv, HO⟩ hL hc hd
      have h0 : wc.cell? ⟨R, 0, none⟩ = some (.slice (some od) P oc) := HO.out.cell r0
      exact wpOp_val rfl ((wanted_at rfl rfl (hv.get 5 rfl rfl (hd 5 (by decide)))).trans rfl) (ex_load rfl (hv.get 6 rfl rfl (hd 6 (by decide))) (by go_simp)) ⟨hv.put df_same_apart 7 rfl (lb rfl) (lb rfl) rfl, HO⟩
    ·
      rintro L a wc ⟨hv, HO⟩ hL hc hd
      exact wpOp_val rfl ((wanted_at rfl rfl (hv.get 5 rfl rfl (hd 5 (by decide)))).trans rfl) (ex_move rfl ((hv.fixed 11 (by decide)).trans rfl)) ⟨hv.put df_same_apart 8 rfl (lb rfl) (lb rfl) rfl, HO⟩
    ·
      rintro L a wc ⟨hv, HO⟩ hL hc hd
      have u1 : (0 : Int) ≤ (k : Int) := by omega
      have u2 : (k : Int) < (P : Int) := by omega
      exact wpOp_val rfl ((wanted_at rfl rfl (hv.get 5 rfl rfl (hd 5 (by decide)))).trans rfl) (ex_index rfl (hv.get 7 rfl rfl (hd 7 (by decide))) (hv.get 8 rfl rfl (hd 8 (by decide))) (by go_simp)) ⟨hv.put df_same_apart 9 rfl (lb rfl) (lb rfl) rfl, HO⟩
    ·
      rintro L a wc ⟨hv, HO⟩ hL hc hd
      have h0 : wc.cell? (od.add k) = some (.string (sb o)) := HO.out.cell ho
      exact wpOp_val rfl ((wanted_at rfl rfl (hv.get 5 rfl rfl (hd 5 (by decide)))).trans rfl) (ex_load rfl (hv.get 9 rfl rfl (hd 9 (by decide))) (by go_simp)) ⟨hv.put df_same_apart 10 rfl (lb rfl) (lb rfl) rfl, HO⟩
    ·
      rintro L a wc ⟨hv, HO⟩ hL hc hd
      exact wpOp_val rfl ((wanted_at rfl rfl (hv.get 5 rfl rfl (hd 5 (by decide)))).trans rfl) (ex_move rfl ((hv.fixed 3 (by decide)).trans rfl)) ⟨hv.put df_same_apart 11 rfl (lb rfl) (lb rfl) rfl, HO⟩
    ·
      rintro L a wc ⟨hv, HO⟩ hL hc hd
      exact wpOp_val rfl ((wanted_at rfl rfl (hv.get 5 rfl rfl (hd 5 (by decide)))).trans rfl) (ex_move rfl ((hv.fixed 11 (by decide)).trans rfl)) ⟨hv.put df_same_apart 12 rfl (lb rfl) (lb rfl) rfl, HO⟩
    ·
      rintro L a wc ⟨hv, HO⟩ hL hc hd
      have u1 : (0 : Int) ≤ (k : Int) := by omega
      have u2 : (k : Int) < (P : Int) := by omega
      exact wpOp_val rfl ((wanted_at rfl rfl (hv.get 5 rfl rfl (hd 5 (by decide)))).trans rfl) (ex_index rfl (hv.get 11 rfl rfl (hd 11 (by decide))) (hv.get 12 rfl rfl (hd 12 (by decide))) (by go_simp)) ⟨hv.put df_same_apart 13 rfl (lb rfl) (lb rfl) rfl, HO⟩
    ·
      rintro L a wc ⟨hv, HO⟩ hL hc hd
      have h0 : wc.cell? (pd.add k) = some (.string (sb p)) := HO.out.cell hp
      exact wpOp_val rfl ((wanted_at rfl rfl (hv.get 5 rfl rfl (hd 5 (by decide)))).trans rfl) (ex_load rfl (hv.get 13 rfl rfl (hd 13 (by decide))) (by go_simp)) ⟨hv.put df_same_apart 14 rfl (lb rfl) (lb rfl) rfl, HO⟩
    ·
      rintro L a wc ⟨hv, HO⟩ hL hc hd
      have u := hs
      exact wpOp_val rfl ((wanted_at rfl rfl (hv.get 5 rfl rfl (hd 5 (by decide)))).trans rfl) (ex_bin rfl (hv.get 10 rfl rfl (hd 10 (by decide))) (hv.get 14 rfl rfl (hd 14 (by decide))) (by go_simp)) ⟨hv.put df_same_apart 15 rfl (lb rfl) (lb rfl) rfl, HO⟩
    ·
      rintro L a wc ⟨hv, HO⟩ hL hc hd
      exact wpOp_val rfl rfl (ex_pick rfl (hv.get 5 rfl rfl (hd 5 (by decide))) (hv.get 15 rfl rfl (hd 15 (by decide)))) ⟨hv.put df_same_apart 16 rfl (lb rfl) (lb rfl) rfl, HO⟩
  · rintro L a wc ⟨hv, HO⟩ hall
    show K a wc
    have ha := act_n rl50 hv.size hv.defers rfl
    simp +decide only [hv.fixed, hv.get 16 (d := 44) rfl rfl (hall 16 (by decide))] at ha
    rw [ha]
    exact hK _ _ _ _ _ _ _ _ _ _ _ _ _ _ _ _ wc HO.out
noncomputable def df_other_code : Code := ((Tryd.f38.body.bind (regionOf 6)).getD .skip)
def df_other_dsts : List (Option Nat) := [some 28, some 29, some 30, some 31, some 32, some 33, some 34, some 35, some 36, some 37, some 38, some 39, some 40, some 41, some 42, some 43, some 44]
theorem df_other_apart : apartD df_other_dsts = true := by decide +kernel
set_option maxRecDepth 1000000 in
set_option maxHeartbeats 16000000 in
theorem df_other (wr : World) (M k P oc cp R : Nat) (od pd : Addr) (hk : k < P) (hP14 : P ≤ 14) (HBB : Hid (bits .and .i64 ((M : Int) / 2 ^ k) 1 = ((1 : Nat) : Int))) (o p : List UInt8) (r0 : wr.cell? ⟨R, 0, none⟩ = some (.slice (some od) P oc)) (ho : wr.cell? (od.add k) = some (sv o)) (hp : wr.cell? (pd.add k) = some (sv p)) (hs : (!(sb o).toList == (sb p).toList) = true) (c0 c1 c4 c5 c6 c7 c8 c10 c12 c13 c14 c15 c16 c17 c18 c19 c20 c21 c22 c23 c24 c25 c26 c27 c28 c29 c30 c31 c32 c33 c34 c35 c36 c37 c38 c39 c40 c41 c42 c43 c44 c45 c46 c47 c48 c49 : Value) (df : List Deferred) (K : Act → World → Prop)
    (hK : ∀  (u28 u29 u30 u31 u32 u33 u34 u35 u36 u37 u38 u39 u40 u41 u42 u43 : Value) (wx : World), Ext wr wx → K ⟨#[c0, c1, .int .i64 (M : Nat), .slice (some pd) P cp, c4, c5, c6, c7, c8, .pointer (some ⟨R, 0, none⟩), c10, .int .i64 (k : Nat), c12, c13, c14, c15, c16, c17, c18, c19, c20, c21, c22, c23, c24, c25, c26, c27, u28, u29, u30, u31, u32, u33, u34, u35, u36, u37, u38, u39, u40, u41, u42, u43, .bool true, c45, c46, c47, c48, c49], df⟩ wx) :
    Code.wp Tryd.prog df_other_code (AtEnd K) ⟨#[c0, c1, .int .i64 (M : Nat), .slice (some pd) P cp, c4, c5, c6, c7, c8, .pointer (some ⟨R, 0, none⟩), c10, .int .i64 (k : Nat), c12, c13, c14, c15, c16, c17, c18, c19, c20, c21, c22, c23, c24, c25, c26, c27, c28, c29, c30, c31, c32, c33, c34, c35, c36, c37, c38, c39, c40, c41, c42, c43, c44, c45, c46, c47, c48, c49], df⟩ wr := by
  conv => arg 2; whnf
  refine region_inv (by kernel_rfl) [[], [], [0, 1], [2], [3], [4], [5], [6, 5], [5], [7, 8, 5], [9, 5], [5], [5], [11, 12, 5], [13, 5], [10, 14, 5], [5, 15]] (by kernel_rfl) [0, 1, 2, 3, 4, 5, 6, 7, 8, 9, 10, 11, 12, 13, 14, 15, 16] (by decide +kernel) (by decide +kernel) (by decide +kernel) (fun L a wc => Inv df_other_dsts [.int .i64 (M : Nat), .int .i64 (k : Nat), .int .i64 ((M : Int) / 2 ^ k), .int .i64 (1 : Nat), .bool true, .bool true, .pointer (some ⟨R, 0, none⟩), .slice (some od) P oc, .int .i64 (k : Nat), .pointer (some (od.add k)), .string (sb o), .slice (some pd) P cp, .int .i64 (k : Nat), .pointer (some (pd.add k)), .string (sb p), .bool true, .bool true] ⟨#[c0, c1, .int .i64 (M : Nat), .slice (some pd) P cp, c4, c5, c6, c7, c8, .pointer (some ⟨R, 0, none⟩), c10, .int .i64 (k : Nat), c12, c13, c14, c15, c16, c17, c18, c19, c20, c21, c22, c23, c24, c25, c26, c27, c28, c29, c30, c31, c32, c33, c34, c35, c36, c37, c38, c39, c40, c41, c42, c43, c44, c45, c46, c47, c48, c49], df⟩ L a ∧ Hid (Ext wr wc)) ⟨Inv.start, Lib.hid ((Ext.refl wr).drew)⟩ ?_ ?_
  · refine ⟨?_, ?_, ?_, ?_, ?_, ?_, ?_, ?_, ?_, ?_, ?_, ?_, ?_, ?_, ?_, ?_, ?_, trivial⟩
    ·
      rintro L a wc ⟨hv, HO⟩ hL hc hd
      exact wpOp_val rfl rfl (ex_move rfl ((hv.fixed 2 (by decide)).trans rfl)) ⟨hv.put df_other_apart 0 rfl (lb rfl) (lb rfl) rfl, HO⟩
    ·
      rintro L a wc ⟨hv, HO⟩ hL hc hd
      exact wpOp_val rfl rfl (ex_move rfl ((hv.fixed 11 (by decide)).trans rfl)) ⟨hv.put df_other_apart 1 rfl (lb rfl) (lb rfl) rfl, HO⟩
    ·
      rintro L a wc ⟨hv, HO⟩ hL hc hd
      have u0 : (0 : Int) ≤ (k : Int) := by omega
      have u1 : (k : Int) < 64 := by omega
      exact wpOp_val rfl rfl (ex_bin rfl (hv.get 0 rfl rfl (hd 0 (by decide))) (hv.get 1 rfl rfl (hd 1 (by decide))) (by go_simp)) ⟨hv.put df_other_apart 2 rfl (lb rfl) (lb rfl) rfl, HO⟩
    ·
      rintro L a wc ⟨hv, HO⟩ hL hc hd
      have u := HBB.out
      exact wpOp_val rfl rfl (ex_bin rfl (hv.get 2 rfl rfl (hd 2 (by decide))) rfl (by go_simp)) ⟨hv.put df_other_apart 3 rfl (lb rfl) (lb rfl) rfl, HO⟩
    ·
      rintro L a wc ⟨hv, HO⟩ hL hc hd
      exact wpOp_val rfl rfl (ex_bin rfl (hv.get 3 rfl rfl (hd 3 (by decide))) rfl (by go_simp)) ⟨hv.put df_other_apart 4 rfl (lb rfl) (lb rfl) rfl, HO⟩
    ·
      rintro L a wc ⟨hv, HO⟩ hL hc hd
      exact wpOp_val rfl rfl (ex_move rfl (hv.get 4 rfl rfl (hd 4 (by decide)))) ⟨hv.put df_other_apart 5 rfl (lb rfl) (lb rfl) rfl, HO⟩
    ·
      rintro L a wc ⟨hv, HO⟩ hL hc hd
      exact wpOp_val rfl ((wanted_at rfl rfl (hv.get 5 rfl rfl (hd 5 (by decide)))).trans rfl) (ex_field rfl ((hv.fixed 9 (by decide)).trans rfl) (by go_simp)) ⟨hv.put df_other_apart 6 rfl (lb rfl) (lb rfl) rfl, HO⟩
    ·
      rintro L a wc ⟨hv, HO⟩ hL hc hd
      have h0 : wc.cell? ⟨R, 0, none⟩ = some (.slice (some od) P oc) := HO.out.cell r0
      exact wpOp_val rfl ((wanted_at rfl rfl (hv.get 5 rfl rfl (hd 5 (by decide)))).trans rfl) (ex_load rfl (hv.get 6 rfl rfl (hd 6 (by decide))) (by go_simp)) ⟨hv.put df_other_apart 7 rfl (lb rfl) (lb rfl) rfl, HO⟩
    ·
      rintro L a wc ⟨hv, HO⟩ hL hc hd
      exact wpOp_val rfl ((wanted_at rfl rfl (hv.get 5 rfl rfl (hd 5 (by decide)))).trans rfl) (ex_move rfl ((hv.fixed 11 (by decide)).trans rfl)) ⟨hv.put df_other_apart 8 rfl (lb rfl) (lb rfl) rfl, HO⟩
    ·
      rintro L a wc ⟨hv, HO⟩ hL hc hd
      have u1 : (0 : Int) ≤ (k : Int) := by omega
      have u2 : (k : Int) < (P : Int) := by omega
      exact wpOp_val rfl ((wanted_at rfl rfl (hv.get 5 rfl rfl (hd 5 (by decide)))).trans rfl) (ex_index rfl (hv.get 7 rfl rfl (hd 7 (by decide))) (hv.get 8 rfl rfl (hd 8 (by decide))) (by go_simp)) ⟨hv.put df_other_apart 9 rfl (lb rfl) (lb rfl) rfl, HO⟩
    ·
      rintro L a wc ⟨hv, HO⟩ hL hc hd
      have h0 : wc.cell? (od.add k) = some (.string (sb o)) := HO.out.cell ho
      exact wpOp_val rfl ((wanted_at rfl rfl (hv.get 5 rfl rfl (hd 5 (by decide)))).trans rfl) (ex_load rfl (hv.get 9 rfl rfl (hd 9 (by decide))) (by go_simp)) ⟨hv.put df_other_apart 10 rfl (lb rfl) (lb rfl) rfl, HO⟩
    ·
      rintro L a wc ⟨hv, HO⟩ hL hc hd
      exact wpOp_val rfl ((wanted_at rfl rfl (hv.get 5 rfl rfl (hd 5 (by decide)))).trans rfl) (ex_move rfl ((hv.fixed 3 (by decide)).trans rfl)) ⟨hv.put df_other_apart 11 rfl (lb rfl) (lb rfl) rfl, HO⟩
    ·
      rintro L a wc ⟨hv, HO⟩ hL hc hd
      exact wpOp_val rfl ((wanted_at rfl rfl (hv.get 5 rfl rfl (hd 5 (by decide)))).trans rfl) (ex_move rfl ((hv.fixed 11 (by decide)).trans rfl)) ⟨hv.put df_other_apart 12 rfl (lb rfl) (lb rfl) rfl, HO⟩
    ·
      rintro L a wc ⟨hv, HO⟩ hL hc hd
      have u1 : (0 : Int) ≤ (k : Int) := by omega
      have u2 : (k : Int) < (P : Int) := by omega
      exact wpOp_val rfl ((wanted_at rfl rfl (hv.get 5 rfl rfl (hd 5 (by decide)))).trans rfl) (ex_index rfl (hv.get 11 rfl rfl (hd 11 (by decide))) (hv.get 12 rfl rfl (hd 12 (by decide))) (by go_simp)) ⟨hv.put df_other_apart 13 rfl (lb rfl) (lb rfl) rfl, HO⟩
    ·
      rintro L a wc ⟨hv, HO⟩ hL hc hd
      have h0 : wc.cell? (pd.add k) = some (.string (sb p)) := HO.out.cell hp
      exact wpOp_val rfl ((wanted_at rfl rfl (hv.get 5 rfl rfl (hd 5 (by decide)))).trans rfl) (ex_load rfl (hv.get 13 rfl rfl (hd 13 (by decide))) (by go_simp)) ⟨hv.put df_other_apart 14 rfl (lb rfl) (lb rfl) rfl, HO⟩
    ·
      rintro L a wc ⟨hv, HO⟩ hL hc hd
      have u := hs
      exact wpOp_val rfl ((wanted_at rfl rfl (hv.get 5 rfl rfl (hd 5 (by decide)))).trans rfl) (ex_bin rfl (hv.get 10 rfl rfl (hd 10 (by decide))) (hv.get 14 rfl rfl (hd 14 (by decide))) (by go_simp)) ⟨hv.put df_other_apart 15 rfl (lb rfl) (lb rfl) rfl, HO⟩
    ·
      rintro L a wc ⟨hv, HO⟩ hL hc hd
      exact wpOp_val rfl rfl (ex_pick rfl (hv.get 5 rfl rfl (hd 5 (by decide))) (hv.get 15 rfl rfl (hd 15 (by decide)))) ⟨hv.put df_other_apart 16 rfl (lb rfl) (lb rfl) rfl, HO⟩
  · rintro L a wc ⟨hv, HO⟩ hall
    show K a wc
    have ha := act_n rl50 hv.size hv.defers rfl
    simp +decide only [hv.fixed, hv.get 16 (d := 44) rfl rfl (hall 16 (by decide))] at ha
    rw [ha]
    exact hK _ _ _ _ _ _ _ _ _ _ _ _ _ _ _ _ wc HO.out
set_option maxHeartbeats 8000000 in
set_option maxRecDepth 100000 in
theorem r9Differ_any (d gl : Int) (gs : List (List Int)) (data : List UInt8) (pieces : List (List UInt8)) (M P cp : Nat) (PA : Option Addr) (G : Value) (w : World) (hG : Rs (Rs RI) w G gs) (hgn : gs.length ≤ 1000000) (h0 : Cd.check d gs gl = 0) (hP : (Cd.rowsOf d gs gl).length = P) (hM : M < 2 ^ P) (hP14 : P ≤ 14) (hdl : data.length ≤ 4096) (hp : Rs RS w (.slice PA P cp) pieces) :
    Calls Tryd.prog 38 #[.agg #[.int .i64 d, G, .int .i64 gl], .string (sb data), .int .i64 (M : Nat), .slice PA P cp] w fun e w' => e = .returned (.int .i64 (Lo.chTo M pieces (Cd.encode d gl gs data) P : Nat)) ∧ Ext w w' := by
  have HGN := Lib.hid hgn
  clear hgn
  obtain ⟨GA, Gc, rfl, _⟩ := hG.form
  obtain ⟨ng, hng⟩ : ∃ ng, gs.length = ng := ⟨_, rfl⟩
  rw [hng] at hG ⊢
  have hB := (Owns.start w (L := [no]) (by intro r hr; simp at hr; subst hr; exact ⟨rfl, rfl, rfl⟩)).new 0 #[.int .i64 d, .slice GA ng Gc, .int .i64 gl] 24 (by simp [maxLen])
  have HG := Lib.hid hG
  have HB : Hid (Owns w (w.alloc (.cells #[.int .i64 d, .slice GA ng Gc, .int .i64 gl] 24)) [⟨.slice (some ⟨w.heap.size, 0, none⟩) 3 3, 24, 1, 3, [.int .i64 d, .slice GA ng Gc, .int .i64 gl]⟩]) := Lib.hid hB
  have HNG := Lib.hid hng
  have HPP := Lib.hid (Rs.ext RS.ext _ _ _ _ HB.out.ext hp)
  clear hG hB hng hp
  have HPL := Lib.hid HPP.out.len
  have hP1 : 1 ≤ P := by have h1 := Cd.rowsOf_len h0; have h2 := Cd.check_ok h0; omega
  obtain ⟨pd, _, hpa, _, _⟩ := HPP.out.at (i := 0) (by rw [← HPL.out]; exact hP1)
  subst hpa
  have hM14 : M < 16384 := Nat.lt_of_lt_of_le hM (show 2 ^ P ≤ 2 ^ 14 from Nat.pow_le_pow_right (by decide) hP14)
  have hel := Cd.encode_len d gl gs data
  rw [hP] at hel
  have hee : Cd.encE d gl gs data = 0 := Cd.encE_ok h0 hdl
  have hll : Cd.encL d gl gs data = Cd.encode d gl gs data := Cd.encL_ok h0 hdl
  obtain ⟨own, hown⟩ : ∃ o, Cd.encode d gl gs data = o := ⟨_, rfl⟩
  rw [hown] at hel hll ⊢
  have HEL := Lib.hid (And.intro hel (And.intro hee hll))
  have HDL := Lib.hid hdl
  clear hel hee hll hown h0 hP hM hdl
  go_enter Tryd.func38, Tryd.ntmps38
  go_upto_region 1 with fail
  obtain ⟨C, hC⟩ : ∃ x, w.heap.size = x := ⟨_, rfl⟩
  rw [hC] at HB ⊢
  obtain ⟨w1, hw1⟩ : ∃ x, (w.alloc (.cells #[.int .i64 d, .slice GA ng Gc, .int .i64 gl] 24)) = x := ⟨_, rfl⟩
  rw [hw1] at HB HPP ⊢
  clear hw1 hC
  have HX := Lib.hid (Ext.refl w1)
  have hen := rEncode_any d gl gs data _ w1 (Rs.ext (Rs.ext RI.ext) _ _ _ _ (HB.out.ext.trans HX.out) HG.out) (by have := HDL.out; omega) HGN.out
  rw [HEL.out.2.1, HEL.out.2.2] at hen
  have HEN := Lib.hid hen
  clear hen
  have k00 : w1.cell? ⟨C, 0, none⟩ = some (.int .i64 d) := (HB.out.next HX.out).cell 0 rfl 0 rfl
  have k01 : w1.cell? ⟨C, 1, none⟩ = some (.slice GA ng Gc) := (HB.out.next HX.out).cell 0 rfl 1 rfl
  have k02 : w1.cell? ⟨C, 2, none⟩ = some (.int .i64 gl) := (HB.out.next HX.out).cell 0 rfl 2 rfl
  go_wp2_with fail
  refine HEN.out.mono ?_
  clear HEN k00 k01 k02
  rintro e w2 ⟨v, rfl, hv, hx⟩
  replace HX := Lib.hid (HX.out.trans hx)
  have HV0 := Lib.hid hv
  clear hv
  clear hx
  obtain ⟨OA, oc, rfl, _⟩ := HV0.out.form
  rw [HEL.out.1] at HV0 ⊢
  obtain ⟨od, _, hoa, _, _⟩ := HV0.out.at (i := 0) (by rw [HEL.out.1]; exact hP1)
  subst hoa
  have hQ1 : Owns w1 (w2.alloc (.cells #[.slice (some od) P oc, .int .i64 0] 99)) [⟨.slice (some ⟨w2.heap.size, 0, none⟩) 2 2, 99, 1, 2, [.slice (some od) P oc, .int .i64 0]⟩] := (((Owns.start w1 (L := [no]) (by intro r hr; simp at hr; subst hr; exact ⟨rfl, rfl, rfl⟩)).next HX.out).new 0 #[.slice (some od) P oc, .int .i64 0] 99 (by simp [maxLen]))
  have HQ := Lib.hid hQ1
  have HV := Lib.hid (Rs.ext RS.ext _ _ _ _ ((Ext.refl w2).alloc (.cells #[.slice (some od) P oc, .int .i64 0] 99)) HV0.out)
  clear hQ1 HV0
  go_upto_region 2 with fail
  obtain ⟨R, hR⟩ : ∃ x, w2.heap.size = x := ⟨_, rfl⟩
  obtain ⟨w3, hw3⟩ : ∃ x, w2.alloc (.cells #[.slice (some od) P oc, .int .i64 0] 99) = x := ⟨_, rfl⟩
  rw [hR, hw3] at HQ
  rw [hw3] at HV
  rw [hR, hw3]
  clear hR hw3
  replace HX := Lib.hid HQ.out.ext
  replace HPP := Lib.hid (Rs.ext RS.ext _ _ _ _ HX.out HPP.out)
  go_wp2_with fail
  go_loopw [10, 11] (fun v10 v11 wr => ∃ k : Nat, k ≤ P ∧ v11 = .int .i64 (k : Nat) ∧ v10 = .int .i64 (Lo.chTo M pieces own k : Nat) ∧ Hid (Ext w3 wr)) (fun _ v11 _ => P - (intOf v11).toNat)
  case atStart => exact ⟨0, Nat.zero_le _, rfl, by rw [Lo.chTo_zero]; rfl, Lib.hid (Ext.refl _)⟩
  case round =>
    obtain ⟨k, hk, rfl, rfl, HI⟩ := hrel
    have hclt := Lo.chTo_lt (m := M) (l := pieces) (own := own) k
    have r0 : wr.cell? ⟨R, 0, none⟩ = some (.slice (some od) P oc) := (HQ.out.next HI.out).cell 0 rfl 0 rfl
    by_cases hkP : k < P
    · have hmm : bits .and .i64 ((M : Int) / 2 ^ k) 1 = ((Cd.bitAt M k : Nat) : Int) := by
        have hle : M / 2 ^ k ≤ M := Nat.div_le_self _ _
        have := odd64 (M / 2 ^ k) (by omega)
        rw [Cd.bitAt, ← this]
        simp
      have hkl : k < pieces.length := by rw [← HPL.out]; exact hkP
      have hko : k < own.length := by rw [HEL.out.1]; exact hkP
      obtain ⟨ad, u, hve, hco, hu⟩ := (Rs.ext RS.ext _ _ _ _ HI.out HV.out).at (i := k) hko
      injection hve with hve
      subst hve
      have hu' : u = sv (own[k]'hko) := hu
      subst hu'
      obtain ⟨ad, u, hve, hcp, hu2⟩ := (Rs.ext RS.ext _ _ _ _ HI.out HPP.out).at (i := k) hkl
      injection hve with hve
      subst hve
      have hu2' : u = sv (pieces[k]'hkl) := hu2
      subst hu2'
      have hog : own.getD k [] = own[k]'hko := by rw [List.getD_eq_getElem?_getD, List.getElem?_eq_getElem hko]; rfl
      have hpg : pieces.getD k [] = pieces[k]'hkl := by rw [List.getD_eq_getElem?_getD, List.getElem?_eq_getElem hkl]; rfl
      rw [← hog] at hco
      rw [← hpg] at hcp
      clear hu hu2 hog hpg
      obtain ⟨c, hc⟩ : ∃ c, Lo.chTo M pieces own k = c := ⟨_, rfl⟩
      rw [hc] at hclt ⊢
      obtain ⟨p2, hp2⟩ : ∃ p2, 2 ^ k = p2 := ⟨_, rfl⟩
      have hp14 : p2 ≤ 16384 := by rw [← hp2]; exact (show 2 ^ k ≤ 2 ^ 14 from Nat.pow_le_pow_right (by decide) (by omega))
      rw [hp2] at hclt
      have hw2 : wrap64 (2 ^ k) = (p2 : Int) := by have h := wrap_pow k (by omega); rw [h, ← hp2]
      obtain ⟨pp, hpp⟩ : ∃ p, pieces.getD k [] = p := ⟨_, rfl⟩
      obtain ⟨op, hop⟩ : ∃ p, own.getD k [] = p := ⟨_, rfl⟩
      rw [hpp] at hcp
      rw [hop] at hco
      by_cases hbt : Cd.bitAt M k = 1
      · rw [hbt] at hmm
        by_cases heq : op = pp
        · have hs := sb_same heq
          have HN := Lib.hid (Lo.chTo_no (m := M) (k := k) (l := pieces) (own := own) (.inr (by rw [hpp, hop]; exact heq.symm)))
          have HCC := Lib.hid hc
          have HBB := Lib.hid hmm
          clear hc hpp hop heq hbt hw2 hp2 hmm
          go_upto_region 6 with fail
          refine wp_atEnd' (df_same wr M k P oc cp R od pd hkP hP14 HBB op pp r0 hco hcp hs _ _ _ _ _ _ _ _ _ _ _ _ _ _ _ _ _ _ _ _ _ _ _ _ _ _ _ _ _ _ _ _ _ _ _ _ _ _ _ _ _ _ _ _ _ _ _ _ ?_)
          rintro u28 u29 u30 u31 u32 u33 u34 u35 u36 u37 u38 u39 u40 u41 u42 u43 wy hx
          have HY := Lib.hid hx
          clear hx r0 hcp hco hs
          go_wp2_with fail
          go_roundw
          case rel => exact ⟨k + 1, by omega, by go_num, by rw [HN.out, HCC.out], Lib.hid (HI.out.trans HY.out)⟩
          case measure => simp [intOf]; omega
        · have hs := sb_other heq
          have HN := Lib.hid (Lo.chTo_yes (m := M) (k := k) (l := pieces) (own := own) hbt (by rw [hpp, hop]; exact fun e => heq e.symm))
          have HCC := Lib.hid (And.intro hc hp2)
          have HBB := Lib.hid hmm
          have hcw := wrap_small c p2 (Nat.lt_of_lt_of_le hclt (Nat.le_trans hp14 (by decide))) (Nat.lt_of_le_of_lt hp14 (by decide))
          obtain ⟨z, hz⟩ : ∃ z, c + p2 = z := ⟨_, rfl⟩
          rw [hz] at hcw
          have HZ := Lib.hid hz
          clear hc hpp hop heq hbt hp2 hmm hz
          go_upto_region 6 with fail
          refine wp_atEnd' (df_other wr M k P oc cp R od pd hkP hP14 HBB op pp r0 hco hcp hs _ _ _ _ _ _ _ _ _ _ _ _ _ _ _ _ _ _ _ _ _ _ _ _ _ _ _ _ _ _ _ _ _ _ _ _ _ _ _ _ _ _ _ _ _ _ _ _ ?_)
          rintro u28 u29 u30 u31 u32 u33 u34 u35 u36 u37 u38 u39 u40 u41 u42 u43 wy hx
          have HY := Lib.hid hx
          clear hx r0 hcp hco hs
          go_wp2_with fail
          clear hw2 hcw
          go_roundw
          case rel => exact ⟨k + 1, by omega, by go_num, by rw [HN.out, HCC.out.1, HCC.out.2]; go_num, Lib.hid (HI.out.trans HY.out)⟩
          case measure => simp [intOf]; omega
      · have hb0 : Cd.bitAt M k = 0 := by have := Lo.bit_two M k; omega
        rw [hb0] at hmm
        have HN := Lib.hid (Lo.chTo_no (m := M) (k := k) (l := pieces) (own := own) (.inl hbt))
        have HCC := Lib.hid hc
        have HBB := Lib.hid hmm
        clear hc hpp hop hbt hw2 hp2 hmm hb0 hcp hco
        go_upto_region 6 with fail
        refine wp_atEnd' (df_no wr M k P cp R pd hkP hP14 HBB _ _ _ _ _ _ _ _ _ _ _ _ _ _ _ _ _ _ _ _ _ _ _ _ _ _ _ _ _ _ _ _ _ _ _ _ _ _ _ _ _ _ _ _ _ _ _ _ ?_)
        rintro u28 u29 u30 u31 u32 u33 u34 u35 u36 u37 u38 u39 u40 u41 u42 u43 wy hx
        have HY := Lib.hid hx
        clear hx r0
        go_wp2_with fail
        go_roundw
        case rel => exact ⟨k + 1, by omega, by go_num, by rw [HN.out, HCC.out], Lib.hid (HI.out.trans HY.out)⟩
        case measure => simp [intOf]; omega
    · obtain rfl : k = P := by omega
      go_wp2_with fail
      go_ret
      exact ⟨rfl, HB.out.ext.trans (HX.out.trans HI.out)⟩
end Go.Proofs.YtggfkpalkdkbdaaDoor

/- THE WALK over fit of quietusref09. -/
namespace Lo
open Cd
/-- The rows of the pieces of a set up to k. -/
def pre_ (R pieces : List (List UInt8)) (m k : Nat) : List Row := (els m k 0).map fun j => (R.getD j [], pieces.getD j [])
theorem pre_zero (R pieces : List (List UInt8)) (m : Nat) : pre_ R pieces m 0 = [] := by rw [pre_, els_end (Nat.le_refl _)]; rfl
theorem pre_yes {R pieces : List (List UInt8)} {m k : Nat} (h : bitAt m k = 1) : pre_ R pieces m (k + 1) = pre_ R pieces m k ++ [(R.getD k [], pieces.getD k [])] := by
  unfold pre_; rw [els_snoc, if_pos h, List.map_append]; rfl
theorem pre_no {R pieces : List (List UInt8)} {m k : Nat} (h : bitAt m k ≠ 1) : pre_ R pieces m (k + 1) = pre_ R pieces m k := by
  unfold pre_; rw [els_snoc, if_neg h, List.append_nil]
theorem pre_end {R pieces : List (List UInt8)} {m : Nat} : pre_ R pieces m R.length = some_ R pieces m := rfl
end Lo
namespace Go.Proofs.YtggfkpalkdkbdaaDoor
open Go.RowKit
theorem Owns.made {w0 w : World} {L : List LRow} (h : Owns w0 w L) (cs : Array Value) (e : TypeId) (hm : cs.size ≤ maxLen) : Owns w0 (w.alloc (.cells cs e)) (⟨.slice (some ⟨w.heap.size, 0, none⟩) cs.size cs.size, e, 1, cs.size, cs.toList⟩ :: L) := by
  have := h.wider.new L.length cs e hm
  rw [show ∀ r : LRow, (L ++ [no]).set L.length r = L ++ [r] from fun r => by simp] at this
  exact this.perm (List.perm_append_singleton _ _)
theorem Owns.tail {w0 w : World} {L : List LRow} {r : LRow} (h : Owns w0 w (r :: L)) : Owns w0 w L := h.sublist (List.sublist_cons_self _ _)
/-- The two lists of fit: the rows as they are, and the rows with their bytes. -/
def FitO (w0 W : World) (d L ac bc : Nat) (aA bA : Option Addr) (S : List Lo.Row) : Prop := ∃ (av bs : List Value) (LL : List LRow),
  Owns w0 W (⟨.slice aA S.length ac, 48, 1, S.length, av⟩ :: ⟨.slice bA S.length bc, 48, 1, S.length, bs⟩ :: LL) ∧ av.length = S.length ∧ bs.length = S.length ∧
  (∀ i, i < S.length → Rs RB w0 (av.getD i (.slice none 0 0)) (S.getD i ([], [])).1) ∧
  ∀ i, i < S.length → ∃ g c, bs[i]? = some (.slice (some ⟨g, 0, none⟩) (d + L) c) ∧ (⟨.slice (some ⟨g, 0, none⟩) (d + L) c, 5, 1, d + L, (Lo.glue (S.getD i ([], []))).map bv⟩ : LRow) ∈ LL
theorem FitO.ext {w0 W : World} {d L ac bc : Nat} {aA bA : Option Addr} {S : List Lo.Row} (h : FitO w0 W d L ac bc aA bA S) : Ext w0 W := by
  obtain ⟨av, bs, LL, h1, _⟩ := h; exact h1.ext
theorem getD_lt {α : Type} {l : List α} {i : Nat} {x : α} (h : i < l.length) : l.getD i x = l[i] := by rw [List.getD_eq_getElem?_getD, List.getElem?_eq_getElem h]; rfl
theorem FitO.rsA {w0 W : World} {d L ac bc : Nat} {aA bA : Option Addr} {S : List Lo.Row} (h : FitO w0 W d L ac bc aA bA S) (hl : S.length ≤ 1000) : Rs (Rs RB) W (.slice aA S.length ac) (S.map Prod.fst) := by
  obtain ⟨av, bs, LL, h1, h2, h3, h4, h5⟩ := h
  refine ⟨aA, ac, by rw [List.length_map], by rw [List.length_map]; omega, fun i x hi => ?_⟩
  have hin := (List.getElem?_eq_some_iff.1 hi).1
  rw [List.length_map] at hin
  have hx : (S.getD i ([], [])).1 = x := by
    rw [List.getElem?_map, List.getElem?_eq_getElem hin] at hi
    rw [getD_lt hin]
    exact Option.some.inj hi
  obtain ⟨ad, hA1, _, hc⟩ := h1.rd 0 rfl i (av.getD i (.slice none 0 0)) (by rw [getD_lt (by omega), List.getElem?_eq_getElem (by omega)])
  refine ⟨ad, _, hA1, hc, ?_⟩
  rw [← hx]
  exact Rs.ext RB.ext _ _ _ _ h1.ext (h4 i hin)
theorem FitO.rsB {w0 W : World} {d L ac bc : Nat} {aA bA : Option Addr} {S : List Lo.Row} (h : FitO w0 W d L ac bc aA bA S) (hw : Lo.Wide d L S) (hl : S.length ≤ 1000) (hd : d + L ≤ 1000) : Rs (Rs RB) W (.slice bA S.length bc) (S.map Lo.glue) := by
  obtain ⟨av, bs, LL, h1, h2, h3, h4, h5⟩ := h
  refine ⟨bA, bc, by rw [List.length_map], by rw [List.length_map]; omega, fun i x hi => ?_⟩
  have hin := (List.getElem?_eq_some_iff.1 hi).1
  rw [List.length_map] at hin
  have hx : Lo.glue (S.getD i ([], [])) = x := by
    rw [List.getElem?_map, List.getElem?_eq_getElem hin] at hi
    rw [getD_lt hin]
    exact Option.some.inj hi
  obtain ⟨g, c, hv, hm⟩ := h5 i hin
  obtain ⟨ad, hA1, _, hc⟩ := h1.rd 1 rfl i _ hv
  refine ⟨ad, _, hA1, hc, ?_⟩
  have hok := own_rd (h1.all _ (List.mem_cons_of_mem _ (List.mem_cons_of_mem _ hm)))
  rw [hx] at hok
  have hxl : x.length = d + L := by
    rw [← hx, getD_lt hin]
    have := hw _ (List.getElem_mem hin)
    unfold Lo.glue
    rw [List.length_append, this.1, this.2]
  have := Rs.of_rd (c := c) hok (by omega)
  rw [hxl] at this
  exact this
theorem FitO.grow {w0 W : World} {d L ac bc n : Nat} {aA bA : Option Addr} {S : List Lo.Row} {av bs : List Value} {LL : List LRow} {u : Value} {p q : List UInt8} {g c : Nat} (hn : S.length = n)
    (h1 : Owns w0 W (⟨.slice aA (n + 1) ac, 48, 1, n + 1, av ++ [u]⟩ :: ⟨.slice bA (n + 1) bc, 48, 1, n + 1, bs ++ [.slice (some ⟨g, 0, none⟩) (d + L) c]⟩ :: ⟨.slice (some ⟨g, 0, none⟩) (d + L) c, 5, 1, d + L, (p ++ q).map bv⟩ :: LL)) (h2 : av.length = n) (h3 : bs.length = n) (hu : Rs RB w0 u p)
    (h4 : ∀ i, i < n → Rs RB w0 (av.getD i (.slice none 0 0)) (S.getD i ([], [])).1)
    (h5 : ∀ i, i < n → ∃ g c, bs[i]? = some (.slice (some ⟨g, 0, none⟩) (d + L) c) ∧ (⟨.slice (some ⟨g, 0, none⟩) (d + L) c, 5, 1, d + L, (Lo.glue (S.getD i ([], []))).map bv⟩ : LRow) ∈ LL) : FitO w0 W d L ac bc aA bA (S ++ [(p, q)]) := by
  subst hn
  have hl : (S ++ [(p, q)]).length = S.length + 1 := by simp
  have hlo : ∀ i, i < S.length → (S ++ [(p, q)]).getD i ([], []) = S.getD i ([], []) := fun i hi => by rw [List.getD_eq_getElem?_getD, List.getElem?_append_left hi, ← List.getD_eq_getElem?_getD]
  have hhi : (S ++ [(p, q)]).getD S.length ([], []) = (p, q) := by rw [List.getD_eq_getElem?_getD, List.getElem?_append_right (Nat.le_refl _), Nat.sub_self]; rfl
  refine ⟨av ++ [u], bs ++ [.slice (some ⟨g, 0, none⟩) (d + L) c], ⟨.slice (some ⟨g, 0, none⟩) (d + L) c, 5, 1, d + L, (p ++ q).map bv⟩ :: LL, by rw [hl]; exact h1, by rw [hl, List.length_append, h2]; rfl, by rw [hl, List.length_append, h3]; rfl, fun i hi => ?_, fun i hi => ?_⟩
  · rw [hl] at hi
    by_cases e : i = S.length
    · rw [e, hhi, List.getD_eq_getElem?_getD, List.getElem?_append_right (by omega), h2, Nat.sub_self]; exact hu
    · rw [hlo i (by omega), List.getD_eq_getElem?_getD, List.getElem?_append_left (by omega), ← List.getD_eq_getElem?_getD]; exact h4 i (by omega)
  · rw [hl] at hi
    by_cases e : i = S.length
    · refine ⟨g, c, by rw [e, List.getElem?_append_right (by omega), h3, Nat.sub_self]; rfl, ?_⟩
      rw [e, hhi]; exact List.mem_cons_self
    · obtain ⟨g', c', e1, e2⟩ := h5 i (by omega)
      refine ⟨g', c', by rw [List.getElem?_append_left (by omega)]; exact e1, ?_⟩
      rw [hlo i (by omega)]; exact List.mem_cons_of_mem _ e2
noncomputable def ft15_code : Code := ((Tryd.f42.body.bind (regionOf 15)).getD .skip)
def ft15_dsts : List (Option Nat) := [some 59, some 60, some 61, some 62, some 63, some 64, some 65, some 66, some 67, some 68, some 69, some 8]
theorem ft15_apart : apartD ft15_dsts = true := by decide +kernel
set_option maxRecDepth 1000000 in
set_option maxHeartbeats 16000000 in
theorem ft15 (wr : World) (C D Lw S n m ac bc ra rb : Nat) (aA bA : Option Addr) (be : Bool) (k0 : wr.cell? ⟨C, 0, none⟩ = some (.int .i64 D)) (hw : IntKind.i64.wrap ((D : Int) + (Lw : Int)) = (S : Int)) (HE : Hid (((ra : Int) == (rb : Int)) = be)) (HA : Hid (∀ w1 : World, Ext wr w1 → Calls Tryd.prog 77 #[.slice aA n ac, .int .i64 (D : Nat)] w1 fun e w' => e = .returned (.int .i64 (ra : Nat)) ∧ Ext w1 w')) (HB : Hid (∀ w1 : World, Ext wr w1 → Calls Tryd.prog 77 #[.slice bA m bc, .int .i64 (S : Nat)] w1 fun e w' => e = .returned (.int .i64 (rb : Nat)) ∧ Ext w1 w')) (c0 c1 c2 c5 c6 c7 c8 c9 c12 c13 c14 c15 c16 c17 c18 c19 c20 c21 c22 c23 c24 c25 c26 c27 c28 c29 c30 c31 c32 c33 c34 c35 c36 c37 c38 c39 c40 c41 c42 c43 c44 c45 c46 c47 c48 c49 c50 c51 c52 c53 c54 c55 c56 c57 c58 c59 c60 c61 c62 c63 c64 c65 c66 c67 c68 c69 : Value) (df : List Deferred) (K : Act → World → Prop)
    (hK : ∀  (u59 u60 u61 u62 u63 u64 u65 u66 u67 u68 u69 : Value) (wx : World), Ext wr wx → K ⟨#[c0, c1, c2, .int .i64 (Lw : Nat), .pointer (some ⟨C, 0, none⟩), c5, c6, c7, .bool be, c9, .slice aA n ac, .slice bA m bc, c12, c13, c14, c15, c16, c17, c18, c19, c20, c21, c22, c23, c24, c25, c26, c27, c28, c29, c30, c31, c32, c33, c34, c35, c36, c37, c38, c39, c40, c41, c42, c43, c44, c45, c46, c47, c48, c49, c50, c51, c52, c53, c54, c55, c56, c57, c58, u59, u60, u61, u62, u63, u64, u65, u66, u67, u68, u69], df⟩ wx) :
    Code.wp Tryd.prog ft15_code (AtEnd K) ⟨#[c0, c1, c2, .int .i64 (Lw : Nat), .pointer (some ⟨C, 0, none⟩), c5, c6, c7, c8, c9, .slice aA n ac, .slice bA m bc, c12, c13, c14, c15, c16, c17, c18, c19, c20, c21, c22, c23, c24, c25, c26, c27, c28, c29, c30, c31, c32, c33, c34, c35, c36, c37, c38, c39, c40, c41, c42, c43, c44, c45, c46, c47, c48, c49, c50, c51, c52, c53, c54, c55, c56, c57, c58, c59, c60, c61, c62, c63, c64, c65, c66, c67, c68, c69], df⟩ wr := by
  conv => arg 2; whnf
  refine region_inv (by kernel_rfl) [[], [], [1], [0, 2], [], [], [5], [], [6, 7], [4, 8, 3], [3, 9], [10, 9, 0, 1, 2, 3, 4, 5, 6, 7, 8, 9, 10]] (by kernel_rfl) [0, 1, 2, 3, 4, 5, 6, 7, 8, 9, 10, 11] (by decide +kernel) (by decide +kernel) (by decide +kernel) (fun L a wc => Inv ft15_dsts [.slice aA n ac, .pointer (some ⟨C, 0, none⟩), .int .i64 D, .int .i64 (ra : Nat), .slice bA m bc, .pointer (some ⟨C, 0, none⟩), .int .i64 D, .int .i64 (Lw : Nat), .int .i64 (S : Nat), .int .i64 (rb : Nat), .bool be, .bool be] ⟨#[c0, c1, c2, .int .i64 (Lw : Nat), .pointer (some ⟨C, 0, none⟩), c5, c6, c7, c8, c9, .slice aA n ac, .slice bA m bc, c12, c13, c14, c15, c16, c17, c18, c19, c20, c21, c22, c23, c24, c25, c26, c27, c28, c29, c30, c31, c32, c33, c34, c35, c36, c37, c38, c39, c40, c41, c42, c43, c44, c45, c46, c47, c48, c49, c50, c51, c52, c53, c54, c55, c56, c57, c58, c59, c60, c61, c62, c63, c64, c65, c66, c67, c68, c69], df⟩ L a ∧ Hid (Ext wr wc)) ⟨Inv.start, Lib.hid ((Ext.refl wr).drew)⟩ ?_ ?_
  · refine ⟨?_, ?_, ?_, ?_, ?_, ?_, ?_, ?_, ?_, ?_, ?_, ?_, trivial⟩
    ·
      rintro L a wc ⟨hv, HO⟩ hL hc hd
      exact wpOp_val rfl rfl (ex_move rfl ((hv.fixed 10 (by decide)).trans rfl)) ⟨hv.put ft15_apart 0 rfl (lb rfl) (lb rfl) rfl, HO⟩
    ·
      rintro L a wc ⟨hv, HO⟩ hL hc hd
      exact wpOp_val rfl rfl (ex_field rfl ((hv.fixed 4 (by decide)).trans rfl) (by go_simp)) ⟨hv.put ft15_apart 1 rfl (lb rfl) (lb rfl) rfl, HO⟩
    ·
      rintro L a wc ⟨hv, HO⟩ hL hc hd
      have h0 : wc.cell? ⟨C, 0, none⟩ = some (.int .i64 D) := HO.out.cell k0
      exact wpOp_val rfl rfl (ex_load rfl (hv.get 1 rfl rfl (hd 1 (by decide))) (by go_simp)) ⟨hv.put ft15_apart 2 rfl (lb rfl) (lb rfl) rfl, HO⟩
    ·
      rintro L a wc ⟨hv, HO⟩ hL hc hd
      refine wpOp_call (R := fun v w1 => v = .int .i64 (ra : Nat) ∧ Ext wc w1) rfl rfl (ex_call rfl rfl (map2c (hv.get 0 rfl rfl (hd 0 (by decide))) (hv.get 2 rfl rfl (hd 2 (by decide)))) (enters_of Tryd.func77 (by kernel_rfl) rfl _ _)) ((HA.out wc HO.out).mono (fun e w' h => ⟨_, h.1, rfl, h.2⟩)) ?_
      rintro v w' ⟨rfl, hx⟩
      exact ⟨hv.put ft15_apart 3 rfl (lb rfl) (lb rfl) rfl, Lib.hid (HO.out.trans hx)⟩
    ·
      rintro L a wc ⟨hv, HO⟩ hL hc hd
      exact wpOp_val rfl rfl (ex_move rfl ((hv.fixed 11 (by decide)).trans rfl)) ⟨hv.put ft15_apart 4 rfl (lb rfl) (lb rfl) rfl, HO⟩
    ·
      rintro L a wc ⟨hv, HO⟩ hL hc hd
      exact wpOp_val rfl rfl (ex_field rfl ((hv.fixed 4 (by decide)).trans rfl) (by go_simp)) ⟨hv.put ft15_apart 5 rfl (lb rfl) (lb rfl) rfl, HO⟩
    ·
      rintro L a wc ⟨hv, HO⟩ hL hc hd
      have h0 : wc.cell? ⟨C, 0, none⟩ = some (.int .i64 D) := HO.out.cell k0
      exact wpOp_val rfl rfl (ex_load rfl (hv.get 5 rfl rfl (hd 5 (by decide))) (by go_simp)) ⟨hv.put ft15_apart 6 rfl (lb rfl) (lb rfl) rfl, HO⟩
    ·
      rintro L a wc ⟨hv, HO⟩ hL hc hd
      exact wpOp_val rfl rfl (ex_move rfl ((hv.fixed 3 (by decide)).trans rfl)) ⟨hv.put ft15_apart 7 rfl (lb rfl) (lb rfl) rfl, HO⟩
    ·
      rintro L a wc ⟨hv, HO⟩ hL hc hd
      have u := hw
      exact wpOp_val rfl rfl (ex_bin rfl (hv.get 6 rfl rfl (hd 6 (by decide))) (hv.get 7 rfl rfl (hd 7 (by decide))) (by go_simp)) ⟨hv.put ft15_apart 8 rfl (lb rfl) (lb rfl) rfl, HO⟩
    ·
      rintro L a wc ⟨hv, HO⟩ hL hc hd
      refine wpOp_call (R := fun v w1 => v = .int .i64 (rb : Nat) ∧ Ext wc w1) rfl rfl (ex_call rfl rfl (map2c (hv.get 4 rfl rfl (hd 4 (by decide))) (hv.get 8 rfl rfl (hd 8 (by decide)))) (enters_of Tryd.func77 (by kernel_rfl) rfl _ _)) ((HB.out wc HO.out).mono (fun e w' h => ⟨_, h.1, rfl, h.2⟩)) ?_
      rintro v w' ⟨rfl, hx⟩
      exact ⟨hv.put ft15_apart 9 rfl (lb rfl) (lb rfl) rfl, Lib.hid (HO.out.trans hx)⟩
    ·
      rintro L a wc ⟨hv, HO⟩ hL hc hd
      have u := HE.out
      exact wpOp_val rfl rfl (ex_bin rfl (hv.get 3 rfl rfl (hd 3 (by decide))) (hv.get 9 rfl rfl (hd 9 (by decide))) (by go_simp)) ⟨hv.put ft15_apart 10 rfl (lb rfl) (lb rfl) rfl, HO⟩
    ·
      rintro L a wc ⟨hv, HO⟩ hL hc hd
      exact wpOp_val rfl rfl (ex_assign rfl (hv.get 10 rfl rfl (hd 10 (by decide)))) ⟨hv.put ft15_apart 11 rfl (lb rfl) (lb rfl) rfl, HO⟩
  · rintro L a wc ⟨hv, HO⟩ hall
    show K a wc
    have ha := act_n rl70 hv.size hv.defers rfl
    simp +decide only [hv.fixed, hv.get 11 (d := 8) rfl rfl (hall 11 (by decide))] at ha
    rw [ha]
    exact hK _ _ _ _ _ _ _ _ _ _ _ wc HO.out
set_option maxHeartbeats 16000000 in
set_option maxRecDepth 100000 in
theorem r9Fit_any (D gl : Nat) (gs : List (List Int)) (m L P cp : Nat) (pieces : List (List UInt8)) (PA : Option Addr) (G : Value) (w : World) (hG : Rs (Rs RI) w G gs) (hgn : gs.length ≤ 1000000) (h0 : Cd.check D gs gl = 0) (hP : (Cd.rowsOf D gs gl).length = P) (hP14 : P ≤ 14) (hm : m < 2 ^ P) (hp : Rs RS w (.slice PA P cp) pieces) (hsz : ∀ k, k < P → Cd.bitAt m k = 1 → (pieces.getD k []).length = L) (hL : L ≤ 900) :
    Calls Tryd.prog 42 #[.agg #[.int .i64 D, G, .int .i64 gl], .int .i64 (m : Nat), .slice PA P cp, .int .i64 (L : Nat)] w fun e w' => e = .returned (.bool (Lo.agree (Lo.some_ (Cd.rowsOf D gs gl) pieces m))) ∧ Ext w w' := by
  have HGN := Lib.hid hgn
  clear hgn
  obtain ⟨GA, Gc, rfl, _⟩ := hG.form
  obtain ⟨ng, hng⟩ : ∃ ng, gs.length = ng := ⟨_, rfl⟩
  rw [hng] at hG ⊢
  have hB := (Owns.start w (L := [no]) (by intro r hr; simp at hr; subst hr; exact ⟨rfl, rfl, rfl⟩)).new 0 #[.int .i64 D, .slice GA ng Gc, .int .i64 gl] 24 (by simp [maxLen])
  have HG := Lib.hid hG
  have HB : Hid (Owns w (w.alloc (.cells #[.int .i64 D, .slice GA ng Gc, .int .i64 gl] 24)) [⟨.slice (some ⟨w.heap.size, 0, none⟩) 3 3, 24, 1, 3, [.int .i64 D, .slice GA ng Gc, .int .i64 gl]⟩]) := Lib.hid hB
  have HNG := Lib.hid hng
  have HPP := Lib.hid (Rs.ext RS.ext _ _ _ _ HB.out.ext hp)
  clear hG hB hng hp
  have hk := Cd.check_ok h0
  have hrl := Cd.rowsOf_len h0
  have hm14 : m < 16384 := Nat.lt_of_lt_of_le hm (show 2 ^ P ≤ 2 ^ 14 from Nat.pow_le_pow_right (by decide) hP14)
  have hwid : Lo.Wide D L (Lo.some_ (Cd.rowsOf D gs gl) pieces m) := by
    have := Lo.some_wide h0 (pieces := pieces) (m := m) (L := L) (fun k hk hb => hsz k (by rw [← hP]; exact hk) hb)
    rw [Int.toNat_natCast] at this
    exact this
  have hrow : ∀ k, k < P → ((Cd.rowsOf D gs gl).getD k []).length = D := fun k hk => by
    have := Cd.rowsOf_at h0 (k := k) (by rw [hP]; exact hk)
    rw [Int.toNat_natCast] at this
    exact this
  have hpe := Lo.pre_end (R := Cd.rowsOf D gs gl) (pieces := pieces) (m := m)
  rw [hP] at hpe hrl
  obtain ⟨M, hM⟩ : ∃ M, Cd.rowsOf D gs gl = M := ⟨_, rfl⟩
  rw [hM] at hpe hwid hrow hP ⊢
  have HW := Lib.hid (And.intro hwid (And.intro hrow (And.intro hpe (And.intro hP hsz))))
  have HM := Lib.hid hM
  have hD16 : D ≤ 16 := by omega
  have hD1 : 1 ≤ D := by omega
  have hP1 : 1 ≤ P := by omega
  clear hwid hrow hpe hP hM h0 hsz hk hrl hm
  obtain ⟨pd, _, hpa, _, _⟩ := HPP.out.at (i := 0) (by rw [← HPP.out.len]; exact hP1)
  subst hpa
  have HPL := Lib.hid HPP.out.len
  go_enter Tryd.func42, Tryd.ntmps42
  go_upto_region 1 with fail
  obtain ⟨C, hC⟩ : ∃ x, w.heap.size = x := ⟨_, rfl⟩
  rw [hC] at HB ⊢
  obtain ⟨w1, hw1⟩ : ∃ x, (w.alloc (.cells #[.int .i64 D, .slice GA ng Gc, .int .i64 gl] 24)) = x := ⟨_, rfl⟩
  rw [hw1] at HB HPP ⊢
  clear hw1 hC
  have HX := Lib.hid (Ext.refl w1)
  have hrr := rRows_any D gl gs _ w1 (Rs.ext (Rs.ext RI.ext) _ _ _ _ (HB.out.ext.trans HX.out) HG.out) HGN.out
  rw [HM.out] at hrr
  have HRR := Lib.hid hrr
  clear hrr
  have k00 : w1.cell? ⟨C, 0, none⟩ = some (.int .i64 D) := (HB.out.next HX.out).cell 0 rfl 0 rfl
  have k01 : w1.cell? ⟨C, 1, none⟩ = some (.slice GA ng Gc) := (HB.out.next HX.out).cell 0 rfl 1 rfl
  have k02 : w1.cell? ⟨C, 2, none⟩ = some (.int .i64 gl) := (HB.out.next HX.out).cell 0 rfl 2 rfl
  go_wp2_with fail
  refine HRR.out.mono ?_
  clear HRR k00 k01 k02
  rintro e w2 ⟨v, rfl, hv, hx⟩
  replace HX := Lib.hid (HX.out.trans hx)
  have HV0 := Lib.hid hv
  clear hv
  replace HPP := Lib.hid (Rs.ext RS.ext _ _ _ _ hx HPP.out)
  clear hx
  obtain ⟨VA, vc, rfl, _⟩ := HV0.out.form
  rw [HW.out.2.2.2.1] at HV0 ⊢
  obtain ⟨vd, _, hva, _, _⟩ := HV0.out.at (i := 0) (by rw [HW.out.2.2.2.1]; exact hP1)
  subst hva
  have HC : Hid (∀ wr, Ext w2 wr → wr.cell? ⟨C, 0, none⟩ = some (.int .i64 D)) := Lib.hid fun wr h => (HB.out.next (HX.out.trans h)).cell 0 rfl 0 rfl
  go_wp2_with fail
  go_loopw [10, 11, 12, 13, 14] (fun v10 v11 v12 _ _ wr => ∃ (k n ac bc : Nat) (aA bA : Option Addr), k ≤ P ∧ n ≤ k ∧ v12 = .int .i64 (k : Nat) ∧ v10 = .slice aA n ac ∧ v11 = .slice bA n bc ∧ Hid ((Lo.pre_ M pieces m k).length = n ∧ FitO w2 wr D L ac bc aA bA (Lo.pre_ M pieces m k))) (fun _ _ v12 _ _ _ => P - (intOf v12).toNat)
  case atStart =>
    refine ⟨0, 0, 0, 0, none, none, Nat.zero_le _, Nat.le_refl _, rfl, rfl, rfl, Lib.hid ⟨by rw [Lo.pre_zero]; rfl, ?_⟩⟩
    rw [Lo.pre_zero]
    exact ⟨[], [], [], Owns.start w2 (L := [nilRow 48, nilRow 48]) (by intro r hr; simp at hr; subst hr; exact ⟨rfl, rfl, rfl⟩), rfl, rfl, fun i h => absurd h (by simp), fun i h => absurd h (by simp)⟩
  case round =>
    obtain ⟨k, n, ac, bc, aA, bA, hk, hnk, rfl, rfl, rfl, HI⟩ := hrel
    have HXr := Lib.hid HI.out.2.ext
    by_cases hkP : k < P
    · have hmm : bits .and .i64 ((m : Int) / 2 ^ k) 1 = ((Cd.bitAt m k : Nat) : Int) := by
        have hle : m / 2 ^ k ≤ m := Nat.div_le_self _ _
        have := odd64 (m / 2 ^ k) (by omega)
        rw [Cd.bitAt, ← this]
        simp
      by_cases hbt : Cd.bitAt m k = 1
      · rw [hbt] at hmm
        have hkM : k < M.length := by rw [HW.out.2.2.2.1]; exact hkP
        have hkp : k < pieces.length := by rw [← HPL.out]; exact hkP
        obtain ⟨ad, u, hve, hcr, hu⟩ := HV0.out.at (i := k) hkM
        injection hve with hve
        subst hve
        have hcr2 := HXr.out.cell hcr
        obtain ⟨ra, rc, rfl, _⟩ := hu.form
        have hrl : (M[k]'hkM).length = D := by have := HW.out.2.1 k hkP; rw [getD_lt hkM] at this; exact this
        rw [hrl] at hu hcr hcr2
        obtain ⟨rd, _, hra, _, _⟩ := hu.at (i := 0) (by rw [hrl]; exact hD1)
        subst hra
        obtain ⟨ad, u, hve, hcp, hu2⟩ := HPP.out.at (i := k) hkp
        injection hve with hve
        subst hve
        have hu2' : u = sv (pieces[k]'hkp) := hu2
        subst hu2'
        have hrg : M.getD k [] = M[k]'hkM := getD_lt hkM
        have hpg : pieces.getD k [] = pieces[k]'hkp := getD_lt hkp
        obtain ⟨r, hr⟩ : ∃ r, M[k]'hkM = r := ⟨_, rfl⟩
        obtain ⟨p, hpe⟩ : ∃ p, pieces[k]'hkp = p := ⟨_, rfl⟩
        rw [hr] at hu hrl hrg
        rw [hpe] at hcp hpg
        have hpl : p.length = L := by have := HW.out.2.2.2.2 k hkP hbt; rw [hpg] at this; exact this
        have hpre := Lo.pre_yes (R := M) (pieces := pieces) hbt
        rw [hrg, hpg] at hpre
        obtain ⟨av, bs, LL, hO, has, hbs, h4, h5⟩ := HI.out.2
        rw [HI.out.1] at hO has hbs h4 h5
        have HO := Lib.hid hO
        have HF := Lib.hid (And.intro HI.out.1 (And.intro has (And.intro hbs (And.intro h4 h5))))
        have HR := Lib.hid (And.intro hu (And.intro hrl (And.intro hpl hpre)))
        have hP0 : (0 : Int) ≤ (k : Int) := by omega
        have HRD := Lib.hid (Rs.rd hu)
        clear hu hrl hpl hpre hO has hbs h4 h5 hr hpe hrg hpg hu2 hbt
        go_upto_region 9 with (refine wpl_append_owns (u := .slice (some rd) D rc) 76 48 rfl (.tmp 28) (.tmp 33) rfl Tryd.underlying76 info_bytes rfl (HO.out.made #[.slice (some rd) D rc] 48 (by simp [maxLen])) 1 rfl rfl rfl (cell_of_row _ _ 0 _ _ (0, 0) (heap_new _ _)) rfl (by omega) (by decide) ?_; intro g9 c9 w9 hO9 hg9; have hcr4 : (w9.alloc (.cells #[] 5)).cell? (vd.add k) = some (.slice (some rd) D rc) := (hO9.ext.alloc _).cell hcr)
        have hA1 : Owns w2 w9 (⟨.slice (some ⟨g9, 0, none⟩) (n + 1) c9, 48, 1, n + 1, av ++ [.slice (some rd) D rc]⟩ :: ⟨.slice bA n bc, 48, 1, n, bs⟩ :: LL) := hO9.tail
        have hA2 : Owns w2 (w9.alloc (.cells #[] 5)) (⟨.slice (some ⟨w9.heap.size, 0, none⟩) 0 0, 5, 1, 0, []⟩ :: ⟨.slice (some ⟨g9, 0, none⟩) (n + 1) c9, 48, 1, n + 1, av ++ [.slice (some rd) D rc]⟩ :: ⟨.slice bA n bc, 48, 1, n, bs⟩ :: LL) := hA1.made #[] 5 (by simp [maxLen])
        have HA1 := Lib.hid hA2
        clear hA2
        have hnews : ∀ (j : Nat) (u : Value), (r.map bv)[j]? = some u → (w9.alloc (.cells #[] 5)).cell? (rd.add j) = some u := fun j u hj => by
          obtain ⟨ad, e, _, hc⟩ := (HRD.out.ext HA1.out.ext) j u hj
          injection e with e
          subst e
          exact hc
        have hone : ∀ u ∈ r.map bv, u.oneCell' = true := by intro u hu; obtain ⟨b, _, rfl⟩ := List.mem_map.1 hu; rfl
        have HNW := Lib.hid (And.intro hnews (And.intro hone (show (r.map bv).length = D by rw [List.length_map]; exact HR.out.2.1)))
        clear hA1 hO9 hg9 hnews hone HO hcr2
        go_wp2_with (refine wpl_append_all 48 5 rfl (.tmp 35) (.tmp 39) rfl Tryd.underlying48 info_u8 rfl HA1.out 0 rfl rfl rfl HNW.out.2.2 HNW.out.1 HNW.out.2.1 (by omega) (by omega) (by decide) ?_; intro g5 c5 w5 hO5 _; have h5a : Owns w2 w5 (⟨.slice (some ⟨g5, 0, none⟩) D c5, 5, 1, D, r.map bv⟩ :: ⟨.slice (some ⟨g9, 0, none⟩) (n + 1) c9, 48, 1, n + 1, av ++ [.slice (some rd) D rc]⟩ :: ⟨.slice bA n bc, 48, 1, n, bs⟩ :: LL) := (by simpa using hO5); clear hO5)
        have H5 := Lib.hid h5a
        clear h5a HA1 HNW hcr4
        go_loopw [13, 14] (fun v13 v14 wr => ∃ (x mc gm : Nat), x ≤ L ∧ v14 = .int .i64 (x : Nat) ∧ v13 = .slice (some ⟨gm, 0, none⟩) (D + x) mc ∧ Hid (Owns w2 wr (⟨.slice (some ⟨gm, 0, none⟩) (D + x) mc, 5, 1, D + x, (r ++ p.take x).map bv⟩ :: ⟨.slice (some ⟨g9, 0, none⟩) (n + 1) c9, 48, 1, n + 1, av ++ [.slice (some rd) D rc]⟩ :: ⟨.slice bA n bc, 48, 1, n, bs⟩ :: LL))) (fun _ v14 _ => L - (intOf v14).toNat)
        case atStart => exact ⟨0, c5, g5, Nat.zero_le _, rfl, rfl, Lib.hid (by rw [List.take_zero, List.append_nil]; exact H5.out)⟩
        case round =>
          obtain ⟨x, mc, gm, hx, rfl, rfl, HJ⟩ := hrel
          by_cases hxL : x < L
          · have hxp : x < p.length := by rw [HR.out.2.2.1]; exact hxL
            have hcp2 := HJ.out.ext.cell hcp
            have hxs : x < (sb p).size := by rw [size_sb]; exact hxp
            have hv : Value.int .u8 ((sb p)[x].toNat : Int) = bv (p.getD x 0) := by rw [get_bl (sb p) x hxs, getD_lt hxp]; rfl
            have htk : p.take (x + 1) = p.take x ++ [p.getD x 0] := by rw [List.take_succ_eq_append_getElem hxp, getD_lt hxp]
            have HV := Lib.hid (And.intro hv htk)
            clear hv htk
            go_wp2_with (refine wpl_append_owns (u := .int .u8 ((sb p)[x].toNat : Int)) 48 5 rfl (.tmp 46) (.tmp 53) rfl Tryd.underlying48 info_u8 rfl (HJ.out.made #[.int .u8 ((sb p)[x].toNat : Int)] 5 (by simp [maxLen])) 1 rfl rfl rfl (cell_of_row _ _ 0 _ _ (0, 0) (heap_new _ _)) rfl (by omega) (by decide) ?_; intro g6 c6 w6 hO6 hg6)
            have h6 : Owns w2 w6 (⟨.slice (some ⟨g6, 0, none⟩) (D + (x + 1)) c6, 5, 1, D + (x + 1), (r ++ p.take (x + 1)).map bv⟩ :: ⟨.slice (some ⟨g9, 0, none⟩) (n + 1) c9, 48, 1, n + 1, av ++ [.slice (some rd) D rc]⟩ :: ⟨.slice bA n bc, 48, 1, n, bs⟩ :: LL) := by
              rw [HV.out.2, ← List.append_assoc, List.map_append (l₂ := [p.getD x 0]), List.map_singleton, ← HV.out.1]
              exact hO6.tail
            have H6 := Lib.hid h6
            clear h6 hO6 hg6 hcp2 HJ
            go_wp2_with fail
            go_roundw
            case rel => exact ⟨x + 1, c6, g6, by omega, by go_num, rfl, H6⟩
            case measure => simp [intOf]; omega
          · obtain rfl : x = L := by omega
            go_wp2_with (refine wpl_append_owns (u := .slice (some ⟨gm, 0, none⟩) (D + x) mc) 76 48 rfl (.tmp 55) (.tmp 57) rfl Tryd.underlying76 info_bytes rfl (HJ.out.made #[.slice (some ⟨gm, 0, none⟩) (D + x) mc] 48 (by simp [maxLen])) 3 rfl rfl rfl (cell_of_row _ _ 0 _ _ (0, 0) (heap_new _ _)) rfl (by omega) (by decide) ?_; intro g7 c7 w7 hO7 hg7)
            have htx : p.take x = p := List.take_of_length_le (by rw [HR.out.2.2.1]; exact Nat.le_refl _)
            have h7 := hO7.tail
            rw [htx] at h7
            have h8 : FitO w2 w7 D x c9 c7 (some ⟨g9, 0, none⟩) (some ⟨g7, 0, none⟩) (Lo.pre_ M pieces m k ++ [(r, p)]) := by
              have h9 : Owns w2 w7 (⟨.slice (some ⟨g9, 0, none⟩) (n + 1) c9, 48, 1, n + 1, av ++ [.slice (some rd) D rc]⟩ :: ⟨.slice (some ⟨g7, 0, none⟩) (n + 1) c7, 48, 1, n + 1, bs ++ [.slice (some ⟨gm, 0, none⟩) (D + x) mc]⟩ :: ⟨.slice (some ⟨gm, 0, none⟩) (D + x) mc, 5, 1, D + x, (r ++ p).map bv⟩ :: LL) := h7.perm ((List.Perm.swap _ _ _).trans (List.Perm.cons _ (List.Perm.swap _ _ _)))
              exact FitO.grow HF.out.1 h9 HF.out.2.1 HF.out.2.2.1 HR.out.1 HF.out.2.2.2.1 HF.out.2.2.2.2
            have H8 := Lib.hid h8
            clear h7 h8 hO7 hg7 htx HJ H5
            go_wp2_with fail
            go_roundw
            case rel => exact ⟨k + 1, n + 1, c9, c7, some ⟨g9, 0, none⟩, some ⟨g7, 0, none⟩, by omega, by omega, by go_num, rfl, rfl, Lib.hid ⟨by rw [HR.out.2.2.2, List.length_append, HF.out.1]; rfl, by rw [HR.out.2.2.2]; exact H8.out⟩⟩
            case measure => simp [intOf]; omega
      · have hb0 : Cd.bitAt m k = 0 := by have := Lo.bit_two m k; omega
        rw [hb0] at hmm
        have HN := Lib.hid (Lo.pre_no (R := M) (pieces := pieces) hbt)
        clear hbt hb0
        go_wp2_with fail
        go_roundw
        case rel => exact ⟨k + 1, n, ac, bc, aA, bA, by omega, by omega, by go_num, rfl, rfl, Lib.hid (by rw [HN.out]; exact HI.out)⟩
        case measure => simp [intOf]; omega
    · obtain rfl : k = P := by omega
      have hn := HI.out.1
      have hF := HI.out.2
      have hwd := HW.out.1
      rw [HW.out.2.2.1] at hn hF
      have hag := Lo.agree_fit hwd
      obtain ⟨S, hS⟩ : ∃ S, Lo.some_ M pieces m = S := ⟨_, rfl⟩
      rw [hS] at hn hF hwd hag
      have HS := Lib.hid hS
      have hn16 : S.length ≤ 1000 := by omega
      have hrA := hF.rsA hn16
      have hrB := hF.rsB hwd hn16 (by omega)
      have hwA : ∀ q ∈ S.map Prod.fst, q.length = D := fun q hq => by obtain ⟨y, hy, rfl⟩ := List.mem_map.1 hq; exact (hwd y hy).1
      have hwB : ∀ q ∈ S.map Lo.glue, q.length = D + L := fun q hq => by
        obtain ⟨y, hy, rfl⟩ := List.mem_map.1 hq
        unfold Lo.glue
        rw [List.length_append, (hwd y hy).1, (hwd y hy).2]
      rw [hn] at hrA hrB
      obtain ⟨ra, hra⟩ : ∃ ra, Cd.rankR (S.map Prod.fst) D = ra := ⟨_, rfl⟩
      obtain ⟨rb, hrb⟩ : ∃ rb, Cd.rankR (S.map Lo.glue) (D + L) = rb := ⟨_, rfl⟩
      rw [hra, hrb] at hag
      have HA2 : Hid (∀ w1 : World, Ext wr w1 → Calls Tryd.prog 77 #[.slice aA n ac, .int .i64 (D : Nat)] w1 fun e w' => e = .returned (.int .i64 (ra : Nat)) ∧ Ext w1 w') := Lib.hid fun w' h => by
        have := rRank_any (S.map Prod.fst) D _ w' (Rs.ext (Rs.ext RB.ext) _ _ _ _ h hrA) hwA (by omega) (by rw [List.length_map]; exact hn16)
        rw [hra] at this
        exact this
      obtain ⟨W2, hW2⟩ : ∃ W2, D + L = W2 := ⟨_, rfl⟩
      have HB2 : Hid (∀ w1 : World, Ext wr w1 → Calls Tryd.prog 77 #[.slice bA n bc, .int .i64 (W2 : Nat)] w1 fun e w' => e = .returned (.int .i64 (rb : Nat)) ∧ Ext w1 w') := Lib.hid fun w' h => by
        have := rRank_any (S.map Lo.glue) (D + L) _ w' (Rs.ext (Rs.ext RB.ext) _ _ _ _ h hrB) hwB (by omega) (by rw [List.length_map]; exact hn16)
        rw [hrb, hW2] at this
        exact this
      have hw64 : IntKind.i64.wrap ((D : Int) + (L : Int)) = (W2 : Int) := by rw [IntKind.wrap_i64]; omega
      obtain ⟨be, hbe⟩ : ∃ be, Lo.agree S = be := ⟨_, rfl⟩
      rw [hbe] at hag
      have HBE := Lib.hid hbe
      have HE : Hid (((ra : Int) == (rb : Int)) = be) := Lib.hid (by
        rw [hag]
        by_cases h : ra = rb
        · rw [h, decide_eq_true rfl]; simp
        · rw [decide_eq_false h, beq_eq_false_iff_ne]; omega)
      have k0 := HC.out wr HXr.out
      clear hn hF hwd hag hS hn16 hrA hrB hwA hwB hra hrb hW2 hbe
      go_upto_region 15 with fail
      refine wp_atEnd' (ft15 wr C D L W2 n n ac bc ra rb aA bA be k0 hw64 HE HA2 HB2 _ _ _ _ _ _ _ _ _ _ _ _ _ _ _ _ _ _ _ _ _ _ _ _ _ _ _ _ _ _ _ _ _ _ _ _ _ _ _ _ _ _ _ _ _ _ _ _ _ _ _ _ _ _ _ _ _ _ _ _ _ _ _ _ _ _ _ _ ?_)
      rintro u59 u60 u61 u62 u63 u64 u65 u66 u67 u68 u69 wy hx
      have HY := Lib.hid hx
      clear hx k0
      go_wp2_with fail
      go_ret
      exact ⟨by rw [HS.out, HBE.out]; rfl, HB.out.ext.trans (HX.out.trans (HXr.out.trans HY.out))⟩
end Go.Proofs.YtggfkpalkdkbdaaDoor

/- THE WALKS over Fits, before and Clash of quietusref09. -/
namespace Lo
open Cd
theorem sizeN_few {D n : Nat} (hD : 1 ≤ D) (hn : n ≤ 60) : sizeN D n ≤ 60 := by
  unfold sizeN
  have : (n + D - 1) / D ≤ n := by
    rw [Nat.div_le_iff_le_mul_add_pred (by omega)]
    have : n ≤ D * n := Nat.le_mul_of_pos_left n (by omega)
    omega
  omega
theorem bef_half {n a b : Nat} (h : a ≠ b) (h2 : a % 2 = b % 2) : befF (n + 1) a b = befF n (a / 2) (b / 2) := by rw [befF, if_neg h, if_neg (by omega)]
theorem bef_same (n a : Nat) : befF n a a = false := by cases n with
  | zero => rfl
  | succ n => rw [befF, if_pos rfl]
theorem bef_diff {n a b : Nat} (h : a % 2 ≠ b % 2) : befF (n + 1) a b = decide (a % 2 = 1) := by rw [befF, if_neg (fun e => h (by rw [e])), if_pos h]
end Lo
namespace Go.Proofs.YtggfkpalkdkbdaaDoor
open Go.RowKit
noncomputable def ff4_code : Code := ((Tryd.f18.body.bind (regionOf 4)).getD .skip)
def ff4_dsts : List (Option Nat) := [some 19, some 20, some 21, some 22, some 23, some 24, some 25, some 26, none]
theorem ff4_apart : apartD ff4_dsts = true := by decide +kernel
set_option maxRecDepth 1000000 in
set_option maxHeartbeats 16000000 in
theorem ff4 (w0 wr : World) (C Q ng Gc n m P cp sz : Nat) (GA PA : Option Addr) (D gl : Nat) (bb : Bool) (HB : Hid (Owns w0 wr [⟨.slice (some ⟨C, 0, none⟩) 3 3, 24, 1, 3, [.int .i64 D, .slice GA ng Gc, .int .i64 gl]⟩, ⟨.slice (some ⟨Q, 0, none⟩) 2 2, 31, 1, 2, [.bool false, .int .i64 0]⟩])) (HS : Hid (∀ w1 : World, Ext w0 w1 → Calls Tryd.prog 43 #[.agg #[.int .i64 D, .slice GA ng Gc, .int .i64 gl], .int .i64 (n : Nat)] w1 fun e w' => e = .returned (.int .i64 (sz : Nat)) ∧ Ext w1 w')) (HF : Hid (∀ w1 : World, Ext w0 w1 → Calls Tryd.prog 42 #[.agg #[.int .i64 D, .slice GA ng Gc, .int .i64 gl], .int .i64 (m : Nat), .slice PA P cp, .int .i64 (sz : Nat)] w1 fun e w' => e = .returned (.bool bb) ∧ Ext w1 w')) (c0 c5 c6 c7 c9 c10 c11 c12 c13 c14 c15 c16 c17 c18 c19 c20 c21 c22 c23 c24 c25 c26 : Value) (df : List Deferred) (K : Act → World → Prop)
    (hK : ∀  (u19 u20 u21 u22 u23 u24 u25 u26 : Value) (wx : World), Owns w0 wx [⟨.slice (some ⟨C, 0, none⟩) 3 3, 24, 1, 3, [.int .i64 D, .slice GA ng Gc, .int .i64 gl]⟩, ⟨.slice (some ⟨Q, 0, none⟩) 2 2, 31, 1, 2, [.bool bb, .int .i64 0]⟩] → K ⟨#[c0, .int .i64 (n : Nat), .int .i64 (m : Nat), .slice PA P cp, .pointer (some ⟨C, 0, none⟩), c5, c6, c7, .pointer (some ⟨Q, 0, none⟩), c9, c10, c11, c12, c13, c14, c15, c16, c17, c18, u19, u20, u21, u22, u23, u24, u25, u26], df⟩ wx) :
    Code.wp Tryd.prog ff4_code (AtEnd K) ⟨#[c0, .int .i64 (n : Nat), .int .i64 (m : Nat), .slice PA P cp, .pointer (some ⟨C, 0, none⟩), c5, c6, c7, .pointer (some ⟨Q, 0, none⟩), c9, c10, c11, c12, c13, c14, c15, c16, c17, c18, c19, c20, c21, c22, c23, c24, c25, c26], df⟩ wr := by
  conv => arg 2; whnf
  refine region_inv (by kernel_rfl) [[], [], [], [], [], [3, 4], [0, 1, 2, 5, 5], [6], [7, 6, 0, 1, 2, 3, 4, 5, 6, 7]] (by kernel_rfl) [0, 1, 2, 3, 4, 5, 6, 7, 8] (by decide +kernel) (by decide +kernel) (by decide +kernel) (fun L a wc => Inv ff4_dsts [.agg #[.int .i64 D, .slice GA ng Gc, .int .i64 gl], .int .i64 (m : Nat), .slice PA P cp, .agg #[.int .i64 D, .slice GA ng Gc, .int .i64 gl], .int .i64 (n : Nat), .int .i64 (sz : Nat), .bool bb, .agg #[.bool bb, .int .i64 0], undef] ⟨#[c0, .int .i64 (n : Nat), .int .i64 (m : Nat), .slice PA P cp, .pointer (some ⟨C, 0, none⟩), c5, c6, c7, .pointer (some ⟨Q, 0, none⟩), c9, c10, c11, c12, c13, c14, c15, c16, c17, c18, c19, c20, c21, c22, c23, c24, c25, c26], df⟩ L a ∧ Hid (Owns w0 wc [⟨.slice (some ⟨C, 0, none⟩) 3 3, 24, 1, 3, [.int .i64 D, .slice GA ng Gc, .int .i64 gl]⟩, (if L 8 = true then ⟨.slice (some ⟨Q, 0, none⟩) 2 2, 31, 1, 2, [.bool bb, .int .i64 0]⟩ else ⟨.slice (some ⟨Q, 0, none⟩) 2 2, 31, 1, 2, [.bool false, .int .i64 0]⟩)])) ⟨Inv.start, Lib.hid (HB.out.drew)⟩ ?_ ?_
  · refine ⟨?_, ?_, ?_, ?_, ?_, ?_, ?_, ?_, ?_, trivial⟩
    ·
      rintro L a wc ⟨hv, HO⟩ hL hc hd
      have h0 : wc.cell? ⟨C, 0, none⟩ = some (.int .i64 D) := HO.out.cell 0 rfl 0 rfl
      have h1 : wc.cell? ⟨C, 1, none⟩ = some (.slice GA ng Gc) := HO.out.cell 0 rfl 1 rfl
      have h2 : wc.cell? ⟨C, 2, none⟩ = some (.int .i64 gl) := HO.out.cell 0 rfl 2 rfl
      exact wpOp_val rfl rfl (ex_load rfl ((hv.fixed 4 (by decide)).trans rfl) (by go_simp)) ⟨hv.put ff4_apart 0 rfl (lb rfl) (lb rfl) rfl, HO⟩
    ·
      rintro L a wc ⟨hv, HO⟩ hL hc hd
      exact wpOp_val rfl rfl (ex_move rfl ((hv.fixed 2 (by decide)).trans rfl)) ⟨hv.put ff4_apart 1 rfl (lb rfl) (lb rfl) rfl, HO⟩
    ·
      rintro L a wc ⟨hv, HO⟩ hL hc hd
      exact wpOp_val rfl rfl (ex_move rfl ((hv.fixed 3 (by decide)).trans rfl)) ⟨hv.put ff4_apart 2 rfl (lb rfl) (lb rfl) rfl, HO⟩
    ·
      rintro L a wc ⟨hv, HO⟩ hL hc hd
      have h0 : wc.cell? ⟨C, 0, none⟩ = some (.int .i64 D) := HO.out.cell 0 rfl 0 rfl
      have h1 : wc.cell? ⟨C, 1, none⟩ = some (.slice GA ng Gc) := HO.out.cell 0 rfl 1 rfl
      have h2 : wc.cell? ⟨C, 2, none⟩ = some (.int .i64 gl) := HO.out.cell 0 rfl 2 rfl
      exact wpOp_val rfl rfl (ex_load rfl ((hv.fixed 4 (by decide)).trans rfl) (by go_simp)) ⟨hv.put ff4_apart 3 rfl (lb rfl) (lb rfl) rfl, HO⟩
    ·
      rintro L a wc ⟨hv, HO⟩ hL hc hd
      exact wpOp_val rfl rfl (ex_move rfl ((hv.fixed 1 (by decide)).trans rfl)) ⟨hv.put ff4_apart 4 rfl (lb rfl) (lb rfl) rfl, HO⟩
    ·
      rintro L a wc ⟨hv, HO⟩ hL hc hd
      refine wpOp_call (R := fun v w1 => v = .int .i64 (sz : Nat) ∧ Ext wc w1) rfl rfl (ex_call rfl rfl (map2c (hv.get 3 rfl rfl (hd 3 (by decide))) (hv.get 4 rfl rfl (hd 4 (by decide)))) (enters_of Tryd.func43 (by kernel_rfl) rfl _ _)) ((HS.out wc HO.out.ext).mono (fun e w' h => ⟨_, h.1, rfl, h.2⟩)) ?_
      rintro v w' ⟨rfl, hx⟩
      exact ⟨hv.put ff4_apart 5 rfl (lb rfl) (lb rfl) rfl, Lib.hid (HO.out.next hx)⟩
    ·
      rintro L a wc ⟨hv, HO⟩ hL hc hd
      refine wpOp_call (R := fun v w1 => v = .bool bb ∧ Ext wc w1) rfl rfl (ex_call rfl rfl (map4c (hv.get 0 rfl rfl (hd 0 (by decide))) (hv.get 1 rfl rfl (hd 1 (by decide))) (hv.get 2 rfl rfl (hd 2 (by decide))) (hv.get 5 rfl rfl (hd 5 (by decide)))) (enters_of Tryd.func42 (by kernel_rfl) rfl _ _)) ((HF.out wc HO.out.ext).mono (fun e w' h => ⟨_, h.1, rfl, h.2⟩)) ?_
      rintro v w' ⟨rfl, hx⟩
      exact ⟨hv.put ff4_apart 6 rfl (lb rfl) (lb rfl) rfl, Lib.hid (HO.out.next hx)⟩
    ·
      rintro L a wc ⟨hv, HO⟩ hL hc hd
      have hB : (Instr.build 31 #[(0, .bool bb)]).run Tryd.prog wc = .ok (.agg #[.bool bb, .int .i64 0]) wc := by go_simp
      exact wpOp_val rfl rfl (ex_build1 rfl (hv.get 6 rfl rfl (hd 6 (by decide))) hB) ⟨hv.put ff4_apart 7 rfl (lb rfl) (lb rfl) rfl, HO⟩
    ·
      rintro L a wc ⟨hv, HO⟩ hL hc hd
      have h := HO.out
      rw [if_neg (show ¬ (L 8 = true) from by simp [hL])] at h
      have e0 : wc.cell? ⟨Q, 0, none⟩ = some (.bool false) := h.cell 1 rfl 0 rfl
      have e1 : wc.cell? ⟨Q, 1, none⟩ = some (.int .i64 0) := h.cell 1 rfl 1 rfl
      have f0 : wc.frozen? ⟨Q, 0, none⟩ = false := h.frozen 1 rfl 0
      have f1 : wc.frozen? ⟨Q, 1, none⟩ = false := h.frozen 1 rfl 1
      have hS := (h.store 1 rfl 0 (.bool bb)).store 1 rfl 1 (.int .i64 0)
      have h3 : Owns w0 ((wc.setCell ⟨Q, 0, none⟩ (.bool bb)).setCell ⟨Q, 1, none⟩ (.int .i64 0)) [⟨.slice (some ⟨C, 0, none⟩) 3 3, 24, 1, 3, [.int .i64 D, .slice GA ng Gc, .int .i64 gl]⟩, (if upd L 8 8 = true then ⟨.slice (some ⟨Q, 0, none⟩) 2 2, 31, 1, 2, [.bool bb, .int .i64 0]⟩ else ⟨.slice (some ⟨Q, 0, none⟩) 2 2, 31, 1, 2, [.bool false, .int .i64 0]⟩)] := by rw [if_pos (show upd L 8 8 = true from by simp [upd])]; exact hS
      exact wpOp_skip rfl rfl rfl (ex_store (w' := (wc.setCell ⟨Q, 0, none⟩ (.bool bb)).setCell ⟨Q, 1, none⟩ (.int .i64 0)) rfl ((hv.fixed 8 (by decide)).trans rfl) (hv.get 7 rfl rfl (hd 7 (by decide))) (by go_simp)) ⟨hv.skip 8 rfl, Lib.hid h3⟩
  · rintro L a wc ⟨hv, HO⟩ hall
    show K a wc
    have ha := act_n rl27 hv.size hv.defers rfl
    simp +decide only [hv.fixed] at ha
    rw [ha]
    have h := HO.out
    rw [if_pos (hall 8 (by decide))] at h
    exact hK _ _ _ _ _ _ _ _ wc h
noncomputable def cc14_code : Code := ((Tryd.f20.body.bind (regionOf 14)).getD .skip)
def cc14_dsts : List (Option Nat) := [some 63, some 64, some 65, some 66, some 67, some 68, some 69, some 14]
theorem cc14_apart : apartD cc14_dsts = true := by decide +kernel
set_option maxRecDepth 1000000 in
set_option maxHeartbeats 16000000 in
theorem cc14 (wr : World) (C ng Gc n m P cp sz : Nat) (GA PA : Option Addr) (D gl : Nat) (bb : Bool) (k0 : wr.cell? ⟨C, 0, none⟩ = some (.int .i64 D)) (k1 : wr.cell? ⟨C, 1, none⟩ = some (.slice GA ng Gc)) (k2 : wr.cell? ⟨C, 2, none⟩ = some (.int .i64 gl)) (HS : Hid (∀ w1 : World, Ext wr w1 → Calls Tryd.prog 43 #[.agg #[.int .i64 D, .slice GA ng Gc, .int .i64 gl], .int .i64 (n : Nat)] w1 fun e w' => e = .returned (.int .i64 (sz : Nat)) ∧ Ext w1 w')) (HF : Hid (∀ w1 : World, Ext wr w1 → Calls Tryd.prog 42 #[.agg #[.int .i64 D, .slice GA ng Gc, .int .i64 gl], .int .i64 (m : Nat), .slice PA P cp, .int .i64 (sz : Nat)] w1 fun e w' => e = .returned (.bool bb) ∧ Ext w1 w')) (c0 c2 c5 c6 c7 c8 c9 c10 c12 c13 c14 c15 c16 c17 c18 c19 c20 c21 c22 c23 c24 c25 c26 c27 c28 c29 c30 c31 c32 c33 c34 c35 c36 c37 c38 c39 c40 c41 c42 c43 c44 c45 c46 c47 c48 c49 c50 c51 c52 c53 c54 c55 c56 c57 c58 c59 c60 c61 c62 c63 c64 c65 c66 c67 c68 c69 c70 c71 c72 c73 c74 c75 c76 c77 : Value) (df : List Deferred) (K : Act → World → Prop)
    (hK : ∀  (u63 u64 u65 u66 u67 u68 u69 : Value) (wx : World), Ext wr wx → K ⟨#[c0, .int .i64 (n : Nat), c2, .slice PA P cp, .pointer (some ⟨C, 0, none⟩), c5, c6, c7, c8, c9, c10, .int .i64 (m : Nat), c12, c13, .bool bb, c15, c16, c17, c18, c19, c20, c21, c22, c23, c24, c25, c26, c27, c28, c29, c30, c31, c32, c33, c34, c35, c36, c37, c38, c39, c40, c41, c42, c43, c44, c45, c46, c47, c48, c49, c50, c51, c52, c53, c54, c55, c56, c57, c58, c59, c60, c61, c62, u63, u64, u65, u66, u67, u68, u69, c70, c71, c72, c73, c74, c75, c76, c77], df⟩ wx) :
    Code.wp Tryd.prog cc14_code (AtEnd K) ⟨#[c0, .int .i64 (n : Nat), c2, .slice PA P cp, .pointer (some ⟨C, 0, none⟩), c5, c6, c7, c8, c9, c10, .int .i64 (m : Nat), c12, c13, c14, c15, c16, c17, c18, c19, c20, c21, c22, c23, c24, c25, c26, c27, c28, c29, c30, c31, c32, c33, c34, c35, c36, c37, c38, c39, c40, c41, c42, c43, c44, c45, c46, c47, c48, c49, c50, c51, c52, c53, c54, c55, c56, c57, c58, c59, c60, c61, c62, c63, c64, c65, c66, c67, c68, c69, c70, c71, c72, c73, c74, c75, c76, c77], df⟩ wr := by
  conv => arg 2; whnf
  refine region_inv (by kernel_rfl) [[], [], [], [], [], [3, 4], [0, 1, 2, 5, 5], [6, 6, 0, 1, 2, 3, 4, 5, 6]] (by kernel_rfl) [0, 1, 2, 3, 4, 5, 6, 7] (by decide +kernel) (by decide +kernel) (by decide +kernel) (fun L a wc => Inv cc14_dsts [.agg #[.int .i64 D, .slice GA ng Gc, .int .i64 gl], .int .i64 (m : Nat), .slice PA P cp, .agg #[.int .i64 D, .slice GA ng Gc, .int .i64 gl], .int .i64 (n : Nat), .int .i64 (sz : Nat), .bool bb, .bool bb] ⟨#[c0, .int .i64 (n : Nat), c2, .slice PA P cp, .pointer (some ⟨C, 0, none⟩), c5, c6, c7, c8, c9, c10, .int .i64 (m : Nat), c12, c13, c14, c15, c16, c17, c18, c19, c20, c21, c22, c23, c24, c25, c26, c27, c28, c29, c30, c31, c32, c33, c34, c35, c36, c37, c38, c39, c40, c41, c42, c43, c44, c45, c46, c47, c48, c49, c50, c51, c52, c53, c54, c55, c56, c57, c58, c59, c60, c61, c62, c63, c64, c65, c66, c67, c68, c69, c70, c71, c72, c73, c74, c75, c76, c77], df⟩ L a ∧ Hid (Ext wr wc)) ⟨Inv.start, Lib.hid ((Ext.refl wr).drew)⟩ ?_ ?_
  · refine ⟨?_, ?_, ?_, ?_, ?_, ?_, ?_, ?_, trivial⟩
    ·
      rintro L a wc ⟨hv, HO⟩ hL hc hd
      have h0 : wc.cell? ⟨C, 0, none⟩ = some (.int .i64 D) := HO.out.cell k0
      have h1 : wc.cell? ⟨C, 1, none⟩ = some (.slice GA ng Gc) := HO.out.cell k1
      have h2 : wc.cell? ⟨C, 2, none⟩ = some (.int .i64 gl) := HO.out.cell k2
      exact wpOp_val rfl rfl (ex_load rfl ((hv.fixed 4 (by decide)).trans rfl) (by go_simp)) ⟨hv.put cc14_apart 0 rfl (lb rfl) (lb rfl) rfl, HO⟩
    ·
      rintro L a wc ⟨hv, HO⟩ hL hc hd
      exact wpOp_val rfl rfl (ex_move rfl ((hv.fixed 11 (by decide)).trans rfl)) ⟨hv.put cc14_apart 1 rfl (lb rfl) (lb rfl) rfl, HO⟩
    ·
      rintro L a wc ⟨hv, HO⟩ hL hc hd
      exact wpOp_val rfl rfl (ex_move rfl ((hv.fixed 3 (by decide)).trans rfl)) ⟨hv.put cc14_apart 2 rfl (lb rfl) (lb rfl) rfl, HO⟩
    ·
      rintro L a wc ⟨hv, HO⟩ hL hc hd
      have h0 : wc.cell? ⟨C, 0, none⟩ = some (.int .i64 D) := HO.out.cell k0
      have h1 : wc.cell? ⟨C, 1, none⟩ = some (.slice GA ng Gc) := HO.out.cell k1
      have h2 : wc.cell? ⟨C, 2, none⟩ = some (.int .i64 gl) := HO.out.cell k2
      exact wpOp_val rfl rfl (ex_load rfl ((hv.fixed 4 (by decide)).trans rfl) (by go_simp)) ⟨hv.put cc14_apart 3 rfl (lb rfl) (lb rfl) rfl, HO⟩
    ·
      rintro L a wc ⟨hv, HO⟩ hL hc hd
      exact wpOp_val rfl rfl (ex_move rfl ((hv.fixed 1 (by decide)).trans rfl)) ⟨hv.put cc14_apart 4 rfl (lb rfl) (lb rfl) rfl, HO⟩
    ·
      rintro L a wc ⟨hv, HO⟩ hL hc hd
      refine wpOp_call (R := fun v w1 => v = .int .i64 (sz : Nat) ∧ Ext wc w1) rfl rfl (ex_call rfl rfl (map2c (hv.get 3 rfl rfl (hd 3 (by decide))) (hv.get 4 rfl rfl (hd 4 (by decide)))) (enters_of Tryd.func43 (by kernel_rfl) rfl _ _)) ((HS.out wc HO.out).mono (fun e w' h => ⟨_, h.1, rfl, h.2⟩)) ?_
      rintro v w' ⟨rfl, hx⟩
      exact ⟨hv.put cc14_apart 5 rfl (lb rfl) (lb rfl) rfl, Lib.hid (HO.out.trans hx)⟩
    ·
      rintro L a wc ⟨hv, HO⟩ hL hc hd
      refine wpOp_call (R := fun v w1 => v = .bool bb ∧ Ext wc w1) rfl rfl (ex_call rfl rfl (map4c (hv.get 0 rfl rfl (hd 0 (by decide))) (hv.get 1 rfl rfl (hd 1 (by decide))) (hv.get 2 rfl rfl (hd 2 (by decide))) (hv.get 5 rfl rfl (hd 5 (by decide)))) (enters_of Tryd.func42 (by kernel_rfl) rfl _ _)) ((HF.out wc HO.out).mono (fun e w' h => ⟨_, h.1, rfl, h.2⟩)) ?_
      rintro v w' ⟨rfl, hx⟩
      exact ⟨hv.put cc14_apart 6 rfl (lb rfl) (lb rfl) rfl, Lib.hid (HO.out.trans hx)⟩
    ·
      rintro L a wc ⟨hv, HO⟩ hL hc hd
      exact wpOp_val rfl rfl (ex_assign rfl (hv.get 6 rfl rfl (hd 6 (by decide)))) ⟨hv.put cc14_apart 7 rfl (lb rfl) (lb rfl) rfl, HO⟩
  · rintro L a wc ⟨hv, HO⟩ hall
    show K a wc
    have ha := act_n rl78 hv.size hv.defers rfl
    simp +decide only [hv.fixed, hv.get 7 (d := 14) rfl rfl (hall 7 (by decide))] at ha
    rw [ha]
    exact hK _ _ _ _ _ _ _ wc HO.out
set_option maxHeartbeats 8000000 in
set_option maxRecDepth 100000 in
theorem r9Before_any (a b : Nat) (w : World) (ha : a < 16384) (hb : b < 16384) :
    Calls Tryd.prog 45 #[.int .i64 (a : Nat), .int .i64 (b : Nat)] w fun e w' => e = .returned (.bool (Lo.befF 16 a b)) ∧ w = w' := by
  obtain ⟨be, hbe⟩ : ∃ be, Lo.befF 16 a b = be := ⟨_, rfl⟩
  rw [hbe]
  have HE := Lib.hid hbe
  clear hbe
  go_enter Tryd.func45, Tryd.ntmps45
  go_wp2_with fail
  go_loopw [0, 1] (fun v0 v1 wr => ∃ x y : Nat, x < 16384 ∧ y < 16384 ∧ v0 = .int .i64 (x : Nat) ∧ v1 = .int .i64 (y : Nat) ∧ wr = w ∧ Hid (∃ n, Lo.befF n x y = be ∧ x < 2 ^ n ∧ y < 2 ^ n)) (fun v0 v1 _ => (intOf v0).toNat + (intOf v1).toNat)
  case atStart => exact ⟨a, b, ha, hb, rfl, rfl, rfl, Lib.hid ⟨16, HE.out, Nat.lt_trans ha (by decide), Nat.lt_trans hb (by decide)⟩⟩
  case round =>
    obtain ⟨x, y, hx, hy, rfl, rfl, rfl, HI⟩ := hrel
    have e1 := odd64 x (by omega)
    have e2 := odd64 y (by omega)
    obtain ⟨n, h1, h2, h3⟩ := HI.out
    by_cases hxy : x = y
    · have hbf : be = false := by rw [← h1, hxy]; exact Lo.bef_same n y
      have HBF := Lib.hid hbf
      have hne : ((x : Int) != (y : Int)) = false := by rw [hxy]; simp
      clear hbf h1 h2 h3 hxy
      go_wp2_with fail
      go_ret
      exact ⟨by rw [HBF.out]; rfl, rfl⟩
    · have hne : ((x : Int) != (y : Int)) = true := by rw [bne_iff_ne]; omega
      obtain ⟨n, rfl⟩ : ∃ k, n = k + 1 := ⟨n - 1, by
        rcases Nat.eq_zero_or_pos n with h | h
        · rw [h] at h2 h3; omega
        · omega⟩
      obtain ⟨p, hp⟩ : ∃ p, x % 2 = p := ⟨_, rfl⟩
      obtain ⟨q, hq⟩ : ∃ q, y % 2 = q := ⟨_, rfl⟩
      rw [hp] at e1
      rw [hq] at e2
      by_cases hpq : p = q
      · have hh := Lo.bef_half (n := n) hxy (by rw [hp, hq]; exact hpq)
        have hne2 : ((p : Int) != (q : Int)) = false := by rw [hpq]; simp
        have h4 : x / 2 < 2 ^ n := by rw [Nat.pow_succ] at h2; omega
        have h5 : y / 2 < 2 ^ n := by rw [Nat.pow_succ] at h3; omega
        have hs1 : ((x : Int) / 2 ^ 1) = ((x / 2 : Nat) : Int) := by omega
        have hs2 : ((y : Int) / 2 ^ 1) = ((y / 2 : Nat) : Int) := by omega
        have hs3 : ((x : Int) / 2) = ((x / 2 : Nat) : Int) := by omega
        have hs4 : ((y : Int) / 2) = ((y / 2 : Nat) : Int) := by omega
        have hlt : x / 2 + y / 2 < x + y := by omega
        obtain ⟨x2, hx2⟩ : ∃ z, x / 2 = z := ⟨_, rfl⟩
        obtain ⟨y2, hy2⟩ : ∃ z, y / 2 = z := ⟨_, rfl⟩
        rw [hx2] at hs1 hs3 h4 hlt hh
        rw [hy2] at hs2 hs4 h5 hlt hh
        have HN := Lib.hid (And.intro (hh.symm.trans h1) (And.intro h4 h5))
        have hb1 : x2 < 16384 ∧ y2 < 16384 := by omega
        clear hh h1 h2 h3 h4 h5 hxy hp hq hpq hx2 hy2
        go_wp2_with fail
        go_roundw
        case rel => exact ⟨x2, y2, hb1.1, hb1.2, by go_num, by go_num, (by first | trivial | rfl), Lib.hid ⟨n, HN.out⟩⟩
        case measure => simp [intOf]; omega
      · have hne2 : ((p : Int) != (q : Int)) = true := by rw [bne_iff_ne]; omega
        have hd := Lo.bef_diff (n := n) (a := x) (b := y) (by rw [hp, hq]; exact hpq)
        rw [h1, hp] at hd
        have hbv : ((p : Int) == 1) = be := by
          rw [hd]
          by_cases h : p = 1
          · rw [h, decide_eq_true rfl]; rfl
          · rw [decide_eq_false h, beq_eq_false_iff_ne]; omega
        have HBV := Lib.hid hbv
        clear h1 h2 h3 hxy hp hq hpq hd hbv
        go_wp2_with fail
        go_ret
        exact ⟨by rw [← HBV.out]; rfl, rfl⟩
set_option maxHeartbeats 8000000 in
set_option maxRecDepth 100000 in
theorem r9Fits_any (d gl : Int) (gs : List (List Int)) (n m : Int) (pieces : List (List UInt8)) (PA : Option Addr) (cp : Nat) (G : Value) (w : World) (hG : Rs (Rs RI) w G gs) (hgn : gs.length ≤ 1000000) (hp : Rs RS w (.slice PA pieces.length cp) pieces) (hgiv : Lo.givE d gl gs n m pieces = 0 → n ≤ 60 ∧ (Cd.rowsOf d gs gl).length ≤ 14) :
    Calls Tryd.prog 18 #[.agg #[.int .i64 d, G, .int .i64 gl], .int .i64 n, .int .i64 m, .slice PA pieces.length cp] w fun e w' => e = .returned (.agg #[.bool (Lo.fitB d gl gs n m pieces), .int .i64 (Lo.givE d gl gs n m pieces)]) ∧ Ext w w' := by
  have HGN := Lib.hid hgn
  clear hgn
  obtain ⟨GA, Gc, rfl, _⟩ := hG.form
  obtain ⟨ng, hng⟩ : ∃ ng, gs.length = ng := ⟨_, rfl⟩
  rw [hng] at hG ⊢
  have hB := ((Owns.start w (L := [no, no]) (by intro r hr; simp at hr; subst hr; exact ⟨rfl, rfl, rfl⟩)).new 0 #[.int .i64 d, .slice GA ng Gc, .int .i64 gl] 24 (by simp [maxLen])).new 1 #[.bool false, .int .i64 0] 31 (by simp [maxLen])
  simp only [World.size_alloc] at hB
  have HG := Lib.hid hG
  have HB : Hid (Owns w ((w.alloc (.cells #[.int .i64 d, .slice GA ng Gc, .int .i64 gl] 24)).alloc (.cells #[.bool false, .int .i64 0] 31)) [⟨.slice (some ⟨w.heap.size, 0, none⟩) 3 3, 24, 1, 3, [.int .i64 d, .slice GA ng Gc, .int .i64 gl]⟩, ⟨.slice (some ⟨w.heap.size + 1, 0, none⟩) 2 2, 31, 1, 2, [.bool false, .int .i64 0]⟩]) := Lib.hid hB
  have HNG := Lib.hid hng
  obtain ⟨pl, hpl⟩ : ∃ pl, pieces.length = pl := ⟨_, rfl⟩
  rw [hpl] at hp ⊢
  have HPP := Lib.hid (Rs.ext RS.ext _ _ _ _ HB.out.ext hp)
  have HPW := Lib.hid hp
  have HPL := Lib.hid hpl
  have HGIV := Lib.hid hgiv
  clear hG hB hng hp hpl hgiv
  go_enter Tryd.func18, Tryd.ntmps18
  go_upto_region 1 with fail
  obtain ⟨C, hC⟩ : ∃ x, w.heap.size = x := ⟨_, rfl⟩
  rw [hC] at HB ⊢
  obtain ⟨Q, hQ⟩ : ∃ x, C + 1 = x := ⟨_, rfl⟩
  rw [hQ] at HB ⊢
  have nCQ : C ≠ Q := by omega
  obtain ⟨w1, hw1⟩ : ∃ x, ((w.alloc (.cells #[.int .i64 d, .slice GA ng Gc, .int .i64 gl] 24)).alloc (.cells #[.bool false, .int .i64 0] 31)) = x := ⟨_, rfl⟩
  rw [hw1] at HB HPP ⊢
  clear hw1 hC hQ
  have HX := Lib.hid (Ext.refl w1)
  have hgv := r9Given_any d gl n m gs pieces _ PA cp w1 (Rs.ext (Rs.ext RI.ext) _ _ _ _ (HB.out.ext.trans HX.out) HG.out) (by rw [HPL.out]; exact HPP.out) HGN.out
  rw [HPL.out] at hgv
  have HGV := Lib.hid hgv
  clear hgv
  have k00 : w1.cell? ⟨C, 0, none⟩ = some (.int .i64 d) := (HB.out.next HX.out).cell 0 rfl 0 rfl
  have k01 : w1.cell? ⟨C, 1, none⟩ = some (.slice GA ng Gc) := (HB.out.next HX.out).cell 0 rfl 1 rfl
  have k02 : w1.cell? ⟨C, 2, none⟩ = some (.int .i64 gl) := (HB.out.next HX.out).cell 0 rfl 2 rfl
  go_wp2_with fail
  refine HGV.out.mono ?_
  clear HGV k00 k01 k02
  rintro e w2 ⟨rfl, hx⟩
  replace HX := Lib.hid (HX.out.trans hx)
  clear hx
  obtain ⟨er, her⟩ : ∃ er, Lo.givE d gl gs n m pieces = er := ⟨_, rfl⟩
  rw [her]
  have HER := Lib.hid her
  clear her
  by_cases h0 : er = 0
  case neg =>
    have hne2 : (er != 0) = true := by rw [bne_iff_ne]; exact h0
    have HR := Lib.hid (Lo.fitB_bad (show Lo.givE d gl gs n m pieces ≠ 0 by rw [HER.out]; exact h0))
    clear h0
    have HS0 := Lib.hid (HB.out.next HX.out)
    have k10 : w2.cell? ⟨Q, 0, none⟩ = some (.bool false) := (HB.out.next HX.out).cell 1 rfl 0 rfl
    have k11 : w2.cell? ⟨Q, 1, none⟩ = some (.int .i64 0) := (HB.out.next HX.out).cell 1 rfl 1 rfl
    have f10 : w2.frozen? ⟨Q, 0, none⟩ = false := HS0.out.frozen 1 rfl 0
    have f11 : w2.frozen? ⟨Q, 1, none⟩ = false := HS0.out.frozen 1 rfl 1
    have HS := Lib.hid ((HS0.out.store 1 rfl 0 (.bool false)).store 1 rfl 1 (.int .i64 er))
    go_wp2_with fail
    refine bodyPost_ret (results_cell1L (v := .agg #[.bool false, .int .i64 er]) rfl rfl ?_) rfl ?_
    · go_simp
    exact ⟨by rw [HR.out, HER.out], HS.out.ext⟩
  case pos =>
    subst h0
    obtain ⟨hn60, hP14⟩ := HGIV.out HER.out
    obtain ⟨N, M, rfl, rfl, hW⟩ := Lo.well HER.out
    have hk := Cd.check_ok hW.chk
    have hso := Cd.sizeOf_nat (d := d.toNat) (gl := gl.toNat) (gs := gs) (n := N) (by omega) (by rw [Int.toNat_of_nonneg (by omega), Int.toNat_of_nonneg (by omega)]; exact hW.chk)
    obtain ⟨D, rfl⟩ : ∃ k : Nat, d = k := ⟨d.toNat, by omega⟩
    obtain ⟨g, rfl⟩ : ∃ k : Nat, gl = k := ⟨gl.toNat, by omega⟩
    rw [Int.toNat_natCast, Int.toNat_natCast] at hso
    have hsf := Lo.sizeN_few (D := D) (n := N) (by omega) (by omega)
    obtain ⟨sz, hsz⟩ : ∃ sz, Cd.sizeN D N = sz := ⟨_, rfl⟩
    rw [hsz] at hso hsf
    have hlen := hW.len
    rw [HPL.out] at hlen
    have hset := hW.set
    rw [← hlen] at hset hP14
    have hsiz : ∀ k, k < pl → Cd.bitAt M k = 1 → (pieces.getD k []).length = sz := fun k hk hb => by
      have := hW.siz k (by rw [HPL.out]; exact hk) hb
      rw [Int.toNat_natCast, hsz] at this
      exact this
    have HW := Lib.hid hW
    have HL := Lib.hid (And.intro hlen (And.intro hset hsiz))
    have HSZ : Hid (∀ w' : World, Ext w w' → Calls Tryd.prog 43 #[.agg #[.int .i64 D, .slice GA ng Gc, .int .i64 g], .int .i64 (N : Nat)] w' fun e w'' => e = .returned (.int .i64 (sz : Nat)) ∧ Ext w' w'') := Lib.hid fun w' h => by
      have := rSize_any D g N gs _ w' (Rs.ext (Rs.ext RI.ext) _ _ _ _ h HG.out) HGN.out
      rw [hso] at this
      exact this
    have HFT : Hid (∀ (S : Nat) (w' : World), Lo.Sub S M → Ext w w' → Calls Tryd.prog 42 #[.agg #[.int .i64 D, .slice GA ng Gc, .int .i64 g], .int .i64 (S : Nat), .slice PA pl cp, .int .i64 (sz : Nat)] w' fun e w'' => e = .returned (.bool (Lo.agree (Lo.some_ (Cd.rowsOf D gs g) pieces S))) ∧ Ext w' w'') := Lib.hid fun S w' hs h =>
      r9Fit_any D g gs S sz pl cp pieces PA _ w' (Rs.ext (Rs.ext RI.ext) _ _ _ _ h HG.out) HGN.out HW.out.chk HL.out.1.symm hP14 (Nat.lt_of_le_of_lt (Lo.sub_le hs) HL.out.2.1) (Rs.ext RS.ext _ _ _ _ h HPW.out) (fun k hk hb => HL.out.2.2 k hk (hs k hb)) (by omega)
    clear hn60 hk hso hsz hlen hset hsiz hW
    have hfb := Lo.fitB_ok HER.out
    rw [Int.toNat_natCast] at hfb
    have HFB := Lib.hid hfb
    obtain ⟨bb, hbb⟩ : ∃ bb, Lo.agree (Lo.some_ (Cd.rowsOf D gs g) pieces M) = bb := ⟨_, rfl⟩
    have HBB := Lib.hid hbb
    have HB2 := Lib.hid (HB.out.next HX.out)
    have HFT2 : Hid (∀ w' : World, Ext w w' → Calls Tryd.prog 42 #[.agg #[.int .i64 D, .slice GA ng Gc, .int .i64 g], .int .i64 (M : Nat), .slice PA pl cp, .int .i64 (sz : Nat)] w' fun e w'' => e = .returned (.bool bb) ∧ Ext w' w'') := Lib.hid fun w' h => by
      rw [← hbb]; exact HFT.out M w' (Lo.Sub.refl M) h
    clear hfb hbb
    go_upto_region 4 with fail
    refine wp_atEnd' (ff4 w w2 C Q ng Gc N M pl cp sz GA PA D g bb HB2 HSZ HFT2 _ _ _ _ _ _ _ _ _ _ _ _ _ _ _ _ _ _ _ _ _ _ _ _ ?_)
    rintro u19 u20 u21 u22 u23 u24 u25 u26 wx hO
    have HO := Lib.hid hO
    have q0 : wx.cell? ⟨Q, 0, none⟩ = some (.bool bb) := HO.out.cell 1 rfl 0 rfl
    have q1 : wx.cell? ⟨Q, 1, none⟩ = some (.int .i64 0) := HO.out.cell 1 rfl 1 rfl
    clear hO
    go_wp2_with fail
    refine bodyPost_ret (results_cell1L (v := .agg #[.bool bb, .int .i64 0]) rfl rfl ?_) rfl ?_
    · go_simp
    exact ⟨by rw [HFB.out, HBB.out, HER.out], HO.out.ext⟩
set_option maxHeartbeats 8000000 in
set_option maxRecDepth 100000 in
theorem r9Clash_any (d gl : Int) (gs : List (List Int)) (n m : Int) (pieces : List (List UInt8)) (PA : Option Addr) (cp : Nat) (G : Value) (w : World) (hG : Rs (Rs RI) w G gs) (hgn : gs.length ≤ 1000000) (hp : Rs RS w (.slice PA pieces.length cp) pieces) (hgiv : Lo.givE d gl gs n m pieces = 0 → n ≤ 60 ∧ (Cd.rowsOf d gs gl).length ≤ 14) :
    Calls Tryd.prog 20 #[.agg #[.int .i64 d, G, .int .i64 gl], .int .i64 n, .int .i64 m, .slice PA pieces.length cp] w fun e w' => ∃ x E, e = .returned (.agg #[.int .i64 x, .int .i64 E]) ∧ Lo.ClashOut d gl gs n m pieces x E ∧ Ext w w' := by
  have HGN := Lib.hid hgn
  clear hgn
  obtain ⟨GA, Gc, rfl, _⟩ := hG.form
  obtain ⟨ng, hng⟩ : ∃ ng, gs.length = ng := ⟨_, rfl⟩
  rw [hng] at hG ⊢
  have hB := ((Owns.start w (L := [no, no]) (by intro r hr; simp at hr; subst hr; exact ⟨rfl, rfl, rfl⟩)).new 0 #[.int .i64 d, .slice GA ng Gc, .int .i64 gl] 24 (by simp [maxLen])).new 1 #[.int .i64 0, .int .i64 0] 45 (by simp [maxLen])
  simp only [World.size_alloc] at hB
  have HG := Lib.hid hG
  have HB : Hid (Owns w ((w.alloc (.cells #[.int .i64 d, .slice GA ng Gc, .int .i64 gl] 24)).alloc (.cells #[.int .i64 0, .int .i64 0] 45)) [⟨.slice (some ⟨w.heap.size, 0, none⟩) 3 3, 24, 1, 3, [.int .i64 d, .slice GA ng Gc, .int .i64 gl]⟩, ⟨.slice (some ⟨w.heap.size + 1, 0, none⟩) 2 2, 45, 1, 2, [.int .i64 0, .int .i64 0]⟩]) := Lib.hid hB
  have HNG := Lib.hid hng
  obtain ⟨pl, hpl⟩ : ∃ pl, pieces.length = pl := ⟨_, rfl⟩
  rw [hpl] at hp ⊢
  have HPP := Lib.hid (Rs.ext RS.ext _ _ _ _ HB.out.ext hp)
  have HPW := Lib.hid hp
  have HPL := Lib.hid hpl
  have HGIV := Lib.hid hgiv
  clear hG hB hng hp hpl hgiv
  go_enter Tryd.func20, Tryd.ntmps20
  go_upto_region 1 with fail
  obtain ⟨C, hC⟩ : ∃ x, w.heap.size = x := ⟨_, rfl⟩
  rw [hC] at HB ⊢
  obtain ⟨Q, hQ⟩ : ∃ x, C + 1 = x := ⟨_, rfl⟩
  rw [hQ] at HB ⊢
  have nCQ : C ≠ Q := by omega
  obtain ⟨w1, hw1⟩ : ∃ x, ((w.alloc (.cells #[.int .i64 d, .slice GA ng Gc, .int .i64 gl] 24)).alloc (.cells #[.int .i64 0, .int .i64 0] 45)) = x := ⟨_, rfl⟩
  rw [hw1] at HB HPP ⊢
  clear hw1 hC hQ
  have HX := Lib.hid (Ext.refl w1)
  have hgv := r9Given_any d gl n m gs pieces _ PA cp w1 (Rs.ext (Rs.ext RI.ext) _ _ _ _ (HB.out.ext.trans HX.out) HG.out) (by rw [HPL.out]; exact HPP.out) HGN.out
  rw [HPL.out] at hgv
  have HGV := Lib.hid hgv
  clear hgv
  have k00 : w1.cell? ⟨C, 0, none⟩ = some (.int .i64 d) := (HB.out.next HX.out).cell 0 rfl 0 rfl
  have k01 : w1.cell? ⟨C, 1, none⟩ = some (.slice GA ng Gc) := (HB.out.next HX.out).cell 0 rfl 1 rfl
  have k02 : w1.cell? ⟨C, 2, none⟩ = some (.int .i64 gl) := (HB.out.next HX.out).cell 0 rfl 2 rfl
  go_wp2_with fail
  refine HGV.out.mono ?_
  clear HGV k00 k01 k02
  rintro e w2 ⟨rfl, hx⟩
  replace HX := Lib.hid (HX.out.trans hx)
  clear hx
  obtain ⟨er, her⟩ : ∃ er, Lo.givE d gl gs n m pieces = er := ⟨_, rfl⟩
  rw [her]
  have HER := Lib.hid her
  clear her
  by_cases h0 : er = 0
  case neg =>
    have hne2 : (er != 0) = true := by rw [bne_iff_ne]; exact h0
    have HR := Lib.hid (show Lo.ClashOut d gl gs n m pieces 0 er from .inl ⟨by rw [HER.out]; exact h0, rfl, HER.out.symm⟩)
    clear h0
    have HS0 := Lib.hid (HB.out.next HX.out)
    have k10 : w2.cell? ⟨Q, 0, none⟩ = some (.int .i64 0) := (HB.out.next HX.out).cell 1 rfl 0 rfl
    have k11 : w2.cell? ⟨Q, 1, none⟩ = some (.int .i64 0) := (HB.out.next HX.out).cell 1 rfl 1 rfl
    have f10 : w2.frozen? ⟨Q, 0, none⟩ = false := HS0.out.frozen 1 rfl 0
    have f11 : w2.frozen? ⟨Q, 1, none⟩ = false := HS0.out.frozen 1 rfl 1
    have HS := Lib.hid ((HS0.out.store 1 rfl 0 (.int .i64 0)).store 1 rfl 1 (.int .i64 er))
    go_wp2_with fail
    refine bodyPost_ret (results_cell1L (v := .agg #[.int .i64 0, .int .i64 er]) rfl rfl ?_) rfl ?_
    · go_simp
    exact ⟨0, er, rfl, HR.out, HS.out.ext⟩
  case pos =>
    subst h0
    obtain ⟨hn60, hP14⟩ := HGIV.out HER.out
    obtain ⟨N, M, rfl, rfl, hW⟩ := Lo.well HER.out
    have hk := Cd.check_ok hW.chk
    have hso := Cd.sizeOf_nat (d := d.toNat) (gl := gl.toNat) (gs := gs) (n := N) (by omega) (by rw [Int.toNat_of_nonneg (by omega), Int.toNat_of_nonneg (by omega)]; exact hW.chk)
    obtain ⟨D, rfl⟩ : ∃ k : Nat, d = k := ⟨d.toNat, by omega⟩
    obtain ⟨g, rfl⟩ : ∃ k : Nat, gl = k := ⟨gl.toNat, by omega⟩
    rw [Int.toNat_natCast, Int.toNat_natCast] at hso
    have hsf := Lo.sizeN_few (D := D) (n := N) (by omega) (by omega)
    obtain ⟨sz, hsz⟩ : ∃ sz, Cd.sizeN D N = sz := ⟨_, rfl⟩
    rw [hsz] at hso hsf
    have hlen := hW.len
    rw [HPL.out] at hlen
    have hset := hW.set
    rw [← hlen] at hset hP14
    have hsiz : ∀ k, k < pl → Cd.bitAt M k = 1 → (pieces.getD k []).length = sz := fun k hk hb => by
      have := hW.siz k (by rw [HPL.out]; exact hk) hb
      rw [Int.toNat_natCast, hsz] at this
      exact this
    have HW := Lib.hid hW
    have HL := Lib.hid (And.intro hlen (And.intro hset hsiz))
    have HSZ : Hid (∀ w' : World, Ext w w' → Calls Tryd.prog 43 #[.agg #[.int .i64 D, .slice GA ng Gc, .int .i64 g], .int .i64 (N : Nat)] w' fun e w'' => e = .returned (.int .i64 (sz : Nat)) ∧ Ext w' w'') := Lib.hid fun w' h => by
      have := rSize_any D g N gs _ w' (Rs.ext (Rs.ext RI.ext) _ _ _ _ h HG.out) HGN.out
      rw [hso] at this
      exact this
    have HFT : Hid (∀ (S : Nat) (w' : World), Lo.Sub S M → Ext w w' → Calls Tryd.prog 42 #[.agg #[.int .i64 D, .slice GA ng Gc, .int .i64 g], .int .i64 (S : Nat), .slice PA pl cp, .int .i64 (sz : Nat)] w' fun e w'' => e = .returned (.bool (Lo.agree (Lo.some_ (Cd.rowsOf D gs g) pieces S))) ∧ Ext w' w'') := Lib.hid fun S w' hs h =>
      r9Fit_any D g gs S sz pl cp pieces PA _ w' (Rs.ext (Rs.ext RI.ext) _ _ _ _ h HG.out) HGN.out HW.out.chk HL.out.1.symm hP14 (Nat.lt_of_le_of_lt (Lo.sub_le hs) HL.out.2.1) (Rs.ext RS.ext _ _ _ _ h HPW.out) (fun k hk hb => HL.out.2.2 k hk (hs k hb)) (by omega)
    clear hn60 hk hso hsz hlen hset hsiz hW
    have hM14 : M < 16384 := Nat.lt_of_lt_of_le HL.out.2.1 (show 2 ^ pl ≤ 2 ^ 14 from Nat.pow_le_pow_right (by decide) hP14)
    have HPP14 := Lib.hid hP14
    have hcm := cCount_any M w2 (by omega)
    rw [Lo.cnt_is] at hcm
    obtain ⟨nM, hnM⟩ : ∃ nM, Lo.num M = nM := ⟨_, rfl⟩
    rw [hnM] at hcm
    have HCM := Lib.hid hcm
    have HNM := Lib.hid hnM
    clear hcm hnM hP14
    go_wp2_with fail
    refine HCM.out.mono ?_
    clear HCM
    rintro e w' ⟨rfl, rfl⟩
    by_cases h12 : (12 : Int) < (nM : Int)
    · have HR := Lib.hid (show Lo.ClashOut D g gs N M pieces 0 2 from .inr (.inl ⟨HER.out, by rw [Int.toNat_natCast, HNM.out]; omega, rfl, rfl⟩))
      have HS0 := Lib.hid (HB.out.next HX.out)
      have k10 : w2.cell? ⟨Q, 0, none⟩ = some (.int .i64 0) := (HB.out.next HX.out).cell 1 rfl 0 rfl
      have k11 : w2.cell? ⟨Q, 1, none⟩ = some (.int .i64 0) := (HB.out.next HX.out).cell 1 rfl 1 rfl
      have f10 : w2.frozen? ⟨Q, 0, none⟩ = false := HS0.out.frozen 1 rfl 0
      have f11 : w2.frozen? ⟨Q, 1, none⟩ = false := HS0.out.frozen 1 rfl 1
      have HS := Lib.hid ((HS0.out.store 1 rfl 0 (.int .i64 0)).store 1 rfl 1 (.int .i64 2))
      go_wp2_with fail
      refine bodyPost_ret (results_cell1L (v := .agg #[.int .i64 0, .int .i64 2]) rfl rfl ?_) rfl ?_
      · go_simp
      exact ⟨0, 2, rfl, HR.out, HS.out.ext⟩
    have hbad : ∀ S, Lo.badSet D g gs pieces S = !Lo.agree (Lo.some_ (Cd.rowsOf D gs g) pieces S) := fun S => rfl
    have HBAD := Lib.hid hbad
    clear hbad
    go_wp2_with fail
    go_loopw [10, 11, 12, 13, 14] (fun v10 v11 _ _ _ wr => ∃ K b : Nat, 1 ≤ K ∧ K ≤ M + 1 ∧ b < K ∧ v11 = .int .i64 (K : Nat) ∧ v10 = .int .i64 (b : Nat) ∧ Hid (Ext w2 wr ∧ Lo.Best (Lo.badSet D g gs pieces) M K b)) (fun _ v11 _ _ _ _ => M + 1 - (intOf v11).toNat)
    case atStart => exact ⟨1, 0, Nat.le_refl _, by omega, by omega, rfl, rfl, Lib.hid ⟨Ext.refl _, Lo.best_start⟩⟩
    case round =>
      obtain ⟨K, b, hK1, hK, hbK, rfl, rfl, HI⟩ := hrel
      have HXr := Lib.hid (HX.out.trans HI.out.1)
      by_cases hKM : K ≤ M
      · have hand := and64 K M (by omega) (by omega)
        obtain ⟨z, hz⟩ : ∃ z, K &&& M = z := ⟨_, rfl⟩
        rw [hz] at hand
        by_cases hzK : z = K
        · have hsub : Lo.Sub K M := Lo.and_sub.1 (by rw [hz, hzK])
          have hne : ((z : Int) != (K : Int)) = false := by rw [hzK]; simp
          have HSB := Lib.hid hsub
          have hck := cCount_any K wr (by omega)
          have hcb := cCount_any b wr (by omega)
          rw [Lo.cnt_is] at hck hcb
          obtain ⟨nK, hnK⟩ : ∃ n, Lo.num K = n := ⟨_, rfl⟩
          obtain ⟨nb, hnb⟩ : ∃ n, Lo.num b = n := ⟨_, rfl⟩
          rw [hnK] at hck
          rw [hnb] at hcb
          have hbf := r9Before_any K b wr (by omega) (by omega)
          obtain ⟨fb, hfb⟩ : ∃ f, Lo.befF 16 K b = f := ⟨_, rfl⟩
          rw [hfb] at hbf
          have hlt : Lo.Lt K b ↔ (nK < nb ∨ (nK = nb ∧ fb = true)) := by
            unfold Lo.Lt
            rw [hnK, hnb, ← Lo.befF_iff 16 K b (by omega) (by omega), hfb]
          have HCK := Lib.hid hck
          have HCB := Lib.hid hcb
          have HBF := Lib.hid hbf
          have HLT := Lib.hid hlt
          have hsame : (z : Int) = (K : Int) := by rw [hzK]
          clear hz hzK hsub hck hcb hbf hfb hlt hnK hnb
          go_wp2_with fail
          refine HCK.out.mono ?_
          rintro e w' ⟨rfl, rfl⟩
          go_wp2_with fail
          refine HCB.out.mono ?_
          rintro e w' ⟨rfl, rfl⟩
          go_wp2_with fail
          refine HBF.out.mono ?_
          clear HBF
          rintro e w' ⟨rfl, rfl⟩
          by_cases hb0 : b = 0
          · have u1 : ((b : Int) != 0) = false := by rw [hb0]; rfl
            have HL2 : Hid (b = 0 ∨ Lo.Lt K b) := Lib.hid (.inl hb0)
            clear hb0
            obtain ⟨bb, hbb⟩ : ∃ bb, Lo.agree (Lo.some_ (Cd.rowsOf D gs g) pieces K) = bb := ⟨_, rfl⟩
            have HFTr : Hid (∀ w' : World, Ext wr w' → Calls Tryd.prog 42 #[.agg #[.int .i64 D, .slice GA ng Gc, .int .i64 g], .int .i64 (K : Nat), .slice PA pl cp, .int .i64 (sz : Nat)] w' fun e w'' => e = .returned (.bool bb) ∧ Ext w' w'') := Lib.hid fun w' h => by
              rw [← hbb]; exact HFT.out K w' HSB.out (HB.out.ext.trans (HXr.out.trans h))
            have HSZr : Hid (∀ w' : World, Ext wr w' → Calls Tryd.prog 43 #[.agg #[.int .i64 D, .slice GA ng Gc, .int .i64 g], .int .i64 (N : Nat)] w' fun e w'' => e = .returned (.int .i64 (sz : Nat)) ∧ Ext w' w'') := Lib.hid fun w' h => HSZ.out w' (HB.out.ext.trans (HXr.out.trans h))
            have HBB := Lib.hid ((HBAD.out K).trans (congrArg not hbb))
            have k0 : wr.cell? ⟨C, 0, none⟩ = some (.int .i64 D) := (HB.out.next HXr.out).cell 0 rfl 0 rfl
            have k1 : wr.cell? ⟨C, 1, none⟩ = some (.slice GA ng Gc) := (HB.out.next HXr.out).cell 0 rfl 1 rfl
            have k2 : wr.cell? ⟨C, 2, none⟩ = some (.int .i64 g) := (HB.out.next HXr.out).cell 0 rfl 2 rfl
            clear hbb
            go_upto_region 14 with fail
            refine wp_atEnd' (cc14 wr C ng Gc N K pl cp sz GA PA D g bb k0 k1 k2 HSZr HFTr _ _ _ _ _ _ _ _ _ _ _ _ _ _ _ _ _ _ _ _ _ _ _ _ _ _ _ _ _ _ _ _ _ _ _ _ _ _ _ _ _ _ _ _ _ _ _ _ _ _ _ _ _ _ _ _ _ _ _ _ _ _ _ _ _ _ _ _ _ _ _ _ _ _ _ _ ?_)
            rintro u63 u64 u65 u66 u67 u68 u69 wy hx
            have HY := Lib.hid hx
            clear hx k0 k1 k2 HSZr HFTr
            cases bb with
            | true =>
              go_wp2_with fail
              go_roundw
              case rel => exact ⟨K + 1, b, by omega, by omega, by omega, by go_num, rfl, Lib.hid ⟨HI.out.1.trans HY.out, Lo.best_keep HI.out.2 fun _ h => by have := HBB.out; rw [h] at this; cases this⟩⟩
              case measure => simp [intOf]; omega
            | false =>
              go_wp2_with fail
              go_roundw
              case rel => exact ⟨K + 1, K, by omega, by omega, by omega, by go_num, rfl, Lib.hid ⟨HI.out.1.trans HY.out, Lo.best_take (by omega) HI.out.2 HSB.out HBB.out HL2.out⟩⟩
              case measure => simp [intOf]; omega
          · have u1 : ((b : Int) != 0) = true := by rw [bne_iff_ne]; omega
            have HB0 := Lib.hid hb0
            clear hb0
            by_cases hless : (nK : Int) < (nb : Int)
            · have v1 : decide (nK < nb) = true := decide_eq_true (by omega)
              have HL2 : Hid (b = 0 ∨ Lo.Lt K b) := Lib.hid (.inr (HLT.out.2 (.inl (by omega))))
              obtain ⟨bb, hbb⟩ : ∃ bb, Lo.agree (Lo.some_ (Cd.rowsOf D gs g) pieces K) = bb := ⟨_, rfl⟩
              have HFTr : Hid (∀ w' : World, Ext wr w' → Calls Tryd.prog 42 #[.agg #[.int .i64 D, .slice GA ng Gc, .int .i64 g], .int .i64 (K : Nat), .slice PA pl cp, .int .i64 (sz : Nat)] w' fun e w'' => e = .returned (.bool bb) ∧ Ext w' w'') := Lib.hid fun w' h => by
                rw [← hbb]; exact HFT.out K w' HSB.out (HB.out.ext.trans (HXr.out.trans h))
              have HSZr : Hid (∀ w' : World, Ext wr w' → Calls Tryd.prog 43 #[.agg #[.int .i64 D, .slice GA ng Gc, .int .i64 g], .int .i64 (N : Nat)] w' fun e w'' => e = .returned (.int .i64 (sz : Nat)) ∧ Ext w' w'') := Lib.hid fun w' h => HSZ.out w' (HB.out.ext.trans (HXr.out.trans h))
              have HBB := Lib.hid ((HBAD.out K).trans (congrArg not hbb))
              have k0 : wr.cell? ⟨C, 0, none⟩ = some (.int .i64 D) := (HB.out.next HXr.out).cell 0 rfl 0 rfl
              have k1 : wr.cell? ⟨C, 1, none⟩ = some (.slice GA ng Gc) := (HB.out.next HXr.out).cell 0 rfl 1 rfl
              have k2 : wr.cell? ⟨C, 2, none⟩ = some (.int .i64 g) := (HB.out.next HXr.out).cell 0 rfl 2 rfl
              clear hbb
              go_upto_region 14 with fail
              refine wp_atEnd' (cc14 wr C ng Gc N K pl cp sz GA PA D g bb k0 k1 k2 HSZr HFTr _ _ _ _ _ _ _ _ _ _ _ _ _ _ _ _ _ _ _ _ _ _ _ _ _ _ _ _ _ _ _ _ _ _ _ _ _ _ _ _ _ _ _ _ _ _ _ _ _ _ _ _ _ _ _ _ _ _ _ _ _ _ _ _ _ _ _ _ _ _ _ _ _ _ _ _ ?_)
              rintro u63 u64 u65 u66 u67 u68 u69 wy hx
              have HY := Lib.hid hx
              clear hx k0 k1 k2 HSZr HFTr
              cases bb with
              | true =>
                go_wp2_with fail
                go_roundw
                case rel => exact ⟨K + 1, b, by omega, by omega, by omega, by go_num, rfl, Lib.hid ⟨HI.out.1.trans HY.out, Lo.best_keep HI.out.2 fun _ h => by have := HBB.out; rw [h] at this; cases this⟩⟩
                case measure => simp [intOf]; omega
              | false =>
                go_wp2_with fail
                go_roundw
                case rel => exact ⟨K + 1, K, by omega, by omega, by omega, by go_num, rfl, Lib.hid ⟨HI.out.1.trans HY.out, Lo.best_take (by omega) HI.out.2 HSB.out HBB.out HL2.out⟩⟩
                case measure => simp [intOf]; omega
            · have v1 : decide (nK < nb) = false := decide_eq_false (by omega)
              go_wp2_with fail
              refine HCK.out.mono ?_
              rintro e w' ⟨rfl, rfl⟩
              go_wp2_with fail
              refine HCB.out.mono ?_
              rintro e w' ⟨rfl, rfl⟩
              clear HCK HCB
              by_cases hgt : (nb : Int) < (nK : Int)
              · have v2 : decide (nb < nK) = true := decide_eq_true (by omega)
                have HNL : Hid (¬ Lo.Lt K b) := Lib.hid fun h => by have := HLT.out.1 h; omega
                go_wp2_with fail
                go_roundw
                case rel => exact ⟨K + 1, b, by omega, by omega, by omega, by go_num, rfl, Lib.hid ⟨HI.out.1, Lo.best_keep HI.out.2 fun _ _ => ⟨HB0.out, by
                  rcases Lo.lt_or (a := b) (b := K) (by omega) with h | h
                  · exact h
                  · exact absurd h HNL.out⟩⟩⟩
                case measure => simp [intOf]; omega
              · have v2 : decide (nb < nK) = false := decide_eq_false (by omega)
                cases fb with
                | false =>
                  have HNL : Hid (¬ Lo.Lt K b) := Lib.hid fun h => by
                    rcases HLT.out.1 h with h | h
                    · omega
                    · exact absurd h.2 (by decide)
                  go_wp2_with fail
                  go_roundw
                  case rel => exact ⟨K + 1, b, by omega, by omega, by omega, by go_num, rfl, Lib.hid ⟨HI.out.1, Lo.best_keep HI.out.2 fun _ _ => ⟨HB0.out, by
                    rcases Lo.lt_or (a := b) (b := K) (by omega) with h | h
                    · exact h
                    · exact absurd h HNL.out⟩⟩⟩
                  case measure => simp [intOf]; omega
                | true =>
                  have HL2 : Hid (b = 0 ∨ Lo.Lt K b) := Lib.hid (.inr (HLT.out.2 (.inr ⟨by omega, rfl⟩)))
                  obtain ⟨bb, hbb⟩ : ∃ bb, Lo.agree (Lo.some_ (Cd.rowsOf D gs g) pieces K) = bb := ⟨_, rfl⟩
                  have HFTr : Hid (∀ w' : World, Ext wr w' → Calls Tryd.prog 42 #[.agg #[.int .i64 D, .slice GA ng Gc, .int .i64 g], .int .i64 (K : Nat), .slice PA pl cp, .int .i64 (sz : Nat)] w' fun e w'' => e = .returned (.bool bb) ∧ Ext w' w'') := Lib.hid fun w' h => by
                    rw [← hbb]; exact HFT.out K w' HSB.out (HB.out.ext.trans (HXr.out.trans h))
                  have HSZr : Hid (∀ w' : World, Ext wr w' → Calls Tryd.prog 43 #[.agg #[.int .i64 D, .slice GA ng Gc, .int .i64 g], .int .i64 (N : Nat)] w' fun e w'' => e = .returned (.int .i64 (sz : Nat)) ∧ Ext w' w'') := Lib.hid fun w' h => HSZ.out w' (HB.out.ext.trans (HXr.out.trans h))
                  have HBB := Lib.hid ((HBAD.out K).trans (congrArg not hbb))
                  have k0 : wr.cell? ⟨C, 0, none⟩ = some (.int .i64 D) := (HB.out.next HXr.out).cell 0 rfl 0 rfl
                  have k1 : wr.cell? ⟨C, 1, none⟩ = some (.slice GA ng Gc) := (HB.out.next HXr.out).cell 0 rfl 1 rfl
                  have k2 : wr.cell? ⟨C, 2, none⟩ = some (.int .i64 g) := (HB.out.next HXr.out).cell 0 rfl 2 rfl
                  clear hbb
                  go_upto_region 14 with fail
                  refine wp_atEnd' (cc14 wr C ng Gc N K pl cp sz GA PA D g bb k0 k1 k2 HSZr HFTr _ _ _ _ _ _ _ _ _ _ _ _ _ _ _ _ _ _ _ _ _ _ _ _ _ _ _ _ _ _ _ _ _ _ _ _ _ _ _ _ _ _ _ _ _ _ _ _ _ _ _ _ _ _ _ _ _ _ _ _ _ _ _ _ _ _ _ _ _ _ _ _ _ _ _ _ ?_)
                  rintro u63 u64 u65 u66 u67 u68 u69 wy hx
                  have HY := Lib.hid hx
                  clear hx k0 k1 k2 HSZr HFTr
                  cases bb with
                  | true =>
                    go_wp2_with fail
                    go_roundw
                    case rel => exact ⟨K + 1, b, by omega, by omega, by omega, by go_num, rfl, Lib.hid ⟨HI.out.1.trans HY.out, Lo.best_keep HI.out.2 fun _ h => by have := HBB.out; rw [h] at this; cases this⟩⟩
                    case measure => simp [intOf]; omega
                  | false =>
                    go_wp2_with fail
                    go_roundw
                    case rel => exact ⟨K + 1, K, by omega, by omega, by omega, by go_num, rfl, Lib.hid ⟨HI.out.1.trans HY.out, Lo.best_take (by omega) HI.out.2 HSB.out HBB.out HL2.out⟩⟩
                    case measure => simp [intOf]; omega
        · have hns : ¬ Lo.Sub K M := fun h => hzK (by rw [← hz]; exact Lo.and_sub.2 h)
          have he : ((z : Int) != (K : Int)) = true := by rw [bne_iff_ne]; omega
          have HNS := Lib.hid hns
          clear hz hns hzK
          go_wp2_with fail
          go_roundw
          case rel => exact ⟨K + 1, b, by omega, by omega, by omega, by go_num, rfl, Lib.hid ⟨HI.out.1, Lo.best_keep HI.out.2 fun h => absurd h HNS.out⟩⟩
          case measure => simp [intOf]; omega
      · obtain rfl : K = M + 1 := by omega
        have hbe := Lo.best_end HI.out.2
        replace HX := HXr
        by_cases hb0 : b = 0
        · have u1 : ((b : Int) == 0) = true := by rw [hb0]; rfl
          have HR := Lib.hid (show Lo.ClashOut D g gs N M pieces 0 8 from .inr (.inr ⟨HER.out, by rw [Int.toNat_natCast, HNM.out]; omega, .inl ⟨rfl, rfl, by
            rw [Int.toNat_natCast]
            rcases hbe with h | h
            · exact h.2
            · exact absurd hb0 h.1⟩⟩))
          clear hb0 hbe
          have HS0 := Lib.hid (HB.out.next HX.out)
          have k10 : wr.cell? ⟨Q, 0, none⟩ = some (.int .i64 0) := (HB.out.next HX.out).cell 1 rfl 0 rfl
          have k11 : wr.cell? ⟨Q, 1, none⟩ = some (.int .i64 0) := (HB.out.next HX.out).cell 1 rfl 1 rfl
          have f10 : wr.frozen? ⟨Q, 0, none⟩ = false := HS0.out.frozen 1 rfl 0
          have f11 : wr.frozen? ⟨Q, 1, none⟩ = false := HS0.out.frozen 1 rfl 1
          have HS := Lib.hid ((HS0.out.store 1 rfl 0 (.int .i64 0)).store 1 rfl 1 (.int .i64 8))
          go_wp2_with fail
          refine bodyPost_ret (results_cell1L (v := .agg #[.int .i64 0, .int .i64 8]) rfl rfl ?_) rfl ?_
          · go_simp
          exact ⟨0, 8, rfl, HR.out, HS.out.ext⟩
        · have u1 : ((b : Int) == 0) = false := by rw [beq_eq_false_iff_ne]; omega
          have HR := Lib.hid (show Lo.ClashOut D g gs N M pieces b 0 from .inr (.inr ⟨HER.out, by rw [Int.toNat_natCast, HNM.out]; omega, .inr ⟨b, rfl, rfl, by
            rw [Int.toNat_natCast]
            rcases hbe with h | h
            · exact absurd h.1 hb0
            · exact h⟩⟩))
          clear hb0 hbe
          have HS0 := Lib.hid (HB.out.next HX.out)
          have k10 : wr.cell? ⟨Q, 0, none⟩ = some (.int .i64 0) := (HB.out.next HX.out).cell 1 rfl 0 rfl
          have k11 : wr.cell? ⟨Q, 1, none⟩ = some (.int .i64 0) := (HB.out.next HX.out).cell 1 rfl 1 rfl
          have f10 : wr.frozen? ⟨Q, 0, none⟩ = false := HS0.out.frozen 1 rfl 0
          have f11 : wr.frozen? ⟨Q, 1, none⟩ = false := HS0.out.frozen 1 rfl 1
          have HS := Lib.hid ((HS0.out.store 1 rfl 0 (.int .i64 b)).store 1 rfl 1 (.int .i64 0))
          go_wp2_with fail
          refine bodyPost_ret (results_cell1L (v := .agg #[.int .i64 b, .int .i64 0]) rfl rfl ?_) rfl ?_
          · go_simp
          exact ⟨b, 0, rfl, HR.out, HS.out.ext⟩
end Go.Proofs.YtggfkpalkdkbdaaDoor

/- THE SPECIFICATION'S SOLVING of equations, in plain terms: it finds what they fit. -/
namespace Cd
open Gf
def swapR (l : List (List UInt8)) (p a : Nat) : List (List UInt8) := (l.set p (l.getD a [])).set a (l.getD p [])
theorem swapR_len (l : List (List UInt8)) (p a : Nat) : (swapR l p a).length = l.length := by simp [swapR]
theorem getD_set_eq {α : Type} {l : List α} {i : Nat} {x y : α} (h : i < l.length) : (l.set i x).getD i y = x := by
  rw [List.getD_eq_getElem?_getD, List.getElem?_set_self h]; rfl
theorem getD_set_ne2 {α : Type} {l : List α} {i j : Nat} {x y : α} (h : i ≠ j) : (l.set i x).getD j y = l.getD j y := by
  rw [List.getD_eq_getElem?_getD, List.getD_eq_getElem?_getD, List.getElem?_set_ne h]
theorem swapR_a {l : List (List UInt8)} {p a : Nat} (ha : a < l.length) : (swapR l p a).getD a [] = l.getD p [] := getD_set_eq (by simpa using ha)
theorem swapR_p {l : List (List UInt8)} {p a : Nat} (hp : p < l.length) (h : p ≠ a) : (swapR l p a).getD p [] = l.getD a [] := by
  unfold swapR
  rw [getD_set_ne2 (Ne.symm h), getD_set_eq hp]
theorem swapR_other {l : List (List UInt8)} {p a k : Nat} (h : k ≠ p) (h2 : k ≠ a) : (swapR l p a).getD k [] = l.getD k [] := by
  unfold swapR
  rw [getD_set_ne2 (Ne.symm h2), getD_set_ne2 (Ne.symm h)]
/-- All rows but a, of the first m, made 0 at a. -/
def elimTo (l : List (List UInt8)) (a : Nat) : Nat → List (List UInt8)
  | 0 => l
  | m + 1 => if m = a then elimTo l a m else (elimTo l a m).set m (lessR ((elimTo l a m).getD m []) ((elimTo l a m).getD a []) a)
theorem elimTo_zero (l : List (List UInt8)) (a : Nat) : elimTo l a 0 = l := rfl
theorem elimTo_skip (l : List (List UInt8)) (a : Nat) : elimTo l a (a + 1) = elimTo l a a := by rw [elimTo, if_pos rfl]
theorem elimTo_next {l : List (List UInt8)} {a m : Nat} (h : m ≠ a) : elimTo l a (m + 1) = (elimTo l a m).set m (lessR ((elimTo l a m).getD m []) ((elimTo l a m).getD a []) a) := by rw [elimTo, if_neg h]
theorem elimTo_len (l : List (List UInt8)) (a : Nat) : ∀ m, (elimTo l a m).length = l.length
  | 0 => rfl
  | m + 1 => by
    have ih := elimTo_len l a m
    by_cases h : m = a
    · subst h; rw [elimTo_skip, ih]
    · rw [elimTo_next h, List.length_set, ih]
theorem elimTo_get {l : List (List UInt8)} {a : Nat} : ∀ {m k : Nat}, m ≤ l.length → (elimTo l a m).getD k [] = if k < m ∧ k ≠ a then lessR (l.getD k []) (l.getD a []) a else l.getD k []
  | 0, k, _ => by rw [elimTo_zero, if_neg (by omega)]
  | m + 1, k, hm => by
    have ih := fun k => elimTo_get (l := l) (a := a) (m := m) (k := k) (by omega)
    by_cases h : m = a
    · subst h
      rw [elimTo_skip, ih]
      by_cases hk : k < m ∧ k ≠ m
      · rw [if_pos hk, if_pos ⟨by omega, hk.2⟩]
      · rw [if_neg hk, if_neg (by omega)]
    · rw [elimTo_next h]
      by_cases hk : k = m
      · subst hk
        rw [getD_set_eq (by rw [elimTo_len]; omega), if_pos ⟨by omega, h⟩, ih, ih, if_neg (by omega), if_neg (by omega)]
      · rw [getD_set_ne2 (Ne.symm hk), ih]
        by_cases hk2 : k < m ∧ k ≠ a
        · rw [if_pos hk2, if_pos ⟨by omega, hk2.2⟩]
        · rw [if_neg hk2, if_neg (by omega)]
/-- The first row from a on that is not 0 at a. -/
def pivFrom (l : List (List UInt8)) (a : Nat) : Nat := ((List.range l.length).find? fun k => decide (a ≤ k) && decide ((l.getD k []).getD a 0 ≠ 0)).getD 0
theorem pivFrom_at {l : List (List UInt8)} {a p : Nat} (hp : p < l.length) (ha : a ≤ p) (h : (l.getD p []).getD a 0 ≠ 0) (hb : ∀ j, a ≤ j → j < p → (l.getD j []).getD a 0 = 0) : pivFrom l a = p := by
  have : (List.range l.length).find? (fun k => decide (a ≤ k) && decide ((l.getD k []).getD a 0 ≠ 0)) = some p := by
    rw [List.find?_range_eq_some]
    refine ⟨?_, by simpa using hp, fun j hj => ?_⟩
    · rw [decide_eq_true ha, decide_eq_true h]; rfl
    · by_cases h0 : a ≤ j
      · rw [hb j h0 hj]; simp
      · simp [h0]
  rw [pivFrom, this]
  rfl
def gjStep (l : List (List UInt8)) (a : Nat) : List (List UInt8) := elimTo (swapR l (pivFrom l a) a) a l.length
def gjTo (l : List (List UInt8)) : Nat → List (List UInt8)
  | 0 => l
  | a + 1 => gjStep (gjTo l a) a
theorem gjTo_zero (l : List (List UInt8)) : gjTo l 0 = l := rfl
theorem gjTo_next (l : List (List UInt8)) (a : Nat) : gjTo l (a + 1) = elimTo (swapR (gjTo l a) (pivFrom (gjTo l a) a) a) a (gjTo l a).length := rfl
/-- The state after a columns. -/
structure GJ (n N : Nat) (l : List (List UInt8)) (a : Nat) : Prop where
  size : l.length = N
  len : ∀ r ∈ l, r.length = n + 1
  diag : ∀ i, i < a → i < N ∧ (l.getD i []).getD i 0 ≠ 0 ∧ ∀ k, k < N → k ≠ i → (l.getD k []).getD i 0 = 0
  span : ∀ v, SpanL n l v
/-- There is a pivot. -/
theorem GJ.pivot {n N a : Nat} {l : List (List UInt8)} (h : GJ n N l a) (ha : a < n) : ∃ p, a ≤ p ∧ p < N ∧ (l.getD p []).getD a 0 ≠ 0 := by
  apply Classical.byContradiction
  intro hno
  have hz : ∀ k, a ≤ k → k < N → (l.getD k []).getD a 0 = 0 := fun k h1 h2 => Classical.byContradiction fun h3 => hno ⟨k, h1, h2, h3⟩
  obtain ⟨c, hc⟩ := h.span (unit a)
  rw [h.size] at hc
  have hc0 : ∀ j, j < a → c j = 0 := fun j hj => by
    obtain ⟨d1, d2, d3⟩ := h.diag j hj
    have h1 := hc j (by omega)
    rw [sm_one (p := j) _ d1 fun k hk hne => by
      show mul (c k) ((l.getD k []).getD j 0) = 0
      rw [d3 k hk hne, mul_zero]] at h1
    rw [unit, if_neg (by omega)] at h1
    exact Classical.byContradiction fun hne => mul_ne_zero hne d2 h1.symm
  have h2 := hc a ha
  rw [sm_zero fun k hk => by
    show mul (c k) ((l.getD k []).getD a 0) = 0
    by_cases hka : k < a
    · rw [hc0 k hka, zero_mul]
    · rw [hz k (by omega) hk, mul_zero]] at h2
  rw [unit, if_pos rfl] at h2
  exact absurd h2 (by decide)
theorem pivFrom_spec {l : List (List UInt8)} {a p : Nat} (hp : p < l.length) (ha : a ≤ p) (h : (l.getD p []).getD a 0 ≠ 0) : a ≤ pivFrom l a ∧ pivFrom l a < l.length ∧ (l.getD (pivFrom l a) []).getD a 0 ≠ 0 ∧ ∀ j, a ≤ j → j < pivFrom l a → (l.getD j []).getD a 0 = 0 := by
  induction p using Nat.strongRecOn with
  | ind p ih =>
    by_cases hb : ∀ j, a ≤ j → j < p → (l.getD j []).getD a 0 = 0
    · have he := pivFrom_at hp ha h hb
      rw [he]
      exact ⟨ha, hp, h, hb⟩
    · have : ∃ j, a ≤ j ∧ j < p ∧ (l.getD j []).getD a 0 ≠ 0 := by
        apply Classical.byContradiction
        intro hn
        exact hb fun j h1 h2 => Classical.byContradiction fun h3 => hn ⟨j, h1, h2, h3⟩
      obtain ⟨j, j1, j2, j3⟩ := this
      exact ih j j2 (by omega) j1 j3
theorem getD_mem2 {α : Type} {l : List α} {x y : α} (h : x ∈ l) : ∃ k, k < l.length ∧ l.getD k y = x := by
  obtain ⟨k, hk, rfl⟩ := List.getElem_of_mem h
  exact ⟨k, hk, by rw [List.getD_eq_getElem?_getD, List.getElem?_eq_getElem hk]; rfl⟩
theorem GJ.swap {n N a : Nat} {l : List (List UInt8)} (h : GJ n N l a) {p : Nat} (h1 : a ≤ p) (h2 : p < N) : GJ n N (swapR l p a) a := by
  have hget : ∀ k, k < N → ∃ j, j < N ∧ (swapR l p a).getD k [] = l.getD j [] ∧ (k < a → j = k) ∧ (a ≤ k → a ≤ j) := fun k hk => by
    by_cases hka : k = a
    · subst hka
      exact ⟨p, h2, swapR_a (by rw [h.size]; exact hk), by omega, by omega⟩
    · by_cases hkp : k = p
      · subst hkp
        exact ⟨a, by omega, swapR_p (by rw [h.size]; exact hk) hka, by omega, by omega⟩
      · exact ⟨k, hk, swapR_other hkp hka, fun _ => rfl, id⟩
  refine ⟨by rw [swapR_len, h.size], fun r hr => ?_, fun i hi => ?_, fun v => (h.span v).mono fun x hx => ?_⟩
  · obtain ⟨k, hk, rfl⟩ := getD_mem2 (y := []) hr
    rw [swapR_len, h.size] at hk
    obtain ⟨j, j1, j2, _⟩ := hget k hk
    rw [j2]
    exact h.len _ (getD_mem (by rw [h.size]; exact j1))
  · obtain ⟨d1, d2, d3⟩ := h.diag i hi
    refine ⟨d1, ?_, fun k hk hne => ?_⟩
    · obtain ⟨j, j1, j2, j3, _⟩ := hget i d1
      rw [j2, j3 hi]
      exact d2
    · obtain ⟨j, j1, j2, j3, j4⟩ := hget k hk
      rw [j2]
      refine d3 j j1 ?_
      by_cases hka : k < a
      · rw [j3 hka]; exact hne
      · have := j4 (by omega)
        omega
  · obtain ⟨k, hk, rfl⟩ := getD_mem2 (y := []) hx
    rw [h.size] at hk
    by_cases hka : k = a
    · by_cases hpa : p = a
      · subst hpa
        rw [hka, ← swapR_a (p := p) (a := p) (by rw [h.size]; exact h2)]
        exact getD_mem (by rw [swapR_len, h.size]; exact h2)
      · rw [hka, ← swapR_p (by rw [h.size]; exact h2) hpa]
        exact getD_mem (by rw [swapR_len, h.size]; exact h2)
    · by_cases hkp : k = p
      · rw [hkp, ← swapR_a (p := p) (a := a) (by rw [h.size]; omega)]
        exact getD_mem (by rw [swapR_len, h.size]; omega)
      · rw [← swapR_other hkp hka]
        exact getD_mem (by rw [swapR_len, h.size]; exact hk)
theorem GJ.elim {n N a : Nat} {l : List (List UInt8)} (h : GJ n N l a) (haN : a < N) (han : a < n) (hne : (l.getD a []).getD a 0 ≠ 0) : GJ n N (elimTo l a l.length) (a + 1) := by
  have hget : ∀ k, k < N → k ≠ a → (elimTo l a l.length).getD k [] = lessR (l.getD k []) (l.getD a []) a := fun k hk hka => by
    rw [elimTo_get (Nat.le_refl _), if_pos ⟨by rw [h.size]; exact hk, hka⟩]
  have hgeta : (elimTo l a l.length).getD a [] = l.getD a [] := by rw [elimTo_get (Nat.le_refl _), if_neg (by omega)]
  have hlen : ∀ k, k < N → (l.getD k []).length = n + 1 := fun k hk => h.len _ (getD_mem (by rw [h.size]; exact hk))
  have hsz : (elimTo l a l.length).length = N := by rw [elimTo_len, h.size]
  refine ⟨hsz, fun r hr => ?_, fun i hi => ?_, fun v => (h.span v).trans fun x hx => ?_⟩
  · obtain ⟨k, hk, rfl⟩ := getD_mem2 (y := []) hr
    rw [hsz] at hk
    by_cases hka : k = a
    · rw [hka, hgeta]; exact hlen a haN
    · rw [hget k hk hka, lessR_len]; exact hlen k hk
  · by_cases hia : i = a
    · subst hia
      refine ⟨haN, by rw [hgeta]; exact hne, fun k hk hki => ?_⟩
      rw [hget k hk hki]
      exact lessR_zero (by rw [hlen k hk]; omega) hne
    · obtain ⟨d1, d2, d3⟩ := h.diag i (by omega)
      have ha0 : (l.getD a []).getD i 0 = 0 := d3 a haN (Ne.symm hia)
      have hkeep : ∀ k, k < N → ((elimTo l a l.length).getD k []).getD i 0 = (l.getD k []).getD i 0 := fun k hk => by
        by_cases hka : k = a
        · rw [hka, hgeta]
        · rw [hget k hk hka, lessR_get (by rw [hlen k hk]; omega), ha0, mul_zero, UInt8.xor_zero]
      refine ⟨d1, by rw [hkeep i d1]; exact d2, fun k hk hki => ?_⟩
      rw [hkeep k hk]
      exact d3 k hk hki
  · obtain ⟨k, hk, rfl⟩ := getD_mem2 (y := []) hx
    rw [h.size] at hk
    have hma := SpanL.mem (n := n) (getD_mem (l := elimTo l a l.length) (k := a) (x := []) (by rw [hsz]; exact haN))
    rw [hgeta] at hma
    by_cases hka : k = a
    · rw [hka]; exact hma
    · have hmk := SpanL.mem (n := n) (getD_mem (l := elimTo l a l.length) (k := k) (x := []) (by rw [hsz]; exact hk))
      rw [hget k hk hka] at hmk
      refine (hmk.add (hma.smul (mul ((l.getD k []).getD a 0) (inv ((l.getD a []).getD a 0))))).congr fun i hi => ?_
      have e : vec (lessR (l.getD k []) (l.getD a []) a) i = _ := lessR_get (by rw [hlen k hk]; omega)
      rw [e]
      show (l.getD k []).getD i 0 = (l.getD k []).getD i 0 ^^^ mul _ ((l.getD a []).getD i 0) ^^^ mul _ ((l.getD a []).getD i 0)
      rw [xor_assoc, UInt8.xor_self, UInt8.xor_zero]
/-- Every step goes. -/
theorem gj_good {n N : Nat} {l : List (List UInt8)} (h : GJ n N l 0) : ∀ a, a ≤ n → GJ n N (gjTo l a) a
  | 0, _ => h
  | a + 1, ha => by
    have ih := gj_good h a (by omega)
    obtain ⟨q, q1, q2, q3⟩ := ih.pivot (by omega)
    obtain ⟨p1, p2, p3, _⟩ := pivFrom_spec (by rw [ih.size]; exact q2) q1 q3
    rw [ih.size] at p2
    have hs := ih.swap p1 p2
    rw [gjTo_next, ← swapR_len (gjTo l a) (pivFrom (gjTo l a) a) a]
    refine hs.elim (by omega) (by omega) ?_
    rw [swapR_a (by rw [ih.size]; omega)]
    exact p3
/-- All equations hold of what the data are. -/
def EqsOf (n : Nat) (D : Nat → UInt8) (l : List (List UInt8)) : Prop := ∀ r ∈ l, r.length = n + 1 ∧ r.getD n 0 = sm n fun i => mul (r.getD i 0) (D i)
theorem eqs_less {n : Nat} {D : Nat → UInt8} {r o : List UInt8} {a : Nat} (hr : r.length = n + 1 ∧ r.getD n 0 = sm n fun i => mul (r.getD i 0) (D i)) (ho : o.length = n + 1 ∧ o.getD n 0 = sm n fun i => mul (o.getD i 0) (D i)) :
    (lessR r o a).length = n + 1 ∧ (lessR r o a).getD n 0 = sm n fun i => mul ((lessR r o a).getD i 0) (D i) := by
  refine ⟨by rw [lessR_len, hr.1], ?_⟩
  rw [lessR_get (by rw [hr.1]; omega), hr.2, ho.2, sm_mul, ← sm_add]
  refine sm_congr fun i hi => ?_
  rw [lessR_get (by rw [hr.1]; omega), xor_mul]
  congr 1
  exact (mul_assoc _ _ _).symm
theorem eqs_step {n a : Nat} {D : Nat → UInt8} {l : List (List UInt8)} (h : EqsOf n D l) {p : Nat} (ha : a < l.length) (hp : p < l.length) : EqsOf n D (elimTo (swapR l p a) a l.length) := by
  have hs : EqsOf n D (swapR l p a) := fun r hr => by
    obtain ⟨k, hk, rfl⟩ := getD_mem2 (y := []) hr
    rw [swapR_len] at hk
    by_cases hka : k = a
    · rw [hka, swapR_a ha]; exact h _ (getD_mem hp)
    · by_cases hkp : k = p
      · rw [hkp, swapR_p hp (by omega)]; exact h _ (getD_mem ha)
      · rw [swapR_other hkp hka]; exact h _ (getD_mem hk)
  intro r hr
  obtain ⟨k, hk, rfl⟩ := getD_mem2 (y := []) hr
  rw [elimTo_len, swapR_len] at hk
  rw [elimTo_get (by rw [swapR_len]; exact Nat.le_refl _)]
  have e1 := hs _ (getD_mem (l := swapR l p a) (k := k) (x := []) (by rw [swapR_len]; exact hk))
  split
  · exact eqs_less e1 (hs _ (getD_mem (l := swapR l p a) (k := a) (x := []) (by rw [swapR_len]; exact ha)))
  · exact e1
theorem gj_eqs {n N : Nat} {D : Nat → UInt8} {l : List (List UInt8)} (h : GJ n N l 0) (he : EqsOf n D l) : ∀ a, a ≤ n → EqsOf n D (gjTo l a)
  | 0, _ => he
  | a + 1, ha => by
    have ih := gj_eqs h he a (by omega)
    have hg := gj_good h a (by omega)
    obtain ⟨q, q1, q2, q3⟩ := hg.pivot (by omega)
    obtain ⟨p1, p2, p3, _⟩ := pivFrom_spec (by rw [hg.size]; exact q2) q1 q3
    rw [gjTo_next]
    exact eqs_step ih (by rw [hg.size]; omega) p2
/-- What the specification solves equations for. -/
def solvedR (l : List (List UInt8)) (n : Nat) : List UInt8 := (List.range n).map fun a => mul (((gjTo l n).getD a []).getD n 0) (inv (((gjTo l n).getD a []).getD a 0))
theorem solvedR_len (l : List (List UInt8)) (n : Nat) : (solvedR l n).length = n := by simp [solvedR]
/-- THE SPECIFICATION SOLVES EQUATIONS FOR WHAT THEY FIT. -/
theorem solvedR_fits {n N : Nat} {D : Nat → UInt8} {l : List (List UInt8)} (h : GJ n N l 0) (he : EqsOf n D l) {a : Nat} (ha : a < n) : (solvedR l n).getD a 0 = D a := by
  have hg := gj_good h n (Nat.le_refl _)
  have hq := gj_eqs h he n (Nat.le_refl _)
  obtain ⟨d1, d2, _⟩ := hg.diag a ha
  obtain ⟨_, e2⟩ := hq _ (getD_mem (l := gjTo l n) (k := a) (x := []) (by rw [hg.size]; exact d1))
  unfold solvedR
  rw [getD_map_range _ _ ha, e2, sm_one (p := a) _ ha fun j hj hne => by
    obtain ⟨_, _, j3⟩ := hg.diag j hj
    rw [j3 a d1 (Ne.symm hne), zero_mul]]
  rw [mul_comm, ← mul_assoc, inv_mul d2, one_mul]
/-- The equations of one offset, from the first k pieces. -/
def eqTo (R : List (List UInt8)) (m : Nat) (pieces : List (List UInt8)) (x : Nat) : Nat → List (List UInt8)
  | 0 => []
  | k + 1 => if bitAt m k = 1 then eqTo R m pieces x k ++ [R.getD k [] ++ [(pieces.getD k []).getD x 0]] else eqTo R m pieces x k
theorem eqTo_zero (R : List (List UInt8)) (m : Nat) (pieces : List (List UInt8)) (x : Nat) : eqTo R m pieces x 0 = [] := rfl
theorem eqTo_yes {R : List (List UInt8)} {m : Nat} {pieces : List (List UInt8)} {x k : Nat} (h : bitAt m k = 1) : eqTo R m pieces x (k + 1) = eqTo R m pieces x k ++ [R.getD k [] ++ [(pieces.getD k []).getD x 0]] := if_pos h
theorem eqTo_no {R : List (List UInt8)} {m : Nat} {pieces : List (List UInt8)} {x k : Nat} (h : bitAt m k ≠ 1) : eqTo R m pieces x (k + 1) = eqTo R m pieces x k := if_neg h
theorem eqTo_mem {R : List (List UInt8)} {m : Nat} {pieces : List (List UInt8)} {x : Nat} {r : List UInt8} : ∀ {k : Nat}, r ∈ eqTo R m pieces x k ↔ ∃ j, j < k ∧ bitAt m j = 1 ∧ r = R.getD j [] ++ [(pieces.getD j []).getD x 0]
  | 0 => by simp [eqTo]
  | k + 1 => by
    by_cases h : bitAt m k = 1
    · rw [eqTo_yes h, List.mem_append, List.mem_singleton, eqTo_mem]
      constructor
      · rintro (⟨j, h1, h2, h3⟩ | h3)
        · exact ⟨j, by omega, h2, h3⟩
        · exact ⟨k, by omega, h, h3⟩
      · rintro ⟨j, h1, h2, h3⟩
        by_cases hj : j = k
        · subst hj; exact .inr h3
        · exact .inl ⟨j, by omega, h2, h3⟩
    · rw [eqTo_no h, eqTo_mem]
      constructor
      · rintro ⟨j, h1, h2, h3⟩; exact ⟨j, by omega, h2, h3⟩
      · rintro ⟨j, h1, h2, h3⟩
        by_cases hj : j = k
        · subst hj; exact absurd h2 h
        · exact ⟨j, by omega, h2, h3⟩
theorem app_get {r : List UInt8} {b : UInt8} {i : Nat} (h : i < r.length) : (r ++ [b]).getD i 0 = r.getD i 0 := by
  rw [List.getD_eq_getElem?_getD, List.getElem?_append_left h, List.getD_eq_getElem?_getD]
theorem app_last {r : List UInt8} {b : UInt8} {n : Nat} (h : r.length = n) : (r ++ [b]).getD n 0 = b := by
  subst h
  rw [List.getD_eq_getElem?_getD, List.getElem?_append_right (Nat.le_refl _)]
  simp
/-- The equations of a set that suffices begin the solving. -/
theorem eqs_good {d gl m : Nat} {gs : List (List Int)} {R pieces : List (List UInt8)} (hR : rowsOf (d : Int) gs (gl : Int) = R) (hc : can d gl gs (m : Int) = true) (x : Nat) : GJ d (eqTo R m pieces x R.length).length (eqTo R m pieces x R.length) 0 := by
  obtain ⟨h0, _, h2⟩ := can_def.1 hc
  have hw : ∀ k, k < R.length → (R.getD k []).length = d := fun k hk => by
    rw [← hR] at hk ⊢
    have := rowsOf_at h0 hk
    simpa using this
  refine ⟨rfl, fun r hr => ?_, fun i hi => by omega, ?_⟩
  · obtain ⟨j, h1, _, rfl⟩ := eqTo_mem.1 hr
    rw [List.length_append, hw j h1]; rfl
  · rw [Int.toNat_natCast, Gf.stairs_iff (fun r hr => by have := rowsOf_width h0 (pickTo_mem hr); simpa using this)] at h2
    intro v
    refine (h2 v).trans fun y hy => ?_
    rw [hR] at hy
    have hy2 : ∃ j, j < R.length ∧ bitAt m j = 1 ∧ y = R.getD j [] := by
      unfold pick pickTo at hy
      obtain ⟨j, hj, h3⟩ := List.mem_filterMap.1 hy
      have hj := List.mem_range.1 hj
      split at h3
      · rename_i hb
        rw [List.getElem?_eq_getElem hj] at h3
        injection h3 with h3
        exact ⟨j, hj, hb, by rw [← h3, List.getD_eq_getElem?_getD, List.getElem?_eq_getElem hj]; rfl⟩
      · cases h3
    obtain ⟨j, h3, h4, rfl⟩ := hy2
    refine (SpanL.mem (eqTo_mem.2 ⟨j, h3, h4, rfl⟩)).congr fun i hi => ?_
    exact (app_get (by rw [hw j h3]; exact hi)).symm
/-- The bytes of all data pieces. -/
def dataR (R : List (List UInt8)) (d sz m : Nat) (pieces : List (List UInt8)) : List UInt8 := (List.range (d * sz)).map fun t => (solvedR (eqTo R m pieces (t % sz) R.length) d).getD (t / sz) 0
theorem dataR_len (R : List (List UInt8)) (d sz m : Nat) (pieces : List (List UInt8)) : (dataR R d sz m pieces).length = d * sz := by simp [dataR]
/-- Pieces that a chunk has are solved for it. -/
theorem dataR_fits {d gl m : Nat} {gs : List (List Int)} {R pieces : List (List UInt8)} {X : List UInt8} (hR : rowsOf (d : Int) gs (gl : Int) = R) (hc : can d gl gs (m : Int) = true) (hp : ∀ k, k < R.length → bitAt m k = 1 → pieces.getD k [] = (encode d gl gs X).getD k []) :
    (dataR R d (sizeN d X.length) m pieces).take X.length = X := by
  obtain ⟨h0, _, _⟩ := can_def.1 hc
  have hk := check_ok h0
  have hd : 0 < d := by omega
  obtain ⟨sz, hsz⟩ : ∃ sz, sizeN d X.length = sz := ⟨_, rfl⟩
  have hfull : dataR R d sz m pieces = fill (d * sz) X := by
    apply List.ext_getElem
    · rw [dataR_len, fill_len (by rw [← hsz]; exact size_ge hd _)]
    · intro t h1 h2
      have ht : t < d * sz := by rw [dataR_len] at h1; exact h1
      have hs0 : 0 < sz := by
        rcases Nat.eq_zero_or_pos sz with h | h
        · rw [h] at ht; simp at ht
        · exact h
      have htd : t / sz < d := (Nat.div_lt_iff_lt_mul hs0).2 ht
      have hx : t % sz < sz := Nat.mod_lt _ hs0
      have e1 : (dataR R d sz m pieces)[t] = (solvedR (eqTo R m pieces (t % sz) R.length) d).getD (t / sz) 0 := by simp [dataR]
      have heq : EqsOf d (fun i => dataAt d X i (t % sz)) (eqTo R m pieces (t % sz) R.length) := fun r hr => by
        obtain ⟨j, j1, j2, rfl⟩ := eqTo_mem.1 hr
        have hj : j < (rowsOf (d : Int) gs (gl : Int)).length := by rw [hR]; exact j1
        have hw := rowsOf_at h0 hj
        rw [hR, Int.toNat_natCast] at hw
        have hf := (encode_fits h0 X hj).2 (t % sz) (by rw [Int.toNat_natCast, hsz]; exact hx)
        rw [Int.toNat_natCast, hR] at hf
        refine ⟨by rw [List.length_append, hw]; rfl, ?_⟩
        rw [app_last hw, hp j j1 j2, hf]
        refine sm_congr fun i hi => ?_
        rw [app_get (by rw [hw]; exact hi)]
      have hg := eqs_good (pieces := pieces) hR hc (t % sz)
      have hs := solvedR_fits hg heq htd
      rw [e1, hs]
      unfold dataAt
      rw [cuts_get htd, hsz, cutAt_get hx]
      have e2 : t / sz * sz + t % sz = t := by rw [Nat.mul_comm]; exact Nat.div_add_mod t sz
      rw [e2, List.getD_eq_getElem?_getD, List.getElem?_eq_getElem h2]
      rfl
  rw [hsz, hfull, fill_take]
attribute [irreducible] gjTo elimTo swapR pivFrom
end Cd

/- THE WALKS over the specification of codes: equation, solved. -/
namespace Go.Proofs.YtggfkpalkdkbdaaDoor
open Go.RowKit
theorem ent_rinv : ∀ args w, (callFunc 104 args).run Tryd.prog w = .ok (.enter 104 args) w := enters_of Tryd.func104 (by kernel_rfl) rfl
theorem rd_of_mem {w0 w : World} {L : List LRow} (h : Owns w0 w L) {A : Option Addr} {c : Nat} {r : List UInt8} (hm : byteRow A c r ∈ L) : Rd w A (r.map bv) := by
  obtain ⟨k, hk, e⟩ := List.getElem_of_mem hm
  exact h.rd k (n := r.length) (by rw [List.getElem?_eq_getElem hk, e]; rfl)
theorem rs_of_mem {w0 w : World} {L : List LRow} (h : Owns w0 w L) {A : Option Addr} {c m : Nat} {r : List UInt8} (hm : byteRow A c r ∈ L) (hl : r.length = m) (hm2 : m ≤ 9223372036854775807) : Rs RB w (.slice A m c) r := by
  subst hl
  exact Rs.of_rd (rd_of_mem h hm) hm2
theorem RowsIn.put {vs : List Value} {L : List LRow} {rs : List (List UInt8)} (h : RowsIn vs L rs) {k m : Nat} {A2 : Option Addr} {c2 : Nat} {q : List UInt8} (hq : q.length = m) (hm : (⟨.slice A2 m c2, 5, 1, m, q.map bv⟩ : LRow) ∈ L) : RowsIn (vs.set k (.slice A2 m c2)) L (rs.set k q) := by
  subst hq
  refine ⟨by simp [h.1], fun j r hj => ?_⟩
  by_cases hjk : k = j
  · subst hjk
    have hk : k < rs.length := by
      have := (List.getElem?_eq_some_iff.1 hj).1
      simpa using this
    rw [List.getElem?_set_self hk] at hj
    injection hj with hj
    subst hj
    exact ⟨A2, c2, List.getElem?_set_self (by rw [h.1]; exact hk), hm⟩
  · rw [List.getElem?_set_ne hjk] at hj ⊢
    exact h.2 j r hj
theorem RowsIn.putR {vs : List Value} {L : List LRow} {rs : List (List UInt8)} (h : RowsIn vs L rs) {k m : Nat} {A2 : Option Addr} {c2 : Nat} {q : List UInt8} (hq : q.length = m) (hm : byteRow A2 c2 q ∈ L) : RowsIn (vs.set k (.slice A2 m c2)) L (rs.set k q) := by
  subst hq
  exact h.put rfl hm
theorem RowsIn.at {vs : List Value} {L : List LRow} {rs : List (List UInt8)} (h : RowsIn vs L rs) {k m : Nat} (hk : k < rs.length) (hm : (rs.getD k []).length = m) : ∃ A2 c2, vs[k]? = some (.slice A2 m c2) ∧ byteRow A2 c2 (rs.getD k []) ∈ L := by
  subst hm
  have e : rs[k]? = some (rs.getD k []) := by rw [List.getD_eq_getElem?_getD, List.getElem?_eq_getElem hk]; rfl
  exact h.2 k _ e
theorem ownsRow_some {w : World} {B e n c : Nat} {A : Option Addr} {xs : List Value} (h : w.ownsRow B e 1 (.slice A n c) n xs) (hn : 0 < n) : ∃ g, A = some ⟨g, 0, none⟩ := by
  rcases h.2 with ⟨h2, h0⟩ | ⟨g, cap, cur, hv, _⟩
  · omega
  · injection hv with e1
    exact ⟨g, e1⟩
theorem rEq_ok (d gl k : Nat) (b : UInt8) (gs : List (List Int)) (G : Value) (w : World) (hG : Rs (Rs RI) w G gs) (h0 : Cd.check d gs gl = 0) (hk : k < d + gs.length + gl) :
    Calls Tryd.prog 88 #[.agg #[.int .i64 d, G, .int .i64 gl], .int .i64 k, bv b] w fun e w' => ∃ A c, e = .returned (.slice A (d + 1) c) ∧ Ext w w' ∧ w'.ownsRow w.heap.size 5 1 (.slice A (d + 1) c) (d + 1) (((List.range d).map (Cd.rowAt d gs k) ++ [b]).map bv) := by
  have hx0 := (Ext.refl w).alloc (.cells #[.int .i64 d, G, .int .i64 gl] 24)
  have HX := Lib.hid (And.intro hx0 (Rs.ext (Rs.ext RI.ext) _ _ _ _ hx0 hG))
  obtain ⟨GA, Gc, rfl, hgl⟩ := hG.form
  have hck := Cd.check_ok h0
  have hd16 : d ≤ 16 := by omega
  have HC := Lib.hid (And.intro h0 hk)
  clear hG hx0 h0 hk hck
  go_enter Tryd.func88, Tryd.ntmps88
  go_wp2_with fail
  refine (rRow_ok d gl k gs _ _ HX.out.2 HC.out.1 HC.out.2).mono ?_
  rintro e w1 ⟨A1, c1, rfl, hx1, ho1⟩
  have HO1 := Lib.hid (And.intro hx1 ho1)
  clear hx1 ho1
  go_wp2_with (at_builtin; refine wpl_append_new (w.alloc (.cells #[.int .i64 d, .slice GA gs.length Gc, .int .i64 gl] 24)) 48 5 rfl _ _ rfl Tryd.underlying48 info_u8 rfl rfl HO1.out.2 HO1.out.1 rfl rfl (by omega) (by omega) ?_; intro A' c' w2 ho hx _)
  have HO := Lib.hid (And.intro hx ho)
  clear hx ho
  go_wp2_with fail
  go_ret
  refine ⟨A', c', rfl, HX.out.1.trans HO.out.1, own_older ?_ HX.out.1.size⟩
  rw [List.map_append]
  exact HO.out.2
noncomputable def elim_set_code : Code := ((Tryd.f89.body.bind (regionOf 14)).getD .skip)
def elim_set_dsts : List (Option Nat) := [some 51, some 52, some 53, some 54, some 55, some 56, some 57, some 58, some 59, some 60, some 61, some 62, some 63, none]
theorem elim_set_apart : apartD elim_set_dsts = true := by decide +kernel
set_option maxRecDepth 1000000 in
set_option maxHeartbeats 16000000 in
theorem elim_set (g n cl k xa m cr co : Nat) (RA OA : Option Addr) (r o q : List UInt8) (vs : List Value) (M0 : List LRow) (w wr : World) (hk : k < n) (hxa : xa < n) (hm : r.length = m) (hmo : o.length = m) (hl : m ≤ 1000) (ha : xa < m) (ho : Hid (o.getD xa 0 ≠ 0)) (hq : Hid (q = Cd.lessR r o xa)) (hv1 : Hid (vs[k]? = some (.slice RA m cr))) (hv2 : Hid (vs[xa]? = some (.slice OA m co))) (hm1 : Hid (byteRow RA cr r ∈ M0)) (hm2 : Hid (byteRow OA co o ∈ M0)) (HOO : Hid (Owns w wr.drew (⟨.slice (some ⟨g, 0, none⟩) n cl, 48, 1, n, vs⟩ :: (M0 ++ [])))) (c1 c2 c3 c4 c6 c7 c9 c10 c11 c12 c13 c14 c15 c16 c17 c18 c19 c20 c21 c22 c23 c24 c25 c26 c27 c28 c29 c30 c31 c32 c33 c34 c35 c36 c37 c38 c39 c40 c41 c42 c43 c44 c45 c46 c47 c48 c49 c50 c51 c52 c53 c54 c55 c56 c57 c58 c59 c60 c61 c62 c63 c64 c65 c66 c67 c68 c69 c70 c71 c72 c73 c74 c75 c76 c77 c78 c79 c80 c81 c82 c83 c84 c85 c86 c87 c88 : Value) (df : List Deferred) (K : Act → World → Prop)
    (hK : ∀ (A2 : Option Addr) (ce : Nat) (u51 u52 u53 u54 u55 u56 u57 u58 u59 u60 u61 u62 u63 : Value) (wx : World), Owns w wx (⟨.slice (some ⟨g, 0, none⟩) n cl, 48, 1, n, vs.set k (.slice A2 m ce)⟩ :: (M0 ++ [(⟨.slice A2 m ce, 5, 1, m, q.map bv⟩ : LRow)])) → K ⟨#[.slice (some ⟨g, 0, none⟩) n cl, c1, c2, c3, c4, .int .i64 xa, c6, c7, .int .i64 k, c9, c10, c11, c12, c13, c14, c15, c16, c17, c18, c19, c20, c21, c22, c23, c24, c25, c26, c27, c28, c29, c30, c31, c32, c33, c34, c35, c36, c37, c38, c39, c40, c41, c42, c43, c44, c45, c46, c47, c48, c49, c50, u51, u52, u53, u54, u55, u56, u57, u58, u59, u60, u61, u62, u63, c64, c65, c66, c67, c68, c69, c70, c71, c72, c73, c74, c75, c76, c77, c78, c79, c80, c81, c82, c83, c84, c85, c86, c87, c88], df⟩ wx) :
    Code.wp Tryd.prog elim_set_code (AtEnd K) ⟨#[.slice (some ⟨g, 0, none⟩) n cl, c1, c2, c3, c4, .int .i64 xa, c6, c7, .int .i64 k, c9, c10, c11, c12, c13, c14, c15, c16, c17, c18, c19, c20, c21, c22, c23, c24, c25, c26, c27, c28, c29, c30, c31, c32, c33, c34, c35, c36, c37, c38, c39, c40, c41, c42, c43, c44, c45, c46, c47, c48, c49, c50, c51, c52, c53, c54, c55, c56, c57, c58, c59, c60, c61, c62, c63, c64, c65, c66, c67, c68, c69, c70, c71, c72, c73, c74, c75, c76, c77, c78, c79, c80, c81, c82, c83, c84, c85, c86, c87, c88], df⟩ wr := by
  conv => arg 2; whnf
  refine region_inv (by kernel_rfl) [[], [], [], [], [2, 3], [4], [], [], [6, 7], [8], [], [5, 9, 10], [0, 1, 0, 1, 2, 3, 4, 5, 6, 7, 8, 9, 10, 11], [12, 11, 11, 0, 1, 2, 3, 4, 5, 6, 7, 8, 9, 10, 11]] (by kernel_rfl) [0, 1, 2, 3, 4, 5, 6, 7, 8, 9, 10, 11, 12, 13] (by decide +kernel) (by decide +kernel) (by decide +kernel) (fun L a wc => ∃ (A2 : Option Addr) (ce : Nat), Inv elim_set_dsts [.slice (some ⟨g, 0, none⟩) n cl, .int .i64 k, .slice (some ⟨g, 0, none⟩) n cl, .int .i64 k, .pointer (some ⟨g, k, none⟩), .slice RA m cr, .slice (some ⟨g, 0, none⟩) n cl, .int .i64 xa, .pointer (some ⟨g, xa, none⟩), .slice OA m co, .int .i64 xa, .slice A2 m ce, .pointer (some ⟨g, k, none⟩), undef] ⟨#[.slice (some ⟨g, 0, none⟩) n cl, c1, c2, c3, c4, .int .i64 xa, c6, c7, .int .i64 k, c9, c10, c11, c12, c13, c14, c15, c16, c17, c18, c19, c20, c21, c22, c23, c24, c25, c26, c27, c28, c29, c30, c31, c32, c33, c34, c35, c36, c37, c38, c39, c40, c41, c42, c43, c44, c45, c46, c47, c48, c49, c50, c51, c52, c53, c54, c55, c56, c57, c58, c59, c60, c61, c62, c63, c64, c65, c66, c67, c68, c69, c70, c71, c72, c73, c74, c75, c76, c77, c78, c79, c80, c81, c82, c83, c84, c85, c86, c87, c88], df⟩ L a ∧ Hid (Owns w wc ((if L 13 = true then ⟨.slice (some ⟨g, 0, none⟩) n cl, 48, 1, n, vs.set k (.slice A2 m ce)⟩ else ⟨.slice (some ⟨g, 0, none⟩) n cl, 48, 1, n, vs⟩) :: (M0 ++ (if L 11 = true then [(⟨.slice A2 m ce, 5, 1, m, q.map bv⟩ : LRow)] else []))))) ⟨none, 0, Inv.start, HOO⟩ ?_ ?_
  · refine ⟨?_, ?_, ?_, ?_, ?_, ?_, ?_, ?_, ?_, ?_, ?_, ?_, ?_, ?_, trivial⟩
    ·
      rintro L a wc ⟨A2, ce, hv, HO⟩ hL hc hd
      exact wpOp_val rfl rfl (ex_move rfl ((hv.fixed 0 (by decide)).trans rfl)) ⟨A2, ce, hv.put elim_set_apart 0 rfl (lb rfl) (lb rfl) rfl, HO⟩
    ·
      rintro L a wc ⟨A2, ce, hv, HO⟩ hL hc hd
      exact wpOp_val rfl rfl (ex_move rfl ((hv.fixed 8 (by decide)).trans rfl)) ⟨A2, ce, hv.put elim_set_apart 1 rfl (lb rfl) (lb rfl) rfl, HO⟩
    ·
      rintro L a wc ⟨A2, ce, hv, HO⟩ hL hc hd
      exact wpOp_val rfl rfl (ex_move rfl ((hv.fixed 0 (by decide)).trans rfl)) ⟨A2, ce, hv.put elim_set_apart 2 rfl (lb rfl) (lb rfl) rfl, HO⟩
    ·
      rintro L a wc ⟨A2, ce, hv, HO⟩ hL hc hd
      exact wpOp_val rfl rfl (ex_move rfl ((hv.fixed 8 (by decide)).trans rfl)) ⟨A2, ce, hv.put elim_set_apart 3 rfl (lb rfl) (lb rfl) rfl, HO⟩
    ·
      rintro L a wc ⟨A2, ce, hv, HO⟩ hL hc hd
      have b1 : (0 : Int) ≤ (k : Int) := by omega
      have b2 : (k : Int) < (n : Int) := by omega
      exact wpOp_val rfl rfl (ex_index rfl (hv.get 2 rfl rfl (hd 2 (by decide))) (hv.get 3 rfl rfl (hd 3 (by decide))) (by go_simp)) ⟨A2, ce, hv.put elim_set_apart 4 rfl (lb rfl) (lb rfl) rfl, HO⟩
    ·
      rintro L a wc ⟨A2, ce, hv, HO⟩ hL hc hd
      have n13 : L 13 = false := Bool.eq_false_iff.2 fun h => Bool.false_ne_true (hL.symm.trans (hc 11 (hc 13 h 11 (by decide)) 5 (by decide)))
      have hO := HO.out
      simp only [n13, Bool.false_eq_true, if_false] at hO
      have eX : wc.cell? ⟨g, k, none⟩ = some (.slice RA m cr) := hO.cell 0 rfl k hv1.out
      exact wpOp_val rfl rfl (ex_load rfl (hv.get 4 rfl rfl (hd 4 (by decide))) (by go_simp)) ⟨A2, ce, hv.put elim_set_apart 5 rfl (lb rfl) (lb rfl) rfl, HO⟩
    ·
      rintro L a wc ⟨A2, ce, hv, HO⟩ hL hc hd
      exact wpOp_val rfl rfl (ex_move rfl ((hv.fixed 0 (by decide)).trans rfl)) ⟨A2, ce, hv.put elim_set_apart 6 rfl (lb rfl) (lb rfl) rfl, HO⟩
    ·
      rintro L a wc ⟨A2, ce, hv, HO⟩ hL hc hd
      exact wpOp_val rfl rfl (ex_move rfl ((hv.fixed 5 (by decide)).trans rfl)) ⟨A2, ce, hv.put elim_set_apart 7 rfl (lb rfl) (lb rfl) rfl, HO⟩
    ·
      rintro L a wc ⟨A2, ce, hv, HO⟩ hL hc hd
      have b1 : (0 : Int) ≤ (xa : Int) := by omega
      have b2 : (xa : Int) < (n : Int) := by omega
      exact wpOp_val rfl rfl (ex_index rfl (hv.get 6 rfl rfl (hd 6 (by decide))) (hv.get 7 rfl rfl (hd 7 (by decide))) (by go_simp)) ⟨A2, ce, hv.put elim_set_apart 8 rfl (lb rfl) (lb rfl) rfl, HO⟩
    ·
      rintro L a wc ⟨A2, ce, hv, HO⟩ hL hc hd
      have n13 : L 13 = false := Bool.eq_false_iff.2 fun h => Bool.false_ne_true (hL.symm.trans (hc 11 (hc 13 h 11 (by decide)) 9 (by decide)))
      have hO := HO.out
      simp only [n13, Bool.false_eq_true, if_false] at hO
      have eX : wc.cell? ⟨g, xa, none⟩ = some (.slice OA m co) := hO.cell 0 rfl xa hv2.out
      exact wpOp_val rfl rfl (ex_load rfl (hv.get 8 rfl rfl (hd 8 (by decide))) (by go_simp)) ⟨A2, ce, hv.put elim_set_apart 9 rfl (lb rfl) (lb rfl) rfl, HO⟩
    ·
      rintro L a wc ⟨A2, ce, hv, HO⟩ hL hc hd
      exact wpOp_val rfl rfl (ex_move rfl ((hv.fixed 5 (by decide)).trans rfl)) ⟨A2, ce, hv.put elim_set_apart 10 rfl (lb rfl) (lb rfl) rfl, HO⟩
    ·
      rintro L a wc ⟨A2, ce, hv, HO⟩ hL hc hd
      refine wpOp_call (R := fun v w1 => ∃ A3 c3, v = .slice A3 m c3 ∧ Ext wc w1 ∧ w1.ownsRow wc.heap.size 5 1 (.slice A3 m c3) m (q.map bv)) rfl rfl (ex_call rfl rfl (map3c (hv.get 5 rfl rfl (hd 5 (by decide))) (hv.get 9 rfl rfl (hd 9 (by decide))) (hv.get 10 rfl rfl (hd 10 (by decide)))) (ent_less _ _)) ((rLess_at r o xa m (.slice RA m cr) (.slice OA m co) wc hm (rs_of_mem HO.out (List.mem_cons_of_mem _ (List.mem_append_left _ hm1.out)) hm (by omega)) (rs_of_mem HO.out (List.mem_cons_of_mem _ (List.mem_append_left _ hm2.out)) hmo (by omega)) hl (by omega) ha ho.out).mono (fun e w' ⟨A3, c3, h1, h2, h3⟩ => ⟨_, h1, A3, c3, rfl, h2, by rw [hq.out]; exact h3⟩)) ?_
      rintro v w' ⟨A3, c3, rfl, hx, ho2⟩
      have n13 : L 13 = false := Bool.eq_false_iff.2 fun h => Bool.false_ne_true (hL.symm.trans (hc 13 h 11 (by decide)))
      have h := HO.out.behind hx ho2
      simp only [hL, n13, Bool.false_eq_true, if_false, List.append_nil] at h
      have h2 : Owns w w' ((if L 13 = true then ⟨.slice (some ⟨g, 0, none⟩) n cl, 48, 1, n, vs.set k (.slice A3 m c3)⟩ else ⟨.slice (some ⟨g, 0, none⟩) n cl, 48, 1, n, vs⟩) :: (M0 ++ [(⟨.slice A3 m c3, 5, 1, m, q.map bv⟩ : LRow)])) := by simp only [n13, Bool.false_eq_true, if_false]; simpa using h
      exact ⟨A3, c3, hv.put elim_set_apart 11 rfl (lb rfl) (lb rfl) rfl, Lib.hid h2⟩
    ·
      rintro L a wc ⟨A2, ce, hv, HO⟩ hL hc hd
      have b1 : (0 : Int) ≤ (k : Int) := by omega
      have b2 : (k : Int) < (n : Int) := by omega
      exact wpOp_val rfl rfl (ex_index rfl (hv.get 0 rfl rfl (hd 0 (by decide))) (hv.get 1 rfl rfl (hd 1 (by decide))) (by go_simp)) ⟨A2, ce, hv.put elim_set_apart 12 rfl (lb rfl) (lb rfl) rfl, HO⟩
    ·
      rintro L a wc ⟨A2, ce, hv, HO⟩ hL hc hd
      have hO := HO.out
      have h11 : L 11 = true := hd 11 (by decide)
      simp only [hL, h11, Bool.false_eq_true, if_false, if_true] at hO
      have eX : wc.cell? ⟨g, k, none⟩ = some (.slice RA m cr) := hO.cell 0 rfl k hv1.out
      have eF : wc.frozen? ⟨g, k, none⟩ = false := hO.frozen 0 rfl k
      have hS : Owns w (wc.setCell ⟨g, k, none⟩ (.slice A2 m ce)) (⟨.slice (some ⟨g, 0, none⟩) n cl, 48, 1, n, vs.set k (.slice A2 m ce)⟩ :: (M0 ++ (if L 11 = true then [(⟨.slice A2 m ce, 5, 1, m, q.map bv⟩ : LRow)] else []))) := by simp only [h11, if_true]; exact hO.store 0 rfl k (.slice A2 m ce)
      exact wpOp_skip rfl rfl rfl (ex_store rfl (hv.get 12 rfl rfl (hd 12 (by decide))) (hv.get 11 rfl rfl (hd 11 (by decide))) (by go_simp)) ⟨A2, ce, hv.skip 13 rfl, Lib.hid hS⟩
  · rintro L a wc ⟨A2, ce, hv, HO⟩ hall
    show K a wc
    have ha := act_n rl89 hv.size hv.defers rfl
    simp +decide only [hv.fixed] at ha
    rw [ha]
    have hO := HO.out
    simp only [hall 11 (by decide), hall 13 (by decide), if_true] at hO
    exact hK A2 ce _ _ _ _ _ _ _ _ _ _ _ _ _ wc hO
noncomputable def sol_app_code : Code := ((Tryd.f89.body.bind (regionOf 19)).getD .skip)
def sol_app_dsts : List (Option Nat) := [some 69, some 70, some 71, some 72, some 73, some 74, some 75, some 76, some 77, some 78, some 79, some 80, some 81, some 82, some 83, some 84, some 85, some 86, some 87, some 9]
theorem sol_app_apart : apartD sol_app_dsts = true := by decide +kernel
set_option maxRecDepth 1000000 in
set_option maxHeartbeats 16000000 in
theorem sol_app (bX : Addr) (A : Option Addr) (g n cl i ca d m cr : Nat) (xn xd : UInt8) (r : List UInt8) (la vs : List Value) (M0 : List LRow) (w wr : World) (hi8 : i < 1000000) (hin : i < n) (him : i < m) (hdm : d < m) (hne : Hid (xd ≠ 0)) (hv1 : Hid (vs[i]? = some (.slice (some bX) m cr))) (hm1 : Hid (byteRow (some bX) cr r ∈ M0)) (hxn : Hid (∀ w2 : World, Rd w2 (some bX) (r.map bv) → w2.cell? (bX.add d) = some (bv xn))) (hxd : Hid (∀ w2 : World, Rd w2 (some bX) (r.map bv) → w2.cell? (bX.add i) = some (bv xd))) (HOO : Hid (Owns w wr.drew (⟨.slice A i ca, 5, 1, i, la⟩ :: no :: ⟨.slice (some ⟨g, 0, none⟩) n cl, 48, 1, n, vs⟩ :: M0))) (c2 c3 c4 c5 c6 c7 c8 c11 c12 c13 c14 c15 c16 c17 c18 c19 c20 c21 c22 c23 c24 c25 c26 c27 c28 c29 c30 c31 c32 c33 c34 c35 c36 c37 c38 c39 c40 c41 c42 c43 c44 c45 c46 c47 c48 c49 c50 c51 c52 c53 c54 c55 c56 c57 c58 c59 c60 c61 c62 c63 c64 c65 c66 c67 c68 c69 c70 c71 c72 c73 c74 c75 c76 c77 c78 c79 c80 c81 c82 c83 c84 c85 c86 c87 c88 : Value) (df : List Deferred) (K : Act → World → Prop)
    (hK : ∀ (g18 k18 : Nat) (u69 u70 u71 u72 u73 u74 u75 u76 u77 u78 u79 u80 u81 u82 u83 u84 u85 u86 u87 : Value) (wx : World), Owns w wx (⟨.slice (some ⟨g18, 0, none⟩) (i + 1) k18, 5, 1, i + 1, la ++ [bv (Gf.mul xn (Gf.inv xd))]⟩ :: no :: ⟨.slice (some ⟨g, 0, none⟩) n cl, 48, 1, n, vs⟩ :: M0) → K ⟨#[.slice (some ⟨g, 0, none⟩) n cl, .int .i64 d, c2, c3, c4, c5, c6, c7, c8, .slice (some ⟨g18, 0, none⟩) (i + 1) k18, .int .i64 i, c11, c12, c13, c14, c15, c16, c17, c18, c19, c20, c21, c22, c23, c24, c25, c26, c27, c28, c29, c30, c31, c32, c33, c34, c35, c36, c37, c38, c39, c40, c41, c42, c43, c44, c45, c46, c47, c48, c49, c50, c51, c52, c53, c54, c55, c56, c57, c58, c59, c60, c61, c62, c63, c64, c65, c66, c67, c68, u69, u70, u71, u72, u73, u74, u75, u76, u77, u78, u79, u80, u81, u82, u83, u84, u85, u86, u87, c88], df⟩ wx) :
    Code.wp Tryd.prog sol_app_code (AtEnd K) ⟨#[.slice (some ⟨g, 0, none⟩) n cl, .int .i64 d, c2, c3, c4, c5, c6, c7, c8, .slice A i ca, .int .i64 i, c11, c12, c13, c14, c15, c16, c17, c18, c19, c20, c21, c22, c23, c24, c25, c26, c27, c28, c29, c30, c31, c32, c33, c34, c35, c36, c37, c38, c39, c40, c41, c42, c43, c44, c45, c46, c47, c48, c49, c50, c51, c52, c53, c54, c55, c56, c57, c58, c59, c60, c61, c62, c63, c64, c65, c66, c67, c68, c69, c70, c71, c72, c73, c74, c75, c76, c77, c78, c79, c80, c81, c82, c83, c84, c85, c86, c87, c88], df⟩ wr := by
  conv => arg 2; whnf
  refine region_inv (by kernel_rfl) [[], [], [], [1, 2], [3], [], [4, 5], [6], [], [], [8, 9], [10], [], [11, 12], [13], [14], [7, 15, 15], [16], [0, 17, 16], [18, 18, 0, 1, 2, 3, 4, 5, 6, 7, 8, 9, 10, 11, 12, 13, 14, 15, 16, 17, 18]] (by kernel_rfl) [0, 1, 2, 3, 4, 5, 6, 7, 8, 9, 10, 11, 12, 13, 14, 15, 16, 17, 18, 19] (by decide +kernel) (by decide +kernel) (by decide +kernel) (fun L a wc => ∃ (g17 : Nat) (g18 : Nat) (k18 : Nat), InvO sol_app_dsts [.slice A i ca, .slice (some ⟨g, 0, none⟩) n cl, .int .i64 i, .pointer (some ⟨g, i, none⟩), .slice (some bX) m cr, .int .i64 d, .pointer (some (bX.add d)), bv xn, .slice (some ⟨g, 0, none⟩) n cl, .int .i64 i, .pointer (some ⟨g, i, none⟩), .slice (some bX) m cr, .int .i64 i, .pointer (some (bX.add i)), bv xd, bv (Gf.inv xd), bv (Gf.mul xn (Gf.inv xd)), .slice (some ⟨g17, 0, none⟩) 1 1, .slice (some ⟨g18, 0, none⟩) (i + 1) k18, .slice (some ⟨g18, 0, none⟩) (i + 1) k18] ⟨#[.slice (some ⟨g, 0, none⟩) n cl, .int .i64 d, c2, c3, c4, c5, c6, c7, c8, .slice A i ca, .int .i64 i, c11, c12, c13, c14, c15, c16, c17, c18, c19, c20, c21, c22, c23, c24, c25, c26, c27, c28, c29, c30, c31, c32, c33, c34, c35, c36, c37, c38, c39, c40, c41, c42, c43, c44, c45, c46, c47, c48, c49, c50, c51, c52, c53, c54, c55, c56, c57, c58, c59, c60, c61, c62, c63, c64, c65, c66, c67, c68, c69, c70, c71, c72, c73, c74, c75, c76, c77, c78, c79, c80, c81, c82, c83, c84, c85, c86, c87, c88], df⟩ L a ∧ Hid (Owns w wc ((if L 18 = true then ⟨.slice (some ⟨g18, 0, none⟩) (i + 1) k18, 5, 1, i + 1, la ++ [bv (Gf.mul xn (Gf.inv xd))]⟩ else ⟨.slice A i ca, 5, 1, i, la⟩) :: (if L 17 = true then ⟨.slice (some ⟨g17, 0, none⟩) 1 1, 5, 1, 1, [bv (Gf.mul xn (Gf.inv xd))]⟩ else no) :: ⟨.slice (some ⟨g, 0, none⟩) n cl, 48, 1, n, vs⟩ :: M0))) ⟨0, 0, 0, InvO.start, HOO⟩ ?_ ?_
  · refine ⟨?_, ?_, ?_, ?_, ?_, ?_, ?_, ?_, ?_, ?_, ?_, ?_, ?_, ?_, ?_, ?_, ?_, ?_, ?_, ?_, trivial⟩
    ·
      rintro L a wc ⟨g17, g18, k18, hv, HO⟩ hL hc hd
      exact wpOp_val rfl rfl (ex_move rfl ((hv.old 19 9 rfl (Bool.eq_false_iff.2 fun h => Bool.false_ne_true (hL.symm.trans (hc 19 h 0 (by decide))))).trans rfl)) ⟨g17, g18, k18, hv.put sol_app_apart 0 rfl (lb rfl) (lb rfl) rfl, HO⟩
    ·
      rintro L a wc ⟨g17, g18, k18, hv, HO⟩ hL hc hd
      exact wpOp_val rfl rfl (ex_move rfl ((hv.fixed 0 (by decide)).trans rfl)) ⟨g17, g18, k18, hv.put sol_app_apart 1 rfl (lb rfl) (lb rfl) rfl, HO⟩
    ·
      rintro L a wc ⟨g17, g18, k18, hv, HO⟩ hL hc hd
      exact wpOp_val rfl rfl (ex_move rfl ((hv.fixed 10 (by decide)).trans rfl)) ⟨g17, g18, k18, hv.put sol_app_apart 2 rfl (lb rfl) (lb rfl) rfl, HO⟩
    ·
      rintro L a wc ⟨g17, g18, k18, hv, HO⟩ hL hc hd
      have b1 : (0 : Int) ≤ (i : Int) := by omega
      have b2 : (i : Int) < (n : Int) := by omega
      exact wpOp_val rfl rfl (ex_index rfl (hv.get 1 rfl rfl (hd 1 (by decide))) (hv.get 2 rfl rfl (hd 2 (by decide))) (by go_simp)) ⟨g17, g18, k18, hv.put sol_app_apart 3 rfl (lb rfl) (lb rfl) rfl, HO⟩
    ·
      rintro L a wc ⟨g17, g18, k18, hv, HO⟩ hL hc hd
      have eX : wc.cell? ⟨g, i, none⟩ = some (.slice (some bX) m cr) := HO.out.cell 2 rfl i hv1.out
      exact wpOp_val rfl rfl (ex_load rfl (hv.get 3 rfl rfl (hd 3 (by decide))) (by go_simp)) ⟨g17, g18, k18, hv.put sol_app_apart 4 rfl (lb rfl) (lb rfl) rfl, HO⟩
    ·
      rintro L a wc ⟨g17, g18, k18, hv, HO⟩ hL hc hd
      exact wpOp_val rfl rfl (ex_move rfl ((hv.fixed 1 (by decide)).trans rfl)) ⟨g17, g18, k18, hv.put sol_app_apart 5 rfl (lb rfl) (lb rfl) rfl, HO⟩
    ·
      rintro L a wc ⟨g17, g18, k18, hv, HO⟩ hL hc hd
      have b1 : (0 : Int) ≤ (d : Int) := by omega
      have b2 : (d : Int) < (m : Int) := by omega
      exact wpOp_val rfl rfl (ex_index rfl (hv.get 4 rfl rfl (hd 4 (by decide))) (hv.get 5 rfl rfl (hd 5 (by decide))) (by go_simp)) ⟨g17, g18, k18, hv.put sol_app_apart 6 rfl (lb rfl) (lb rfl) rfl, HO⟩
    ·
      rintro L a wc ⟨g17, g18, k18, hv, HO⟩ hL hc hd
      have eN : wc.cell? (bX.add d) = some (bv xn) := hxn.out wc (rd_of_mem HO.out (List.mem_cons_of_mem _ (List.mem_cons_of_mem _ (List.mem_cons_of_mem _ hm1.out))))
      exact wpOp_val rfl rfl (ex_load rfl (hv.get 6 rfl rfl (hd 6 (by decide))) (by go_simp)) ⟨g17, g18, k18, hv.put sol_app_apart 7 rfl (lb rfl) (lb rfl) rfl, HO⟩
    ·
      rintro L a wc ⟨g17, g18, k18, hv, HO⟩ hL hc hd
      exact wpOp_val rfl rfl (ex_move rfl ((hv.fixed 0 (by decide)).trans rfl)) ⟨g17, g18, k18, hv.put sol_app_apart 8 rfl (lb rfl) (lb rfl) rfl, HO⟩
    ·
      rintro L a wc ⟨g17, g18, k18, hv, HO⟩ hL hc hd
      exact wpOp_val rfl rfl (ex_move rfl ((hv.fixed 10 (by decide)).trans rfl)) ⟨g17, g18, k18, hv.put sol_app_apart 9 rfl (lb rfl) (lb rfl) rfl, HO⟩
    ·
      rintro L a wc ⟨g17, g18, k18, hv, HO⟩ hL hc hd
      have b1 : (0 : Int) ≤ (i : Int) := by omega
      have b2 : (i : Int) < (n : Int) := by omega
      exact wpOp_val rfl rfl (ex_index rfl (hv.get 8 rfl rfl (hd 8 (by decide))) (hv.get 9 rfl rfl (hd 9 (by decide))) (by go_simp)) ⟨g17, g18, k18, hv.put sol_app_apart 10 rfl (lb rfl) (lb rfl) rfl, HO⟩
    ·
      rintro L a wc ⟨g17, g18, k18, hv, HO⟩ hL hc hd
      have eX : wc.cell? ⟨g, i, none⟩ = some (.slice (some bX) m cr) := HO.out.cell 2 rfl i hv1.out
      exact wpOp_val rfl rfl (ex_load rfl (hv.get 10 rfl rfl (hd 10 (by decide))) (by go_simp)) ⟨g17, g18, k18, hv.put sol_app_apart 11 rfl (lb rfl) (lb rfl) rfl, HO⟩
    ·
      rintro L a wc ⟨g17, g18, k18, hv, HO⟩ hL hc hd
      exact wpOp_val rfl rfl (ex_move rfl ((hv.fixed 10 (by decide)).trans rfl)) ⟨g17, g18, k18, hv.put sol_app_apart 12 rfl (lb rfl) (lb rfl) rfl, HO⟩
    ·
      rintro L a wc ⟨g17, g18, k18, hv, HO⟩ hL hc hd
      have b1 : (0 : Int) ≤ (i : Int) := by omega
      have b2 : (i : Int) < (m : Int) := by omega
      exact wpOp_val rfl rfl (ex_index rfl (hv.get 11 rfl rfl (hd 11 (by decide))) (hv.get 12 rfl rfl (hd 12 (by decide))) (by go_simp)) ⟨g17, g18, k18, hv.put sol_app_apart 13 rfl (lb rfl) (lb rfl) rfl, HO⟩
    ·
      rintro L a wc ⟨g17, g18, k18, hv, HO⟩ hL hc hd
      have eN : wc.cell? (bX.add i) = some (bv xd) := hxd.out wc (rd_of_mem HO.out (List.mem_cons_of_mem _ (List.mem_cons_of_mem _ (List.mem_cons_of_mem _ hm1.out))))
      exact wpOp_val rfl rfl (ex_load rfl (hv.get 13 rfl rfl (hd 13 (by decide))) (by go_simp)) ⟨g17, g18, k18, hv.put sol_app_apart 14 rfl (lb rfl) (lb rfl) rfl, HO⟩
    ·
      rintro L a wc ⟨g17, g18, k18, hv, HO⟩ hL hc hd
      refine wpOp_call (R := fun v w1 => v = bv (Gf.inv xd) ∧ wc = w1) rfl rfl (ex_call rfl rfl (map1c (hv.get 14 rfl rfl (hd 14 (by decide)))) (ent_rinv _ _)) ((rinv_u8 xd hne.out wc).mono (fun e w' h => ⟨_, h.1, rfl, h.2⟩)) ?_
      rintro v w' ⟨rfl, rfl⟩
      exact ⟨g17, g18, k18, hv.put sol_app_apart 15 rfl (lb rfl) (lb rfl) rfl, HO⟩
    ·
      rintro L a wc ⟨g17, g18, k18, hv, HO⟩ hL hc hd
      refine wpOp_call (R := fun v w1 => v = bv (Gf.mul xn (Gf.inv xd)) ∧ wc = w1) rfl rfl (ex_call rfl rfl (map2c (hv.get 7 rfl rfl (hd 7 (by decide))) (hv.get 15 rfl rfl (hd 15 (by decide)))) (ent_rmul _ _)) ((rmul_u8 xn (Gf.inv xd) wc).mono (fun e w' h => ⟨_, h.1, rfl, h.2⟩)) ?_
      rintro v w' ⟨rfl, rfl⟩
      exact ⟨g17, g18, k18, hv.put sol_app_apart 16 rfl (lb rfl) (lb rfl) rfl, HO⟩
    ·
      rintro L a wc ⟨g17, g18, k18, hv, HO⟩ hL hc hd
      have hn := HO.out.new 1 #[bv (Gf.mul xn (Gf.inv xd))] 5 (by simp [maxLen])
      exact wpOp_value rfl rfl (ex_build rfl Tryd.underlying48 info_u8 (hv.get 16 rfl rfl (hd 16 (by decide))) rfl) ⟨wc.heap.size, g18, k18, hv.put sol_app_apart 17 rfl (lb rfl) (lb rfl) rfl, Lib.hid hn⟩
    ·
      rintro L a wc ⟨g17, g18, k18, hv, HO⟩ hL hc hd
      refine wpOp_append rfl rfl 48 5 rfl Tryd.underlying48 info_u8 rfl HO.out 0 (congrArg some (if_neg (by simp [hL]))) (hv.get 0 rfl rfl (hd 0 (by decide))) (hv.get 17 rfl rfl (hd 17 (by decide))) (HO.out.cell 1 (congrArg some (if_pos (hd 17 (by decide)))) 0 rfl) rfl (by omega) (by decide) ?_
      intro gg cc w2 hO2
      have hv := hv.reset 19 (Bool.eq_false_iff.2 fun h => Bool.false_ne_true (hL.symm.trans (hc 19 h 18 (by decide)))) (.slice (some ⟨gg, 0, none⟩) (i + 1) cc)
      exact ⟨g17, gg, cc, hv.put sol_app_apart 18 rfl (lb rfl) (lb rfl) rfl, Lib.hid hO2⟩
    ·
      rintro L a wc ⟨g17, g18, k18, hv, HO⟩ hL hc hd
      exact wpOp_val rfl rfl (ex_assign rfl (hv.get 18 rfl rfl (hd 18 (by decide)))) ⟨g17, g18, k18, hv.put sol_app_apart 19 rfl (lb rfl) (lb rfl) rfl, HO⟩
  · rintro L a wc ⟨g17, g18, k18, hv, HO⟩ hall
    show K a wc
    have ha := act_n rl89 hv.size hv.defers rfl
    simp +decide only [hv.fixed, hv.get 19 (d := 9) rfl rfl (hall 19 (by decide))] at ha
    rw [ha]
    have hO := HO.out
    simp only [hall 17 (by decide), hall 18 (by decide), if_true] at hO
    exact hK g18 k18 _ _ _ _ _ _ _ _ _ _ _ _ _ _ _ _ _ _ _ wc (hO.drop 1)
set_option maxRecDepth 100000 in
set_option maxHeartbeats 8000000 in
theorem rSolved_any (d n g cl : Nat) (rs : List (List UInt8)) (vs : List Value) (M : List LRow) (w0 w : World) (hd : 1 ≤ d) (hd16 : d ≤ 16) (hn : n ≤ 1000) (hO : Owns w0 w (⟨.slice (some ⟨g, 0, none⟩) n cl, 48, 1, n, vs⟩ :: M)) (hV : RowsIn vs M rs) (hG : Cd.GJ d n rs 0) :
    Calls Tryd.prog 89 #[.slice (some ⟨g, 0, none⟩) n cl, .int .i64 d] w fun e w' => ∃ (vs' : List Value) (X : List LRow) (A : Option Addr) (c : Nat), e = .returned (.slice A d c) ∧ Owns w0 w' (⟨.slice A d c, 5, 1, d, (Cd.solvedR rs d).map bv⟩ :: no :: ⟨.slice (some ⟨g, 0, none⟩) n cl, 48, 1, n, vs'⟩ :: (M ++ X)) := by
  have hgood := fun a ha => Cd.gj_good hG a ha
  have hz := Cd.gjTo_zero rs
  have hdn : d ≤ n := by
    obtain ⟨h1, _, _⟩ := (hgood d (Nat.le_refl _)).diag (d - 1) (by omega)
    omega
  have HG := Lib.hid hgood
  have HS : Hid (Owns w0 w (⟨.slice (some ⟨g, 0, none⟩) n cl, 48, 1, n, vs⟩ :: (M ++ [])) ∧ RowsIn vs (M ++ []) (Cd.gjTo rs 0)) := by
    rw [hz, List.append_nil]
    exact Lib.hid (And.intro hO hV)
  clear hO hV hG hgood hz
  go_enter Tryd.func89, Tryd.ntmps89
  go_wp2_with fail
  go_loopw [5] (fun va wr => ∃ (xa : Nat) (vs : List Value) (X : List LRow), xa ≤ d ∧ va = .int .i64 xa ∧ Hid (Owns w0 wr (⟨.slice (some ⟨g, 0, none⟩) n cl, 48, 1, n, vs⟩ :: (M ++ X)) ∧ RowsIn vs (M ++ X) (Cd.gjTo rs xa))) (fun va _ => d - (intOf va).toNat)
  case atStart => exact ⟨0, vs, [], Nat.zero_le _, rfl, HS⟩
  case round =>
    obtain ⟨xa, vs, X, hxa, rfl, HR⟩ := hrel
    obtain ⟨wo, rfl⟩ : ∃ wo, wo = wr := ⟨_, rfl⟩
    by_cases hlt : xa < d
    · have hgj := HG.out xa (by omega)
      have hnext := Cd.gjTo_next rs xa
      have hro := HR.out.2
      obtain ⟨l, hl⟩ : ∃ l, Cd.gjTo rs xa = l := ⟨_, rfl⟩
      rw [hl] at hgj hnext hro
      obtain ⟨q, q1, q2, q3⟩ := hgj.pivot hlt
      obtain ⟨p1, p2, p3, p4⟩ := Cd.pivFrom_spec (by rw [hgj.size]; exact q2) q1 q3
      obtain ⟨p, hp⟩ : ∃ p, Cd.pivFrom l xa = p := ⟨_, rfl⟩
      rw [hp] at p1 p2 p3 p4 hnext
      rw [hgj.size] at p2 hnext
      have hlen : ∀ k, k < n → (l.getD k []).length = d + 1 := fun k hk => hgj.len _ (Cd.getD_mem (by rw [hgj.size]; exact hk))
      have hsz := hgj.size
      have HL := Lib.hid (And.intro hnext (And.intro hlen (And.intro hsz (And.intro p3 p4))))
      have HO := Lib.hid (And.intro HR.out.1 hro)
      have HGJ := Lib.hid hgj
      have hat : ∀ k, k < n → ∃ A2 c2, vs[k]? = some (.slice A2 (d + 1) c2) ∧ byteRow A2 c2 (l.getD k []) ∈ M ++ X := fun k hk => hro.at (by rw [hsz]; exact hk) (hlen k hk)
      have HAT := Lib.hid hat
      clear hgj hnext hro hl hp q1 q2 q3 p3 p4 hlen hsz HR HS hat
      go_wp2_with fail
      go_loop [6] (fun vq => ∃ k : Nat, xa ≤ k ∧ k ≤ p ∧ vq = .int .i64 k) (fun vq => p - (intOf vq).toNat)
      case atStart => exact ⟨xa, Nat.le_refl _, p1, rfl⟩
      case round =>
        obtain ⟨k, hk1, hk2, rfl⟩ := hrel
        obtain ⟨A2, c2, e1, e2⟩ := HAT.out k (by omega)
        have hcell := HO.out.1.cell 0 rfl k e1
        obtain ⟨bX, rfl, _, hb⟩ := (rd_of_mem HO.out.1 (List.mem_cons_of_mem _ e2)).at (k := xa) (by rw [List.length_map, HL.out.2.1 k (by omega)]; omega)
        have hxr : xa < (l.getD k []).length := by rw [HL.out.2.1 k (by omega)]; omega
        rw [List.getElem_map, ← getD_get (x := (0 : UInt8)) hxr] at hb
        obtain ⟨xb, hxb⟩ : ∃ xb, (l.getD k []).getD xa 0 = xb := ⟨_, rfl⟩
        rw [hxb] at hb
        have HXB := Lib.hid hxb
        have HE := Lib.hid (And.intro e1 e2)
        clear e1 e2 hxr hxb
        by_cases hkp : k = p
        · subst hkp
          have e0 : ((xb.toNat : Int) == 0) = false := by
            rw [beq_eq_false_iff_ne]
            intro h
            apply HL.out.2.2.2.1
            rw [HXB.out]
            exact UInt8.toNat_inj.1 (by simpa using h)
          obtain ⟨A3, c3, f1, f2⟩ := HAT.out xa (by omega)
          have f3 := HE.out.1
          have f4 := HE.out.2
          have hca := HO.out.1.cell 0 rfl xa f1
          have hfa : wo.frozen? ⟨g, xa, none⟩ = false := HO.out.1.frozen 0 rfl xa
          have hfk : wo.frozen? ⟨g, k, none⟩ = false := HO.out.1.frozen 0 rfl k
          have hvx : (vs.set k (.slice A3 (d + 1) c3))[xa]? = some (.slice A3 (d + 1) c3) := by
            by_cases hkx : k = xa
            · rw [hkx]; exact List.getElem?_set_self (List.getElem?_eq_some_iff.1 f1).1
            · rw [List.getElem?_set_ne hkx]; exact f1
          have hcx : (wo.setCell ⟨g, k, none⟩ (.slice A3 (d + 1) c3)).cell? ⟨g, xa, none⟩ = some (.slice A3 (d + 1) c3) := (HO.out.1.store 0 rfl k (.slice A3 (d + 1) c3)).cell 0 rfl xa hvx
          have hfx : (wo.setCell ⟨g, k, none⟩ (.slice A3 (d + 1) c3)).frozen? ⟨g, xa, none⟩ = false := (HO.out.1.store 0 rfl k (.slice A3 (d + 1) c3)).frozen 0 rfl xa
          have hs1 := (HO.out.1.store 0 rfl k (.slice A3 (d + 1) c3)).store 0 rfl xa (.slice (some bX) (d + 1) c2)
          have hr1 := (HO.out.2.putR (k := k) (HL.out.2.1 xa (by omega)) f2).putR (k := xa) (HL.out.2.1 k (by omega)) f4
          have hgs := HGJ.out.swap hk1 p2
          have hga := Cd.swapR_a (l := l) (p := k) (a := xa) (by rw [HL.out.2.2.1]; omega)
          have hel : Cd.gjTo rs (xa + 1) = Cd.elimTo (Cd.swapR l k xa) xa n := HL.out.1
          have hsw : (l.set k (l.getD xa [])).set xa (l.getD k []) = Cd.swapR l k xa := by unfold Cd.swapR; rfl
          rw [hsw] at hr1
          have hne : ((Cd.swapR l k xa).getD xa []).getD xa 0 ≠ 0 := by rw [hga]; exact HL.out.2.2.2.1
          obtain ⟨sw, hswe⟩ : ∃ sw, Cd.swapR l k xa = sw := ⟨_, rfl⟩
          rw [hswe] at hr1 hgs hel hne
          obtain ⟨vs1, hvs1⟩ : ∃ vs1, (vs.set k (.slice A3 (d + 1) c3)).set xa (.slice (some bX) (d + 1) c2) = vs1 := ⟨_, rfl⟩
          rw [hvs1] at hr1
          have hs2 : Owns w0 ((wo.setCell ⟨g, k, none⟩ (.slice A3 (d + 1) c3)).setCell ⟨g, xa, none⟩ (.slice (some bX) (d + 1) c2)) (⟨.slice (some ⟨g, 0, none⟩) n cl, 48, 1, n, vs1⟩ :: (M ++ X)) := by rw [← hvs1]; exact hs1
          have HS1 := Lib.hid (And.intro hs2 hr1)
          have HGS := Lib.hid hgs
          have HEL := Lib.hid (And.intro hel hne)
          clear f1 f2 f3 f4 hvx hs1 hs2 hr1 hgs hga hel hsw hne hswe hvs1
          go_wp2_with fail
          clear hca hfa hfk hcell hb e0 hcx hfx
          go_loopw [8] (fun vk wr => ∃ (j : Nat) (vs : List Value) (Y : List LRow), j ≤ n ∧ vk = .int .i64 j ∧ Hid (Owns w0 wr (⟨.slice (some ⟨g, 0, none⟩) n cl, 48, 1, n, vs⟩ :: (M ++ Y)) ∧ RowsIn vs (M ++ Y) (Cd.elimTo sw xa j))) (fun vk _ => n - (intOf vk).toNat)
          case atStart => exact ⟨0, vs1, X, Nat.zero_le _, rfl, by rw [Cd.elimTo_zero]; exact HS1⟩
          case round =>
            obtain ⟨j, vs2, Y, hj, rfl, HJ⟩ := hrel
            by_cases hjl : j < n
            · by_cases hjp : j = xa
              · have e1 : ((j : Int) != (xa : Int)) = false := by rw [hjp]; simp
                have hs : Cd.elimTo sw xa (j + 1) = Cd.elimTo sw xa j := by rw [hjp]; exact Cd.elimTo_skip sw xa
                have HSK := Lib.hid hs
                clear hjp hs
                go_wp2_with fail
                go_roundw
                case rel => exact ⟨j + 1, vs2, Y, by omega, by go_num, by rw [HSK.out]; exact HJ⟩
                case measure => simp [intOf]; omega
              · have e1 : ((j : Int) != (xa : Int)) = true := by rw [bne_iff_ne]; omega
                have hnx := Cd.elimTo_next (l := sw) hjp
                have hln : ∀ i, i < n → ((Cd.elimTo sw xa j).getD i []).length = d + 1 := fun i hi => by
                  have hl0 := HGS.out.len _ (Cd.getD_mem (l := sw) (k := i) (x := []) (by rw [HGS.out.size]; exact hi))
                  rw [Cd.elimTo_get (by rw [HGS.out.size]; omega)]
                  split
                  · rw [Cd.lessR_len]; exact hl0
                  · exact hl0
                have hlz : (Cd.elimTo sw xa j).length = n := by rw [Cd.elimTo_len, HGS.out.size]
                have hna : ((Cd.elimTo sw xa j).getD xa []).getD xa 0 ≠ 0 := by
                  rw [Cd.elimTo_get (by rw [HGS.out.size]; omega), if_neg (by omega)]
                  exact HEL.out.2
                obtain ⟨em, hem⟩ : ∃ em, Cd.elimTo sw xa j = em := ⟨_, rfl⟩
                have hre := HJ.out.2
                rw [hem] at hnx hln hlz hna hre
                obtain ⟨RA, cr, r1, r2⟩ := hre.at (k := j) (by rw [hlz]; exact hjl) (hln j hjl)
                obtain ⟨OA, co, o1, o2⟩ := hre.at (k := xa) (by rw [hlz]; omega) (hln xa (by omega))
                have HH := Lib.hid (And.intro hnx (And.intro hre (And.intro (hln j hjl) (And.intro (hln xa (by omega)) hna))))
                have HR1 := Lib.hid (And.intro r1 r2)
                have HR2 := Lib.hid (And.intro o1 o2)
                have HOW : Hid (Owns w0 wr.drew (⟨.slice (some ⟨g, 0, none⟩) n cl, 48, 1, n, vs2⟩ :: ((M ++ Y) ++ []))) := Lib.hid (by rw [List.append_nil]; exact HJ.out.1.drew)
                clear hnx hre hln hlz hna hem r1 r2 o1 o2 hjp
                go_upto_region 14 with fail
                refine wp_atEnd' (elim_set g n cl j xa (d + 1) cr co RA OA (em.getD j []) (em.getD xa []) _ vs2 (M ++ Y) w0 wr hjl (by omega) HH.out.2.2.1 HH.out.2.2.2.1 (by omega) (by omega) (Lib.hid HH.out.2.2.2.2) (Lib.hid rfl) (Lib.hid HR1.out.1) (Lib.hid HR2.out.1) (Lib.hid HR1.out.2) (Lib.hid HR2.out.2) HOW _ _ _ _ _ _ _ _ _ _ _ _ _ _ _ _ _ _ _ _ _ _ _ _ _ _ _ _ _ _ _ _ _ _ _ _ _ _ _ _ _ _ _ _ _ _ _ _ _ _ _ _ _ _ _ _ _ _ _ _ _ _ _ _ _ _ _ _ _ _ _ _ _ _ _ _ _ _ _ _ _ _ _ _ _ _ _ _ ?_)
                intro A9 c9
                intros
                rename_i wx hOx
                have hrs : RowsIn (vs2.set j (.slice A9 (d + 1) c9)) (M ++ (Y ++ [(⟨.slice A9 (d + 1) c9, 5, 1, d + 1, (Cd.lessR (em.getD j []) (em.getD xa []) xa).map bv⟩ : LRow)])) (Cd.elimTo sw xa (j + 1)) := by
                  rw [HH.out.1]
                  refine (HH.out.2.1.mono (M := M ++ (Y ++ [(⟨.slice A9 (d + 1) c9, 5, 1, d + 1, (Cd.lessR (em.getD j []) (em.getD xa []) xa).map bv⟩ : LRow)])) (fun x hx => ?_)).put (by rw [Cd.lessR_len]; exact HH.out.2.2.1) ?_
                  · rw [← List.append_assoc]; exact List.mem_append_left _ hx
                  · rw [← List.append_assoc]; exact List.mem_append_right _ (List.mem_singleton.2 rfl)
                have hO2 : Owns w0 wx (⟨.slice (some ⟨g, 0, none⟩) n cl, 48, 1, n, vs2.set j (.slice A9 (d + 1) c9)⟩ :: (M ++ (Y ++ [(⟨.slice A9 (d + 1) c9, 5, 1, d + 1, (Cd.lessR (em.getD j []) (em.getD xa []) xa).map bv⟩ : LRow)]))) := by rw [← List.append_assoc]; exact hOx
                have HOX := Lib.hid (And.intro hO2 hrs)
                clear hOx hO2 hrs
                go_wp2_with fail
                go_roundw
                case rel => exact ⟨j + 1, _, _, by omega, by go_num, HOX⟩
                case measure => simp [intOf]; omega
            · obtain rfl : j = n := by omega
              go_wp2_with fail
              go_roundw
              case rel => exact ⟨xa + 1, vs2, Y, by omega, by go_num, by rw [HEL.out.1]; exact HJ⟩
              case measure => simp [intOf]; omega
        · have e0 : ((xb.toNat : Int) == 0) = true := by
            have hx0 : xb = 0 := by rw [← HXB.out]; exact HL.out.2.2.2.2 k hk1 (by omega)
            rw [hx0]; rfl
          go_wp2_with fail
          go_round
          case rel => exact ⟨k + 1, by omega, by omega, by go_num⟩
          case measure => simp [intOf]; omega
    · obtain rfl : xa = d := by omega
      have hgj := HG.out xa (Nat.le_refl _)
      have hsl : Cd.solvedR rs xa = (List.range xa).map fun a => Gf.mul (((Cd.gjTo rs xa).getD a []).getD xa 0) (Gf.inv (((Cd.gjTo rs xa).getD a []).getD a 0)) := rfl
      have hro := HR.out.2
      obtain ⟨l, hl⟩ : ∃ l, Cd.gjTo rs xa = l := ⟨_, rfl⟩
      rw [hl] at hgj hsl hro
      have HGJ := Lib.hid (And.intro hgj (And.intro hsl hro))
      have HB0 : Hid (Owns w0 wo (⟨.slice none 0 0, 5, 1, 0, []⟩ :: no :: ⟨.slice (some ⟨g, 0, none⟩) n cl, 48, 1, n, vs⟩ :: (M ++ X))) := by
        have h1 := (HR.out.1.wider.wider.put (M ++ X ++ [no]).length.succ (nilRow 5) HR.out.1.ext (nilRow_ok _ _ _) (fun _ _ _ _ _ _ => rfl) (fun _ _ _ _ => .inl rfl))
        refine Lib.hid (h1.perm ?_)
        have e : (⟨.slice (some ⟨g, 0, none⟩) n cl, 48, 1, n, vs⟩ :: (M ++ X) ++ [no] ++ [no]).set (M ++ X ++ [no]).length.succ (nilRow 5) = (⟨.slice (some ⟨g, 0, none⟩) n cl, 48, 1, n, vs⟩ :: (M ++ X)) ++ [no, nilRow 5] := by
          simp
        rw [e]
        refine List.perm_append_comm.trans ?_
        exact List.Perm.swap _ _ _
      clear hgj hsl hl hro HS
      go_wp2_with fail
      go_loopw [9, 10] (fun vo vi wr => ∃ (i ca : Nat) (A : Option Addr), i ≤ xa ∧ vi = .int .i64 i ∧ vo = .slice A i ca ∧ Hid (Owns w0 wr (⟨.slice A i ca, 5, 1, i, ((Cd.solvedR rs xa).take i).map bv⟩ :: no :: ⟨.slice (some ⟨g, 0, none⟩) n cl, 48, 1, n, vs⟩ :: (M ++ X)))) (fun _ vi _ => xa - (intOf vi).toNat)
      case atStart => exact ⟨0, 0, none, Nat.zero_le _, rfl, rfl, HB0⟩
      case round =>
        obtain ⟨i, ca, A, hi, rfl, rfl, HI⟩ := hrel
        by_cases hil : i < xa
        · obtain ⟨d1, d2, _⟩ := HGJ.out.1.diag i hil
          have hlen : (l.getD i []).length = xa + 1 := HGJ.out.1.len _ (Cd.getD_mem (by rw [HGJ.out.1.size]; exact d1))
          obtain ⟨A2, c2, e1, e2⟩ := HGJ.out.2.2.at (k := i) (by rw [HGJ.out.1.size]; exact d1) hlen
          obtain ⟨bX, rfl, _, _⟩ := (rd_of_mem HI.out (List.mem_cons_of_mem _ (List.mem_cons_of_mem _ (List.mem_cons_of_mem _ e2)))).at (k := xa) (by rw [List.length_map, hlen]; omega)
          have hgen : ∀ i2, i2 < xa + 1 → ∀ w2 : World, Rd w2 (some bX) ((l.getD i []).map bv) → w2.cell? (bX.add i2) = some (bv ((l.getD i []).getD i2 0)) := fun i2 h2 w2 hr => by
            have h3 := hr.all (k := i2) (by rw [List.length_map, hlen]; exact h2)
            rw [List.getElem_map, ← getD_get (x := (0 : UInt8)) (by rw [hlen]; exact h2)] at h3
            exact h3
          have hil2 : i < (Cd.solvedR rs xa).length := by rw [Cd.solvedR_len]; exact hil
          have htk : ((Cd.solvedR rs xa).take (i + 1)).map bv = ((Cd.solvedR rs xa).take i).map bv ++ [bv (Gf.mul ((l.getD i []).getD xa 0) (Gf.inv ((l.getD i []).getD i 0)))] := by
            have h4 : (Cd.solvedR rs xa)[i] = Gf.mul ((l.getD i []).getD xa 0) (Gf.inv ((l.getD i []).getD i 0)) := by
              rw [← getD_get (x := (0 : UInt8)) hil2, HGJ.out.2.1]
              exact Gf.getD_map_range _ _ hil
            rw [List.take_succ_eq_append_getElem hil2, List.map_append, h4]
            rfl
          have HH := Lib.hid (And.intro d2 (And.intro e1 (And.intro e2 (And.intro hgen htk))))
          clear d2 e1 e2 hgen htk
          go_upto_region 19 with fail
          refine wp_atEnd' (sol_app bX A g n cl i ca xa (xa + 1) c2 ((l.getD i []).getD xa 0) ((l.getD i []).getD i 0) (l.getD i []) _ vs (M ++ X) w0 wr (by omega) d1 (by omega) (by omega) (Lib.hid HH.out.1) (Lib.hid HH.out.2.1) (Lib.hid HH.out.2.2.1) (Lib.hid (HH.out.2.2.2.1 xa (by omega))) (Lib.hid (HH.out.2.2.2.1 i (by omega))) (Lib.hid HI.out.drew) _ _ _ _ _ _ _ _ _ _ _ _ _ _ _ _ _ _ _ _ _ _ _ _ _ _ _ _ _ _ _ _ _ _ _ _ _ _ _ _ _ _ _ _ _ _ _ _ _ _ _ _ _ _ _ _ _ _ _ _ _ _ _ _ _ _ _ _ _ _ _ _ _ _ _ _ _ _ _ _ _ _ _ _ _ _ _ ?_)
          intro g9 k9
          intros
          rename_i wx hOx
          have HOX := Lib.hid hOx
          clear hOx
          go_wp2_with fail
          go_roundw
          case rel => exact ⟨i + 1, k9, _, by omega, by go_num, rfl, Lib.hid (by rw [HH.out.2.2.2.2]; exact HOX.out)⟩
          case measure => simp [intOf]; omega
        · obtain rfl : i = xa := by omega
          go_wp2_with fail
          go_ret
          have htk : (Cd.solvedR rs i).take i = Cd.solvedR rs i := by
            have := Cd.solvedR_len rs i
            rw [List.take_of_length_le (by omega)]
          have h9 := HI.out
          rw [htk] at h9
          exact ⟨vs, X, A, ca, rfl, h9⟩
end Go.Proofs.YtggfkpalkdkbdaaDoor

/- THE WALK over the specification of codes: data. -/
namespace Cd
/-- What stands in the chunk after x offsets, and i data pieces of the next one. -/
def outS (N sz x i : Nat) (F : Nat → Nat → UInt8) : List UInt8 := (List.range N).map fun t => if t % sz < x ∨ (t % sz = x ∧ t / sz < i) then F (t / sz) (t % sz) else 0
theorem outS_len (N sz x i : Nat) (F : Nat → Nat → UInt8) : (outS N sz x i F).length = N := by simp [outS]
theorem outS_start (N sz : Nat) (F : Nat → Nat → UInt8) : outS N sz 0 0 F = List.replicate N 0 := by
  unfold outS
  apply List.ext_getElem
  · simp
  · intro t h1 h2
    simp
theorem outS_next {N sz x d : Nat} (F : Nat → Nat → UInt8) (hN : N = d * sz) (hs : 0 < sz) : outS N sz x d F = outS N sz (x + 1) 0 F := by
  unfold outS
  apply List.map_congr_left
  intro t ht
  have ht := List.mem_range.1 ht
  have hd : t / sz < d := (Nat.div_lt_iff_lt_mul hs).2 (by rw [← hN]; exact ht)
  by_cases h : t % sz < x + 1
  · rw [if_pos (show t % sz < x + 1 ∨ _ from .inl h), if_pos]
    by_cases h2 : t % sz < x
    · exact .inl h2
    · exact .inr ⟨by omega, hd⟩
  · rw [if_neg (fun h3 => h3.elim (fun h3 => by omega) fun h3 => by omega), if_neg (fun h3 => h3.elim h fun h3 => Nat.not_lt_zero _ h3.2)]
theorem outS_set {N sz x i t : Nat} (F : Nat → Nat → UInt8) (ht : t = i * sz + x) (hx : x < sz) : outS N sz x (i + 1) F = (outS N sz x i F).set t (F i x) := by
  have hdm : t / sz = i ∧ t % sz = x := by
    subst ht
    rw [Nat.mul_comm]
    exact ⟨by rw [Nat.mul_add_div (by omega), Nat.div_eq_of_lt hx]; rfl, by rw [Nat.mul_add_mod, Nat.mod_eq_of_lt hx]⟩
  apply List.ext_getElem
  · simp [outS]
  · intro s h1 h2
    rw [List.getElem_set]
    simp only [outS, List.getElem_map, List.getElem_range]
    by_cases hst : t = s
    · subst hst
      rw [if_pos rfl, hdm.1, hdm.2, if_pos (.inr ⟨rfl, by omega⟩)]
    · rw [if_neg hst]
      by_cases h3 : s % sz < x ∨ (s % sz = x ∧ s / sz < i)
      · rw [if_pos h3, if_pos]
        rcases h3 with h3 | h3
        · exact .inl h3
        · exact .inr ⟨h3.1, by omega⟩
      · rw [if_neg h3, if_neg]
        rintro (h4 | ⟨h4, h5⟩)
        · exact h3 (.inl h4)
        · by_cases h6 : s / sz = i
          · apply hst
            have h7 := Nat.div_add_mod s sz
            rw [h6, h4] at h7
            rw [ht, Nat.mul_comm]
            exact h7
          · exact h3 (.inr ⟨h4, by omega⟩)
theorem outS_end {N sz : Nat} (F : Nat → Nat → UInt8) (hs : 0 < sz) : outS N sz sz 0 F = (List.range N).map fun t => F (t / sz) (t % sz) := by
  unfold outS
  apply List.map_congr_left
  intro t _
  rw [if_pos (.inl (Nat.mod_lt _ hs))]
attribute [irreducible] outS
end Cd
namespace Go.Proofs.YtggfkpalkdkbdaaDoor
open Go.RowKit
theorem ent_eq : ∀ args w, (callFunc 88 args).run Tryd.prog w = .ok (.enter 88 args) w := enters_of Tryd.func88 (by kernel_rfl) rfl
theorem ex_at {P : Program} {w : World} {a : Act} {o : Oper} {t : TypeId} {x i : Operand} {u v r : Value} (ho : o.op = .index t x i) (hx : a.eval x = u) (hy : a.eval i = v) (hr : (Instr.index t u v).run P w = .ok r w) : (execOp a.eval o).run P w = .ok (.value r) w := by
  unfold execOp
  simp only [ho, hx, hy, hr, Sem.run_bind, Sem.run_pure, Result.andThen_ok]
theorem run_at (l : List UInt8) (x : Nat) (h : x < l.length) (w : World) : (Instr.index 9 (.string (sb l)) (.int .i64 x)).run Tryd.prog w = .ok (bv (l.getD x 0)) w := by
  have h2 : x < (sb l).size := by rw [size_sb]; exact h
  have hv : Value.int .u8 ((sb l)[x].toNat : Int) = bv (l.getD x 0) := by
    rw [get_bl (sb l) x h2, getD_get h]; rfl
  have b1 : (0 : Int) ≤ (x : Int) := by omega
  have b2 : (x : Int) < (l.length : Int) := by omega
  rw [← hv]
  go_simp
noncomputable def data_app_code : Code := ((Tryd.f59.body.bind (regionOf 11)).getD .skip)
def data_app_dsts : List (Option Nat) := [some 36, some 37, some 38, some 39, some 40, some 41, some 42, some 43, some 44, some 45, some 46, some 47, some 11]
theorem data_app_apart : apartD data_app_dsts = true := by decide +kernel
set_option maxRecDepth 1000000 in
set_option maxHeartbeats 16000000 in
theorem data_app (bP : Addr) (A GA : Option Addr) (B n cp Gc i ca k x d gl : Nat) (b : UInt8) (pk q : List UInt8) (gs : List (List Int)) (vs : List Value) (L0 : List LRow) (w wr : World) (hi8 : i < 1000000) (hk : k < n) (hck : Hid (Cd.check (d : Int) gs (gl : Int) = 0)) (hkp : Hid (k < d + gs.length + gl)) (hq : Hid (q = (List.range d).map (Cd.rowAt d gs k) ++ [b])) (hb : Hid (∀ w2 : World, (Instr.index 9 (.string (sb pk)) (.int .i64 x)).run Tryd.prog w2 = .ok (bv b) w2)) (hP : Hid (w.cell? (bP.add k) = some (.string (sb pk)))) (h0 : w.cell? ⟨B, 0, none⟩ = some (.int .i64 d)) (h1 : w.cell? ⟨B, 1, none⟩ = some (.slice GA gs.length Gc)) (h2 : w.cell? ⟨B, 2, none⟩ = some (.int .i64 gl)) (HG : Hid (Rs (Rs RI) w (.slice GA gs.length Gc) gs)) (HOO : Hid (Owns w wr.drew ([⟨.slice A i ca, 48, 1, i, vs⟩, no] ++ (L0 ++ [])))) (c0 c1 c2 c5 c6 c7 c8 c9 c13 c14 c15 c16 c17 c18 c19 c20 c21 c22 c23 c24 c25 c26 c27 c28 c29 c30 c31 c32 c33 c34 c35 c36 c37 c38 c39 c40 c41 c42 c43 c44 c45 c46 c47 c48 c49 c50 c51 c52 c53 c54 c55 c56 c57 c58 c59 c60 c61 c62 c63 c64 c65 c66 c67 c68 c69 c70 : Value) (df : List Deferred) (K : Act → World → Prop)
    (hK : ∀ (A2 : Option Addr) (ce g11 k11 : Nat) (u36 u37 u38 u39 u40 u41 u42 u43 u44 u45 u46 u47 : Value) (wx : World), Owns w wx ([⟨.slice (some ⟨g11, 0, none⟩) (i + 1) k11, 48, 1, i + 1, vs ++ [.slice A2 (d + 1) ce]⟩, no] ++ (L0 ++ [(⟨.slice A2 (d + 1) ce, 5, 1, d + 1, q.map bv⟩ : LRow)])) → K ⟨#[c0, c1, c2, .slice (some bP) n cp, .pointer (some ⟨B, 0, none⟩), c5, c6, c7, c8, c9, .int .i64 x, .slice (some ⟨g11, 0, none⟩) (i + 1) k11, .int .i64 k, c13, c14, c15, c16, c17, c18, c19, c20, c21, c22, c23, c24, c25, c26, c27, c28, c29, c30, c31, c32, c33, c34, c35, u36, u37, u38, u39, u40, u41, u42, u43, u44, u45, u46, u47, c48, c49, c50, c51, c52, c53, c54, c55, c56, c57, c58, c59, c60, c61, c62, c63, c64, c65, c66, c67, c68, c69, c70], df⟩ wx) :
    Code.wp Tryd.prog data_app_code (AtEnd K) ⟨#[c0, c1, c2, .slice (some bP) n cp, .pointer (some ⟨B, 0, none⟩), c5, c6, c7, c8, c9, .int .i64 x, .slice A i ca, .int .i64 k, c13, c14, c15, c16, c17, c18, c19, c20, c21, c22, c23, c24, c25, c26, c27, c28, c29, c30, c31, c32, c33, c34, c35, c36, c37, c38, c39, c40, c41, c42, c43, c44, c45, c46, c47, c48, c49, c50, c51, c52, c53, c54, c55, c56, c57, c58, c59, c60, c61, c62, c63, c64, c65, c66, c67, c68, c69, c70], df⟩ wr := by
  conv => arg 2; whnf
  refine region_inv (by kernel_rfl) [[], [], [], [], [], [3, 4], [5], [], [6, 7], [1, 2, 8], [9], [0, 10, 9], [11, 11, 0, 1, 2, 3, 4, 5, 6, 7, 8, 9, 10, 11]] (by kernel_rfl) [0, 1, 2, 3, 4, 5, 6, 7, 8, 9, 10, 11, 12] (by decide +kernel) (by decide +kernel) (by decide +kernel) (fun L a wc => ∃ (A2 : Option Addr) (ce : Nat) (g10 : Nat) (g11 : Nat) (k11 : Nat), InvO data_app_dsts [.slice A i ca, .agg #[.int .i64 d, .slice GA gs.length Gc, .int .i64 gl], .int .i64 k, .slice (some bP) n cp, .int .i64 k, .pointer (some (bP.add k)), .string (sb pk), .int .i64 x, bv b, .slice A2 (d + 1) ce, .slice (some ⟨g10, 0, none⟩) 1 1, .slice (some ⟨g11, 0, none⟩) (i + 1) k11, .slice (some ⟨g11, 0, none⟩) (i + 1) k11] ⟨#[c0, c1, c2, .slice (some bP) n cp, .pointer (some ⟨B, 0, none⟩), c5, c6, c7, c8, c9, .int .i64 x, .slice A i ca, .int .i64 k, c13, c14, c15, c16, c17, c18, c19, c20, c21, c22, c23, c24, c25, c26, c27, c28, c29, c30, c31, c32, c33, c34, c35, c36, c37, c38, c39, c40, c41, c42, c43, c44, c45, c46, c47, c48, c49, c50, c51, c52, c53, c54, c55, c56, c57, c58, c59, c60, c61, c62, c63, c64, c65, c66, c67, c68, c69, c70], df⟩ L a ∧ Hid (Owns w wc ([(if L 11 = true then ⟨.slice (some ⟨g11, 0, none⟩) (i + 1) k11, 48, 1, i + 1, vs ++ [.slice A2 (d + 1) ce]⟩ else ⟨.slice A i ca, 48, 1, i, vs⟩), (if L 10 = true then ⟨.slice (some ⟨g10, 0, none⟩) 1 1, 48, 1, 1, [.slice A2 (d + 1) ce]⟩ else no)] ++ (L0 ++ (if L 9 = true then [(⟨.slice A2 (d + 1) ce, 5, 1, d + 1, q.map bv⟩ : LRow)] else []))))) ⟨none, 0, 0, 0, 0, InvO.start, HOO⟩ ?_ ?_
  · refine ⟨?_, ?_, ?_, ?_, ?_, ?_, ?_, ?_, ?_, ?_, ?_, ?_, ?_, trivial⟩
    ·
      rintro L a wc ⟨A2, ce, g10, g11, k11, hv, HO⟩ hL hc hd
      exact wpOp_val rfl rfl (ex_move rfl ((hv.old 12 11 rfl (Bool.eq_false_iff.2 fun h => Bool.false_ne_true (hL.symm.trans (hc 12 h 0 (by decide))))).trans rfl)) ⟨A2, ce, g10, g11, k11, hv.put data_app_apart 0 rfl (lb rfl) (lb rfl) rfl, HO⟩
    ·
      rintro L a wc ⟨A2, ce, g10, g11, k11, hv, HO⟩ hL hc hd
      have e0 : wc.cell? ⟨B, 0, none⟩ = some (.int .i64 d) := HO.out.ext.cell h0
      have e1 : wc.cell? ⟨B, 1, none⟩ = some (.slice GA gs.length Gc) := HO.out.ext.cell h1
      have e2 : wc.cell? ⟨B, 2, none⟩ = some (.int .i64 gl) := HO.out.ext.cell h2
      exact wpOp_val rfl rfl (ex_load rfl ((hv.fixed 4 (by decide)).trans rfl) (by go_simp)) ⟨A2, ce, g10, g11, k11, hv.put data_app_apart 1 rfl (lb rfl) (lb rfl) rfl, HO⟩
    ·
      rintro L a wc ⟨A2, ce, g10, g11, k11, hv, HO⟩ hL hc hd
      exact wpOp_val rfl rfl (ex_move rfl ((hv.fixed 12 (by decide)).trans rfl)) ⟨A2, ce, g10, g11, k11, hv.put data_app_apart 2 rfl (lb rfl) (lb rfl) rfl, HO⟩
    ·
      rintro L a wc ⟨A2, ce, g10, g11, k11, hv, HO⟩ hL hc hd
      exact wpOp_val rfl rfl (ex_move rfl ((hv.fixed 3 (by decide)).trans rfl)) ⟨A2, ce, g10, g11, k11, hv.put data_app_apart 3 rfl (lb rfl) (lb rfl) rfl, HO⟩
    ·
      rintro L a wc ⟨A2, ce, g10, g11, k11, hv, HO⟩ hL hc hd
      exact wpOp_val rfl rfl (ex_move rfl ((hv.fixed 12 (by decide)).trans rfl)) ⟨A2, ce, g10, g11, k11, hv.put data_app_apart 4 rfl (lb rfl) (lb rfl) rfl, HO⟩
    ·
      rintro L a wc ⟨A2, ce, g10, g11, k11, hv, HO⟩ hL hc hd
      have b1 : (0 : Int) ≤ (k : Int) := by omega
      have b2 : (k : Int) < (n : Int) := by omega
      exact wpOp_val rfl rfl (ex_index rfl (hv.get 3 rfl rfl (hd 3 (by decide))) (hv.get 4 rfl rfl (hd 4 (by decide))) (by go_simp)) ⟨A2, ce, g10, g11, k11, hv.put data_app_apart 5 rfl (lb rfl) (lb rfl) rfl, HO⟩
    ·
      rintro L a wc ⟨A2, ce, g10, g11, k11, hv, HO⟩ hL hc hd
      have eP : wc.cell? (bP.add k) = some (.string (sb pk)) := HO.out.ext.cell hP.out
      exact wpOp_val rfl rfl (ex_load rfl (hv.get 5 rfl rfl (hd 5 (by decide))) (by go_simp)) ⟨A2, ce, g10, g11, k11, hv.put data_app_apart 6 rfl (lb rfl) (lb rfl) rfl, HO⟩
    ·
      rintro L a wc ⟨A2, ce, g10, g11, k11, hv, HO⟩ hL hc hd
      exact wpOp_val rfl rfl (ex_move rfl ((hv.fixed 10 (by decide)).trans rfl)) ⟨A2, ce, g10, g11, k11, hv.put data_app_apart 7 rfl (lb rfl) (lb rfl) rfl, HO⟩
    ·
      rintro L a wc ⟨A2, ce, g10, g11, k11, hv, HO⟩ hL hc hd
      exact wpOp_val rfl rfl (ex_at rfl (hv.get 6 rfl rfl (hd 6 (by decide))) (hv.get 7 rfl rfl (hd 7 (by decide))) (hb.out wc)) ⟨A2, ce, g10, g11, k11, hv.put data_app_apart 8 rfl (lb rfl) (lb rfl) rfl, HO⟩
    ·
      rintro L a wc ⟨A2, ce, g10, g11, k11, hv, HO⟩ hL hc hd
      refine wpOp_call (R := fun v w1 => ∃ A3 c3, v = .slice A3 (d + 1) c3 ∧ Ext wc w1 ∧ w1.ownsRow wc.heap.size 5 1 (.slice A3 (d + 1) c3) (d + 1) (q.map bv)) rfl rfl (ex_call rfl rfl (map3c (hv.get 1 rfl rfl (hd 1 (by decide))) (hv.get 2 rfl rfl (hd 2 (by decide))) (hv.get 8 rfl rfl (hd 8 (by decide)))) (ent_eq _ _)) ((rEq_ok d gl k b gs (.slice GA gs.length Gc) wc (Rs.ext (Rs.ext RI.ext) _ _ _ _ HO.out.ext HG.out) hck.out hkp.out).mono (fun e w' ⟨A3, c3, h1, h2, h3⟩ => ⟨_, h1, A3, c3, rfl, h2, by rw [hq.out]; exact h3⟩)) ?_
      rintro v w' ⟨A3, c3, rfl, hx, ho2⟩
      have n10 : L 10 = false := Bool.eq_false_iff.2 fun h => Bool.false_ne_true (hL.symm.trans (hc 10 h 9 (by decide)))
      have n11 : L 11 = false := Bool.eq_false_iff.2 fun h => Bool.false_ne_true (hL.symm.trans (hc 10 (hc 11 h 10 (by decide)) 9 (by decide)))
      have h := HO.out.behind hx ho2
      simp only [hL, n10, n11, Bool.false_eq_true, if_false, List.append_nil] at h
      have h2 : Owns w w' ([(if L 11 = true then ⟨.slice (some ⟨g11, 0, none⟩) (i + 1) k11, 48, 1, i + 1, vs ++ [.slice A3 (d + 1) c3]⟩ else ⟨.slice A i ca, 48, 1, i, vs⟩), (if L 10 = true then ⟨.slice (some ⟨g10, 0, none⟩) 1 1, 48, 1, 1, [.slice A3 (d + 1) c3]⟩ else no)] ++ (L0 ++ [(⟨.slice A3 (d + 1) c3, 5, 1, d + 1, q.map bv⟩ : LRow)])) := by simp only [n10, n11, Bool.false_eq_true, if_false]; simpa using h
      exact ⟨A3, c3, g10, g11, k11, hv.put data_app_apart 9 rfl (lb rfl) (lb rfl) rfl, Lib.hid h2⟩
    ·
      rintro L a wc ⟨A2, ce, g10, g11, k11, hv, HO⟩ hL hc hd
      have hn := HO.out.new 1 #[.slice A2 (d + 1) ce] 48 (by simp [maxLen])
      exact wpOp_value rfl rfl (ex_build rfl Tryd.underlying76 info_bytes (hv.get 9 rfl rfl (hd 9 (by decide))) rfl) ⟨A2, ce, wc.heap.size, g11, k11, hv.put data_app_apart 10 rfl (lb rfl) (lb rfl) rfl, Lib.hid hn⟩
    ·
      rintro L a wc ⟨A2, ce, g10, g11, k11, hv, HO⟩ hL hc hd
      refine wpOp_append rfl rfl 76 48 rfl Tryd.underlying76 info_bytes rfl HO.out 0 (congrArg some (if_neg (by simp [hL]))) (hv.get 0 rfl rfl (hd 0 (by decide))) (hv.get 10 rfl rfl (hd 10 (by decide))) (HO.out.cell 1 (congrArg some (if_pos (hd 10 (by decide)))) 0 rfl) rfl (by omega) (by decide) ?_
      intro gg cc w2 hO2
      have hv := hv.reset 12 (Bool.eq_false_iff.2 fun h => Bool.false_ne_true (hL.symm.trans (hc 12 h 11 (by decide)))) (.slice (some ⟨gg, 0, none⟩) (i + 1) cc)
      exact ⟨A2, ce, g10, gg, cc, hv.put data_app_apart 11 rfl (lb rfl) (lb rfl) rfl, Lib.hid hO2⟩
    ·
      rintro L a wc ⟨A2, ce, g10, g11, k11, hv, HO⟩ hL hc hd
      exact wpOp_val rfl rfl (ex_assign rfl (hv.get 11 rfl rfl (hd 11 (by decide)))) ⟨A2, ce, g10, g11, k11, hv.put data_app_apart 12 rfl (lb rfl) (lb rfl) rfl, HO⟩
  · rintro L a wc ⟨A2, ce, g10, g11, k11, hv, HO⟩ hall
    show K a wc
    have ha := act_n rl71 hv.size hv.defers rfl
    simp +decide only [hv.fixed, hv.get 12 (d := 11) rfl rfl (hall 12 (by decide))] at ha
    rw [ha]
    have hO := HO.out
    simp only [hall 9 (by decide), hall 10 (by decide), hall 11 (by decide), if_true] at hO
    exact hK A2 ce g11 k11 _ _ _ _ _ _ _ _ _ _ _ _ wc (hO.drop 1)
set_option maxRecDepth 100000 in
set_option maxHeartbeats 8000000 in
theorem rData_ok (d gl sz m p pl cp : Nat) (gs : List (List Int)) (pieces : List (List UInt8)) (G : Value) (PA : Option Addr) (w : World) (hG : Rs (Rs RI) w G gs) (hP : Rs RS w (.slice PA pl cp) pieces) (hpl : pieces.length = pl) (hp : (Cd.rowsOf (d : Int) gs (gl : Int)).length = p) (hpp : pl = p)
    (hc : Cd.can d gl gs (m : Int) = true) (hlen : ∀ k, k < p → Cd.bitAt m k = 1 → (pieces.getD k []).length = sz) (hsz : sz ≤ 4096) :
    Calls Tryd.prog 59 #[.agg #[.int .i64 d, G, .int .i64 gl], .int .i64 sz, .int .i64 m, .slice PA pl cp] w fun e w' => e = .returned (.string (sb (Cd.dataR (Cd.rowsOf (d : Int) gs (gl : Int)) d sz m pieces))) ∧ Ext w w' := by
  subst hpp
  have hx0 := (Ext.refl w).alloc (.cells #[.int .i64 d, G, .int .i64 gl] 24)
  obtain ⟨GA, Gc, rfl, hgl⟩ := hG.form
  have HX := Lib.hid (And.intro hx0 (And.intro (Rs.ext (Rs.ext RI.ext) _ _ _ _ hx0 hG) (Rs.ext RS.ext _ _ _ _ hx0 hP)))
  obtain ⟨h0, hm0, _⟩ := Cd.can_def.1 hc
  have hck := Cd.check_ok h0
  obtain ⟨k1, k2, k3, k4, k5, k6⟩ := hck
  have hrl := Cd.rowsOf_len h0
  have hgood := fun x => Cd.eqs_good (pieces := pieces) (m := m) rfl hc x
  have hrow : ∀ k, k < pl → (Cd.rowsOf d gs gl).getD k [] = (List.range d).map (Cd.rowAt d gs k) := fun k hk => by
    rw [Cd.rowsOf_ok h0]
    exact Cd.rows_get (by show k < d + gs.length + gl; rw [hp] at hrl; omega)
  rw [hp] at hrl hm0
  have hdat : Cd.dataR (Cd.rowsOf (d : Int) gs (gl : Int)) d sz m pieces = (List.range (d * sz)).map fun t => (Cd.solvedR (Cd.eqTo (Cd.rowsOf (d : Int) gs (gl : Int)) m pieces (t % sz) pl) d).getD (t / sz) 0 := by unfold Cd.dataR; rw [hp]
  obtain ⟨R, hR⟩ : ∃ R, Cd.rowsOf (d : Int) gs (gl : Int) = R := ⟨_, rfl⟩
  rw [hR] at hp hgood hrow hdat ⊢
  rw [hp] at hgood
  obtain ⟨F, hF⟩ : ∃ F : Nat → Nat → UInt8, (fun i x => (Cd.solvedR (Cd.eqTo R m pieces x pl) d).getD i 0) = F := ⟨_, rfl⟩
  have hFx : ∀ i x, (Cd.solvedR (Cd.eqTo R m pieces x pl) d).getD i 0 = F i x := fun i x => by rw [← hF]
  obtain ⟨N, hN⟩ : ∃ N, d * sz = N := ⟨_, rfl⟩
  rw [hN] at hdat
  have hdat2 : Cd.dataR R d sz m pieces = (List.range N).map fun t => F (t / sz) (t % sz) := by
    rw [hdat]
    apply List.map_congr_left
    intro t _
    exact hFx _ _
  have hNle : N ≤ 65536 := by
    have := Nat.mul_le_mul (show d ≤ 16 by omega) hsz
    omega
  have hmul : (d : Int) * (sz : Int) = (N : Int) := by rw [← hN, Int.natCast_mul]
  have hm24 : m ≤ 16777216 := by
    have : 2 ^ pl ≤ 2 ^ 24 := Nat.pow_le_pow_right (by omega) (by omega)
    omega
  have hd16 : d ≤ 16 := by omega
  have hd1 : 1 ≤ d := by omega
  have hpl24 : pl ≤ 24 := by omega
  have hkp : ∀ k, k < pl → k < d + gs.length + gl := fun k hk => by omega
  have HC := Lib.hid (And.intro h0 (And.intro hkp (And.intro hgood (And.intro hrow hFx))))
  have HD := Lib.hid (And.intro hdat2 (And.intro hN (And.intro hpl hlen)))
  obtain ⟨i0, hi, hz0, hz1, hz2⟩ := info_parts info_u8
  have HZ2 := Lib.hid hz2
  clear hz2 hG hP hx0 h0 hc hm0 hrl hgood hrow hdat hR hp hF hFx hN hdat2 hkp hpl hlen k1 k2 k3 k4 k5 k6
  have step : ∀ (w2 : World), Ext (w.alloc (.cells #[.int .i64 d, .slice GA gs.length Gc, .int .i64 gl] 24)) w2 →
      w2.cell? ⟨w.heap.size, 0, none⟩ = some (.int .i64 d) ∧ w2.cell? ⟨w.heap.size, 1, none⟩ = some (.slice GA gs.length Gc) ∧ w2.cell? ⟨w.heap.size, 2, none⟩ = some (.int .i64 gl) := fun w2 hx => ⟨hx.cell (by go_simp), hx.cell (by go_simp), hx.cell (by go_simp)⟩
  have ST := Lib.hid step
  clear step
  have hc0 : (w.alloc (.cells #[.int .i64 d, .slice GA gs.length Gc, .int .i64 gl] 24)).cell? ⟨w.heap.size, 0, none⟩ = some (.int .i64 d) := by go_simp
  obtain ⟨wb, hwb⟩ : ∃ wb, w.alloc (.cells #[.int .i64 d, .slice GA gs.length Gc, .int .i64 gl] 24) = wb := ⟨_, rfl⟩
  rw [hwb] at HX ST hc0
  go_enter Tryd.func59, Tryd.ntmps59
  go_upto_region 1 with fail
  clear hwb
  go_wp2_with (refine wpList_make_full _ rfl (.tmp 19) (.tmp 19) 48 rfl wb.heap.size 5 i0 (.int .u8 0) 1 Tryd.underlying48 hi hz0 hz1 _ _ _ _ N rfl rfl rfl rfl (by rw [HZ2.out]; omega) (by unfold maxLen; omega) (Nat.le_refl _) ?_; intro w3 hown hgrow; have hx3 : Ext wb w3 := (Ext.refl wb).grown hgrow (fun k h => by cases h); have hO3 : Owns wb w3 [⟨.slice (some ⟨wb.heap.size, 0, none⟩) N N, 5, 1, N, (madeCells (Value.int .u8 0).cells (N * 1)).toList⟩] := ((Owns.start wb (L := []) (by simp)).behind hx3 hown); have HO3 := Lib.hid hO3; clear hown hgrow hx3 hO3)
  clear hc0
  have HO4 : Hid (Owns wb w3 [⟨.slice (some ⟨wb.heap.size, 0, none⟩) N N, 5, 1, N, (Cd.outS N sz 0 0 F).map bv⟩]) := by
    have h := HO3.out
    rw [show (madeCells (Value.int .u8 0).cells (N * 1)).toList = List.replicate N (Value.int .u8 0) from by rw [Nat.mul_one]; exact toList_madeCells_one _ _, bytes_zero] at h
    rw [Cd.outS_start]
    exact Lib.hid h
  clear HO3
  go_loopw [10] (fun vx wr => ∃ x : Nat, x ≤ sz ∧ vx = .int .i64 x ∧ Hid (Owns wb wr [⟨.slice (some ⟨wb.heap.size, 0, none⟩) N N, 5, 1, N, (Cd.outS N sz x 0 F).map bv⟩])) (fun vx _ => sz - (intOf vx).toNat)
  case atStart => exact ⟨0, Nat.zero_le _, rfl, HO4⟩
  case round =>
    obtain ⟨x, hx, rfl, HX0⟩ := hrel
    clear HO4
    by_cases hlt : x < sz
    · have hrow0 : Owns wb wr (⟨.slice none 0 0, 48, 1, 0, []⟩ :: no :: (⟨.slice (some ⟨wb.heap.size, 0, none⟩) N N, 5, 1, N, (Cd.outS N sz x 0 F).map bv⟩ :: [])) := by
        have h1 := HX0.out.wider.wider.put 1 (nilRow 48) HX0.out.ext (nilRow_ok _ _ _) (fun _ _ _ _ _ _ => rfl) (fun _ _ _ _ => .inl rfl)
        refine h1.perm ?_
        show ([⟨.slice (some ⟨wb.heap.size, 0, none⟩) N N, 5, 1, N, (Cd.outS N sz x 0 F).map bv⟩, nilRow 48, no] : List LRow).Perm [nilRow 48, no, ⟨.slice (some ⟨wb.heap.size, 0, none⟩) N N, 5, 1, N, (Cd.outS N sz x 0 F).map bv⟩]
        exact List.perm_append_comm (l₁ := [_]) (l₂ := [_, _])
      have HROW := Lib.hid hrow0
      clear hrow0
      go_wp2_with fail
      go_loopw [11, 12] (fun vl vk wr => ∃ (k i ca : Nat) (A : Option Addr) (vs : List Value) (L0 : List LRow), k ≤ pl ∧ vk = .int .i64 k ∧ vl = .slice A i ca ∧ i ≤ k ∧ Hid (Owns wb wr ([⟨.slice A i ca, 48, 1, i, vs⟩, no] ++ ((⟨.slice (some ⟨wb.heap.size, 0, none⟩) N N, 5, 1, N, (Cd.outS N sz x 0 F).map bv⟩ :: L0) ++ [])) ∧ RowsIn vs (⟨.slice (some ⟨wb.heap.size, 0, none⟩) N N, 5, 1, N, (Cd.outS N sz x 0 F).map bv⟩ :: L0) (Cd.eqTo R m pieces x k))) (fun _ vk _ => pl - (intOf vk).toNat)
      case atStart => exact ⟨0, 0, 0, none, [], [], Nat.zero_le _, rfl, rfl, Nat.le_refl _, Lib.hid (And.intro HROW.out (by rw [Cd.eqTo_zero]; exact RowsIn.nil _))⟩
      case round =>
        obtain ⟨k, i, ca, A, vs, L0, hk, rfl, rfl, hik, HK⟩ := hrel
        by_cases hkl : k < pl
        · have hpd := HD.out.2.2.1
          obtain ⟨bP, u, rfl, hcP, hu⟩ := HX.out.2.2.at (i := k) (by rw [hpd]; exact hkl)
          unfold RS at hu
          subst hu
          by_cases hb : Cd.bitAt m k = 1
          · have hin : Cd.inS m k = true := by unfold Cd.inS; simp [hb]
            have hlk := HD.out.2.2.2 k hkl hb
            have heq := Cd.eqTo_yes (R := R) (pieces := pieces) (x := x) hb
            have hgp := getD_get (x := ([] : List UInt8)) (l := pieces) (i := k) (by rw [hpd]; exact hkl)
            rw [hgp] at heq hlk
            obtain ⟨pk, hpk⟩ : ∃ pk, pieces[k] = pk := ⟨_, rfl⟩
            rw [hpk] at heq hlk hcP
            rw [HC.out.2.2.2.1 k hkl] at heq
            have HEQ := Lib.hid (And.intro heq (And.intro hlk hcP))
            have HIN := Lib.hid hin
            clear hpd hcP hb hin heq hlk hgp hpk
            go_wp2_with fail
            refine (rIn_any m k _ hm24 (by omega)).mono ?_
            rintro e w4 ⟨rfl, rfl⟩
            rw [HIN.out]
            obtain ⟨c0, c1, c2⟩ := ST.out wb (Ext.refl _)
            go_upto_region 11 with fail
            refine wp_atEnd' (data_app bP A GA w.heap.size pl cp Gc i ca k x d gl (pk.getD x 0) pk _ gs vs _ wb wr (by omega) hkl (Lib.hid HC.out.1) (Lib.hid (HC.out.2.1 k hkl)) (Lib.hid rfl) (Lib.hid fun w2 => run_at pk x (by rw [HEQ.out.2.1]; exact hlt) w2) (Lib.hid HEQ.out.2.2) c0 c1 c2 (Lib.hid HX.out.2.1) (Lib.hid HK.out.1.drew) _ _ _ _ _ _ _ _ _ _ _ _ _ _ _ _ _ _ _ _ _ _ _ _ _ _ _ _ _ _ _ _ _ _ _ _ _ _ _ _ _ _ _ _ _ _ _ _ _ _ _ _ _ _ _ _ _ _ _ _ _ _ _ _ _ _ _ _ ?_)
            intro A9 c9 g9 k9
            intros
            rename_i wx hOx
            have hlq : ((List.range d).map (Cd.rowAt d gs k) ++ [pk.getD x 0]).length = d + 1 := by simp
            have hrs : RowsIn (vs ++ [.slice A9 (d + 1) c9]) ((⟨.slice (some ⟨wb.heap.size, 0, none⟩) N N, 5, 1, N, (Cd.outS N sz x 0 F).map bv⟩ :: L0) ++ [(⟨.slice A9 (d + 1) c9, 5, 1, d + 1, ((List.range d).map (Cd.rowAt d gs k) ++ [pk.getD x 0]).map bv⟩ : LRow)]) (Cd.eqTo R m pieces x (k + 1)) := by
              rw [HEQ.out.1]
              exact (HK.out.2.mono (fun x hx => List.mem_append_left _ hx)).snoc hlq (List.mem_append_right _ (List.mem_singleton.2 rfl))
            have HOX := Lib.hid (And.intro hOx hrs)
            clear hOx hrs c0 c1 c2
            go_wp2_with fail
            go_roundw
            case rel => exact ⟨k + 1, i + 1, _, _, _, L0 ++ [_], by omega, by go_num, rfl, by omega, Lib.hid (And.intro (by simpa using HOX.out.1) (by simpa using HOX.out.2))⟩
            case measure => simp [intOf]; omega
          · have hin : Cd.inS m k = false := by unfold Cd.inS; simp [hb]
            have heq := Cd.eqTo_no (R := R) (pieces := pieces) (x := x) hb
            have HEQ := Lib.hid (And.intro heq hin)
            clear hpd hcP hb hin heq
            go_wp2_with fail
            refine (rIn_any m k _ hm24 (by omega)).mono ?_
            rintro e w4 ⟨rfl, rfl⟩
            rw [HEQ.out.2]
            go_wp2_with fail
            go_roundw
            case rel => exact ⟨k + 1, i, ca, A, vs, L0, by omega, by go_num, rfl, by omega, Lib.hid (by rw [HEQ.out.1]; exact HK.out)⟩
            case measure => simp [intOf]; omega
        · obtain rfl : k = pl := by omega
          have hgj := HC.out.2.2.1 x
          have hFx := fun i => HC.out.2.2.2.2 i x
          have hre := HK.out.2
          obtain ⟨eqs, heqs⟩ : ∃ eqs, Cd.eqTo R m pieces x k = eqs := ⟨_, rfl⟩
          rw [heqs] at hgj hFx hre
          have hik2 : i = eqs.length := by
            have h1 := (HK.out.1.row 0 rfl).1
            rw [← hre.1]
            simpa using h1.symm
          obtain ⟨hd1', _, _⟩ := (Cd.gj_good hgj d (Nat.le_refl _)).diag (d - 1) (by omega)
          have hi0 : 0 < i := by omega
          obtain ⟨g, rfl⟩ := ownsRow_some (HK.out.1.row 0 rfl) hi0
          rw [← hik2] at hgj
          have hO1 : Owns wb wr (⟨.slice (some ⟨g, 0, none⟩) i ca, 48, 1, i, vs⟩ :: (no :: ⟨.slice (some ⟨wb.heap.size, 0, none⟩) N N, 5, 1, N, (Cd.outS N sz x 0 F).map bv⟩ :: L0)) := by simpa using HK.out.1
          have hV1 : RowsIn vs (no :: ⟨.slice (some ⟨wb.heap.size, 0, none⟩) N N, 5, 1, N, (Cd.outS N sz x 0 F).map bv⟩ :: L0) eqs := hre.mono fun y hy => List.mem_cons_of_mem _ hy
          have hsl : ∀ i2, i2 < d → (Cd.solvedR eqs d).getD i2 0 = F i2 x := fun i2 _ => hFx i2
          have hsn := Cd.solvedR_len eqs d
          have HS := Lib.hid (And.intro hO1 (And.intro hV1 (And.intro hgj (And.intro hsl hsn))))
          obtain ⟨c0, c1, c2⟩ := ST.out wr HK.out.1.ext
          clear hgj hFx hre heqs hik2 hd1' hO1 hV1 hsl hsn HK HROW c1 c2
          go_wp2_with fail
          clear c0
          refine (rSolved_any d i g ca eqs vs _ wb wr hd1 hd16 (by omega) HS.out.1 HS.out.2.1 HS.out.2.2.1).mono ?_
          rintro e w5 ⟨vs5, X5, A5, c5, rfl, hO5⟩
          obtain ⟨g5, rfl⟩ := ownsRow_some (hO5.row 0 rfl) (by omega)
          have hO6 : Owns wb w5 [⟨.slice (some ⟨g5, 0, none⟩) d c5, 5, 1, d, (Cd.solvedR eqs d).map bv⟩, ⟨.slice (some ⟨wb.heap.size, 0, none⟩) N N, 5, 1, N, (Cd.outS N sz x 0 F).map bv⟩] := hO5.sublist (.cons_cons _ (.cons _ (.cons _ (.cons _ (.cons_cons _ (List.nil_sublist _))))))
          have HO6 := Lib.hid hO6
          clear hO5 hO6
          go_wp2_with fail
          go_loopw [15] (fun vi wr => ∃ i : Nat, i ≤ d ∧ vi = .int .i64 i ∧ Hid (Owns wb wr [⟨.slice (some ⟨g5, 0, none⟩) d c5, 5, 1, d, (Cd.solvedR eqs d).map bv⟩, ⟨.slice (some ⟨wb.heap.size, 0, none⟩) N N, 5, 1, N, (Cd.outS N sz x i F).map bv⟩])) (fun vi _ => d - (intOf vi).toNat)
          case atStart => exact ⟨0, Nat.zero_le _, rfl, HO6⟩
          case round =>
            obtain ⟨i3, hi3, rfl, HI⟩ := hrel
            obtain ⟨c0, c1, c2⟩ := ST.out wr HI.out.ext
            clear c1 c2
            by_cases hil : i3 < d
            · obtain ⟨lo, hlo⟩ : ∃ lo, i3 * sz = lo := ⟨_, rfl⟩
              obtain ⟨tt, htt⟩ : ∃ tt, lo + x = tt := ⟨_, rfl⟩
              have q1 : (i3 : Int) * (sz : Int) = (lo : Int) := by rw [← hlo, Int.natCast_mul]
              have q2 : (lo : Int) + (x : Int) = (tt : Int) := by rw [← htt]; rfl
              have q3 : (i3 + 1) * sz ≤ d * sz := Nat.mul_le_mul_right sz hil
              rw [Nat.succ_mul, hlo, HD.out.2.1] at q3
              have q4 : tt < N := by omega
              have q5 : lo ≤ 65536 := by omega
              have hset := Cd.outS_set (N := N) (i := i3) F (show tt = i3 * sz + x by rw [hlo, htt]) hlt
              have hb3 : ((Cd.solvedR eqs d).map bv)[i3]? = some (bv (F i3 x)) := by
                rw [List.getElem?_map, List.getElem?_eq_getElem (by rw [HS.out.2.2.2.2]; exact hil), ← getD_get (x := (0 : UInt8)) (by rw [HS.out.2.2.2.2]; exact hil), HS.out.2.2.2.1 i3 hil]
                rfl
              have hcb : wr.cell? ⟨g5, i3, none⟩ = some (bv (F i3 x)) := HI.out.cell 0 rfl i3 hb3
              have hot : ((Cd.outS N sz x i3 F).map bv)[tt]? = some (bv ((Cd.outS N sz x i3 F).getD tt 0)) := by
                rw [List.getElem?_map, List.getElem?_eq_getElem (by rw [Cd.outS_len]; exact q4), ← getD_get (x := (0 : UInt8)) (by rw [Cd.outS_len]; exact q4)]
                rfl
              have hct : wr.cell? ⟨wb.heap.size, tt, none⟩ = some (bv ((Cd.outS N sz x i3 F).getD tt 0)) := HI.out.cell 1 rfl tt hot
              have hft : wr.frozen? ⟨wb.heap.size, tt, none⟩ = false := HI.out.frozen 1 rfl tt
              have hst : Owns wb (wr.setCell ⟨wb.heap.size, tt, none⟩ (bv (F i3 x))) [⟨.slice (some ⟨g5, 0, none⟩) d c5, 5, 1, d, (Cd.solvedR eqs d).map bv⟩, ⟨.slice (some ⟨wb.heap.size, 0, none⟩) N N, 5, 1, N, (Cd.outS N sz x (i3 + 1) F).map bv⟩] := by
                have h1 := HI.out.store 1 rfl tt (bv (F i3 x))
                rw [hset, List.map_set]
                exact h1
              have HST := Lib.hid hst
              obtain ⟨ov, hov⟩ : ∃ ov, bv ((Cd.outS N sz x i3 F).getD tt 0) = ov := ⟨_, rfl⟩
              rw [hov] at hct
              obtain ⟨fv, hfv⟩ : ∃ fv, F i3 x = fv := ⟨_, rfl⟩
              rw [hfv] at hcb HST
              clear hlo htt q3 hset hb3 hot hst hov hfv
              go_wp2_with fail
              go_roundw
              case rel => exact ⟨i3 + 1, by omega, by go_num, HST⟩
              case measure => simp [intOf]; omega
            · obtain rfl : i3 = d := by omega
              have hnx := Cd.outS_next (x := x) F HD.out.2.1.symm (by omega)
              have hO7 := HI.out.sublist (L' := [⟨.slice (some ⟨wb.heap.size, 0, none⟩) N N, 5, 1, N, (Cd.outS N sz x i3 F).map bv⟩]) (.cons _ (.cons_cons _ (List.nil_sublist _)))
              rw [hnx] at hO7
              have HO7 := Lib.hid hO7
              clear hnx hO7
              go_wp2_with fail
              go_roundw
              case rel => exact ⟨x + 1, by omega, by go_num, HO7⟩
              case measure => simp [intOf]; omega
    · obtain rfl : x = sz := by omega
      have hfin : Cd.outS N x x 0 F = Cd.dataR R d x m pieces := by
        rcases Nat.eq_zero_or_pos x with h | h
        · subst h
          have hN0 : N = 0 := by rw [← HD.out.2.1]; simp
          have h2 : Cd.outS N 0 0 0 F = [] := List.length_eq_zero_iff.1 (by rw [Cd.outS_len]; exact hN0)
          have h3 : Cd.dataR R d 0 m pieces = [] := List.length_eq_zero_iff.1 (by rw [Cd.dataR_len]; simp)
          rw [h2, h3]
        · rw [Cd.outS_end F h, HD.out.1]
      have hrd := own_rd (HX0.out.row 0 rfl)
      have hl9 := Cd.outS_len N x x 0 F
      rw [hfin] at hrd hl9
      obtain ⟨res, hres⟩ : ∃ res, Cd.dataR R d x m pieces = res := ⟨_, rfl⟩
      rw [hres] at hrd hl9
      have HRES := Lib.hid hres
      have hrun := str_u8 (n := N) (c := N) (w := wr) hl9.symm hrd
      have HXF := Lib.hid (HX.out.1.trans HX0.out.ext)
      clear hfin hrd hl9 hres HX0
      go_wp2_with fail
      go_ret
      exact ⟨by rw [HRES.out]; rfl, HXF.out⟩
end Go.Proofs.YtggfkpalkdkbdaaDoor
