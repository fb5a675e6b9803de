/- THE WALK over CodeEncodesAsSpecified: its drawn region. -/
import Derived.Test.YtgkohfmgdejkpaaDoorR7F
import Derived.Test.YtgkohfmgdejkpaaDoorInv
namespace Go.Proofs.YtgkohfmgdejkpaaDoor
open Go.RowKit
theorem ent_ccheck : ∀ args w, (callFunc 12 args).run Tryd.prog w = .ok (.enter 12 args) w := enters_of Tryd.func12 (by kernel_rfl) rfl
theorem ent_cpieces : ∀ args w, (callFunc 13 args).run Tryd.prog w = .ok (.enter 13 args) w := enters_of Tryd.func13 (by kernel_rfl) rfl
theorem ent_rpieces : ∀ args w, (callFunc 14 args).run Tryd.prog w = .ok (.enter 14 args) w := enters_of Tryd.func14 (by kernel_rfl) rfl
theorem ent_csize : ∀ args w, (callFunc 15 args).run Tryd.prog w = .ok (.enter 15 args) w := enters_of Tryd.func15 (by kernel_rfl) rfl
theorem ent_rsize : ∀ args w, (callFunc 16 args).run Tryd.prog w = .ok (.enter 16 args) w := enters_of Tryd.func16 (by kernel_rfl) rfl
theorem ent_texts : ∀ args w, (callFunc 17 args).run Tryd.prog w = .ok (.enter 17 args) w := enters_of Tryd.func17 (by kernel_rfl) rfl
noncomputable def enc_eight_code : Code := ((Tryd.f3.body.bind (regionOf 8)).getD .skip)
def enc_eight_dsts : List (Option Nat) := [some 50, some 51, some 52, some 53, some 54, some 55, some 56, some 57, some 58, some 59, some 60, some 61, some 62, some 63, some 64, some 65, some 66, some 67, some 68, some 69, some 70, some 71, some 72, some 73, some 74, some 75, some 76, some 77, some 78, some 79, some 80, some 81, some 82, some 83, some 84, some 85, some 86, some 87]
theorem enc_eight_apart : apartD enc_eight_dsts = true := by decide +kernel
set_option maxRecDepth 1000000 in
set_option maxHeartbeats 16000000 in
theorem enc_eight (B P c : Nat) (d gl n E : Int) (gs : List (List Int)) (A : Option Addr) (V1 V2 : Value) (l : List (List UInt8)) (wr : World) (hgn : gs.length ≤ 1000000) (h0 : wr.cell? ⟨B, 0, none⟩ = some (.int .i64 d)) (h1 : wr.cell? ⟨B, 1, none⟩ = some (.slice A gs.length c)) (h2 : wr.cell? ⟨B, 2, none⟩ = some (.int .i64 gl)) (p0 : wr.cell? ⟨P, 0, none⟩ = some V2) (p1 : wr.cell? ⟨P, 1, none⟩ = some (.int .i64 E)) (HG : Hid (Rs (Rs RI) wr (.slice A gs.length c) gs)) (HL1 : Hid (Rs RS wr V1 l)) (HL2 : Hid (Rs RS wr V2 l)) (c0 c1 c4 c5 c6 c7 c9 c14 c15 c16 c17 c18 c19 c20 c21 c22 c23 c24 c25 c26 c27 c28 c29 c30 c31 c32 c33 c34 c35 c36 c37 c38 c39 c40 c41 c42 c43 c44 c45 c46 c47 c48 c49 c50 c51 c52 c53 c54 c55 c56 c57 c58 c59 c60 c61 c62 c63 c64 c65 c66 c67 c68 c69 c70 c71 c72 c73 c74 c75 c76 c77 c78 c79 c80 c81 c82 c83 c84 c85 c86 c87 c88 c89 c90 c91 c92 c93 c94 : Value) (df : List Deferred) (K : Act → World → Prop)
    (hK : ∀  (u50 u51 u52 u53 u54 u55 u56 u57 u58 u59 u60 u61 u62 u63 u64 u65 u66 u67 u68 u69 u70 u71 u72 u73 u74 u75 u76 u77 u78 u79 u80 u81 u82 u83 u84 u85 u86 : Value) (wx : World), Ext wr wx → K ⟨#[c0, c1, .int .i64 n, .pointer (some ⟨B, 0, none⟩), c4, c5, c6, c7, .int .i64 (Cd.check d gs gl), c9, .int .i64 (Cd.check d gs gl), V1, .int .i64 E, .pointer (some ⟨P, 0, none⟩), c14, c15, c16, c17, c18, c19, c20, c21, c22, c23, c24, c25, c26, c27, c28, c29, c30, c31, c32, c33, c34, c35, c36, c37, c38, c39, c40, c41, c42, c43, c44, c45, c46, c47, c48, c49, u50, u51, u52, u53, u54, u55, u56, u57, u58, u59, u60, u61, u62, u63, u64, u65, u66, u67, u68, u69, u70, u71, u72, u73, u74, u75, u76, u77, u78, u79, u80, u81, u82, u83, u84, u85, u86, .bool false, c88, c89, c90, c91, c92, c93, c94], df⟩ wx) :
    Code.wp Tryd.prog enc_eight_code (AtEnd K) ⟨#[c0, c1, .int .i64 n, .pointer (some ⟨B, 0, none⟩), c4, c5, c6, c7, .int .i64 (Cd.check d gs gl), c9, .int .i64 (Cd.check d gs gl), V1, .int .i64 E, .pointer (some ⟨P, 0, none⟩), c14, c15, c16, c17, c18, c19, c20, c21, c22, c23, c24, c25, c26, c27, c28, c29, c30, c31, c32, c33, c34, c35, c36, c37, c38, c39, c40, c41, c42, c43, c44, c45, c46, c47, c48, c49, c50, c51, c52, c53, c54, c55, c56, c57, c58, c59, c60, c61, c62, c63, c64, c65, c66, c67, c68, c69, c70, c71, c72, c73, c74, c75, c76, c77, c78, c79, c80, c81, c82, c83, c84, c85, c86, c87, c88, c89, c90, c91, c92, c93, c94], df⟩ wr := by
  conv => arg 2; whnf
  refine region_inv (by kernel_rfl) [[], [0], [], [1, 2], [3, 1], [4], [4], [5, 6, 4], [4, 7], [8, 4], [9], [10, 9, 9], [9], [12, 11, 9], [11, 13, 9], [9, 14], [15, 13], [16], [16], [17, 18, 16, 16], [16], [16], [20, 21, 19, 16], [19, 22, 16], [16, 23], [24, 22], [25], [25], [27, 25], [26, 28, 25], [25, 29], [30, 25], [31], [31], [33, 31], [32, 34, 31, 31], [35, 31], [31, 36]] (by kernel_rfl) [0, 1, 2, 3, 4, 5, 6, 7, 8, 9, 10, 11, 12, 13, 14, 15, 16, 17, 18, 19, 20, 21, 22, 23, 24, 25, 26, 27, 28, 29, 30, 31, 32, 33, 34, 35, 36, 37] (by decide +kernel) (by decide +kernel) (by decide +kernel) (fun L a wc => Inv enc_eight_dsts [.agg #[.int .i64 d, .slice A gs.length c, .int .i64 gl], .int .i64 (Cd.check d gs gl), .int .i64 (Cd.check d gs gl), .bool false, .bool false, .int .i64 (Cd.check d gs gl), .int .i64 (Cd.check d gs gl), .bool false, .bool false, .bool false, .agg #[.int .i64 d, .slice A gs.length c, .int .i64 gl], .int .i64 (Cd.pieces d gs gl), .agg #[.int .i64 d, .slice A gs.length c, .int .i64 gl], .int .i64 (Cd.pieces d gs gl), .bool false, .bool false, .bool false, .agg #[.int .i64 d, .slice A gs.length c, .int .i64 gl], .int .i64 n, .int .i64 (Cd.sizeOf d gl gs n), .agg #[.int .i64 d, .slice A gs.length c, .int .i64 gl], .int .i64 n, .int .i64 (Cd.sizeOf d gl gs n), .bool false, .bool false, .bool false, .int .i64 E, .pointer (some ⟨P, 1, none⟩), .int .i64 E, .bool false, .bool false, .bool false, V1, .pointer (some ⟨P, 0, none⟩), V2, .bool true, .bool false, .bool false] ⟨#[c0, c1, .int .i64 n, .pointer (some ⟨B, 0, none⟩), c4, c5, c6, c7, .int .i64 (Cd.check d gs gl), c9, .int .i64 (Cd.check d gs gl), V1, .int .i64 E, .pointer (some ⟨P, 0, none⟩), c14, c15, c16, c17, c18, c19, c20, c21, c22, c23, c24, c25, c26, c27, c28, c29, c30, c31, c32, c33, c34, c35, c36, c37, c38, c39, c40, c41, c42, c43, c44, c45, c46, c47, c48, c49, c50, c51, c52, c53, c54, c55, c56, c57, c58, c59, c60, c61, c62, c63, c64, c65, c66, c67, c68, c69, c70, c71, c72, c73, c74, c75, c76, c77, c78, c79, c80, c81, c82, c83, c84, c85, c86, c87, c88, c89, c90, c91, c92, c93, c94], df⟩ L a ∧ Hid (Ext wr wc)) ⟨Inv.start, Lib.hid ((Ext.refl wr).drew)⟩ ?_ ?_
  · refine ⟨?_, ?_, ?_, ?_, ?_, ?_, ?_, ?_, ?_, ?_, ?_, ?_, ?_, ?_, ?_, ?_, ?_, ?_, ?_, ?_, ?_, ?_, ?_, ?_, ?_, ?_, ?_, ?_, ?_, ?_, ?_, ?_, ?_, ?_, ?_, ?_, ?_, ?_, trivial⟩
    · -- 0 load
      rintro L a wc ⟨hv, HO⟩ hL hc hd
      have e0 : wc.cell? ⟨B, 0, none⟩ = some (.int .i64 d) := HO.out.cell h0
      have e1 : wc.cell? ⟨B, 1, none⟩ = some (.slice A gs.length c) := HO.out.cell h1
      have e2 : wc.cell? ⟨B, 2, none⟩ = some (.int .i64 gl) := HO.out.cell h2
      exact wpOp_val rfl rfl (ex_load rfl ((hv.fixed 3 (by decide)).trans rfl) (by go_simp)) ⟨hv.put enc_eight_apart 0 rfl (Nat.le_of_ble_eq_true rfl) (Nat.le_of_ble_eq_true rfl) rfl, HO⟩
    · -- 1 call
      rintro L a wc ⟨hv, HO⟩ hL hc hd
      refine wpOp_call (R := fun v w1 => v = .int .i64 (Cd.check d gs gl) ∧ Ext wc w1) rfl rfl (ex_call rfl rfl (map1c (hv.get 0 rfl rfl (hd 0 (by decide)))) (ent_ccheck _ _)) ((cCheck_any d gl gs (.slice A gs.length c) wc (Rs.ext (Rs.ext RI.ext) _ _ _ _ HO.out HG.out)).mono (fun e w' h => ⟨_, h.1, rfl, h.2⟩)) ?_
      rintro v w' ⟨rfl, hx⟩
      exact ⟨hv.put enc_eight_apart 1 rfl (Nat.le_of_ble_eq_true rfl) (Nat.le_of_ble_eq_true rfl) rfl, Lib.hid (HO.out.trans hx)⟩
    · -- 2 move
      rintro L a wc ⟨hv, HO⟩ hL hc hd
      exact wpOp_val rfl rfl (ex_move rfl ((hv.fixed 8 (by decide)).trans rfl)) ⟨hv.put enc_eight_apart 2 rfl (Nat.le_of_ble_eq_true rfl) (Nat.le_of_ble_eq_true rfl) rfl, HO⟩
    · -- 3 bin
      rintro L a wc ⟨hv, HO⟩ hL hc hd
      have h : ((Cd.check d gs gl) != (Cd.check d gs gl)) = false := by simp
      exact wpOp_val rfl rfl (ex_bin rfl (hv.get 1 rfl rfl (hd 1 (by decide))) (hv.get 2 rfl rfl (hd 2 (by decide))) (by go_simp)) ⟨hv.put enc_eight_apart 3 rfl (Nat.le_of_ble_eq_true rfl) (Nat.le_of_ble_eq_true rfl) rfl, HO⟩
    · -- 4 move
      rintro L a wc ⟨hv, HO⟩ hL hc hd
      exact wpOp_val rfl rfl (ex_move rfl (hv.get 3 rfl rfl (hd 3 (by decide)))) ⟨hv.put enc_eight_apart 4 rfl (Nat.le_of_ble_eq_true rfl) (Nat.le_of_ble_eq_true rfl) rfl, HO⟩
    · -- 5 move
      rintro L a wc ⟨hv, HO⟩ hL hc hd
      exact wpOp_val rfl ((wanted_at rfl rfl (hv.get 4 rfl rfl (hd 4 (by decide)))).trans rfl) (ex_move rfl ((hv.fixed 10 (by decide)).trans rfl)) ⟨hv.put enc_eight_apart 5 rfl (Nat.le_of_ble_eq_true rfl) (Nat.le_of_ble_eq_true rfl) rfl, HO⟩
    · -- 6 move
      rintro L a wc ⟨hv, HO⟩ hL hc hd
      exact wpOp_val rfl ((wanted_at rfl rfl (hv.get 4 rfl rfl (hd 4 (by decide)))).trans rfl) (ex_move rfl ((hv.fixed 8 (by decide)).trans rfl)) ⟨hv.put enc_eight_apart 6 rfl (Nat.le_of_ble_eq_true rfl) (Nat.le_of_ble_eq_true rfl) rfl, HO⟩
    · -- 7 bin
      rintro L a wc ⟨hv, HO⟩ hL hc hd
      have h : ((Cd.check d gs gl) != (Cd.check d gs gl)) = false := by simp
      exact wpOp_val rfl ((wanted_at rfl rfl (hv.get 4 rfl rfl (hd 4 (by decide)))).trans rfl) (ex_bin rfl (hv.get 5 rfl rfl (hd 5 (by decide))) (hv.get 6 rfl rfl (hd 6 (by decide))) (by go_simp)) ⟨hv.put enc_eight_apart 7 rfl (Nat.le_of_ble_eq_true rfl) (Nat.le_of_ble_eq_true rfl) rfl, HO⟩
    · -- 8 pick
      rintro L a wc ⟨hv, HO⟩ hL hc hd
      exact wpOp_val rfl rfl (ex_pick rfl (hv.get 4 rfl rfl (hd 4 (by decide))) ((if_neg (by simp)).trans (hv.get 7 rfl rfl (hd 7 (by decide))))) ⟨hv.put enc_eight_apart 8 rfl (Nat.le_of_ble_eq_true rfl) (Nat.le_of_ble_eq_true rfl) rfl, HO⟩
    · -- 9 move
      rintro L a wc ⟨hv, HO⟩ hL hc hd
      exact wpOp_val rfl rfl (ex_move rfl (hv.get 8 rfl rfl (hd 8 (by decide)))) ⟨hv.put enc_eight_apart 9 rfl (Nat.le_of_ble_eq_true rfl) (Nat.le_of_ble_eq_true rfl) rfl, HO⟩
    · -- 10 load
      rintro L a wc ⟨hv, HO⟩ hL hc hd
      have e0 : wc.cell? ⟨B, 0, none⟩ = some (.int .i64 d) := HO.out.cell h0
      have e1 : wc.cell? ⟨B, 1, none⟩ = some (.slice A gs.length c) := HO.out.cell h1
      have e2 : wc.cell? ⟨B, 2, none⟩ = some (.int .i64 gl) := HO.out.cell h2
      exact wpOp_val rfl ((wanted_at rfl rfl (hv.get 9 rfl rfl (hd 9 (by decide)))).trans rfl) (ex_load rfl ((hv.fixed 3 (by decide)).trans rfl) (by go_simp)) ⟨hv.put enc_eight_apart 10 rfl (Nat.le_of_ble_eq_true rfl) (Nat.le_of_ble_eq_true rfl) rfl, HO⟩
    · -- 11 call
      rintro L a wc ⟨hv, HO⟩ hL hc hd
      refine wpOp_callw (R := fun v w1 => v = .int .i64 (Cd.pieces d gs gl) ∧ Ext wc w1) rfl ((wanted_at rfl rfl (hv.get 9 rfl rfl (hd 9 (by decide)))).trans rfl) (ex_call rfl rfl (map1c (hv.get 10 rfl rfl (hd 10 (by decide)))) (ent_cpieces _ _)) ((cPieces_any d gl gs (.slice A gs.length c) wc (Rs.ext (Rs.ext RI.ext) _ _ _ _ HO.out HG.out)).mono (fun e w' h => ⟨_, h.1, rfl, h.2⟩)) ?_
      rintro v w' ⟨rfl, hx⟩
      exact ⟨hv.put enc_eight_apart 11 rfl (Nat.le_of_ble_eq_true rfl) (Nat.le_of_ble_eq_true rfl) rfl, Lib.hid (HO.out.trans hx)⟩
    · -- 12 load
      rintro L a wc ⟨hv, HO⟩ hL hc hd
      have e0 : wc.cell? ⟨B, 0, none⟩ = some (.int .i64 d) := HO.out.cell h0
      have e1 : wc.cell? ⟨B, 1, none⟩ = some (.slice A gs.length c) := HO.out.cell h1
      have e2 : wc.cell? ⟨B, 2, none⟩ = some (.int .i64 gl) := HO.out.cell h2
      exact wpOp_val rfl ((wanted_at rfl rfl (hv.get 9 rfl rfl (hd 9 (by decide)))).trans rfl) (ex_load rfl ((hv.fixed 3 (by decide)).trans rfl) (by go_simp)) ⟨hv.put enc_eight_apart 12 rfl (Nat.le_of_ble_eq_true rfl) (Nat.le_of_ble_eq_true rfl) rfl, HO⟩
    · -- 13 call
      rintro L a wc ⟨hv, HO⟩ hL hc hd
      refine wpOp_callw (R := fun v w1 => v = .int .i64 (Cd.pieces d gs gl) ∧ Ext wc w1) rfl ((wanted_at rfl rfl (hv.get 9 rfl rfl (hd 9 (by decide)))).trans rfl) (ex_call rfl rfl (map1c (hv.get 12 rfl rfl (hd 12 (by decide)))) (ent_rpieces _ _)) ((rPieces_any d gl gs (.slice A gs.length c) wc (Rs.ext (Rs.ext RI.ext) _ _ _ _ HO.out HG.out) hgn).mono (fun e w' h => ⟨_, h.1, rfl, h.2⟩)) ?_
      rintro v w' ⟨rfl, hx⟩
      exact ⟨hv.put enc_eight_apart 13 rfl (Nat.le_of_ble_eq_true rfl) (Nat.le_of_ble_eq_true rfl) rfl, Lib.hid (HO.out.trans hx)⟩
    · -- 14 bin
      rintro L a wc ⟨hv, HO⟩ hL hc hd
      have h : ((Cd.pieces d gs gl) != (Cd.pieces d gs gl)) = false := by simp
      exact wpOp_val rfl ((wanted_at rfl rfl (hv.get 9 rfl rfl (hd 9 (by decide)))).trans rfl) (ex_bin rfl (hv.get 11 rfl rfl (hd 11 (by decide))) (hv.get 13 rfl rfl (hd 13 (by decide))) (by go_simp)) ⟨hv.put enc_eight_apart 14 rfl (Nat.le_of_ble_eq_true rfl) (Nat.le_of_ble_eq_true rfl) rfl, HO⟩
    · -- 15 pick
      rintro L a wc ⟨hv, HO⟩ hL hc hd
      exact wpOp_val rfl rfl (ex_pick rfl (hv.get 9 rfl rfl (hd 9 (by decide))) ((if_neg (by simp)).trans (hv.get 14 rfl rfl (hd 14 (by decide))))) ⟨hv.put enc_eight_apart 15 rfl (Nat.le_of_ble_eq_true rfl) (Nat.le_of_ble_eq_true rfl) rfl, HO⟩
    · -- 16 move
      rintro L a wc ⟨hv, HO⟩ hL hc hd
      exact wpOp_val rfl rfl (ex_move rfl (hv.get 15 rfl rfl (hd 15 (by decide)))) ⟨hv.put enc_eight_apart 16 rfl (Nat.le_of_ble_eq_true rfl) (Nat.le_of_ble_eq_true rfl) rfl, HO⟩
    · -- 17 load
      rintro L a wc ⟨hv, HO⟩ hL hc hd
      have e0 : wc.cell? ⟨B, 0, none⟩ = some (.int .i64 d) := HO.out.cell h0
      have e1 : wc.cell? ⟨B, 1, none⟩ = some (.slice A gs.length c) := HO.out.cell h1
      have e2 : wc.cell? ⟨B, 2, none⟩ = some (.int .i64 gl) := HO.out.cell h2
      exact wpOp_val rfl ((wanted_at rfl rfl (hv.get 16 rfl rfl (hd 16 (by decide)))).trans rfl) (ex_load rfl ((hv.fixed 3 (by decide)).trans rfl) (by go_simp)) ⟨hv.put enc_eight_apart 17 rfl (Nat.le_of_ble_eq_true rfl) (Nat.le_of_ble_eq_true rfl) rfl, HO⟩
    · -- 18 move
      rintro L a wc ⟨hv, HO⟩ hL hc hd
      exact wpOp_val rfl ((wanted_at rfl rfl (hv.get 16 rfl rfl (hd 16 (by decide)))).trans rfl) (ex_move rfl ((hv.fixed 2 (by decide)).trans rfl)) ⟨hv.put enc_eight_apart 18 rfl (Nat.le_of_ble_eq_true rfl) (Nat.le_of_ble_eq_true rfl) rfl, HO⟩
    · -- 19 call
      rintro L a wc ⟨hv, HO⟩ hL hc hd
      refine wpOp_callw (R := fun v w1 => v = .int .i64 (Cd.sizeOf d gl gs n) ∧ Ext wc w1) rfl ((wanted_at rfl rfl (hv.get 16 rfl rfl (hd 16 (by decide)))).trans rfl) (ex_call rfl rfl (map2c (hv.get 17 rfl rfl (hd 17 (by decide))) (hv.get 18 rfl rfl (hd 18 (by decide)))) (ent_csize _ _)) ((cSize_any d gl n gs (.slice A gs.length c) wc (Rs.ext (Rs.ext RI.ext) _ _ _ _ HO.out HG.out)).mono (fun e w' h => ⟨_, h.1, rfl, h.2⟩)) ?_
      rintro v w' ⟨rfl, hx⟩
      exact ⟨hv.put enc_eight_apart 19 rfl (Nat.le_of_ble_eq_true rfl) (Nat.le_of_ble_eq_true rfl) rfl, Lib.hid (HO.out.trans hx)⟩
    · -- 20 load
      rintro L a wc ⟨hv, HO⟩ hL hc hd
      have e0 : wc.cell? ⟨B, 0, none⟩ = some (.int .i64 d) := HO.out.cell h0
      have e1 : wc.cell? ⟨B, 1, none⟩ = some (.slice A gs.length c) := HO.out.cell h1
      have e2 : wc.cell? ⟨B, 2, none⟩ = some (.int .i64 gl) := HO.out.cell h2
      exact wpOp_val rfl ((wanted_at rfl rfl (hv.get 16 rfl rfl (hd 16 (by decide)))).trans rfl) (ex_load rfl ((hv.fixed 3 (by decide)).trans rfl) (by go_simp)) ⟨hv.put enc_eight_apart 20 rfl (Nat.le_of_ble_eq_true rfl) (Nat.le_of_ble_eq_true rfl) rfl, HO⟩
    · -- 21 move
      rintro L a wc ⟨hv, HO⟩ hL hc hd
      exact wpOp_val rfl ((wanted_at rfl rfl (hv.get 16 rfl rfl (hd 16 (by decide)))).trans rfl) (ex_move rfl ((hv.fixed 2 (by decide)).trans rfl)) ⟨hv.put enc_eight_apart 21 rfl (Nat.le_of_ble_eq_true rfl) (Nat.le_of_ble_eq_true rfl) rfl, HO⟩
    · -- 22 call
      rintro L a wc ⟨hv, HO⟩ hL hc hd
      refine wpOp_callw (R := fun v w1 => v = .int .i64 (Cd.sizeOf d gl gs n) ∧ Ext wc w1) rfl ((wanted_at rfl rfl (hv.get 16 rfl rfl (hd 16 (by decide)))).trans rfl) (ex_call rfl rfl (map2c (hv.get 20 rfl rfl (hd 20 (by decide))) (hv.get 21 rfl rfl (hd 21 (by decide)))) (ent_rsize _ _)) ((rSize_any d gl n gs (.slice A gs.length c) wc (Rs.ext (Rs.ext RI.ext) _ _ _ _ HO.out HG.out) hgn).mono (fun e w' h => ⟨_, h.1, rfl, h.2⟩)) ?_
      rintro v w' ⟨rfl, hx⟩
      exact ⟨hv.put enc_eight_apart 22 rfl (Nat.le_of_ble_eq_true rfl) (Nat.le_of_ble_eq_true rfl) rfl, Lib.hid (HO.out.trans hx)⟩
    · -- 23 bin
      rintro L a wc ⟨hv, HO⟩ hL hc hd
      have h : ((Cd.sizeOf d gl gs n) != (Cd.sizeOf d gl gs n)) = false := by simp
      exact wpOp_val rfl ((wanted_at rfl rfl (hv.get 16 rfl rfl (hd 16 (by decide)))).trans rfl) (ex_bin rfl (hv.get 19 rfl rfl (hd 19 (by decide))) (hv.get 22 rfl rfl (hd 22 (by decide))) (by go_simp)) ⟨hv.put enc_eight_apart 23 rfl (Nat.le_of_ble_eq_true rfl) (Nat.le_of_ble_eq_true rfl) rfl, HO⟩
    · -- 24 pick
      rintro L a wc ⟨hv, HO⟩ hL hc hd
      exact wpOp_val rfl rfl (ex_pick rfl (hv.get 16 rfl rfl (hd 16 (by decide))) ((if_neg (by simp)).trans (hv.get 23 rfl rfl (hd 23 (by decide))))) ⟨hv.put enc_eight_apart 24 rfl (Nat.le_of_ble_eq_true rfl) (Nat.le_of_ble_eq_true rfl) rfl, HO⟩
    · -- 25 move
      rintro L a wc ⟨hv, HO⟩ hL hc hd
      exact wpOp_val rfl rfl (ex_move rfl (hv.get 24 rfl rfl (hd 24 (by decide)))) ⟨hv.put enc_eight_apart 25 rfl (Nat.le_of_ble_eq_true rfl) (Nat.le_of_ble_eq_true rfl) rfl, HO⟩
    · -- 26 move
      rintro L a wc ⟨hv, HO⟩ hL hc hd
      exact wpOp_val rfl ((wanted_at rfl rfl (hv.get 25 rfl rfl (hd 25 (by decide)))).trans rfl) (ex_move rfl ((hv.fixed 12 (by decide)).trans rfl)) ⟨hv.put enc_eight_apart 26 rfl (Nat.le_of_ble_eq_true rfl) (Nat.le_of_ble_eq_true rfl) rfl, HO⟩
    · -- 27 field
      rintro L a wc ⟨hv, HO⟩ hL hc hd
      exact wpOp_val rfl ((wanted_at rfl rfl (hv.get 25 rfl rfl (hd 25 (by decide)))).trans rfl) (ex_field rfl ((hv.fixed 13 (by decide)).trans rfl) (by go_simp)) ⟨hv.put enc_eight_apart 27 rfl (Nat.le_of_ble_eq_true rfl) (Nat.le_of_ble_eq_true rfl) rfl, HO⟩
    · -- 28 load
      rintro L a wc ⟨hv, HO⟩ hL hc hd
      have e0 : wc.cell? ⟨P, 1, none⟩ = some (.int .i64 E) := HO.out.cell p1
      exact wpOp_val rfl ((wanted_at rfl rfl (hv.get 25 rfl rfl (hd 25 (by decide)))).trans rfl) (ex_load rfl (hv.get 27 rfl rfl (hd 27 (by decide))) (by go_simp)) ⟨hv.put enc_eight_apart 28 rfl (Nat.le_of_ble_eq_true rfl) (Nat.le_of_ble_eq_true rfl) rfl, HO⟩
    · -- 29 bin
      rintro L a wc ⟨hv, HO⟩ hL hc hd
      have h : (E != E) = false := by simp
      exact wpOp_val rfl ((wanted_at rfl rfl (hv.get 25 rfl rfl (hd 25 (by decide)))).trans rfl) (ex_bin rfl (hv.get 26 rfl rfl (hd 26 (by decide))) (hv.get 28 rfl rfl (hd 28 (by decide))) (by go_simp)) ⟨hv.put enc_eight_apart 29 rfl (Nat.le_of_ble_eq_true rfl) (Nat.le_of_ble_eq_true rfl) rfl, HO⟩
    · -- 30 pick
      rintro L a wc ⟨hv, HO⟩ hL hc hd
      exact wpOp_val rfl rfl (ex_pick rfl (hv.get 25 rfl rfl (hd 25 (by decide))) ((if_neg (by simp)).trans (hv.get 29 rfl rfl (hd 29 (by decide))))) ⟨hv.put enc_eight_apart 30 rfl (Nat.le_of_ble_eq_true rfl) (Nat.le_of_ble_eq_true rfl) rfl, HO⟩
    · -- 31 move
      rintro L a wc ⟨hv, HO⟩ hL hc hd
      exact wpOp_val rfl rfl (ex_move rfl (hv.get 30 rfl rfl (hd 30 (by decide)))) ⟨hv.put enc_eight_apart 31 rfl (Nat.le_of_ble_eq_true rfl) (Nat.le_of_ble_eq_true rfl) rfl, HO⟩
    · -- 32 move
      rintro L a wc ⟨hv, HO⟩ hL hc hd
      exact wpOp_val rfl ((wanted_at rfl rfl (hv.get 31 rfl rfl (hd 31 (by decide)))).trans rfl) (ex_move rfl ((hv.fixed 11 (by decide)).trans rfl)) ⟨hv.put enc_eight_apart 32 rfl (Nat.le_of_ble_eq_true rfl) (Nat.le_of_ble_eq_true rfl) rfl, HO⟩
    · -- 33 field
      rintro L a wc ⟨hv, HO⟩ hL hc hd
      exact wpOp_val rfl ((wanted_at rfl rfl (hv.get 31 rfl rfl (hd 31 (by decide)))).trans rfl) (ex_field rfl ((hv.fixed 13 (by decide)).trans rfl) (by go_simp)) ⟨hv.put enc_eight_apart 33 rfl (Nat.le_of_ble_eq_true rfl) (Nat.le_of_ble_eq_true rfl) rfl, HO⟩
    · -- 34 load
      rintro L a wc ⟨hv, HO⟩ hL hc hd
      have e0 : wc.cell? ⟨P, 0, none⟩ = some V2 := HO.out.cell p0
      exact wpOp_val rfl ((wanted_at rfl rfl (hv.get 31 rfl rfl (hd 31 (by decide)))).trans rfl) (ex_load rfl (hv.get 33 rfl rfl (hd 33 (by decide))) (by go_simp)) ⟨hv.put enc_eight_apart 34 rfl (Nat.le_of_ble_eq_true rfl) (Nat.le_of_ble_eq_true rfl) rfl, HO⟩
    · -- 35 call
      rintro L a wc ⟨hv, HO⟩ hL hc hd
      refine wpOp_callw (R := fun v w1 => v = .bool true ∧ Ext wc w1) rfl ((wanted_at rfl rfl (hv.get 31 rfl rfl (hd 31 (by decide)))).trans rfl) (ex_call rfl rfl (map2c (hv.get 32 rfl rfl (hd 32 (by decide))) (hv.get 34 rfl rfl (hd 34 (by decide)))) (ent_texts _ _)) (((rSameTexts_any l l V1 V2 wc (Rs.ext RS.ext _ _ _ _ HO.out HL1.out) (Rs.ext RS.ext _ _ _ _ HO.out HL2.out))).mono (fun e w' h => ⟨_, h.1, by simp, h.2⟩)) ?_
      rintro v w' ⟨rfl, hx⟩
      exact ⟨hv.put enc_eight_apart 35 rfl (Nat.le_of_ble_eq_true rfl) (Nat.le_of_ble_eq_true rfl) rfl, Lib.hid (HO.out.trans hx)⟩
    · -- 36 un
      rintro L a wc ⟨hv, HO⟩ hL hc hd
      exact wpOp_val rfl ((wanted_at rfl rfl (hv.get 31 rfl rfl (hd 31 (by decide)))).trans rfl) (ex_un rfl (hv.get 35 rfl rfl (hd 35 (by decide))) (by go_simp)) ⟨hv.put enc_eight_apart 36 rfl (Nat.le_of_ble_eq_true rfl) (Nat.le_of_ble_eq_true rfl) rfl, HO⟩
    · -- 37 pick
      rintro L a wc ⟨hv, HO⟩ hL hc hd
      exact wpOp_val rfl rfl (ex_pick rfl (hv.get 31 rfl rfl (hd 31 (by decide))) ((if_neg (by simp)).trans (hv.get 36 rfl rfl (hd 36 (by decide))))) ⟨hv.put enc_eight_apart 37 rfl (Nat.le_of_ble_eq_true rfl) (Nat.le_of_ble_eq_true rfl) rfl, HO⟩
  · rintro L a wc ⟨hv, HO⟩ hall
    show K a wc
    have ha := act_lit a
    rw [hv.size, hv.defers] at ha
    have hl : ∀ f : Nat → Value, ((List.range (⟨#[c0, c1, .int .i64 n, .pointer (some ⟨B, 0, none⟩), c4, c5, c6, c7, .int .i64 (Cd.check d gs gl), c9, .int .i64 (Cd.check d gs gl), V1, .int .i64 E, .pointer (some ⟨P, 0, none⟩), c14, c15, c16, c17, c18, c19, c20, c21, c22, c23, c24, c25, c26, c27, c28, c29, c30, c31, c32, c33, c34, c35, c36, c37, c38, c39, c40, c41, c42, c43, c44, c45, c46, c47, c48, c49, c50, c51, c52, c53, c54, c55, c56, c57, c58, c59, c60, c61, c62, c63, c64, c65, c66, c67, c68, c69, c70, c71, c72, c73, c74, c75, c76, c77, c78, c79, c80, c81, c82, c83, c84, c85, c86, c87, c88, c89, c90, c91, c92, c93, c94], df⟩ : Act).tmps.size).map f).toArray = #[f 0, f 1, f 2, f 3, f 4, f 5, f 6, f 7, f 8, f 9, f 10, f 11, f 12, f 13, f 14, f 15, f 16, f 17, f 18, f 19, f 20, f 21, f 22, f 23, f 24, f 25, f 26, f 27, f 28, f 29, f 30, f 31, f 32, f 33, f 34, f 35, f 36, f 37, f 38, f 39, f 40, f 41, f 42, f 43, f 44, f 45, f 46, f 47, f 48, f 49, f 50, f 51, f 52, f 53, f 54, f 55, f 56, f 57, f 58, f 59, f 60, f 61, f 62, f 63, f 64, f 65, f 66, f 67, f 68, f 69, f 70, f 71, f 72, f 73, f 74, f 75, f 76, f 77, f 78, f 79, f 80, f 81, f 82, f 83, f 84, f 85, f 86, f 87, f 88, f 89, f 90, f 91, f 92, f 93, f 94] := fun _ => rfl
    rw [hl] at ha
    simp only [hv.fixed 0 (by decide), hv.fixed 1 (by decide), hv.fixed 2 (by decide), hv.fixed 3 (by decide), hv.fixed 4 (by decide), hv.fixed 5 (by decide), hv.fixed 6 (by decide), hv.fixed 7 (by decide), hv.fixed 8 (by decide), hv.fixed 9 (by decide), hv.fixed 10 (by decide), hv.fixed 11 (by decide), hv.fixed 12 (by decide), hv.fixed 13 (by decide), hv.fixed 14 (by decide), hv.fixed 15 (by decide), hv.fixed 16 (by decide), hv.fixed 17 (by decide), hv.fixed 18 (by decide), hv.fixed 19 (by decide), hv.fixed 20 (by decide), hv.fixed 21 (by decide), hv.fixed 22 (by decide), hv.fixed 23 (by decide), hv.fixed 24 (by decide), hv.fixed 25 (by decide), hv.fixed 26 (by decide), hv.fixed 27 (by decide), hv.fixed 28 (by decide), hv.fixed 29 (by decide), hv.fixed 30 (by decide), hv.fixed 31 (by decide), hv.fixed 32 (by decide), hv.fixed 33 (by decide), hv.fixed 34 (by decide), hv.fixed 35 (by decide), hv.fixed 36 (by decide), hv.fixed 37 (by decide), hv.fixed 38 (by decide), hv.fixed 39 (by decide), hv.fixed 40 (by decide), hv.fixed 41 (by decide), hv.fixed 42 (by decide), hv.fixed 43 (by decide), hv.fixed 44 (by decide), hv.fixed 45 (by decide), hv.fixed 46 (by decide), hv.fixed 47 (by decide), hv.fixed 48 (by decide), hv.fixed 49 (by decide), hv.fixed 88 (by decide), hv.fixed 89 (by decide), hv.fixed 90 (by decide), hv.fixed 91 (by decide), hv.fixed 92 (by decide), hv.fixed 93 (by decide), hv.fixed 94 (by decide), hv.get 37 (d := 87) rfl rfl (hall 37 (by decide))] at ha
    rw [ha]
    exact hK _ _ _ _ _ _ _ _ _ _ _ _ _ _ _ _ _ _ _ _ _ _ _ _ _ _ _ _ _ _ _ _ _ _ _ _ _ wc HO.out
end Go.Proofs.YtgkohfmgdejkpaaDoor
