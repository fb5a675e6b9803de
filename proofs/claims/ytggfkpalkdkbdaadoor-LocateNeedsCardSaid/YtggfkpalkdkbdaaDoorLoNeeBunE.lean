/- What the program's functions do, step by step: part E of the texts for this claim; no condition beyond what each theorem states. -/
import Derived.Deep.Matrix
import Derived.Lib.SmallJoins
import Derived.SizedLaws
import Derived.Deep.Slices
import Derived.Test.YtggfkpalkdkbdaaDoorLoNeeBunA
import Derived.Test.YtggfkpalkdkbdaaDoorLoNeeBunB
import Derived.Test.YtggfkpalkdkbdaaDoorLoNeeBunC
import Derived.Test.YtggfkpalkdkbdaaDoorLoNeeBunD
/- THE DRAWN REGION of LocateNeeds. -/
namespace Go.Proofs.YtggfkpalkdkbdaaDoor
open Go.RowKit
noncomputable def nd14_code : Code := ((Tryd.f8.body.bind (regionOf 14)).getD .skip)
def nd14_dsts : List (Option Nat) := [some 86, some 87, some 88, some 89, some 90, some 91, some 92, some 93, some 94, some 95, some 96, some 85, some 97, some 98, some 18, some 19]
theorem nd14_apart : apartD nd14_dsts = true := by decide +kernel
set_option maxRecDepth 1000000 in
set_option maxHeartbeats 16000000 in
theorem nd14 (wr : World) (C ng Gc M mo P r p2 Q wv k2 : Nat) (GA : Option Addr) (d gl : Int) (bb : Bool) (k0 : wr.cell? ⟨C, 0, none⟩ = some (.int .i64 d)) (k1 : wr.cell? ⟨C, 1, none⟩ = some (.slice GA ng Gc)) (k2c : wr.cell? ⟨C, 2, none⟩ = some (.int .i64 gl)) (hP0 : 0 < P) (hmo : mo < 256) (hr63 : r < 62) (HR : Hid ((mo : Int) % (P : Int) = (r : Int) ∧ IntKind.i64.wrap (2 ^ r) = (p2 : Int) ∧ bits .or .i64 (M : Int) (p2 : Int) = (Q : Int) ∧ IntKind.i64.wrap (2 * (wv : Int)) = (k2 : Int)))
  (HC : Hid (∀ w1 : World, Ext wr w1 → Calls Tryd.prog 11 #[.agg #[.int .i64 d, .slice GA ng Gc, .int .i64 gl], .int .i64 (Q : Nat), .int .i64 (k2 : Nat)] w1 fun e w' => e = .returned (.tuple #[.bool bb, .int .i64 0]) ∧ Ext w1 w')) (c0 c1 c3 c5 c6 c7 c8 c9 c10 c14 c15 c16 c17 c18 c19 c20 c21 c22 c23 c24 c25 c26 c27 c28 c29 c30 c31 c32 c33 c34 c35 c36 c37 c38 c39 c40 c41 c42 c43 c44 c45 c46 c47 c48 c49 c50 c51 c52 c53 c54 c55 c56 c57 c58 c59 c60 c61 c62 c63 c64 c65 c66 c67 c68 c69 c70 c71 c72 c73 c74 c75 c76 c77 c78 c79 c80 c81 c82 c83 c84 c85 c86 c87 c88 c89 c90 c91 c92 c93 c94 c95 c96 c97 c98 c99 c100 c101 c102 c103 c104 c105 c106 c107 c108 c109 c110 c111 c112 c113 c114 c115 c116 c117 c118 c119 c120 c121 c122 c123 c124 c125 c126 c127 c128 c129 c130 c131 c132 c133 c134 c135 c136 c137 c138 c139 c140 c141 c142 c143 c144 c145 c146 c147 c148 c149 c150 c151 c152 c153 c154 c155 c156 c157 c158 c159 c160 : Value) (df : List Deferred) (K : Act → World → Prop)
    (hK : ∀  (u85 u86 u87 u88 u89 u90 u91 u92 u93 u94 u95 u96 u97 u98 : Value) (wx : World), Ext wr wx → K ⟨#[c0, c1, .int .u8 (mo : Nat), c3, .pointer (some ⟨C, 0, none⟩), c5, c6, c7, c8, c9, c10, .int .i64 (P : Nat), .int .i64 (M : Nat), .int .i64 (wv : Nat), c14, c15, c16, c17, .bool bb, .int .i64 0, c20, c21, c22, c23, c24, c25, c26, c27, c28, c29, c30, c31, c32, c33, c34, c35, c36, c37, c38, c39, c40, c41, c42, c43, c44, c45, c46, c47, c48, c49, c50, c51, c52, c53, c54, c55, c56, c57, c58, c59, c60, c61, c62, c63, c64, c65, c66, c67, c68, c69, c70, c71, c72, c73, c74, c75, c76, c77, c78, c79, c80, c81, c82, c83, c84, u85, u86, u87, u88, u89, u90, u91, u92, u93, u94, u95, u96, u97, u98, c99, c100, c101, c102, c103, c104, c105, c106, c107, c108, c109, c110, c111, c112, c113, c114, c115, c116, c117, c118, c119, c120, c121, c122, c123, c124, c125, c126, c127, c128, c129, c130, c131, c132, c133, c134, c135, c136, c137, c138, c139, c140, c141, c142, c143, c144, c145, c146, c147, c148, c149, c150, c151, c152, c153, c154, c155, c156, c157, c158, c159, c160], df⟩ wx) :
    Code.wp Tryd.prog nd14_code (AtEnd K) ⟨#[c0, c1, .int .u8 (mo : Nat), c3, .pointer (some ⟨C, 0, none⟩), c5, c6, c7, c8, c9, c10, .int .i64 (P : Nat), .int .i64 (M : Nat), .int .i64 (wv : Nat), c14, c15, c16, c17, c18, c19, c20, c21, c22, c23, c24, c25, c26, c27, c28, c29, c30, c31, c32, c33, c34, c35, c36, c37, c38, c39, c40, c41, c42, c43, c44, c45, c46, c47, c48, c49, c50, c51, c52, c53, c54, c55, c56, c57, c58, c59, c60, c61, c62, c63, c64, c65, c66, c67, c68, c69, c70, c71, c72, c73, c74, c75, c76, c77, c78, c79, c80, c81, c82, c83, c84, c85, c86, c87, c88, c89, c90, c91, c92, c93, c94, c95, c96, c97, c98, c99, c100, c101, c102, c103, c104, c105, c106, c107, c108, c109, c110, c111, c112, c113, c114, c115, c116, c117, c118, c119, c120, c121, c122, c123, c124, c125, c126, c127, c128, c129, c130, c131, c132, c133, c134, c135, c136, c137, c138, c139, c140, c141, c142, c143, c144, c145, c146, c147, c148, c149, c150, c151, c152, c153, c154, c155, c156, c157, c158, c159, c160], df⟩ wr := by
  conv => arg 2; whnf
  refine region_inv (by kernel_rfl) [[], [], [], [2], [], [3, 4], [5], [1, 6], [], [8], [0, 7, 9], [10], [11], [11], [12, 10, 0, 1, 2, 3, 4, 5, 6, 7, 8, 9, 10, 11, 12], [13, 14, 0, 1, 2, 3, 4, 5, 6, 7, 8, 9, 10, 11, 12, 13, 14]] (by kernel_rfl) [0, 1, 2, 3, 4, 5, 6, 7, 8, 9, 10, 11, 12, 13, 14, 15] (by decide +kernel) (by decide +kernel) (by decide +kernel) (fun L a wc => Inv nd14_dsts [.agg #[.int .i64 d, .slice GA ng Gc, .int .i64 gl], .int .i64 (M : Nat), .int .u8 (mo : Nat), .int .i64 (mo : Nat), .int .i64 (P : Nat), .int .i64 (r : Nat), .int .i64 (p2 : Nat), .int .i64 (Q : Nat), .int .i64 (wv : Nat), .int .i64 (k2 : Nat), .tuple #[.bool bb, .int .i64 0], .tuple #[.bool bb, .int .i64 0], .bool bb, .int .i64 0, .bool bb, .int .i64 0] ⟨#[c0, c1, .int .u8 (mo : Nat), c3, .pointer (some ⟨C, 0, none⟩), c5, c6, c7, c8, c9, c10, .int .i64 (P : Nat), .int .i64 (M : Nat), .int .i64 (wv : Nat), c14, c15, c16, c17, c18, c19, c20, c21, c22, c23, c24, c25, c26, c27, c28, c29, c30, c31, c32, c33, c34, c35, c36, c37, c38, c39, c40, c41, c42, c43, c44, c45, c46, c47, c48, c49, c50, c51, c52, c53, c54, c55, c56, c57, c58, c59, c60, c61, c62, c63, c64, c65, c66, c67, c68, c69, c70, c71, c72, c73, c74, c75, c76, c77, c78, c79, c80, c81, c82, c83, c84, c85, c86, c87, c88, c89, c90, c91, c92, c93, c94, c95, c96, c97, c98, c99, c100, c101, c102, c103, c104, c105, c106, c107, c108, c109, c110, c111, c112, c113, c114, c115, c116, c117, c118, c119, c120, c121, c122, c123, c124, c125, c126, c127, c128, c129, c130, c131, c132, c133, c134, c135, c136, c137, c138, c139, c140, c141, c142, c143, c144, c145, c146, c147, c148, c149, c150, c151, c152, c153, c154, c155, c156, c157, c158, c159, c160], df⟩ L a ∧ Hid (Ext wr wc)) ⟨Inv.start, Lib.hid ((Ext.refl wr).drew)⟩ ?_ ?_
  · refine ⟨?_, ?_, ?_, ?_, ?_, ?_, ?_, ?_, ?_, ?_, ?_, ?_, ?_, ?_, ?_, ?_, trivial⟩
    ·
      rintro L a wc ⟨hv, HO⟩ hL hc hd
      have h0 : wc.cell? ⟨C, 0, none⟩ = some (.int .i64 d) := HO.out.cell k0
      have h1 : wc.cell? ⟨C, 1, none⟩ = some (.slice GA ng Gc) := HO.out.cell k1
      have h2 : wc.cell? ⟨C, 2, none⟩ = some (.int .i64 gl) := HO.out.cell k2c
      exact wpOp_val rfl rfl (ex_load rfl ((hv.fixed 4 (by decide)).trans rfl) (by go_simp)) ⟨hv.put nd14_apart 0 rfl (lb rfl) (lb rfl) rfl, HO⟩
    ·
      rintro L a wc ⟨hv, HO⟩ hL hc hd
      exact wpOp_val rfl rfl (ex_move rfl ((hv.fixed 12 (by decide)).trans rfl)) ⟨hv.put nd14_apart 1 rfl (lb rfl) (lb rfl) rfl, HO⟩
    ·
      rintro L a wc ⟨hv, HO⟩ hL hc hd
      exact wpOp_val rfl rfl (ex_move rfl ((hv.fixed 2 (by decide)).trans rfl)) ⟨hv.put nd14_apart 2 rfl (lb rfl) (lb rfl) rfl, HO⟩
    ·
      rintro L a wc ⟨hv, HO⟩ hL hc hd
      have hw : IntKind.i64.wrap (mo : Int) = (mo : Int) := by rw [IntKind.wrap_i64]; omega
      exact wpOp_val rfl rfl (ex_convert rfl (hv.get 2 rfl rfl (hd 2 (by decide))) (by go_simp)) ⟨hv.put nd14_apart 3 rfl (lb rfl) (lb rfl) rfl, HO⟩
    ·
      rintro L a wc ⟨hv, HO⟩ hL hc hd
      exact wpOp_val rfl rfl (ex_move rfl ((hv.fixed 11 (by decide)).trans rfl)) ⟨hv.put nd14_apart 4 rfl (lb rfl) (lb rfl) rfl, HO⟩
    ·
      rintro L a wc ⟨hv, HO⟩ hL hc hd
      have h1 := HR.out.1
      have hP1 : ¬ (P : Int) = 0 := by omega
      have hP2 : ((P : Int) == 0) = false := by rw [beq_eq_false_iff_ne]; exact hP1
      have hP3 : ¬ P = 0 := by omega
      have hm0 : (0 : Int) ≤ (mo : Int) := by omega
      have ht : Int.tmod (mo : Int) (P : Int) = (r : Int) := by rw [Int.tmod_eq_emod_of_nonneg hm0]; exact h1
      have hw : IntKind.i64.wrap (r : Int) = (r : Int) := by rw [IntKind.wrap_i64]; omega
      exact wpOp_val rfl rfl (ex_bin rfl (hv.get 3 rfl rfl (hd 3 (by decide))) (hv.get 4 rfl rfl (hd 4 (by decide))) (by go_simp)) ⟨hv.put nd14_apart 5 rfl (lb rfl) (lb rfl) rfl, HO⟩
    ·
      rintro L a wc ⟨hv, HO⟩ hL hc hd
      have h2 := HR.out.2.1
      have h3 : (0 : Int) ≤ (r : Int) := by omega
      have h4 : (r : Int) < 64 := by omega
      exact wpOp_val rfl rfl (ex_bin rfl rfl (hv.get 5 rfl rfl (hd 5 (by decide))) (by go_simp)) ⟨hv.put nd14_apart 6 rfl (lb rfl) (lb rfl) rfl, HO⟩
    ·
      rintro L a wc ⟨hv, HO⟩ hL hc hd
      have h2 := HR.out.2.2.1
      exact wpOp_val rfl rfl (ex_bin rfl (hv.get 1 rfl rfl (hd 1 (by decide))) (hv.get 6 rfl rfl (hd 6 (by decide))) (by go_simp)) ⟨hv.put nd14_apart 7 rfl (lb rfl) (lb rfl) rfl, HO⟩
    ·
      rintro L a wc ⟨hv, HO⟩ hL hc hd
      exact wpOp_val rfl rfl (ex_move rfl ((hv.fixed 13 (by decide)).trans rfl)) ⟨hv.put nd14_apart 8 rfl (lb rfl) (lb rfl) rfl, HO⟩
    ·
      rintro L a wc ⟨hv, HO⟩ hL hc hd
      have h2 := HR.out.2.2.2
      exact wpOp_val rfl rfl (ex_bin rfl rfl (hv.get 8 rfl rfl (hd 8 (by decide))) (by go_simp)) ⟨hv.put nd14_apart 9 rfl (lb rfl) (lb rfl) rfl, HO⟩
    ·
      rintro L a wc ⟨hv, HO⟩ hL hc hd
      refine wpOp_call (R := fun v w1 => v = .tuple #[.bool bb, .int .i64 0] ∧ Ext wc w1) rfl rfl (ex_call rfl rfl (map3c (hv.get 0 rfl rfl (hd 0 (by decide))) (hv.get 7 rfl rfl (hd 7 (by decide))) (hv.get 9 rfl rfl (hd 9 (by decide)))) (enters_of Tryd.func11 (by kernel_rfl) rfl _ _)) ((HC.out wc HO.out).mono (fun e w' h => ⟨_, h.1, rfl, h.2⟩)) ?_
      rintro v w' ⟨rfl, hx⟩
      exact ⟨hv.put nd14_apart 10 rfl (lb rfl) (lb rfl) rfl, Lib.hid (HO.out.trans hx)⟩
    ·
      rintro L a wc ⟨hv, HO⟩ hL hc hd
      exact wpOp_val rfl rfl (ex_move rfl (hv.get 10 rfl rfl (hd 10 (by decide)))) ⟨hv.put nd14_apart 11 rfl (lb rfl) (lb rfl) rfl, HO⟩
    ·
      rintro L a wc ⟨hv, HO⟩ hL hc hd
      exact wpOp_val rfl rfl (ex_extract9 rfl (hv.get 11 rfl rfl (hd 11 (by decide))) rfl) ⟨hv.put nd14_apart 12 rfl (lb rfl) (lb rfl) rfl, HO⟩
    ·
      rintro L a wc ⟨hv, HO⟩ hL hc hd
      exact wpOp_val rfl rfl (ex_extract9 rfl (hv.get 11 rfl rfl (hd 11 (by decide))) rfl) ⟨hv.put nd14_apart 13 rfl (lb rfl) (lb rfl) rfl, HO⟩
    ·
      rintro L a wc ⟨hv, HO⟩ hL hc hd
      exact wpOp_val rfl rfl (ex_assign rfl (hv.get 12 rfl rfl (hd 12 (by decide)))) ⟨hv.put nd14_apart 14 rfl (lb rfl) (lb rfl) rfl, HO⟩
    ·
      rintro L a wc ⟨hv, HO⟩ hL hc hd
      exact wpOp_val rfl rfl (ex_assign rfl (hv.get 13 rfl rfl (hd 13 (by decide)))) ⟨hv.put nd14_apart 15 rfl (lb rfl) (lb rfl) rfl, HO⟩
  · rintro L a wc ⟨hv, HO⟩ hall
    show K a wc
    have ha := act_lit a
    rw [hv.size, hv.defers] at ha
    have hl : ∀ f : Nat → Value, ((List.range (⟨#[c0, c1, .int .u8 (mo : Nat), c3, .pointer (some ⟨C, 0, none⟩), c5, c6, c7, c8, c9, c10, .int .i64 (P : Nat), .int .i64 (M : Nat), .int .i64 (wv : Nat), c14, c15, c16, c17, c18, c19, c20, c21, c22, c23, c24, c25, c26, c27, c28, c29, c30, c31, c32, c33, c34, c35, c36, c37, c38, c39, c40, c41, c42, c43, c44, c45, c46, c47, c48, c49, c50, c51, c52, c53, c54, c55, c56, c57, c58, c59, c60, c61, c62, c63, c64, c65, c66, c67, c68, c69, c70, c71, c72, c73, c74, c75, c76, c77, c78, c79, c80, c81, c82, c83, c84, c85, c86, c87, c88, c89, c90, c91, c92, c93, c94, c95, c96, c97, c98, c99, c100, c101, c102, c103, c104, c105, c106, c107, c108, c109, c110, c111, c112, c113, c114, c115, c116, c117, c118, c119, c120, c121, c122, c123, c124, c125, c126, c127, c128, c129, c130, c131, c132, c133, c134, c135, c136, c137, c138, c139, c140, c141, c142, c143, c144, c145, c146, c147, c148, c149, c150, c151, c152, c153, c154, c155, c156, c157, c158, c159, c160], df⟩ : Act).tmps.size).map f).toArray = #[f 0, f 1, f 2, f 3, f 4, f 5, f 6, f 7, f 8, f 9, f 10, f 11, f 12, f 13, f 14, f 15, f 16, f 17, f 18, f 19, f 20, f 21, f 22, f 23, f 24, f 25, f 26, f 27, f 28, f 29, f 30, f 31, f 32, f 33, f 34, f 35, f 36, f 37, f 38, f 39, f 40, f 41, f 42, f 43, f 44, f 45, f 46, f 47, f 48, f 49, f 50, f 51, f 52, f 53, f 54, f 55, f 56, f 57, f 58, f 59, f 60, f 61, f 62, f 63, f 64, f 65, f 66, f 67, f 68, f 69, f 70, f 71, f 72, f 73, f 74, f 75, f 76, f 77, f 78, f 79, f 80, f 81, f 82, f 83, f 84, f 85, f 86, f 87, f 88, f 89, f 90, f 91, f 92, f 93, f 94, f 95, f 96, f 97, f 98, f 99, f 100, f 101, f 102, f 103, f 104, f 105, f 106, f 107, f 108, f 109, f 110, f 111, f 112, f 113, f 114, f 115, f 116, f 117, f 118, f 119, f 120, f 121, f 122, f 123, f 124, f 125, f 126, f 127, f 128, f 129, f 130, f 131, f 132, f 133, f 134, f 135, f 136, f 137, f 138, f 139, f 140, f 141, f 142, f 143, f 144, f 145, f 146, f 147, f 148, f 149, f 150, f 151, f 152, f 153, f 154, f 155, f 156, f 157, f 158, f 159, f 160] := fun _ => rfl
    rw [hl] at ha
    simp only [hv.fixed 0 (by decide), hv.fixed 1 (by decide), hv.fixed 2 (by decide), hv.fixed 3 (by decide), hv.fixed 4 (by decide), hv.fixed 5 (by decide), hv.fixed 6 (by decide), hv.fixed 7 (by decide), hv.fixed 8 (by decide), hv.fixed 9 (by decide), hv.fixed 10 (by decide), hv.fixed 11 (by decide), hv.fixed 12 (by decide), hv.fixed 13 (by decide), hv.fixed 14 (by decide), hv.fixed 15 (by decide), hv.fixed 16 (by decide), hv.fixed 17 (by decide), hv.fixed 20 (by decide), hv.fixed 21 (by decide), hv.fixed 22 (by decide), hv.fixed 23 (by decide), hv.fixed 24 (by decide), hv.fixed 25 (by decide), hv.fixed 26 (by decide), hv.fixed 27 (by decide), hv.fixed 28 (by decide), hv.fixed 29 (by decide), hv.fixed 30 (by decide), hv.fixed 31 (by decide), hv.fixed 32 (by decide), hv.fixed 33 (by decide), hv.fixed 34 (by decide), hv.fixed 35 (by decide), hv.fixed 36 (by decide), hv.fixed 37 (by decide), hv.fixed 38 (by decide), hv.fixed 39 (by decide), hv.fixed 40 (by decide), hv.fixed 41 (by decide), hv.fixed 42 (by decide), hv.fixed 43 (by decide), hv.fixed 44 (by decide), hv.fixed 45 (by decide), hv.fixed 46 (by decide), hv.fixed 47 (by decide), hv.fixed 48 (by decide), hv.fixed 49 (by decide), hv.fixed 50 (by decide), hv.fixed 51 (by decide), hv.fixed 52 (by decide), hv.fixed 53 (by decide), hv.fixed 54 (by decide), hv.fixed 55 (by decide), hv.fixed 56 (by decide), hv.fixed 57 (by decide), hv.fixed 58 (by decide), hv.fixed 59 (by decide), hv.fixed 60 (by decide), hv.fixed 61 (by decide), hv.fixed 62 (by decide), hv.fixed 63 (by decide), hv.fixed 64 (by decide), hv.fixed 65 (by decide), hv.fixed 66 (by decide), hv.fixed 67 (by decide), hv.fixed 68 (by decide), hv.fixed 69 (by decide), hv.fixed 70 (by decide), hv.fixed 71 (by decide), hv.fixed 72 (by decide), hv.fixed 73 (by decide), hv.fixed 74 (by decide), hv.fixed 75 (by decide), hv.fixed 76 (by decide), hv.fixed 77 (by decide), hv.fixed 78 (by decide), hv.fixed 79 (by decide), hv.fixed 80 (by decide), hv.fixed 81 (by decide), hv.fixed 82 (by decide), hv.fixed 83 (by decide), hv.fixed 84 (by decide), hv.fixed 99 (by decide), hv.fixed 100 (by decide), hv.fixed 101 (by decide), hv.fixed 102 (by decide), hv.fixed 103 (by decide), hv.fixed 104 (by decide), hv.fixed 105 (by decide), hv.fixed 106 (by decide), hv.fixed 107 (by decide), hv.fixed 108 (by decide), hv.fixed 109 (by decide), hv.fixed 110 (by decide), hv.fixed 111 (by decide), hv.fixed 112 (by decide), hv.fixed 113 (by decide), hv.fixed 114 (by decide), hv.fixed 115 (by decide), hv.fixed 116 (by decide), hv.fixed 117 (by decide), hv.fixed 118 (by decide), hv.fixed 119 (by decide), hv.fixed 120 (by decide), hv.fixed 121 (by decide), hv.fixed 122 (by decide), hv.fixed 123 (by decide), hv.fixed 124 (by decide), hv.fixed 125 (by decide), hv.fixed 126 (by decide), hv.fixed 127 (by decide), hv.fixed 128 (by decide), hv.fixed 129 (by decide), hv.fixed 130 (by decide), hv.fixed 131 (by decide), hv.fixed 132 (by decide), hv.fixed 133 (by decide), hv.fixed 134 (by decide), hv.fixed 135 (by decide), hv.fixed 136 (by decide), hv.fixed 137 (by decide), hv.fixed 138 (by decide), hv.fixed 139 (by decide), hv.fixed 140 (by decide), hv.fixed 141 (by decide), hv.fixed 142 (by decide), hv.fixed 143 (by decide), hv.fixed 144 (by decide), hv.fixed 145 (by decide), hv.fixed 146 (by decide), hv.fixed 147 (by decide), hv.fixed 148 (by decide), hv.fixed 149 (by decide), hv.fixed 150 (by decide), hv.fixed 151 (by decide), hv.fixed 152 (by decide), hv.fixed 153 (by decide), hv.fixed 154 (by decide), hv.fixed 155 (by decide), hv.fixed 156 (by decide), hv.fixed 157 (by decide), hv.fixed 158 (by decide), hv.fixed 159 (by decide), hv.fixed 160 (by decide), hv.get 14 (d := 18) rfl rfl (hall 14 (by decide)), hv.get 15 (d := 19) rfl rfl (hall 15 (by decide))] at ha
    rw [ha]
    exact hK _ _ _ _ _ _ _ _ _ _ _ _ _ _ wc HO.out
end Go.Proofs.YtggfkpalkdkbdaaDoor

/- THE WALK over LocateNeeds. -/
namespace Lo
theorem Cd_dist_le {d gl : Nat} {gs : List (List Int)} {P : Nat} (h0 : Cd.check d gs gl = 0) (hP : (Cd.rowsOf (d : Int) gs (gl : Int)).length = P) (hP16 : P ≤ 16) : Cd.dist d gl gs ≤ P := (Cd.dist_is h0 hP hP16).le
end Lo
namespace Go.Proofs.YtggfkpalkdkbdaaDoor
open Go.RowKit
theorem needs_mask (s P : Nat) (hs : s < 4294967296) (hP : P ≤ 14) : ∃ M T : Nat, M < 2 ^ P ∧ IntKind.i64.wrap (2 ^ P) = (T : Int) ∧ 1 ≤ T ∧ T ≤ 16384 ∧ bits .and .i64 (s : Int) ((T : Int) - 1) = (M : Int) := by
  have h14 : 2 ^ P ≤ 2 ^ 14 := Nat.pow_le_pow_right (by decide) hP
  have h1 : 0 < 2 ^ P := Nat.two_pow_pos P
  obtain ⟨T, hT⟩ : ∃ T, 2 ^ P = T := ⟨_, rfl⟩
  refine ⟨s % T, T, by rw [hT]; exact Nat.mod_lt _ (by omega), ?_, by omega, by omega, ?_⟩
  · have h := wrap_pow P (by omega)
    rw [IntKind.wrap_i64, ← hT]
    unfold wrap64 at h
    exact h
  · have h2 := and64 s (T - 1) (by omega) (by omega)
    have h3 := Nat.and_two_pow_sub_one_eq_mod s P
    rw [hT] at h3
    rw [show ((T : Int) - 1) = ((T - 1 : Nat) : Int) by omega, h2, h3]
theorem needs_more (mo P M : Nat) (hP0 : 0 < P) (hP : P ≤ 14) (hM : M < 2 ^ P) : ∃ r p2 Q : Nat, r < 62 ∧ (mo : Int) % (P : Int) = (r : Int) ∧ IntKind.i64.wrap (2 ^ r) = (p2 : Int) ∧ bits .or .i64 (M : Int) (p2 : Int) = (Q : Int) ∧ Q < 2 ^ P ∧ Lo.Sub M Q := by
  have hr : mo % P < P := Nat.mod_lt _ hP0
  have h14 : 2 ^ P ≤ 2 ^ 14 := Nat.pow_le_pow_right (by decide) hP
  have hp : 2 ^ (mo % P) < 2 ^ P := Nat.pow_lt_pow_right (by decide) hr
  refine ⟨mo % P, 2 ^ (mo % P), M ||| 2 ^ (mo % P), by omega, by omega, ?_, ?_, Nat.or_lt_two_pow hM hp, Lo.sub_or⟩
  · have h := wrap_pow (mo % P) (by omega)
    rw [IntKind.wrap_i64]
    unfold wrap64 at h
    exact h
  · exact or64 M (2 ^ (mo % P)) (by omega) (by omega)
set_option maxHeartbeats 16000000 in
set_option maxRecDepth 100000 in
theorem law_needs (d gl : Int) (gs : List (List Int)) (s mo wr_ : Nat) (G : Value) (w : World) (hT : Tab w) (hG : Rs (Rs RI) w G gs) (hgl : gs.length ≤ 4611686018427387904) (hs : s < 4294967296) (hmo : mo < 256) (hwr : wr_ < 256) :
    Calls Tryd.prog 8 #[.agg #[.int .i64 d, G, .int .i64 gl], .int .u32 (s : Nat), .int .u8 (mo : Nat), .int .u8 (wr_ : Nat)] w fun e w' => e = .returned (.bool true) ∧ Ext w w' := by
  have HGN := Lib.hid hgl
  clear hgl
  obtain ⟨GA, Gc, rfl, _⟩ := hG.form
  obtain ⟨ng, hng⟩ : ∃ ng, gs.length = ng := ⟨_, rfl⟩
  rw [hng] at hG ⊢
  have hB : Owns w (w.alloc (.cells #[.int .i64 d, .slice GA ng Gc, .int .i64 gl] 24)) [⟨.slice (some ⟨w.heap.size, 0, none⟩) 3 3, 24, 1, 3, [.int .i64 d, .slice GA ng Gc, .int .i64 gl]⟩] := (Owns.start w (L := [no]) (by intro r hr; simp at hr; subst hr; exact ⟨rfl, rfl, rfl⟩)).new 0 #[.int .i64 d, .slice GA ng Gc, .int .i64 gl] 24 (by simp [maxLen])
  have HG := Lib.hid hG
  have HB := Lib.hid hB
  have HNG := Lib.hid hng
  clear hG hB hng
  have HT := Lib.hid (hT.ext HB.out.ext)
  clear hT
  go_enter Tryd.func8, Tryd.ntmps8
  go_upto_region 1 with fail
  obtain ⟨C, hC⟩ : ∃ C, w.heap.size = C := ⟨_, rfl⟩
  rw [hC] at HB ⊢
  obtain ⟨w1, hw1⟩ : ∃ x, w.alloc (.cells #[.int .i64 d, .slice GA ng Gc, .int .i64 gl] 24) = x := ⟨_, rfl⟩
  rw [hw1] at HB HT ⊢
  clear hw1 hC
  have HX := Lib.hid (Ext.refl w1)
  have HSA := Lib.hid (sanity9_any w1 HT.out)
  go_wp2_with fail
  refine HSA.out.mono ?_
  clear HSA
  rintro e w2 ⟨rfl, hx⟩
  replace HX := Lib.hid (HX.out.trans hx)
  clear hx
  have HF := Lib.hid (lFew_any d gl 14 0 gs _ none 0 0 w2 (Rs.ext (Rs.ext RI.ext) _ _ _ _ (HB.out.ext.trans HX.out) HG.out) HGN.out)
  have k0 : w2.cell? ⟨C, 0, none⟩ = some (.int .i64 d) := (HB.out.next HX.out).cell 0 rfl 0 rfl
  have k1 : w2.cell? ⟨C, 1, none⟩ = some (.slice GA ng Gc) := (HB.out.next HX.out).cell 0 rfl 1 rfl
  have k2 : w2.cell? ⟨C, 2, none⟩ = some (.int .i64 gl) := (HB.out.next HX.out).cell 0 rfl 2 rfl
  go_wp2_with fail
  refine HF.out.mono ?_
  clear HF k0 k1 k2
  rintro e w3 ⟨b, rfl, hfo, hx⟩
  replace HX := Lib.hid (HX.out.trans hx)
  have HFO := Lib.hid hfo
  clear hx hfo
  cases b with
  | false =>
    go_wp2_with fail
    go_ret
    exact ⟨rfl, HB.out.ext.trans HX.out⟩
  | true =>
    have HCK := Lib.hid (cCheck_any d gl gs _ w3 (Rs.ext (Rs.ext RI.ext) _ _ _ _ (HB.out.ext.trans HX.out) HG.out))
    have k0 : w3.cell? ⟨C, 0, none⟩ = some (.int .i64 d) := (HB.out.next HX.out).cell 0 rfl 0 rfl
    have k1 : w3.cell? ⟨C, 1, none⟩ = some (.slice GA ng Gc) := (HB.out.next HX.out).cell 0 rfl 1 rfl
    have k2 : w3.cell? ⟨C, 2, none⟩ = some (.int .i64 gl) := (HB.out.next HX.out).cell 0 rfl 2 rfl
    go_wp2_with fail
    refine HCK.out.mono ?_
    clear HCK k0 k1 k2
    rintro e w4 ⟨rfl, hx⟩
    replace HX := Lib.hid (HX.out.trans hx)
    clear hx
    obtain ⟨ck, hck⟩ : ∃ ck, Cd.check d gs gl = ck := ⟨_, rfl⟩
    rw [hck]
    have HC := Lib.hid hck
    clear hck
    by_cases h0 : ck = 0
    case neg =>
      have hne : (ck == 0) = false := by rw [beq_eq_false_iff_ne]; exact h0
      have hne2 : (ck != 0) = true := by rw [bne_iff_ne]; exact h0
      clear h0
      go_wp2_with fail
      go_ret
      exact ⟨rfl, HB.out.ext.trans HX.out⟩
    case pos =>
      subst h0
      have hfew := (HFO.out (by trivial)).rows HC.out
      have hk := Cd.check_ok HC.out
      have hrl := Cd.rowsOf_len HC.out
      have hpn : Cd.pieces d gs gl = ((Cd.rowsOf d gs gl).length : Int) := by rw [Cd.pieces_ok HC.out, ← Cd.rowsOf_len HC.out]
      obtain ⟨P, hP⟩ : ∃ P, (Cd.rowsOf d gs gl).length = P := ⟨_, rfl⟩
      rw [hP] at hfew hrl hpn
      have hP14 : P ≤ 14 := by omega
      have hP1 : 1 ≤ P := by omega
      obtain ⟨D, rfl⟩ : ∃ k : Nat, d = k := ⟨d.toNat, by omega⟩
      obtain ⟨g, rfl⟩ : ∃ k : Nat, gl = k := ⟨gl.toNat, by omega⟩
      have hpc := cPieces_any D g gs _ w4 (Rs.ext (Rs.ext RI.ext) _ _ _ _ (HB.out.ext.trans HX.out) HG.out)
      rw [hpn] at hpc
      have HPC := Lib.hid hpc
      have HP := Lib.hid hP
      have k0 : w4.cell? ⟨C, 0, none⟩ = some (.int .i64 D) := (HB.out.next HX.out).cell 0 rfl 0 rfl
      have k1 : w4.cell? ⟨C, 1, none⟩ = some (.slice GA ng Gc) := (HB.out.next HX.out).cell 0 rfl 1 rfl
      have k2 : w4.cell? ⟨C, 2, none⟩ = some (.int .i64 g) := (HB.out.next HX.out).cell 0 rfl 2 rfl
      clear hfew hk hrl hpn hpc hP
      go_wp2_with fail
      refine HPC.out.mono ?_
      clear HPC k0 k1 k2
      rintro e w5 ⟨rfl, hx⟩
      replace HX := Lib.hid (HX.out.trans hx)
      clear hx
      obtain ⟨M, T, hM, hT1, hT2, hT3, hT4⟩ := needs_mask s P hs hP14
      obtain ⟨wv, hwv⟩ : ∃ wv, wr_ % 3 = wv := ⟨_, rfl⟩
      have hwv3 : wv ≤ 2 := by omega
      have hws : Int.tmod (wr_ : Int) 3 = (wv : Int) := by rw [Int.tmod_eq_emod_of_nonneg (by omega)]; omega
      have HM := Lib.hid (And.intro hM hP14)
      have hN14 : Cd.check (D : Int) gs (g : Int) = 0 → (Cd.rowsOf (D : Int) gs (g : Int)).length ≤ 14 := fun _ => by rw [HP.out]; exact hP14
      have HN := Lib.hid hN14
      have hd1 := Lo.det_suff HC.out HP.out hP14 hM (show 2 * wv ≤ 4 by omega)
      have hd2 := Lo.cor_suff HC.out HP.out hP14 hM hwv3
      have hdc := Lo.det_cor HC.out HP.out hP14 hM hwv3
      obtain ⟨b1, hb1⟩ : ∃ b, Lo.detB (D : Int) (g : Int) gs (M : Int) ((2 * wv : Nat) : Int) = b := ⟨_, rfl⟩
      have hcd := lDetects_any D g gs M ((2 * wv : Nat) : Int) _ w5 (HT.out.ext HX.out) (Rs.ext (Rs.ext RI.ext) _ _ _ _ (HB.out.ext.trans HX.out) HG.out) hN14
      rw [hb1, hd1.1] at hcd
      have HCD := Lib.hid hcd
      have HB1 := Lib.hid (And.intro hb1 (And.intro hdc hd2.1))
      have hk2 : ((2 * wv : Nat) : Int) = 2 * (wv : Int) := by omega
      rw [hk2] at HCD
      have k0 : w5.cell? ⟨C, 0, none⟩ = some (.int .i64 D) := (HB.out.next HX.out).cell 0 rfl 0 rfl
      have k1 : w5.cell? ⟨C, 1, none⟩ = some (.slice GA ng Gc) := (HB.out.next HX.out).cell 0 rfl 1 rfl
      have k2 : w5.cell? ⟨C, 2, none⟩ = some (.int .i64 g) := (HB.out.next HX.out).cell 0 rfl 2 rfl
      clear hM hwv hd1 hd2 hdc hb1 hcd hN14 hk2
      go_wp2_with fail
      refine HCD.out.mono ?_
      clear HCD k0 k1 k2
      rintro e w6 ⟨rfl, hx⟩
      replace HX := Lib.hid (HX.out.trans hx)
      clear hx
      have hcc := lCorrects_any D g gs M (wv : Int) _ w6 (HT.out.ext HX.out) (Rs.ext (Rs.ext RI.ext) _ _ _ _ (HB.out.ext.trans HX.out) HG.out) HN.out
      rw [← HB1.out.2.1, HB1.out.1, HB1.out.2.2] at hcc
      have HCC := Lib.hid hcc
      have k0 : w6.cell? ⟨C, 0, none⟩ = some (.int .i64 D) := (HB.out.next HX.out).cell 0 rfl 0 rfl
      have k1 : w6.cell? ⟨C, 1, none⟩ = some (.slice GA ng Gc) := (HB.out.next HX.out).cell 0 rfl 1 rfl
      have k2 : w6.cell? ⟨C, 2, none⟩ = some (.int .i64 g) := (HB.out.next HX.out).cell 0 rfl 2 rfl
      clear hcc
      go_wp2_with fail
      refine HCC.out.mono ?_
      clear HCC k0 k1 k2
      rintro e w7 ⟨rfl, hx⟩
      replace HX := Lib.hid (HX.out.trans hx)
      clear hx
      obtain ⟨r, p2, Q, hr1, hr2, hr3, hr4, hQ, hSQ⟩ := needs_more mo P M hP1 hP14 HM.out.1
      have hq := Lo.det_suff HC.out HP.out hP14 hQ (show 2 * wv ≤ 4 by omega)
      obtain ⟨b2, hb2⟩ : ∃ b, Lo.detB (D : Int) (g : Int) gs (Q : Int) ((2 * wv : Nat) : Int) = b := ⟨_, rfl⟩
      have hw2 : IntKind.i64.wrap (2 * (wv : Int)) = ((2 * wv : Nat) : Int) := by rw [IntKind.wrap_i64]; omega
      have HR : Hid ((mo : Int) % (P : Int) = (r : Int) ∧ IntKind.i64.wrap (2 ^ r) = (p2 : Int) ∧ bits .or .i64 (M : Int) (p2 : Int) = (Q : Int) ∧ IntKind.i64.wrap (2 * (wv : Int)) = ((2 * wv : Nat) : Int)) := Lib.hid ⟨hr2, hr3, hr4, hw2⟩
      have HCQ : Hid (∀ w1 : World, Ext w7 w1 → Calls Tryd.prog 11 #[.agg #[.int .i64 D, .slice GA ng Gc, .int .i64 g], .int .i64 (Q : Nat), .int .i64 ((2 * wv : Nat))] w1 fun e w' => e = .returned (.tuple #[.bool b2, .int .i64 0]) ∧ Ext w1 w') := Lib.hid fun w' h => by
        have hc := lDetects_any D g gs Q ((2 * wv : Nat) : Int) _ w' (HT.out.ext (HX.out.trans h)) (Rs.ext (Rs.ext RI.ext) _ _ _ _ (HB.out.ext.trans (HX.out.trans h)) HG.out) HN.out
        rw [hb2, hq.1] at hc
        exact hc
      have HWD : Hid (b1 = true → b2 = true) := Lib.hid fun h => by
        have h1 := HB1.out.1
        rw [h] at h1
        rw [← hb2]
        exact Lo.det_wide HC.out HP.out hP14 hQ hSQ (by omega) h1
      have HFW : Hid (0 < wv → ∃ b3, Lo.detB (D : Int) (g : Int) gs (M : Int) ((2 * wv - 1 : Nat) : Int) = b3 ∧ Lo.detE (D : Int) (g : Int) gs (M : Int) ((2 * wv - 1 : Nat) : Int) = 0 ∧ (b1 = true → b3 = true)) := Lib.hid fun h => ⟨_, rfl, (Lo.det_suff HC.out HP.out hP14 HM.out.1 (show 2 * wv - 1 ≤ 4 by omega)).1, fun h1 => by
        have h2 := HB1.out.1
        rw [h1] at h2
        exact Lo.det_fewer HC.out HP.out hP14 HM.out.1 (by omega) (by omega) h2⟩
      clear hr2 hr3 hr4 hQ hSQ hq hb2 hw2
      cases b1 with
      | true =>
        have k0 : w7.cell? ⟨C, 0, none⟩ = some (.int .i64 D) := (HB.out.next HX.out).cell 0 rfl 0 rfl
        have k1 : w7.cell? ⟨C, 1, none⟩ = some (.slice GA ng Gc) := (HB.out.next HX.out).cell 0 rfl 1 rfl
        have k2 : w7.cell? ⟨C, 2, none⟩ = some (.int .i64 g) := (HB.out.next HX.out).cell 0 rfl 2 rfl
        go_upto_region 14 with fail
        refine wp_atEnd' (nd14 w7 C ng Gc M mo P r p2 Q wv (2 * wv) GA D g b2 k0 k1 k2 hP1 hmo hr1 HR HCQ _ _ _ _ _ _ _ _ _ _ _ _ _ _ _ _ _ _ _ _ _ _ _ _ _ _ _ _ _ _ _ _ _ _ _ _ _ _ _ _ _ _ _ _ _ _ _ _ _ _ _ _ _ _ _ _ _ _ _ _ _ _ _ _ _ _ _ _ _ _ _ _ _ _ _ _ _ _ _ _ _ _ _ _ _ _ _ _ _ _ _ _ _ _ _ _ _ _ _ _ _ _ _ _ _ _ _ _ _ _ _ _ _ _ _ _ _ _ _ _ _ _ _ _ _ _ _ _ _ _ _ _ _ _ _ _ _ _ _ _ _ _ _ _ _ _ _ _ _ _ _ _ _ _ _ _ _ _ ?_)
        rintro u85 u86 u87 u88 u89 u90 u91 u92 u93 u94 u95 u96 u97 u98 w8 hx
        replace HX := Lib.hid (HX.out.trans hx)
        clear hx k0 k1 k2
        obtain rfl := HWD.out (by trivial)
        by_cases hw0 : 0 < wv
        · obtain ⟨b3, hb3, he3, hi3⟩ := HFW.out hw0
          have hcf := lDetects_any D g gs M ((2 * wv - 1 : Nat) : Int) _ w8 (HT.out.ext HX.out) (Rs.ext (Rs.ext RI.ext) _ _ _ _ (HB.out.ext.trans HX.out) HG.out) HN.out
          rw [hb3, he3] at hcf
          have hk3 : ((2 * wv - 1 : Nat) : Int) = 2 * (wv : Int) - 1 := by omega
          rw [hk3] at hcf
          have HCF := Lib.hid hcf
          have HI3 := Lib.hid hi3
          have hw0i : (0 : Int) < (wv : Int) := by omega
          have k0 : w8.cell? ⟨C, 0, none⟩ = some (.int .i64 D) := (HB.out.next HX.out).cell 0 rfl 0 rfl
          have k1 : w8.cell? ⟨C, 1, none⟩ = some (.slice GA ng Gc) := (HB.out.next HX.out).cell 0 rfl 1 rfl
          have k2 : w8.cell? ⟨C, 2, none⟩ = some (.int .i64 g) := (HB.out.next HX.out).cell 0 rfl 2 rfl
          clear hcf hb3 he3 hi3 hk3
          go_wp2_with fail
          refine HCF.out.mono ?_
          clear HCF k0 k1 k2
          rintro e w9 ⟨rfl, hx⟩
          replace HX := Lib.hid (HX.out.trans hx)
          clear hx
          obtain rfl := HI3.out (by trivial)
          have HDI := Lib.hid (cDist_any D g gs _ w9 (HT.out.ext HX.out) (Rs.ext (Rs.ext RI.ext) _ _ _ _ (HB.out.ext.trans HX.out) HG.out) (HN.out HC.out))
          have k0 : w9.cell? ⟨C, 0, none⟩ = some (.int .i64 D) := (HB.out.next HX.out).cell 0 rfl 0 rfl
          have k1 : w9.cell? ⟨C, 1, none⟩ = some (.slice GA ng Gc) := (HB.out.next HX.out).cell 0 rfl 1 rfl
          have k2 : w9.cell? ⟨C, 2, none⟩ = some (.int .i64 g) := (HB.out.next HX.out).cell 0 rfl 2 rfl
          have hdi : Cd.distI (D : Int) (g : Int) gs = (Cd.dist (D : Int) (g : Int) gs : Int) := by rw [Cd.distI, if_pos HC.out]
          obtain ⟨di, hdd⟩ : ∃ di, Cd.dist (D : Int) (g : Int) gs = di := ⟨_, rfl⟩
          have hI := Lo.Cd_dist_le HC.out HP.out (by omega)
          rw [hdi, hdd, HC.out] at HDI
          rw [hdd] at hI
          have HDD := Lib.hid hdd
          clear hdi hdd
          go_wp2_with fail
          refine HDI.out.mono ?_
          clear HDI k0 k1 k2
          rintro e wA ⟨rfl, hx⟩
          replace HX := Lib.hid (HX.out.trans hx)
          clear hx
          have hM4 : M < 16384 := Nat.lt_of_lt_of_le HM.out.1 (show 2 ^ P ≤ 2 ^ 14 from Nat.pow_le_pow_right (by decide) hP14)
          have HCT := Lib.hid (lCount_any M wA hM4)
          obtain ⟨nm, hnm⟩ : ∃ nm, Lo.num M = nm := ⟨_, rfl⟩
          rw [hnm] at HCT
          have hnP : nm ≤ P := by rw [← hnm, ← Lo.num_is HM.out.1 (by omega)]; exact Lo.els_le M P
          have HNM := Lib.hid hnm
          clear hnm
          go_wp2_with fail
          refine HCT.out.mono ?_
          clear HCT
          rintro e w' ⟨rfl, rfl⟩
          by_cases hlf : (di : Int) - ((P : Int) - (nm : Int)) - 1 < 0
          · go_wp2_with fail
            go_ret
            exact ⟨rfl, HB.out.ext.trans HX.out⟩
          · obtain ⟨lf, hlf2⟩ : ∃ lf : Nat, (di : Int) - ((P : Int) - (nm : Int)) - 1 = (lf : Int) := ⟨((di : Int) - ((P : Int) - (nm : Int)) - 1).toNat, by omega⟩
            have HLF := Lib.hid hlf2
            have HCN : Hid (∀ mn : Nat, mn ≤ 4 → mn ≤ lf → Calls Tryd.prog 11 #[.agg #[.int .i64 D, .slice GA ng Gc, .int .i64 g], .int .i64 (M : Nat), .int .i64 (mn : Nat)] wA fun e w' => e = .returned (.tuple #[.bool true, .int .i64 0]) ∧ Ext wA w') := Lib.hid fun mn hmn4 hmnl => by
              have hcn := lDetects_any D g gs M (mn : Int) _ wA (HT.out.ext HX.out) (Rs.ext (Rs.ext RI.ext) _ _ _ _ (HB.out.ext.trans HX.out) HG.out) HN.out
              rw [Lo.det_near HC.out HP.out hP14 HM.out.1 hmn4 (by have := HLF.out; rw [HDD.out, HNM.out]; omega), (Lo.det_suff HC.out HP.out hP14 HM.out.1 hmn4).1] at hcn
              exact hcn
            have k0 : wA.cell? ⟨C, 0, none⟩ = some (.int .i64 D) := (HB.out.next HX.out).cell 0 rfl 0 rfl
            have k1 : wA.cell? ⟨C, 1, none⟩ = some (.slice GA ng Gc) := (HB.out.next HX.out).cell 0 rfl 1 rfl
            have k2 : wA.cell? ⟨C, 2, none⟩ = some (.int .i64 g) := (HB.out.next HX.out).cell 0 rfl 2 rfl
            clear hlf
            by_cases h4 : (lf : Int) ≤ 4
            · go_wp2_with fail
              refine (HCN.out lf (by omega) (by omega)).mono ?_
              clear HCN k0 k1 k2
              rintro e wB ⟨rfl, hx⟩
              replace HX := Lib.hid (HX.out.trans hx)
              clear hx
              go_wp2_with fail
              go_ret
              exact ⟨rfl, HB.out.ext.trans HX.out⟩
            · have h4' : ¬ (lf : Int) ≤ 4 := h4
              go_wp2_with fail
              refine (HCN.out 4 (by decide) (by omega)).mono ?_
              clear HCN k0 k1 k2
              rintro e wB ⟨rfl, hx⟩
              replace HX := Lib.hid (HX.out.trans hx)
              clear hx
              go_wp2_with fail
              go_ret
              exact ⟨rfl, HB.out.ext.trans HX.out⟩
        · have hw0i : ¬ (0 : Int) < (wv : Int) := by omega
          have HDI := Lib.hid (cDist_any D g gs _ w8 (HT.out.ext HX.out) (Rs.ext (Rs.ext RI.ext) _ _ _ _ (HB.out.ext.trans HX.out) HG.out) (HN.out HC.out))
          have k0 : w8.cell? ⟨C, 0, none⟩ = some (.int .i64 D) := (HB.out.next HX.out).cell 0 rfl 0 rfl
          have k1 : w8.cell? ⟨C, 1, none⟩ = some (.slice GA ng Gc) := (HB.out.next HX.out).cell 0 rfl 1 rfl
          have k2 : w8.cell? ⟨C, 2, none⟩ = some (.int .i64 g) := (HB.out.next HX.out).cell 0 rfl 2 rfl
          have hdi : Cd.distI (D : Int) (g : Int) gs = (Cd.dist (D : Int) (g : Int) gs : Int) := by rw [Cd.distI, if_pos HC.out]
          obtain ⟨di, hdd⟩ : ∃ di, Cd.dist (D : Int) (g : Int) gs = di := ⟨_, rfl⟩
          have hI := Lo.Cd_dist_le HC.out HP.out (by omega)
          rw [hdi, hdd, HC.out] at HDI
          rw [hdd] at hI
          have HDD := Lib.hid hdd
          clear hdi hdd
          go_wp2_with fail
          refine HDI.out.mono ?_
          clear HDI k0 k1 k2
          rintro e wA ⟨rfl, hx⟩
          replace HX := Lib.hid (HX.out.trans hx)
          clear hx
          have hM4 : M < 16384 := Nat.lt_of_lt_of_le HM.out.1 (show 2 ^ P ≤ 2 ^ 14 from Nat.pow_le_pow_right (by decide) hP14)
          have HCT := Lib.hid (lCount_any M wA hM4)
          obtain ⟨nm, hnm⟩ : ∃ nm, Lo.num M = nm := ⟨_, rfl⟩
          rw [hnm] at HCT
          have hnP : nm ≤ P := by rw [← hnm, ← Lo.num_is HM.out.1 (by omega)]; exact Lo.els_le M P
          have HNM := Lib.hid hnm
          clear hnm
          go_wp2_with fail
          refine HCT.out.mono ?_
          clear HCT
          rintro e w' ⟨rfl, rfl⟩
          by_cases hlf : (di : Int) - ((P : Int) - (nm : Int)) - 1 < 0
          · go_wp2_with fail
            go_ret
            exact ⟨rfl, HB.out.ext.trans HX.out⟩
          · obtain ⟨lf, hlf2⟩ : ∃ lf : Nat, (di : Int) - ((P : Int) - (nm : Int)) - 1 = (lf : Int) := ⟨((di : Int) - ((P : Int) - (nm : Int)) - 1).toNat, by omega⟩
            have HLF := Lib.hid hlf2
            have HCN : Hid (∀ mn : Nat, mn ≤ 4 → mn ≤ lf → Calls Tryd.prog 11 #[.agg #[.int .i64 D, .slice GA ng Gc, .int .i64 g], .int .i64 (M : Nat), .int .i64 (mn : Nat)] wA fun e w' => e = .returned (.tuple #[.bool true, .int .i64 0]) ∧ Ext wA w') := Lib.hid fun mn hmn4 hmnl => by
              have hcn := lDetects_any D g gs M (mn : Int) _ wA (HT.out.ext HX.out) (Rs.ext (Rs.ext RI.ext) _ _ _ _ (HB.out.ext.trans HX.out) HG.out) HN.out
              rw [Lo.det_near HC.out HP.out hP14 HM.out.1 hmn4 (by have := HLF.out; rw [HDD.out, HNM.out]; omega), (Lo.det_suff HC.out HP.out hP14 HM.out.1 hmn4).1] at hcn
              exact hcn
            have k0 : wA.cell? ⟨C, 0, none⟩ = some (.int .i64 D) := (HB.out.next HX.out).cell 0 rfl 0 rfl
            have k1 : wA.cell? ⟨C, 1, none⟩ = some (.slice GA ng Gc) := (HB.out.next HX.out).cell 0 rfl 1 rfl
            have k2 : wA.cell? ⟨C, 2, none⟩ = some (.int .i64 g) := (HB.out.next HX.out).cell 0 rfl 2 rfl
            clear hlf
            by_cases h4 : (lf : Int) ≤ 4
            · go_wp2_with fail
              refine (HCN.out lf (by omega) (by omega)).mono ?_
              clear HCN k0 k1 k2
              rintro e wB ⟨rfl, hx⟩
              replace HX := Lib.hid (HX.out.trans hx)
              clear hx
              go_wp2_with fail
              go_ret
              exact ⟨rfl, HB.out.ext.trans HX.out⟩
            · have h4' : ¬ (lf : Int) ≤ 4 := h4
              go_wp2_with fail
              refine (HCN.out 4 (by decide) (by omega)).mono ?_
              clear HCN k0 k1 k2
              rintro e wB ⟨rfl, hx⟩
              replace HX := Lib.hid (HX.out.trans hx)
              clear hx
              go_wp2_with fail
              go_ret
              exact ⟨rfl, HB.out.ext.trans HX.out⟩
      | false =>
        have k0 : w7.cell? ⟨C, 0, none⟩ = some (.int .i64 D) := (HB.out.next HX.out).cell 0 rfl 0 rfl
        have k1 : w7.cell? ⟨C, 1, none⟩ = some (.slice GA ng Gc) := (HB.out.next HX.out).cell 0 rfl 1 rfl
        have k2 : w7.cell? ⟨C, 2, none⟩ = some (.int .i64 g) := (HB.out.next HX.out).cell 0 rfl 2 rfl
        go_upto_region 14 with fail
        refine wp_atEnd' (nd14 w7 C ng Gc M mo P r p2 Q wv (2 * wv) GA D g b2 k0 k1 k2 hP1 hmo hr1 HR HCQ _ _ _ _ _ _ _ _ _ _ _ _ _ _ _ _ _ _ _ _ _ _ _ _ _ _ _ _ _ _ _ _ _ _ _ _ _ _ _ _ _ _ _ _ _ _ _ _ _ _ _ _ _ _ _ _ _ _ _ _ _ _ _ _ _ _ _ _ _ _ _ _ _ _ _ _ _ _ _ _ _ _ _ _ _ _ _ _ _ _ _ _ _ _ _ _ _ _ _ _ _ _ _ _ _ _ _ _ _ _ _ _ _ _ _ _ _ _ _ _ _ _ _ _ _ _ _ _ _ _ _ _ _ _ _ _ _ _ _ _ _ _ _ _ _ _ _ _ _ _ _ _ _ _ _ _ _ _ ?_)
        rintro u85 u86 u87 u88 u89 u90 u91 u92 u93 u94 u95 u96 u97 u98 w8 hx
        replace HX := Lib.hid (HX.out.trans hx)
        clear hx k0 k1 k2
        by_cases hw0 : 0 < wv
        · obtain ⟨b3, hb3, he3, hi3⟩ := HFW.out hw0
          have hcf := lDetects_any D g gs M ((2 * wv - 1 : Nat) : Int) _ w8 (HT.out.ext HX.out) (Rs.ext (Rs.ext RI.ext) _ _ _ _ (HB.out.ext.trans HX.out) HG.out) HN.out
          rw [hb3, he3] at hcf
          have hk3 : ((2 * wv - 1 : Nat) : Int) = 2 * (wv : Int) - 1 := by omega
          rw [hk3] at hcf
          have HCF := Lib.hid hcf
          have HI3 := Lib.hid hi3
          have hw0i : (0 : Int) < (wv : Int) := by omega
          have k0 : w8.cell? ⟨C, 0, none⟩ = some (.int .i64 D) := (HB.out.next HX.out).cell 0 rfl 0 rfl
          have k1 : w8.cell? ⟨C, 1, none⟩ = some (.slice GA ng Gc) := (HB.out.next HX.out).cell 0 rfl 1 rfl
          have k2 : w8.cell? ⟨C, 2, none⟩ = some (.int .i64 g) := (HB.out.next HX.out).cell 0 rfl 2 rfl
          clear hcf hb3 he3 hi3 hk3
          go_wp2_with fail
          refine HCF.out.mono ?_
          clear HCF k0 k1 k2
          rintro e w9 ⟨rfl, hx⟩
          replace HX := Lib.hid (HX.out.trans hx)
          clear hx
          have HDI := Lib.hid (cDist_any D g gs _ w9 (HT.out.ext HX.out) (Rs.ext (Rs.ext RI.ext) _ _ _ _ (HB.out.ext.trans HX.out) HG.out) (HN.out HC.out))
          have k0 : w9.cell? ⟨C, 0, none⟩ = some (.int .i64 D) := (HB.out.next HX.out).cell 0 rfl 0 rfl
          have k1 : w9.cell? ⟨C, 1, none⟩ = some (.slice GA ng Gc) := (HB.out.next HX.out).cell 0 rfl 1 rfl
          have k2 : w9.cell? ⟨C, 2, none⟩ = some (.int .i64 g) := (HB.out.next HX.out).cell 0 rfl 2 rfl
          have hdi : Cd.distI (D : Int) (g : Int) gs = (Cd.dist (D : Int) (g : Int) gs : Int) := by rw [Cd.distI, if_pos HC.out]
          obtain ⟨di, hdd⟩ : ∃ di, Cd.dist (D : Int) (g : Int) gs = di := ⟨_, rfl⟩
          have hI := Lo.Cd_dist_le HC.out HP.out (by omega)
          rw [hdi, hdd, HC.out] at HDI
          rw [hdd] at hI
          have HDD := Lib.hid hdd
          clear hdi hdd
          go_wp2_with fail
          refine HDI.out.mono ?_
          clear HDI k0 k1 k2
          rintro e wA ⟨rfl, hx⟩
          replace HX := Lib.hid (HX.out.trans hx)
          clear hx
          have hM4 : M < 16384 := Nat.lt_of_lt_of_le HM.out.1 (show 2 ^ P ≤ 2 ^ 14 from Nat.pow_le_pow_right (by decide) hP14)
          have HCT := Lib.hid (lCount_any M wA hM4)
          obtain ⟨nm, hnm⟩ : ∃ nm, Lo.num M = nm := ⟨_, rfl⟩
          rw [hnm] at HCT
          have hnP : nm ≤ P := by rw [← hnm, ← Lo.num_is HM.out.1 (by omega)]; exact Lo.els_le M P
          have HNM := Lib.hid hnm
          clear hnm
          go_wp2_with fail
          refine HCT.out.mono ?_
          clear HCT
          rintro e w' ⟨rfl, rfl⟩
          by_cases hlf : (di : Int) - ((P : Int) - (nm : Int)) - 1 < 0
          · go_wp2_with fail
            go_ret
            exact ⟨rfl, HB.out.ext.trans HX.out⟩
          · obtain ⟨lf, hlf2⟩ : ∃ lf : Nat, (di : Int) - ((P : Int) - (nm : Int)) - 1 = (lf : Int) := ⟨((di : Int) - ((P : Int) - (nm : Int)) - 1).toNat, by omega⟩
            have HLF := Lib.hid hlf2
            have HCN : Hid (∀ mn : Nat, mn ≤ 4 → mn ≤ lf → Calls Tryd.prog 11 #[.agg #[.int .i64 D, .slice GA ng Gc, .int .i64 g], .int .i64 (M : Nat), .int .i64 (mn : Nat)] wA fun e w' => e = .returned (.tuple #[.bool true, .int .i64 0]) ∧ Ext wA w') := Lib.hid fun mn hmn4 hmnl => by
              have hcn := lDetects_any D g gs M (mn : Int) _ wA (HT.out.ext HX.out) (Rs.ext (Rs.ext RI.ext) _ _ _ _ (HB.out.ext.trans HX.out) HG.out) HN.out
              rw [Lo.det_near HC.out HP.out hP14 HM.out.1 hmn4 (by have := HLF.out; rw [HDD.out, HNM.out]; omega), (Lo.det_suff HC.out HP.out hP14 HM.out.1 hmn4).1] at hcn
              exact hcn
            have k0 : wA.cell? ⟨C, 0, none⟩ = some (.int .i64 D) := (HB.out.next HX.out).cell 0 rfl 0 rfl
            have k1 : wA.cell? ⟨C, 1, none⟩ = some (.slice GA ng Gc) := (HB.out.next HX.out).cell 0 rfl 1 rfl
            have k2 : wA.cell? ⟨C, 2, none⟩ = some (.int .i64 g) := (HB.out.next HX.out).cell 0 rfl 2 rfl
            clear hlf
            by_cases h4 : (lf : Int) ≤ 4
            · go_wp2_with fail
              refine (HCN.out lf (by omega) (by omega)).mono ?_
              clear HCN k0 k1 k2
              rintro e wB ⟨rfl, hx⟩
              replace HX := Lib.hid (HX.out.trans hx)
              clear hx
              go_wp2_with fail
              go_ret
              exact ⟨rfl, HB.out.ext.trans HX.out⟩
            · have h4' : ¬ (lf : Int) ≤ 4 := h4
              go_wp2_with fail
              refine (HCN.out 4 (by decide) (by omega)).mono ?_
              clear HCN k0 k1 k2
              rintro e wB ⟨rfl, hx⟩
              replace HX := Lib.hid (HX.out.trans hx)
              clear hx
              go_wp2_with fail
              go_ret
              exact ⟨rfl, HB.out.ext.trans HX.out⟩
        · have hw0i : ¬ (0 : Int) < (wv : Int) := by omega
          have HDI := Lib.hid (cDist_any D g gs _ w8 (HT.out.ext HX.out) (Rs.ext (Rs.ext RI.ext) _ _ _ _ (HB.out.ext.trans HX.out) HG.out) (HN.out HC.out))
          have k0 : w8.cell? ⟨C, 0, none⟩ = some (.int .i64 D) := (HB.out.next HX.out).cell 0 rfl 0 rfl
          have k1 : w8.cell? ⟨C, 1, none⟩ = some (.slice GA ng Gc) := (HB.out.next HX.out).cell 0 rfl 1 rfl
          have k2 : w8.cell? ⟨C, 2, none⟩ = some (.int .i64 g) := (HB.out.next HX.out).cell 0 rfl 2 rfl
          have hdi : Cd.distI (D : Int) (g : Int) gs = (Cd.dist (D : Int) (g : Int) gs : Int) := by rw [Cd.distI, if_pos HC.out]
          obtain ⟨di, hdd⟩ : ∃ di, Cd.dist (D : Int) (g : Int) gs = di := ⟨_, rfl⟩
          have hI := Lo.Cd_dist_le HC.out HP.out (by omega)
          rw [hdi, hdd, HC.out] at HDI
          rw [hdd] at hI
          have HDD := Lib.hid hdd
          clear hdi hdd
          go_wp2_with fail
          refine HDI.out.mono ?_
          clear HDI k0 k1 k2
          rintro e wA ⟨rfl, hx⟩
          replace HX := Lib.hid (HX.out.trans hx)
          clear hx
          have hM4 : M < 16384 := Nat.lt_of_lt_of_le HM.out.1 (show 2 ^ P ≤ 2 ^ 14 from Nat.pow_le_pow_right (by decide) hP14)
          have HCT := Lib.hid (lCount_any M wA hM4)
          obtain ⟨nm, hnm⟩ : ∃ nm, Lo.num M = nm := ⟨_, rfl⟩
          rw [hnm] at HCT
          have hnP : nm ≤ P := by rw [← hnm, ← Lo.num_is HM.out.1 (by omega)]; exact Lo.els_le M P
          have HNM := Lib.hid hnm
          clear hnm
          go_wp2_with fail
          refine HCT.out.mono ?_
          clear HCT
          rintro e w' ⟨rfl, rfl⟩
          by_cases hlf : (di : Int) - ((P : Int) - (nm : Int)) - 1 < 0
          · go_wp2_with fail
            go_ret
            exact ⟨rfl, HB.out.ext.trans HX.out⟩
          · obtain ⟨lf, hlf2⟩ : ∃ lf : Nat, (di : Int) - ((P : Int) - (nm : Int)) - 1 = (lf : Int) := ⟨((di : Int) - ((P : Int) - (nm : Int)) - 1).toNat, by omega⟩
            have HLF := Lib.hid hlf2
            have HCN : Hid (∀ mn : Nat, mn ≤ 4 → mn ≤ lf → Calls Tryd.prog 11 #[.agg #[.int .i64 D, .slice GA ng Gc, .int .i64 g], .int .i64 (M : Nat), .int .i64 (mn : Nat)] wA fun e w' => e = .returned (.tuple #[.bool true, .int .i64 0]) ∧ Ext wA w') := Lib.hid fun mn hmn4 hmnl => by
              have hcn := lDetects_any D g gs M (mn : Int) _ wA (HT.out.ext HX.out) (Rs.ext (Rs.ext RI.ext) _ _ _ _ (HB.out.ext.trans HX.out) HG.out) HN.out
              rw [Lo.det_near HC.out HP.out hP14 HM.out.1 hmn4 (by have := HLF.out; rw [HDD.out, HNM.out]; omega), (Lo.det_suff HC.out HP.out hP14 HM.out.1 hmn4).1] at hcn
              exact hcn
            have k0 : wA.cell? ⟨C, 0, none⟩ = some (.int .i64 D) := (HB.out.next HX.out).cell 0 rfl 0 rfl
            have k1 : wA.cell? ⟨C, 1, none⟩ = some (.slice GA ng Gc) := (HB.out.next HX.out).cell 0 rfl 1 rfl
            have k2 : wA.cell? ⟨C, 2, none⟩ = some (.int .i64 g) := (HB.out.next HX.out).cell 0 rfl 2 rfl
            clear hlf
            by_cases h4 : (lf : Int) ≤ 4
            · go_wp2_with fail
              refine (HCN.out lf (by omega) (by omega)).mono ?_
              clear HCN k0 k1 k2
              rintro e wB ⟨rfl, hx⟩
              replace HX := Lib.hid (HX.out.trans hx)
              clear hx
              go_wp2_with fail
              go_ret
              exact ⟨rfl, HB.out.ext.trans HX.out⟩
            · have h4' : ¬ (lf : Int) ≤ 4 := h4
              go_wp2_with fail
              refine (HCN.out 4 (by decide) (by omega)).mono ?_
              clear HCN k0 k1 k2
              rintro e wB ⟨rfl, hx⟩
              replace HX := Lib.hid (HX.out.trans hx)
              clear hx
              go_wp2_with fail
              go_ret
              exact ⟨rfl, HB.out.ext.trans HX.out⟩
end Go.Proofs.YtggfkpalkdkbdaaDoor

/- ARGUMENTS that are codes read as such. -/
namespace Go.Proofs.YtggfkpalkdkbdaaDoor
open Go.ChangeShapes Go.WideShapes Go.ChangeAt Go.RowKit Go.ChangeMaps Go.Deep
variable {H : Type} {enc : TypeId × Value → H} {W : World} {base : Nat}
theorem list_getD {l : List Int} {k : Nat} (h : k < l.length) : l.getD k 0 = l[k] := by rw [List.getD_eq_getElem?_getD, List.getElem?_eq_getElem h]; rfl
theorem read_rows {fuel : Nat} {v : Value} {x : DataW H × List MemPlace} (h : DataW.trod enc Tryd.prog W base (fun _ => true) true fuel 22 [v] = some x) : ∃ l, Rs (Rs RI) W v l := by
  rcases open_int_rows Tryd.underlying22 Tryd.underlying63 Tryd.underlying3 (by kernel_rfl) (by kernel_rfl) h with ⟨hcs, _⟩ | ⟨a, len, cap, A, L, C, Z, hcs, _, hl, hm, _, hx⟩
  · injection hcs with hcs _
    subst hcs
    exact ⟨[], none, 0, rfl, by simp, fun i x h => by simp at h⟩
  · injection hcs with hcs _
    subst hcs
    refine ⟨(List.range len).map fun r => (Z r).take (L r), some a, cap, by simp, by simp; unfold maxLen at hm; omega, fun i y hi => ?_⟩
    have hi1 : i < len := by have := (List.getElem?_eq_some_iff.1 hi).1; simpa using this
    have e : y = (Z i).take (L i) := by
      have := (List.getElem?_eq_some_iff.1 hi).2
      rw [← this]; simp
    subst e
    obtain ⟨h1, h2, h3, h4, h5, h6, h7⟩ := hx i (by omega)
    refine ⟨a, _, rfl, h1, A i, C i, ?_, ?_, fun k z hk => ?_⟩
    · rw [List.length_take]; congr 1; omega
    · rw [List.length_take]; unfold maxLen at h3; omega
    · have hk1 : k < ((Z i).take (L i)).length := (List.getElem?_eq_some_iff.1 hk).1
      have hk2 : k < (Z i).length := by rw [List.length_take] at hk1; omega
      have hk3 : k < C i := by omega
      have e : z = (Z i)[k] := by
        have := (List.getElem?_eq_some_iff.1 hk).2
        rw [← this, List.getElem_take]
      subst e
      have hb := bounds_i64 (h5 _ (List.getElem_mem hk2))
      cases hA : A i with
      | none => have := h6 hA; omega
      | some b =>
        have h8 := (h7 b hA).2 k hk3
        rw [list_getD hk2] at h8
        exact ⟨b, _, rfl, h8, rfl, by omega, by omega⟩
theorem cellsRows : Tryd.prog.cellsOf 22 = 1 := by kernel_rfl
theorem cellsInt : Tryd.prog.cellsOf 3 = 1 := by kernel_rfl
theorem array3 {α : Type} {cs : Array α} (h : cs.size = 3) : ∃ c0 c1 c2, cs = #[c0, c1, c2] := by
  obtain ⟨l⟩ := cs
  match l, h with
  | [c0, c1, c2], _ => exact ⟨c0, c1, c2, rfl⟩
end Go.Proofs.YtggfkpalkdkbdaaDoor

/- THE FORM's OWN REACH, for slices of bytes and of strings that were opened by open_bytes, open_strs. -/
namespace Go.Proofs.YtggfkpalkdkbdaaDoor
open Go.RowKit Go.ChangeShapes Go.WideShapes Go.ChangeAt
variable {H : Type} {enc : TypeId × Value → H} {P : Program}
theorem sized_part {ts : List TypeId} {ds : List (DataW H)} (h : (DataW.weightsEach P ts ds).all (· ≤ reachBytes) = true) {j : Nat} {t : TypeId} {d : DataW H} (ht : ts[j]? = some t) (hd : ds[j]? = some d) : ∀ n ∈ d.weights P t, n ≤ reachBytes := fun n hn => by
  have := List.all_eq_true.1 h n (DataW.weights_mem_each ht hd n hn)
  simpa using this
end Go.Proofs.YtggfkpalkdkbdaaDoor

/- ARGUMENTS of law 09: cases. -/
namespace Go.Proofs.YtggfkpalkdkbdaaDoor
open Go.ChangeShapes Go.WideShapes Go.ChangeAt Go.RowKit Go.ChangeMaps Go.Deep
variable {H : Type} {enc : TypeId × Value → H} {W : World} {base : Nat}
theorem bytesInts : Tryd.prog.bytesOf 63 = 24 := by kernel_rfl
/-- The form's own reach, for a list of lists. -/
theorem sized_rows {fuel : Nat} {v : Value} {x : DataW H × List MemPlace} (h : DataW.trod enc Tryd.prog W base (fun _ => true) true fuel 22 [v] = some x) (hw : ∀ n ∈ x.1.weights Tryd.prog 22, n ≤ reachBytes) {l : List (List Int)} (hl : Rs (Rs RI) W v l) : l.length ≤ 4611686018427387904 := by
  obtain ⟨A, c, rfl, _⟩ := hl.form
  rcases open_int_rows Tryd.underlying22 Tryd.underlying63 Tryd.underlying3 (by kernel_rfl) (by kernel_rfl) h with ⟨hcs, _⟩ | ⟨a, len, cap, A', L, C, Z, hcs, _, _, hm, hx, _⟩
  · injection hcs with hcs _
    injection hcs with _ h2 _
    omega
  · injection hcs with hcs _
    injection hcs with _ h2 _
    subst hx
    have := hw ((len + (cap - len)) * 24) (by simp only [DataW.weights, Tryd.underlying22, bytesInts, List.length_map, List.length_range, List.mem_cons, true_or])
    unfold reachBytes at this
    omega
set_option maxRecDepth 100000 in
/-- A code, with the number of its groups. -/
theorem trod_code {m : Nat} {c0 c1 c2 : Value} {y : DataW H × List MemPlace} (hf : DataW.trod enc Tryd.prog W base (fun _ => true) true m 24 [c0, c1, c2] = some y) (hw : ∀ n ∈ y.1.weights Tryd.prog 24, n ≤ reachBytes) :
    ∃ (a0 a2 : Int) (gs : List (List Int)), c0 = .int .i64 a0 ∧ c2 = .int .i64 a2 ∧ Rs (Rs RI) W c1 gs ∧ gs.length ≤ 4611686018427387904 := by
  obtain ⟨zs, m, _, hy, _, hlen2, hz⟩ := DataW.trod_struct Tryd.underlying24 hf
  obtain ⟨z0, z1, z2, rfl⟩ : ∃ z0 z1 z2, zs = [z0, z1, z2] := by
    match zs, hlen2 with
    | [z0, z1, z2], _ => exact ⟨z0, z1, z2, rfl⟩
  subst hy
  have g0 : DataW.trod enc Tryd.prog W base (fun _ => true) true m 3 [c0] = some z0 := by
    have := hz 0 _ rfl
    simpa [Value.cells, cellsInt] using this
  have g1 : DataW.trod enc Tryd.prog W base (fun _ => true) true m 22 [c1] = some z1 := by
    have := hz 1 _ rfl
    simpa [Value.cells, cellsRows] using this
  have g2 : DataW.trod enc Tryd.prog W base (fun _ => true) true m 3 [c2] = some z2 := by
    have := hz 2 _ rfl
    simpa [Value.cells, cellsInt] using this
  obtain ⟨gs, h1⟩ := read_rows g1
  obtain ⟨a0, ha0, _, w0⟩ := DataW.trod_int Tryd.underlying3 g0
  obtain ⟨a2, ha2, _, w2⟩ := DataW.trod_int Tryd.underlying3 g2
  injection ha0 with ha0 _
  injection ha2 with ha2 _
  refine ⟨a0, a2, gs, ha0, ha2, h1, sized_rows g1 (fun n hn => hw n ?_) h1⟩
  simp only [DataW.weights, Tryd.underlying24]
  exact DataW.weights_mem_each (j := 1) rfl rfl n hn
theorem small_u8 {n : Int} (h : (Lit.int .u8 n).wf = true) : ∃ k : Nat, n = k ∧ k < 256 := by
  have hb : 0 ≤ n ∧ n ≤ 255 := by simpa [Lit.wf, IntKind.min, IntKind.max, IntKind.signed, IntKind.bits] using h
  exact ⟨n.toNat, by omega, by omega⟩
theorem small_u32 {n : Int} (h : (Lit.int .u32 n).wf = true) : ∃ k : Nat, n = k ∧ k < 4294967296 := by
  have hb : 0 ≤ n ∧ n ≤ 4294967295 := by simpa [Lit.wf, IntKind.min, IntKind.max, IntKind.signed, IntKind.bits] using h
  exact ⟨n.toNat, by omega, by omega⟩
set_option maxRecDepth 100000 in
/-- A code as an argument of its own. -/
theorem open_code_sized {b0 : Nat} {v : Value} {d : DataW H} {ps : List MemPlace} (hval : Value.okWide Tryd.prog W .any b0 24 v) (hd : DataW.Trod enc Tryd.prog W base (fun _ => true) true 24 v d ps) (hw : ∀ n ∈ d.weights Tryd.prog 24, n ≤ reachBytes) :
    ∃ (a0 a2 : Int) (G : Value) (gs : List (List Int)), v = .agg #[.int .i64 a0, G, .int .i64 a2] ∧ Rs (Rs RI) W G gs ∧ gs.length ≤ 4611686018427387904 := by
  obtain ⟨cs, rfl, hsz⟩ := okWide_struct Tryd.underlying24 hval
  obtain ⟨c0, c1, c2, rfl⟩ := array3 (hsz.trans (by kernel_rfl))
  obtain ⟨fuel, hf⟩ := hd
  have hf2 : DataW.trod enc Tryd.prog W base (fun _ => true) true fuel 24 [c0, c1, c2] = some (d, ps) := by simpa [Value.cells] using hf
  obtain ⟨a0, a2, gs, rfl, rfl, h1, h2⟩ := trod_code hf2 hw
  exact ⟨a0, a2, c1, gs, rfl, h1, h2⟩
end Go.Proofs.YtggfkpalkdkbdaaDoor
