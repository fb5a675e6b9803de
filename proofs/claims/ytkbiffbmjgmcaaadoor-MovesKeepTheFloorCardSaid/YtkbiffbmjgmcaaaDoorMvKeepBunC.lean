/- What the program's functions do, step by step: part C of the texts for this claim; no condition beyond what each theorem states. -/
import Derived.RangeFuncNested
import Derived.RangeFuncBound
import Derived.RangeFuncCalls
import Derived.RangeFuncLeaves
import Derived.Shelf.Abstract
import Derived.Shelf.RegionOpen
import Derived.OwnWalkIn
import Derived.TacticsInMore
import Derived.LoopNIn
import Derived.LoopIn
import Derived.OrdersIn
import Derived.Maps.OwnSet
import Derived.Maps.Views
import Derived.Maps.OwnIn
import Derived.WalkKit
import Derived.DeepKeys5
import Derived.Lib.AppendStr
import Derived.Deep.RegionHeld3
import Derived.Deep.CutRange
import Derived.Test.YtkbiffbmjgmcaaaDoorMvKeepBunA
import Derived.Test.YtkbiffbmjgmcaaaDoorMvKeepBunB
/- THE WALKS over left and Left of package moves. -/
namespace Mv
/-- Racks that have failed, of the first k of a list. -/
def failTo (R : Nat) (rs : List Int) : Nat → Nat
  | 0 => 0
  | k + 1 => if 0 ≤ rs.getD k 0 ∧ rs.getD k 0 < (R : Int) then failTo R rs k ||| 2 ^ (rs.getD k 0).toNat else failTo R rs k
theorem failTo_yes {R : Nat} {rs : List Int} {k : Nat} (h : 0 ≤ rs.getD k 0) (h2 : rs.getD k 0 < (R : Int)) : failTo R rs (k + 1) = failTo R rs k ||| 2 ^ (rs.getD k 0).toNat := if_pos ⟨h, h2⟩
theorem failTo_no {R : Nat} {rs : List Int} {k : Nat} (h : ¬ (0 ≤ rs.getD k 0 ∧ rs.getD k 0 < (R : Int))) : failTo R rs (k + 1) = failTo R rs k := if_neg h
theorem failTo_lt (R : Nat) (rs : List Int) : ∀ k, failTo R rs k < 2 ^ R
  | 0 => Nat.two_pow_pos _
  | k + 1 => by
    have ih := failTo_lt R rs k
    rw [failTo]
    split
    · exact Nat.or_lt_two_pow ih (Nat.pow_lt_pow_right (by decide) (by omega))
    · exact ih
theorem failTo_bit {R : Nat} {rs : List Int} {i : Nat} (hi : i < R) : ∀ k, k ≤ rs.length → ((failTo R rs k).testBit i = decide ((i : Int) ∈ rs.take k))
  | 0, _ => by simp [failTo]
  | k + 1, hk => by
    have hk2 : k < rs.length := hk
    have ih := failTo_bit (rs := rs) hi k (by omega)
    have hg : rs.getD k 0 = rs[k] := by rw [List.getD_eq_getElem?_getD, List.getElem?_eq_getElem hk2]; rfl
    have hm : ((i : Int) ∈ rs.take (k + 1)) ↔ ((i : Int) ∈ rs.take k ∨ (i : Int) = rs[k]) := by rw [List.take_succ_eq_append_getElem hk2, List.mem_append, List.mem_singleton]
    rw [decide_eq_decide.2 hm]
    by_cases h : 0 ≤ rs.getD k 0 ∧ rs.getD k 0 < (R : Int)
    · rw [failTo_yes h.1 h.2, Nat.testBit_or, ih, Nat.testBit_two_pow]
      rw [hg] at h ⊢
      by_cases e : rs[k].toNat = i
      · have : (i : Int) = rs[k] := by omega
        rw [decide_eq_true e, Bool.or_true, decide_eq_true (.inr this)]
      · have : ¬ (i : Int) = rs[k] := by omega
        rw [decide_eq_false e, Bool.or_false]
        exact decide_eq_decide.2 ⟨fun q => .inl q, fun q => q.elim id fun q => absurd q this⟩
    · rw [failTo_no h, ih]
      rw [hg] at h
      have : ¬ (i : Int) = rs[k] := by omega
      exact decide_eq_decide.2 ⟨fun q => .inl q, fun q => q.elim id fun q => absurd q this⟩
def failed (s : Sh) (rs : List Int) : Nat := failTo s.racks.length rs rs.length
theorem failed_bit {s : Sh} {rs : List Int} {i : Nat} (hi : i < s.racks.length) : (failed s rs).testBit i = decide ((i : Int) ∈ rs) := by
  rw [failed, failTo_bit hi _ (Nat.le_refl _), List.take_length]
/-- What Left returns. -/
def leftL (s : Sh) (ph rs : List Int) : Nat := if right s ph = true then left s ph (failed s rs) else 0
theorem leftL_no {s : Sh} {ph rs : List Int} (h : right s ph = false) : leftL s ph rs = 0 := if_neg (by simp [h])
theorem leftL_yes {s : Sh} {ph rs : List Int} (h : right s ph = true) : leftL s ph rs = left s ph (failed s rs) := if_pos h
theorem there_yes1 {s : Sh} {ph : List Int} {F k : Nat} (h : ph.getD k 0 < 2) (h2 : F.testBit (rackOf s s.src k) = false) : there s ph F k := .inl ⟨h, h2⟩
theorem there_yes2 {s : Sh} {ph : List Int} {F k : Nat} (h : 0 < ph.getD k 0) (h2 : F.testBit (rackOf s s.dst k) = false) : there s ph F k := .inr ⟨h, h2⟩
end Mv
namespace Go.Proofs.YtkbiffbmjgmcaaaDoor
open Go.RowKit
theorem bit_int (F r : Nat) (hF : F < 2 ^ 40) : bits .and .i64 ((F : Int) / 2 ^ r) 1 = (((F / 2 ^ r % 2 : Nat)) : Int) := by
  have hle : F / 2 ^ r ≤ F := Nat.div_le_self _ _
  have h40 : (2 : Nat) ^ 40 = 1099511627776 := by decide
  have := odd64 (F / 2 ^ r) (by omega)
  rw [← this]
  simp
theorem bit_off {F r : Nat} (hF : F < 2 ^ 40) (h : F.testBit r = false) : (bits .and .i64 ((F : Int) / 2 ^ r) 1 == 0) = true := by
  rw [bit_int F r hF]
  rw [Nat.testBit_eq_decide_div_mod_eq, decide_eq_false_iff_not] at h
  have : F / 2 ^ r % 2 = 0 := by omega
  rw [this]; rfl
theorem bit_on {F r : Nat} (hF : F < 2 ^ 40) (h : F.testBit r = true) : (bits .and .i64 ((F : Int) / 2 ^ r) 1 == 0) = false := by
  rw [bit_int F r hF]
  rw [Nat.testBit_eq_decide_div_mod_eq, decide_eq_true_eq] at h
  rw [h]; rfl
theorem or_pow40 (s m : Nat) (hs : s < 2 ^ 40) (h : m < 40) : bits .or .i64 (s : Int) (wrap64 (2 ^ m)) = ((s ||| 2 ^ m : Nat) : Int) ∧ s ||| 2 ^ m < 2 ^ 40 := by
  have hpw : 2 ^ m < 2 ^ 40 := Nat.pow_lt_pow_right (by omega) h
  refine ⟨?_, Nat.or_lt_two_pow (n := 40) hs hpw⟩
  rw [wrap_pow m (by omega)]
  exact or64 _ _ (Nat.lt_trans hs (by decide)) (Nat.lt_trans hpw (by decide))
noncomputable def lf_racks_code : Code := ((Tryd.f35.body.bind (regionOf 5)).getD .skip)
def lf_racks_dsts : List (Option Nat) := [some 19, some 20, some 21, some 22, some 23, some 24, some 25, some 26, some 27, some 28, some 29, some 30, some 31, some 32, some 33, some 34, some 35, some 36, some 37, some 38, some 10, some 11]
theorem lf_racks_apart : apartD lf_racks_dsts = true := by decide +kernel
set_option maxRecDepth 1000000 in
set_option maxHeartbeats 16000000 in
theorem lf_racks (wr : World) (B k nd nf nt cD cF cT d0 d1 r0 r1 : Nat) (pd pf pt : Addr) (hkf : k < nf) (hkt : k < nt) (hd0 : d0 < nd) (hd1 : d1 < nd) (b0 : wr.cell? ⟨B, 0, none⟩ = some (.slice (some pd) nd cD)) (b9 : wr.cell? ⟨B, 9, none⟩ = some (.slice (some pf) nf cF)) (b10 : wr.cell? ⟨B, 10, none⟩ = some (.slice (some pt) nt cT)) (e0 : wr.cell? (pf.add k) = some (.int .i64 (d0 : Nat))) (e1 : wr.cell? (pd.add d0) = some (.int .i64 (r0 : Nat))) (g0 : wr.cell? (pt.add k) = some (.int .i64 (d1 : Nat))) (g1 : wr.cell? (pd.add d1) = some (.int .i64 (r1 : Nat))) (c0 c1 c2 c4 c5 c6 c7 c9 c10 c11 c12 c13 c14 c15 c16 c17 c18 c19 c20 c21 c22 c23 c24 c25 c26 c27 c28 c29 c30 c31 c32 c33 c34 c35 c36 c37 c38 c39 c40 c41 c42 c43 c44 c45 c46 c47 c48 c49 c50 c51 c52 c53 c54 c55 c56 c57 c58 c59 c60 c61 c62 c63 c64 : Value) (df : List Deferred) (K : Act → World → Prop)
    (hK : ∀  (u19 u20 u21 u22 u23 u24 u25 u26 u27 u28 u29 u30 u31 u32 u33 u34 u35 u36 u37 u38 : Value) (wx : World), Ext wr wx → K ⟨#[c0, c1, c2, .pointer (some ⟨B, 0, none⟩), c4, c5, c6, c7, .int .i64 (k : Nat), c9, .int .i64 (r0 : Nat), .int .i64 (r1 : Nat), c12, c13, c14, c15, c16, c17, c18, u19, u20, u21, u22, u23, u24, u25, u26, u27, u28, u29, u30, u31, u32, u33, u34, u35, u36, u37, u38, c39, c40, c41, c42, c43, c44, c45, c46, c47, c48, c49, c50, c51, c52, c53, c54, c55, c56, c57, c58, c59, c60, c61, c62, c63, c64], df⟩ wx) :
    Code.wp Tryd.prog lf_racks_code (AtEnd K) ⟨#[c0, c1, c2, .pointer (some ⟨B, 0, none⟩), c4, c5, c6, c7, .int .i64 (k : Nat), c9, c10, c11, c12, c13, c14, c15, c16, c17, c18, c19, c20, c21, c22, c23, c24, c25, c26, c27, c28, c29, c30, c31, c32, c33, c34, c35, c36, c37, c38, c39, c40, c41, c42, c43, c44, c45, c46, c47, c48, c49, c50, c51, c52, c53, c54, c55, c56, c57, c58, c59, c60, c61, c62, c63, c64], df⟩ wr := by
  conv => arg 2; whnf
  refine region_inv (by kernel_rfl) [[], [0], [1], [], [3], [], [4, 5], [6], [2, 7], [8], [], [10], [11], [], [13], [], [14, 15], [16], [12, 17], [18], [9, 0, 1, 2, 3, 4, 5, 6, 7, 8, 9], [19, 20, 0, 1, 2, 3, 4, 5, 6, 7, 8, 9, 10, 11, 12, 13, 14, 15, 16, 17, 18, 19, 20]] (by kernel_rfl) [0, 1, 2, 3, 4, 5, 6, 7, 8, 9, 10, 11, 12, 13, 14, 15, 16, 17, 18, 19, 20, 21] (by decide +kernel) (by decide +kernel) (by decide +kernel) (fun L a wc => Inv lf_racks_dsts [.pointer (some ⟨B, 0, none⟩), .pointer (some ⟨B, 0, none⟩), .slice (some pd) nd cD, .pointer (some ⟨B, 9, none⟩), .slice (some pf) nf cF, .int .i64 (k : Nat), .pointer (some (pf.add k)), .int .i64 (d0 : Nat), .pointer (some (pd.add d0)), .int .i64 (r0 : Nat), .pointer (some ⟨B, 0, none⟩), .pointer (some ⟨B, 0, none⟩), .slice (some pd) nd cD, .pointer (some ⟨B, 10, none⟩), .slice (some pt) nt cT, .int .i64 (k : Nat), .pointer (some (pt.add k)), .int .i64 (d1 : Nat), .pointer (some (pd.add d1)), .int .i64 (r1 : Nat), .int .i64 (r0 : Nat), .int .i64 (r1 : Nat)] ⟨#[c0, c1, c2, .pointer (some ⟨B, 0, none⟩), c4, c5, c6, c7, .int .i64 (k : Nat), c9, c10, c11, c12, c13, c14, c15, c16, c17, c18, c19, c20, c21, c22, c23, c24, c25, c26, c27, c28, c29, c30, c31, c32, c33, c34, c35, c36, c37, c38, c39, c40, c41, c42, c43, c44, c45, c46, c47, c48, c49, c50, c51, c52, c53, c54, c55, c56, c57, c58, c59, c60, c61, c62, c63, c64], df⟩ L a ∧ Hid (Ext wr wc)) ⟨Inv.start, Lib.hid ((Ext.refl wr).drew)⟩ ?_ ?_
  · refine ⟨?_, ?_, ?_, ?_, ?_, ?_, ?_, ?_, ?_, ?_, ?_, ?_, ?_, ?_, ?_, ?_, ?_, ?_, ?_, ?_, ?_, ?_, trivial⟩
    · -- 0 field
      rintro L a wc ⟨hv, HO⟩ hL hc hd
      exact wpOp_val rfl rfl (ex_field rfl ((hv.fixed 3 (by decide)).trans rfl) (by go_simp)) ⟨hv.put lf_racks_apart 0 rfl (Nat.le_of_ble_eq_true rfl) (Nat.le_of_ble_eq_true rfl) rfl, HO⟩
    · -- 1 field
      rintro L a wc ⟨hv, HO⟩ hL hc hd
      exact wpOp_val rfl rfl (ex_field rfl (hv.get 0 rfl rfl (hd 0 (by decide))) (by go_simp)) ⟨hv.put lf_racks_apart 1 rfl (Nat.le_of_ble_eq_true rfl) (Nat.le_of_ble_eq_true rfl) rfl, HO⟩
    · -- 2 load
      rintro L a wc ⟨hv, HO⟩ hL hc hd
      have h0 : wc.cell? ⟨B, 0, none⟩ = some (.slice (some pd) nd cD) := HO.out.cell b0
      exact wpOp_val rfl rfl (ex_load rfl (hv.get 1 rfl rfl (hd 1 (by decide))) (by go_simp)) ⟨hv.put lf_racks_apart 2 rfl (Nat.le_of_ble_eq_true rfl) (Nat.le_of_ble_eq_true rfl) rfl, HO⟩
    · -- 3 field
      rintro L a wc ⟨hv, HO⟩ hL hc hd
      exact wpOp_val rfl rfl (ex_field rfl ((hv.fixed 3 (by decide)).trans rfl) (by go_simp)) ⟨hv.put lf_racks_apart 3 rfl (Nat.le_of_ble_eq_true rfl) (Nat.le_of_ble_eq_true rfl) rfl, HO⟩
    · -- 4 load
      rintro L a wc ⟨hv, HO⟩ hL hc hd
      have h1 : wc.cell? ⟨B, 9, none⟩ = some (.slice (some pf) nf cF) := HO.out.cell b9
      exact wpOp_val rfl rfl (ex_load rfl (hv.get 3 rfl rfl (hd 3 (by decide))) (by go_simp)) ⟨hv.put lf_racks_apart 4 rfl (Nat.le_of_ble_eq_true rfl) (Nat.le_of_ble_eq_true rfl) rfl, HO⟩
    · -- 5 move
      rintro L a wc ⟨hv, HO⟩ hL hc hd
      exact wpOp_val rfl rfl (ex_move rfl ((hv.fixed 8 (by decide)).trans rfl)) ⟨hv.put lf_racks_apart 5 rfl (Nat.le_of_ble_eq_true rfl) (Nat.le_of_ble_eq_true rfl) rfl, HO⟩
    · -- 6 index
      rintro L a wc ⟨hv, HO⟩ hL hc hd
      have u1 : (0 : Int) ≤ (k : Int) := by omega
      have u2 : (k : Int) < (nf : Int) := by omega
      exact wpOp_val rfl rfl (ex_index rfl (hv.get 4 rfl rfl (hd 4 (by decide))) (hv.get 5 rfl rfl (hd 5 (by decide))) (by go_simp)) ⟨hv.put lf_racks_apart 6 rfl (Nat.le_of_ble_eq_true rfl) (Nat.le_of_ble_eq_true rfl) rfl, HO⟩
    · -- 7 load
      rintro L a wc ⟨hv, HO⟩ hL hc hd
      have h1 : wc.cell? (pf.add k) = some (.int .i64 (d0 : Nat)) := HO.out.cell e0
      exact wpOp_val rfl rfl (ex_load rfl (hv.get 6 rfl rfl (hd 6 (by decide))) (by go_simp)) ⟨hv.put lf_racks_apart 7 rfl (Nat.le_of_ble_eq_true rfl) (Nat.le_of_ble_eq_true rfl) rfl, HO⟩
    · -- 8 index
      rintro L a wc ⟨hv, HO⟩ hL hc hd
      have u1 : (0 : Int) ≤ (d0 : Int) := by omega
      have u2 : (d0 : Int) < (nd : Int) := by omega
      exact wpOp_val rfl rfl (ex_index rfl (hv.get 2 rfl rfl (hd 2 (by decide))) (hv.get 7 rfl rfl (hd 7 (by decide))) (by go_simp)) ⟨hv.put lf_racks_apart 8 rfl (Nat.le_of_ble_eq_true rfl) (Nat.le_of_ble_eq_true rfl) rfl, HO⟩
    · -- 9 load
      rintro L a wc ⟨hv, HO⟩ hL hc hd
      have h1 : wc.cell? (pd.add d0) = some (.int .i64 (r0 : Nat)) := HO.out.cell e1
      exact wpOp_val rfl rfl (ex_load rfl (hv.get 8 rfl rfl (hd 8 (by decide))) (by go_simp)) ⟨hv.put lf_racks_apart 9 rfl (Nat.le_of_ble_eq_true rfl) (Nat.le_of_ble_eq_true rfl) rfl, HO⟩
    · -- 10 field
      rintro L a wc ⟨hv, HO⟩ hL hc hd
      exact wpOp_val rfl rfl (ex_field rfl ((hv.fixed 3 (by decide)).trans rfl) (by go_simp)) ⟨hv.put lf_racks_apart 10 rfl (Nat.le_of_ble_eq_true rfl) (Nat.le_of_ble_eq_true rfl) rfl, HO⟩
    · -- 11 field
      rintro L a wc ⟨hv, HO⟩ hL hc hd
      exact wpOp_val rfl rfl (ex_field rfl (hv.get 10 rfl rfl (hd 10 (by decide))) (by go_simp)) ⟨hv.put lf_racks_apart 11 rfl (Nat.le_of_ble_eq_true rfl) (Nat.le_of_ble_eq_true rfl) rfl, HO⟩
    · -- 12 load
      rintro L a wc ⟨hv, HO⟩ hL hc hd
      have h0 : wc.cell? ⟨B, 0, none⟩ = some (.slice (some pd) nd cD) := HO.out.cell b0
      exact wpOp_val rfl rfl (ex_load rfl (hv.get 11 rfl rfl (hd 11 (by decide))) (by go_simp)) ⟨hv.put lf_racks_apart 12 rfl (Nat.le_of_ble_eq_true rfl) (Nat.le_of_ble_eq_true rfl) rfl, HO⟩
    · -- 13 field
      rintro L a wc ⟨hv, HO⟩ hL hc hd
      exact wpOp_val rfl rfl (ex_field rfl ((hv.fixed 3 (by decide)).trans rfl) (by go_simp)) ⟨hv.put lf_racks_apart 13 rfl (Nat.le_of_ble_eq_true rfl) (Nat.le_of_ble_eq_true rfl) rfl, HO⟩
    · -- 14 load
      rintro L a wc ⟨hv, HO⟩ hL hc hd
      have h1 : wc.cell? ⟨B, 10, none⟩ = some (.slice (some pt) nt cT) := HO.out.cell b10
      exact wpOp_val rfl rfl (ex_load rfl (hv.get 13 rfl rfl (hd 13 (by decide))) (by go_simp)) ⟨hv.put lf_racks_apart 14 rfl (Nat.le_of_ble_eq_true rfl) (Nat.le_of_ble_eq_true rfl) rfl, HO⟩
    · -- 15 move
      rintro L a wc ⟨hv, HO⟩ hL hc hd
      exact wpOp_val rfl rfl (ex_move rfl ((hv.fixed 8 (by decide)).trans rfl)) ⟨hv.put lf_racks_apart 15 rfl (Nat.le_of_ble_eq_true rfl) (Nat.le_of_ble_eq_true rfl) rfl, HO⟩
    · -- 16 index
      rintro L a wc ⟨hv, HO⟩ hL hc hd
      have u1 : (0 : Int) ≤ (k : Int) := by omega
      have u2 : (k : Int) < (nt : Int) := by omega
      exact wpOp_val rfl rfl (ex_index rfl (hv.get 14 rfl rfl (hd 14 (by decide))) (hv.get 15 rfl rfl (hd 15 (by decide))) (by go_simp)) ⟨hv.put lf_racks_apart 16 rfl (Nat.le_of_ble_eq_true rfl) (Nat.le_of_ble_eq_true rfl) rfl, HO⟩
    · -- 17 load
      rintro L a wc ⟨hv, HO⟩ hL hc hd
      have h1 : wc.cell? (pt.add k) = some (.int .i64 (d1 : Nat)) := HO.out.cell g0
      exact wpOp_val rfl rfl (ex_load rfl (hv.get 16 rfl rfl (hd 16 (by decide))) (by go_simp)) ⟨hv.put lf_racks_apart 17 rfl (Nat.le_of_ble_eq_true rfl) (Nat.le_of_ble_eq_true rfl) rfl, HO⟩
    · -- 18 index
      rintro L a wc ⟨hv, HO⟩ hL hc hd
      have u1 : (0 : Int) ≤ (d1 : Int) := by omega
      have u2 : (d1 : Int) < (nd : Int) := by omega
      exact wpOp_val rfl rfl (ex_index rfl (hv.get 12 rfl rfl (hd 12 (by decide))) (hv.get 17 rfl rfl (hd 17 (by decide))) (by go_simp)) ⟨hv.put lf_racks_apart 18 rfl (Nat.le_of_ble_eq_true rfl) (Nat.le_of_ble_eq_true rfl) rfl, HO⟩
    · -- 19 load
      rintro L a wc ⟨hv, HO⟩ hL hc hd
      have h1 : wc.cell? (pd.add d1) = some (.int .i64 (r1 : Nat)) := HO.out.cell g1
      exact wpOp_val rfl rfl (ex_load rfl (hv.get 18 rfl rfl (hd 18 (by decide))) (by go_simp)) ⟨hv.put lf_racks_apart 19 rfl (Nat.le_of_ble_eq_true rfl) (Nat.le_of_ble_eq_true rfl) rfl, HO⟩
    · -- 20 assign
      rintro L a wc ⟨hv, HO⟩ hL hc hd
      exact wpOp_val rfl rfl (ex_assign rfl (hv.get 9 rfl rfl (hd 9 (by decide)))) ⟨hv.put lf_racks_apart 20 rfl (Nat.le_of_ble_eq_true rfl) (Nat.le_of_ble_eq_true rfl) rfl, HO⟩
    · -- 21 assign
      rintro L a wc ⟨hv, HO⟩ hL hc hd
      exact wpOp_val rfl rfl (ex_assign rfl (hv.get 19 rfl rfl (hd 19 (by decide)))) ⟨hv.put lf_racks_apart 21 rfl (Nat.le_of_ble_eq_true rfl) (Nat.le_of_ble_eq_true rfl) rfl, HO⟩
  · rintro L a wc ⟨hv, HO⟩ hall
    show K a wc
    have ha := act_lit a
    rw [hv.size, hv.defers] at ha
    have hl : ∀ f : Nat → Value, ((List.range (⟨#[c0, c1, c2, .pointer (some ⟨B, 0, none⟩), c4, c5, c6, c7, .int .i64 (k : Nat), c9, c10, c11, c12, c13, c14, c15, c16, c17, c18, c19, c20, c21, c22, c23, c24, c25, c26, c27, c28, c29, c30, c31, c32, c33, c34, c35, c36, c37, c38, c39, c40, c41, c42, c43, c44, c45, c46, c47, c48, c49, c50, c51, c52, c53, c54, c55, c56, c57, c58, c59, c60, c61, c62, c63, c64], df⟩ : Act).tmps.size).map f).toArray = #[f 0, f 1, f 2, f 3, f 4, f 5, f 6, f 7, f 8, f 9, f 10, f 11, f 12, f 13, f 14, f 15, f 16, f 17, f 18, f 19, f 20, f 21, f 22, f 23, f 24, f 25, f 26, f 27, f 28, f 29, f 30, f 31, f 32, f 33, f 34, f 35, f 36, f 37, f 38, f 39, f 40, f 41, f 42, f 43, f 44, f 45, f 46, f 47, f 48, f 49, f 50, f 51, f 52, f 53, f 54, f 55, f 56, f 57, f 58, f 59, f 60, f 61, f 62, f 63, f 64] := fun _ => rfl
    rw [hl] at ha
    simp only [hv.fixed 0 (by decide), hv.fixed 1 (by decide), hv.fixed 2 (by decide), hv.fixed 3 (by decide), hv.fixed 4 (by decide), hv.fixed 5 (by decide), hv.fixed 6 (by decide), hv.fixed 7 (by decide), hv.fixed 8 (by decide), hv.fixed 9 (by decide), hv.fixed 12 (by decide), hv.fixed 13 (by decide), hv.fixed 14 (by decide), hv.fixed 15 (by decide), hv.fixed 16 (by decide), hv.fixed 17 (by decide), hv.fixed 18 (by decide), hv.fixed 39 (by decide), hv.fixed 40 (by decide), hv.fixed 41 (by decide), hv.fixed 42 (by decide), hv.fixed 43 (by decide), hv.fixed 44 (by decide), hv.fixed 45 (by decide), hv.fixed 46 (by decide), hv.fixed 47 (by decide), hv.fixed 48 (by decide), hv.fixed 49 (by decide), hv.fixed 50 (by decide), hv.fixed 51 (by decide), hv.fixed 52 (by decide), hv.fixed 53 (by decide), hv.fixed 54 (by decide), hv.fixed 55 (by decide), hv.fixed 56 (by decide), hv.fixed 57 (by decide), hv.fixed 58 (by decide), hv.fixed 59 (by decide), hv.fixed 60 (by decide), hv.fixed 61 (by decide), hv.fixed 62 (by decide), hv.fixed 63 (by decide), hv.fixed 64 (by decide), hv.get 20 (d := 10) rfl rfl (hall 20 (by decide)), hv.get 21 (d := 11) rfl rfl (hall 21 (by decide))] at ha
    rw [ha]
    exact hK _ _ _ _ _ _ _ _ _ _ _ _ _ _ _ _ _ _ _ _ wc HO.out
set_option maxHeartbeats 8000000 in
set_option maxRecDepth 100000 in
theorem mLeft1_any (s : Mv.Sh) (ph : List Int) (F : Nat) (hok : Mv.Ok s) (hpl : ph.length = s.src.length) (hF : F < 2 ^ 40) (v u : Value) (w : World) (hv : RSh w v s) (hu : Rs RI w u ph) :
    Calls Tryd.prog 35 #[v, u, .int .i64 (F : Nat)] w fun e w' => e = .returned (.int .i64 (Mv.left s ph F : Nat)) ∧ Ext w w' := by
  obtain ⟨DA, KA, HA, GA, RA, FA, TA, cD, cK, cH, cG, cR, cF, cT, rfl, hS⟩ := hv.open
  obtain ⟨PA, cP, rfl, hp64⟩ := hu.form
  have hx0 := (Ext.refl w).alloc (.cells #[.slice DA s.disks.length cD, .slice KA s.racks.length cK, .slice HA s.houses.length cH, .int .i64 s.owners, .int .i64 s.d, .slice GA s.gs.length cG, .int .i64 s.gl, .int .i64 s.floor, .slice RA s.room.length cR, .slice FA s.src.length cF, .slice TA s.dst.length cT] 30)
  have HX0 := Lib.hid hx0
  have HS := Lib.hid (hS.ext hx0)
  have HP := Lib.hid (Rs.ext RI.ext _ _ _ _ hx0 hu)
  have hB := BoxAt.new w s DA KA HA GA RA FA TA cD cK cH cG cR cF cT
  have HB := Lib.hid hB
  have HOK := Lib.hid hok
  have HPL := Lib.hid hpl
  have HF := Lib.hid hF
  have h24 : s.src.length ≤ 24 := hok.few
  clear hv hu hS hx0 hB hok hpl hF
  go_enter Tryd.func35, Tryd.ntmps35
  go_wp2_with fail
  go_loopw [7, 14] (fun vs vi wr => ∃ k : Nat, k ≤ ph.length ∧ vi = .int .i64 k ∧ vs = .int .i64 (Mv.leftTo s ph F k : Nat) ∧ Hid (Ext (w.alloc (.cells #[.slice DA s.disks.length cD, .slice KA s.racks.length cK, .slice HA s.houses.length cH, .int .i64 s.owners, .int .i64 s.d, .slice GA s.gs.length cG, .int .i64 s.gl, .int .i64 s.floor, .slice RA s.room.length cR, .slice FA s.src.length cF, .slice TA s.dst.length cT] 30)) wr)) (fun _ vi _ => ph.length - (intOf vi).toNat)
  case atStart => exact ⟨0, Nat.zero_le _, rfl, rfl, Lib.hid (Ext.refl _)⟩
  case round =>
    obtain ⟨k, hk, rfl, rfl, HI⟩ := hrel
    obtain ⟨Sk, hSk⟩ : ∃ Sk, Mv.leftTo s ph F k = Sk := ⟨_, rfl⟩
    have hSl := Mv.leftTo_lt s ph F k
    rw [hSk] at hSl ⊢
    by_cases hlt : k < ph.length
    · have hk24 : k < 24 := by have := HPL.out; omega
      have hS40 : Sk < 2 ^ 40 := Nat.lt_of_lt_of_le hSl (Nat.pow_le_pow_right (by decide) (by omega))
      have hOR := or_pow40 Sk k hS40 (by omega)
      obtain ⟨ap, u, rfl, hcp, hu⟩ := (Rs.ext RI.ext _ _ _ _ HI.out HP.out).at hlt
      obtain ⟨rfl, hlo, hhi⟩ := hu
      have hks : k < s.src.length := by have := HPL.out; omega
      have hkd : k < s.dst.length := by have := HPL.out; have := HOK.out.dstLen; omega
      obtain ⟨af, u1, rfl, hcf, hu1⟩ := (Rs.ext RI.ext _ _ _ _ HI.out HS.out.src).at hks
      obtain ⟨rfl, _, _⟩ := hu1
      obtain ⟨at_, u2, rfl, hct, hu2⟩ := (Rs.ext RI.ext _ _ _ _ HI.out HS.out.dst).at hkd
      obtain ⟨rfl, _, _⟩ := hu2
      have hd0 := HOK.out.src _ (List.getElem_mem hks)
      have hd1 := HOK.out.dst _ (List.getElem_mem hkd)
      obtain ⟨d0, hd0e⟩ : ∃ d0 : Nat, s.src[k] = (d0 : Int) := ⟨(s.src[k]).toNat, by omega⟩
      obtain ⟨d1, hd1e⟩ : ∃ d1 : Nat, s.dst[k] = (d1 : Int) := ⟨(s.dst[k]).toNat, by omega⟩
      rw [hd0e] at hcf hd0
      rw [hd1e] at hct hd1
      have hd0n : d0 < s.disks.length := by omega
      have hd1n : d1 < s.disks.length := by omega
      obtain ⟨ad, u3, eD, hc0, hu3⟩ := (Rs.ext RI.ext _ _ _ _ HI.out HS.out.disks).at hd0n
      subst eD
      obtain ⟨rfl, _, _⟩ := hu3
      obtain ⟨ad', u4, eD, hc1, hu4⟩ := (Rs.ext RI.ext _ _ _ _ HI.out HS.out.disks).at hd1n
      injection eD with eD
      subst eD
      obtain ⟨rfl, _, _⟩ := hu4
      have hr0 := HOK.out.disk _ (List.getElem_mem hd0n)
      have hr1 := HOK.out.disk _ (List.getElem_mem hd1n)
      obtain ⟨r0, hr0e⟩ : ∃ r0 : Nat, s.disks[d0] = (r0 : Int) := ⟨(s.disks[d0]).toNat, by omega⟩
      obtain ⟨r1, hr1e⟩ : ∃ r1 : Nat, s.disks[d1] = (r1 : Int) := ⟨(s.disks[d1]).toNat, by omega⟩
      rw [hr0e] at hc0 hr0
      rw [hr1e] at hc1 hr1
      have hr0m : r0 ≤ 24 := by have := HOK.out.racks; omega
      have hr1m : r1 ≤ 24 := by have := HOK.out.racks; omega
      have hk0 : Mv.rackOf s s.src k = r0 := by
        unfold Mv.rackOf
        rw [getD_get hks, hd0e, Int.toNat_natCast, getD_get hd0n, hr0e, Int.toNat_natCast]
      have hk1 : Mv.rackOf s s.dst k = r1 := by
        unfold Mv.rackOf
        rw [getD_get hkd, hd1e, Int.toNat_natCast, getD_get hd1n, hr1e, Int.toNat_natCast]
      have hgd := getD_get (x := (0 : Int)) hlt
      obtain ⟨p, hp⟩ : ∃ p, ph[k] = p := ⟨_, rfl⟩
      rw [hp] at hcp hgd hlo hhi
      have a0 := (HB.out.ext HI.out).b0
      have a9 := (HB.out.ext HI.out).b9
      have a10 := (HB.out.ext HI.out).b10
      have HGD := Lib.hid hgd
      have HK0 := Lib.hid hk0
      have HK1 := Lib.hid hk1
      clear hp hgd hk0 hk1 hr0e hr1e hd0e hd1e hr0 hr1 hd0 hd1 hlo hhi hSl
      go_wp2_with fail
      refine wp_atEnd' (lf_racks wr w.heap.size k s.disks.length s.src.length s.dst.length cD cF cT d0 d1 r0 r1 ad af at_ hks hkd hd0n hd1n a0 a9 a10 hcf hc0 hct hc1 _ _ _ _ _ _ _ _ _ _ _ _ _ _ _ _ _ _ _ _ _ _ _ _ _ _ _ _ _ _ _ _ _ _ _ _ _ _ _ _ _ _ _ _ _ _ _ _ _ _ _ _ _ _ _ _ _ _ _ _ _ _ _ _ _ ?_)
      intro u19 u20 u21 u22 u23 u24 u25 u26 u27 u28 u29 u30 u31 u32 u33 u34 u35 u36 u37 u38 wx hx
      have HX := Lib.hid hx
      clear hx hcf hct hc0 hc1
      by_cases h2 : p < 2
      · cases ho : F.testBit r0 with
        | false =>
          have eo := bit_off HF.out ho
          have hth : Mv.there s ph F k := Mv.there_yes1 (by rw [HGD.out]; exact h2) (by rw [HK0.out]; exact ho)
          have hst := Mv.leftTo_yes hth
          rw [hSk] at hst
          have HST := Lib.hid (And.intro hOR.1 (And.intro hst hOR.2))
          clear hst hth hOR hSk hS40
          go_wp2_with fail
          clear a0 a9 a10 hcp
          go_roundw
          case rel => exact ⟨k + 1, by omega, by go_num, by rw [HST.out.2.1, HST.out.1], Lib.hid (HI.out.trans HX.out)⟩
          case measure => simp [intOf]; omega
        | true =>
          have eo := bit_on HF.out ho
          by_cases h0 : 0 < p
          · cases hn : F.testBit r1 with
            | false =>
              have en := bit_off HF.out hn
              have hth : Mv.there s ph F k := Mv.there_yes2 (by rw [HGD.out]; exact h0) (by rw [HK1.out]; exact hn)
              have hst := Mv.leftTo_yes hth
              rw [hSk] at hst
              have HST := Lib.hid (And.intro hOR.1 (And.intro hst hOR.2))
              clear hst hth hOR hSk hS40
              go_wp2_with fail
              clear a0 a9 a10 hcp
              go_roundw
              case rel => exact ⟨k + 1, by omega, by go_num, by rw [HST.out.2.1, HST.out.1], Lib.hid (HI.out.trans HX.out)⟩
              case measure => simp [intOf]; omega
            | true =>
              have en := bit_on HF.out hn
              have hth : ¬ Mv.there s ph F k := fun e => by unfold Mv.there at e; rw [HK0.out, HK1.out, ho, hn] at e; simp at e
              have hst := Mv.leftTo_no hth
              rw [hSk] at hst
              have HST := Lib.hid hst
              clear hst hth hOR hSk hS40
              go_wp2_with fail
              clear a0 a9 a10 hcp
              go_roundw
              case rel => exact ⟨k + 1, by omega, by go_num, by rw [HST.out], Lib.hid (HI.out.trans HX.out)⟩
              case measure => simp [intOf]; omega
          · skip
            have hth : ¬ Mv.there s ph F k := fun e => by unfold Mv.there at e; rw [HK0.out, ho, HGD.out] at e; simp at e; omega
            have hst := Mv.leftTo_no hth
            rw [hSk] at hst
            have HST := Lib.hid hst
            clear hst hth hOR hSk hS40
            go_wp2_with fail
            clear a0 a9 a10 hcp
            go_roundw
            case rel => exact ⟨k + 1, by omega, by go_num, by rw [HST.out], Lib.hid (HI.out.trans HX.out)⟩
            case measure => simp [intOf]; omega
      · have h0 : 0 < p := by omega
        cases hn : F.testBit r1 with
        | false =>
          have en := bit_off HF.out hn
          have hth : Mv.there s ph F k := Mv.there_yes2 (by rw [HGD.out]; exact h0) (by rw [HK1.out]; exact hn)
          have hst := Mv.leftTo_yes hth
          rw [hSk] at hst
          have HST := Lib.hid (And.intro hOR.1 (And.intro hst hOR.2))
          clear hst hth hOR hSk hS40
          go_wp2_with fail
          clear a0 a9 a10 hcp
          go_roundw
          case rel => exact ⟨k + 1, by omega, by go_num, by rw [HST.out.2.1, HST.out.1], Lib.hid (HI.out.trans HX.out)⟩
          case measure => simp [intOf]; omega
        | true =>
          have en := bit_on HF.out hn
          have hth : ¬ Mv.there s ph F k := fun e => by unfold Mv.there at e; rw [HK1.out, hn, HGD.out] at e; simp at e; omega
          have hst := Mv.leftTo_no hth
          rw [hSk] at hst
          have HST := Lib.hid hst
          clear hst hth hOR hSk hS40
          go_wp2_with fail
          clear a0 a9 a10 hcp
          go_roundw
          case rel => exact ⟨k + 1, by omega, by go_num, by rw [HST.out], Lib.hid (HI.out.trans HX.out)⟩
          case measure => simp [intOf]; omega
    · obtain rfl : k = ph.length := by omega
      have HE : Hid (Mv.left s ph F = Sk) := Lib.hid hSk
      clear hSk
      go_wp2_with fail
      go_ret
      exact ⟨by rw [HE.out]; rfl, HX0.out.trans HI.out⟩
end Go.Proofs.YtkbiffbmjgmcaaaDoor

/- THE WALK over Left of package moves. -/
namespace Go.Proofs.YtkbiffbmjgmcaaaDoor
open Go.RowKit
set_option maxHeartbeats 8000000 in
set_option maxRecDepth 100000 in
theorem mLeft_any (s : Mv.Sh) (ph rs : List Int) (v u r : Value) (w : World) (hv : RSh w v s) (hu : Rs RI w u ph) (hr : Rs RI w r rs) :
    Calls Tryd.prog 12 #[v, u, r] w fun e w' => e = .returned (.int .i64 (Mv.leftL s ph rs : Nat)) ∧ Ext w w' := by
  obtain ⟨DA, KA, HA, GA, RA, FA, TA, cD, cK, cH, cG, cR, cF, cT, rfl, hS⟩ := hv.open
  obtain ⟨PA, cP, rfl, hp64⟩ := hu.form
  obtain ⟨QA, cQ, rfl, hr64⟩ := hr.form
  have hx0 := (Ext.refl w).alloc (.cells #[.slice DA s.disks.length cD, .slice KA s.racks.length cK, .slice HA s.houses.length cH, .int .i64 s.owners, .int .i64 s.d, .slice GA s.gs.length cG, .int .i64 s.gl, .int .i64 s.floor, .slice RA s.room.length cR, .slice FA s.src.length cF, .slice TA s.dst.length cT] 30)
  have HX0 := Lib.hid hx0
  have HS := Lib.hid (hS.ext hx0)
  have HP := Lib.hid (Rs.ext RI.ext _ _ _ _ hx0 hu)
  have HR := Lib.hid (Rs.ext RI.ext _ _ _ _ hx0 hr)
  have hB := BoxAt.new w s DA KA HA GA RA FA TA cD cK cH cG cR cF cT
  have HB := Lib.hid hB
  have a0 := hB.b0
  have a1 := hB.b1
  have a2 := hB.b2
  have a3 := hB.b3
  have a4 := hB.b4
  have a5 := hB.b5
  have a6 := hB.b6
  have a7 := hB.b7
  have a8 := hB.b8
  have a9 := hB.b9
  have a10 := hB.b10
  clear hv hu hr hS hx0 hB
  go_enter Tryd.func12, Tryd.ntmps12
  go_wp2_with fail
  clear a0 a1 a2 a3 a4 a5 a6 a7 a8 a9 a10
  refine (mRight_any s ph _ _ _ HS.out.sh HP.out).mono ?_
  rintro ee w1 ⟨rfl, hx1⟩
  have HX1 := Lib.hid hx1
  clear hx1
  cases hrt : Mv.right s ph with
  | false =>
    have HE := Lib.hid (Mv.leftL_no (rs := rs) hrt)
    clear hrt
    go_wp2_with fail
    go_ret
    exact ⟨by rw [HE.out]; rfl, HX0.out.trans HX1.out⟩
  | true =>
  have HRT := Lib.hid hrt
  have h24 := (Mv.ok_of (Mv.right_iff.1 hrt).1).racks
  clear hrt
  go_wp2_with fail
  go_loop [7, 16] (fun vf vi => ∃ k : Nat, k ≤ rs.length ∧ vi = .int .i64 k ∧ vf = .int .i64 (Mv.failTo s.racks.length rs k : Nat)) (fun _ vi => rs.length - (intOf vi).toNat)
  case atStart => exact ⟨0, Nat.zero_le _, rfl, rfl⟩
  case round =>
    obtain ⟨k, hk, rfl, rfl⟩ := hrel
    obtain ⟨F, hF⟩ : ∃ F, Mv.failTo s.racks.length rs k = F := ⟨_, rfl⟩
    have hFl := Mv.failTo_lt s.racks.length rs k
    rw [hF] at hFl ⊢
    have hF40 : F < 2 ^ 40 := Nat.lt_of_lt_of_le hFl (Nat.pow_le_pow_right (by decide) (by omega))
    clear hFl
    by_cases hlt : k < rs.length
    · obtain ⟨aq, u, rfl, hcq, hu⟩ := (Rs.ext RI.ext _ _ _ _ HX1.out HR.out).at hlt
      obtain ⟨rfl, hlo, hhi⟩ := hu
      have hgd := getD_get (x := (0 : Int)) hlt
      obtain ⟨y, hy⟩ : ∃ y, rs[k] = y := ⟨_, rfl⟩
      rw [hy] at hcq hgd hlo hhi
      have a1 := (HB.out.ext HX1.out).b1
      have HGD := Lib.hid hgd
      clear hgd hy
      by_cases h0 : 0 ≤ y
      · by_cases h1 : y < (s.racks.length : Int)
        · have hst := Mv.failTo_yes (R := s.racks.length) (rs := rs) (k := k) (by rw [HGD.out]; exact h0) (by rw [HGD.out]; exact h1)
          rw [HGD.out, hF] at hst
          obtain ⟨m, rfl⟩ : ∃ m : Nat, y = (m : Int) := ⟨y.toNat, by omega⟩
          rw [Int.toNat_natCast] at hst
          have hm24 : m ≤ 24 := by omega
          have hOR := or_pow40 F m hF40 (by omega)
          have HST := Lib.hid (And.intro hOR.1 hst)
          clear hst hOR hF hF40 hlo hhi
          go_wp2_with fail
          clear a1 hcq
          go_round
          case rel => exact ⟨k + 1, by omega, by go_num, by rw [HST.out.2, HST.out.1]⟩
          case measure => simp [intOf]; omega
        · have hst := Mv.failTo_no (R := s.racks.length) (rs := rs) (k := k) (by rw [HGD.out]; omega)
          rw [hF] at hst
          have HST := Lib.hid hst
          clear hst hF hF40
          go_wp2_with fail
          clear a1 hcq
          go_round
          case rel => exact ⟨k + 1, by omega, by go_num, by rw [HST.out]⟩
          case measure => simp [intOf]; omega
      · have hst := Mv.failTo_no (R := s.racks.length) (rs := rs) (k := k) (by rw [HGD.out]; omega)
        rw [hF] at hst
        have HST := Lib.hid hst
        clear hst hF hF40
        go_wp2_with fail
        clear a1 hcq
        go_round
        case rel => exact ⟨k + 1, by omega, by go_num, by rw [HST.out]⟩
        case measure => simp [intOf]; omega
    · obtain rfl : k = rs.length := by omega
      have hF2 : Mv.failed s rs = F := hF
      have HF := Lib.hid hF2
      have HF40 := Lib.hid hF40
      have a0 := (HB.out.ext HX1.out).b0
      have a1 := (HB.out.ext HX1.out).b1
      have a2 := (HB.out.ext HX1.out).b2
      have a3 := (HB.out.ext HX1.out).b3
      have a4 := (HB.out.ext HX1.out).b4
      have a5 := (HB.out.ext HX1.out).b5
      have a6 := (HB.out.ext HX1.out).b6
      have a7 := (HB.out.ext HX1.out).b7
      have a8 := (HB.out.ext HX1.out).b8
      have a9 := (HB.out.ext HX1.out).b9
      have a10 := (HB.out.ext HX1.out).b10
      clear hF hF2 hF40
      go_wp2_with fail
      clear a0 a1 a2 a3 a4 a5 a6 a7 a8 a9 a10
      refine (mLeft1_any s ph F (Mv.ok_of (Mv.right_iff.1 HRT.out).1) (Mv.right_iff.1 HRT.out).2.1 HF40.out _ _ w1 (HS.out.ext HX1.out).sh (Rs.ext RI.ext _ _ _ _ HX1.out HP.out)).mono ?_
      rintro ee w2 ⟨rfl, hx2⟩
      have HE : Hid (Mv.leftL s ph rs = Mv.left s ph F) := Lib.hid (by rw [Mv.leftL_yes HRT.out, HF.out])
      have HX2 := Lib.hid ((HX0.out.trans HX1.out).trans hx2)
      clear hx2
      go_wp2_with fail
      go_ret
      exact ⟨by rw [HE.out]; rfl, HX2.out⟩
end Go.Proofs.YtkbiffbmjgmcaaaDoor

/- What the root words reach of other texts. -/
/- THE WALKS over OnesCount, the closure of Least, Clone. -/
namespace Rk
end Rk
namespace Go.Proofs.YtkbiffbmjgmcaaaDoor
open Go.RowKit
theorem info_int : (Tryd.prog.info? 3).map (fun i => (i.zero, i.size, i.bytes)) = some (some (.int .i64 0), 1, 8) := by kernel_rfl
set_option maxRecDepth 100000 in
theorem clone_any (l : List Int) (A : Addr) (c : Nat) (w : World) (hA : Rd w (some A) (l.map (.int .i64))) (hn : 0 < l.length) (hn2 : l.length ≤ 1000) :
    Calls Tryd.prog 42 #[.slice (some A) l.length c] w fun e w' => ∃ g c', e = .returned (.slice (some ⟨g, 0, none⟩) l.length c') ∧ Owns w w' [⟨.slice (some ⟨g, 0, none⟩) l.length c', 3, 1, l.length, l.map (.int .i64)⟩] := by
  have HA := Lib.hid hA
  clear hA
  have hO0 : Owns w (w.alloc (.cells #[] 3)) [⟨.slice (some ⟨w.heap.size, 0, none⟩) 0 0, 3, 1, 0, []⟩] := (Owns.start w (L := [no]) (by intro r hr; simp at hr; subst hr; exact ⟨rfl, rfl, rfl⟩)).new 0 #[] 3 (by simp [maxLen])
  have HO0 := Lib.hid hO0
  clear hO0
  have hnews : ∀ (j : Nat) (u : Value), (l.map (Value.int .i64))[j]? = some u → (w.alloc (.cells #[] 3)).cell? (A.add j) = some u := fun j u hj =>
    (((Ext.refl w).alloc _).cell (HA.out.all (List.getElem?_eq_some_iff.1 hj).1)).trans (by rw [(List.getElem?_eq_some_iff.1 hj).2])
  have hone : ∀ u ∈ l.map (Value.int .i64), u.oneCell' = true := by intro u hu; simp at hu; obtain ⟨b, _, rfl⟩ := hu; rfl
  have HN := Lib.hid (And.intro hnews hone)
  clear hnews hone
  have he : ∀ w : World, (binOp .eql 22 (.slice (some A) l.length c) (.slice none 0 0)).run Tryd.prog w = .ok (.bool false) w := fun _ => rfl
  go_enter Tryd.func42, Tryd.ntmps42
  go_wp2_with (refine wpl_append_all 22 3 rfl (.tmp 5) (.tmp 6) rfl Tryd.underlying22 info_int rfl HO0.out 0 rfl rfl rfl (List.length_map _) HN.out.1 HN.out.2 hn (by omega) (by decide) ?_; intro g1 c1 w3 hO3 _)
  go_ret
  have hO3' : Owns w w3 [⟨.slice (some ⟨g1, 0, none⟩) l.length c1, 3, 1, l.length, l.map (.int .i64)⟩] := by simpa using hO3
  refine ⟨g1, c1, ?_, hO3'⟩
  simp
theorem rs_rdI {w : World} {A : Option Addr} {n c : Nat} {l : List Int} (h : Rs RI w (.slice A n c) l) : Rd w A (l.map (Value.int .i64)) := fun k x hx => by
  rw [List.getElem?_map] at hx
  cases hk : l[k]? with
  | none => rw [hk] at hx; cases hx
  | some y =>
    rw [hk] at hx
    injection hx with hx
    obtain ⟨A', c', e, _, hh⟩ := h
    injection e with e1 _ _
    obtain ⟨ad, u, h1, h2, h3, _⟩ := hh k y hk
    have h4 := lt_of_cell h2
    rw [block_add] at h4
    exact ⟨ad, e1.trans h1, h4, by rw [h2, h3, ← hx]⟩
theorem Rs.of_rdI {w : World} {A : Option Addr} {n c : Nat} {l : List Int} (h : Rd w A (l.map (.int .i64))) (hn : n = l.length) (hl : l.length ≤ 9223372036854775807) (hb : ∀ x ∈ l, -9223372036854775808 ≤ x ∧ x ≤ 9223372036854775807) : Rs RI w (.slice A n c) l := by
  subst hn
  exact ⟨A, c, rfl, hl, fun i x hi => by
    obtain ⟨ad, h1, _, h3⟩ := h i (.int .i64 x) (by rw [List.getElem?_map, hi]; rfl)
    exact ⟨ad, .int .i64 x, h1, h3, rfl, hb x (List.mem_of_getElem? hi)⟩⟩
end Go.Proofs.YtkbiffbmjgmcaaaDoor

/- THE WALKS over fits and Fits of package moves. -/
namespace Go.Proofs.YtkbiffbmjgmcaaaDoor
open Go.RowKit
theorem mNeg_any (a : Int) (w : World) : Calls Tryd.prog 61 #[.int .i64 a] w fun e w' => e = .returned (.bool (decide (a < 0))) ∧ w = w' := by
  by_cases h0 : a < 0
  · have HD := Lib.hid (decide_eq_true h0)
    go_enter Tryd.func61, Tryd.ntmps61
    go_wp2_with fail
    go_ret
    exact ⟨ret_bool HD.out.symm, rfl⟩
  · have HD := Lib.hid (decide_eq_false h0)
    go_enter Tryd.func61, Tryd.ntmps61
    go_wp2_with fail
    go_ret
    exact ⟨ret_bool HD.out.symm, rfl⟩
theorem ent_neg : ∀ args w, (callFunc 61 args).run Tryd.prog w = .ok (.enter 61 args) w := enters_of Tryd.func61 (by kernel_rfl) rfl
set_option maxRecDepth 100000 in
theorem mNegs_any (l : List Int) (A : Option Addr) (k c : Nat) (w : World) (hB : Rs RI w (.slice A k c) l) :
    Calls Tryd.prog 28 #[.slice A k c, .func (.func 61) #[] #[]] w fun e w' => e = .returned (.bool (decide (∃ x ∈ l, x < 0))) ∧ w = w' := by
  refine (sContainsFunc_any l (fun x => decide (x < 0)) A k c 61 #[] w hB ent_neg (fun x => mNeg_any x w)).mono ?_
  rintro e w1 ⟨h1, h2⟩
  refine ⟨h1.trans ?_, h2⟩
  simp only [decide_eq_true_eq]
theorem not_negs (l : List Int) : (!decide (∃ x ∈ l, x < 0)) = l.all fun x => decide (0 ≤ x) := by
  rw [Bool.eq_iff_iff, Bool.not_eq_true', decide_eq_false_iff_not, List.all_eq_true]
  constructor
  · intro h x hx
    exact decide_eq_true (by rcases Int.lt_or_le x 0 with q | q; exact absurd ⟨x, hx, q⟩ h; exact q)
  · rintro h ⟨x, hx, q⟩
    have := of_decide_eq_true (h x hx)
    omega
set_option maxHeartbeats 8000000 in
set_option maxRecDepth 100000 in
theorem mFits1_any (s : Mv.Sh) (ph : List Int) (hok : Mv.Ok s) (hpl : ph.length = s.src.length) (v u : Value) (w : World) (hv : RSh w v s) (hu : Rs RI w u ph) :
    Calls Tryd.prog 41 #[v, u] w fun e w' => e = .returned (.bool (Mv.fits s ph)) ∧ Ext w w' := by
  obtain ⟨DA, KA, HA, GA, RA, FA, TA, cD, cK, cH, cG, cR, cF, cT, rfl, hS⟩ := hv.open
  obtain ⟨PA, cP, rfl, hp64⟩ := hu.form
  have hroom : 0 < s.room.length := by
    have a := hok.srcLen
    have b := Cd.check_ok hok.code
    have h0 : 0 < s.src.length := by omega
    have c := hok.src _ (List.getElem_mem h0)
    rw [hok.roomLen]
    omega
  have hroom2 : s.room.length ≤ 64 := by rw [hok.roomLen]; exact hok.disks
  obtain ⟨ar, _, rfl, _, _⟩ := hS.room.at hroom
  have hx0 := (Ext.refl w).alloc (.cells #[.slice DA s.disks.length cD, .slice KA s.racks.length cK, .slice HA s.houses.length cH, .int .i64 s.owners, .int .i64 s.d, .slice GA s.gs.length cG, .int .i64 s.gl, .int .i64 s.floor, .slice (some ar) s.room.length cR, .slice FA s.src.length cF, .slice TA s.dst.length cT] 30)
  have HX0 := Lib.hid hx0
  have HS := Lib.hid (hS.ext hx0)
  have HP := Lib.hid (Rs.ext RI.ext _ _ _ _ hx0 hu)
  have hB := BoxAt.new w s DA KA HA GA (some ar) FA TA cD cK cH cG cR cF cT
  have HB := Lib.hid hB
  have HOK := Lib.hid hok
  have HPL := Lib.hid hpl
  have a8 := hB.b8
  clear hv hu hS hx0 hB hok hpl
  go_enter Tryd.func41, Tryd.ntmps41
  go_wp2_with fail
  clear a8
  refine (clone_any s.room ar cR _ (rs_rdI HS.out.room) hroom (by omega)).mono ?_
  rintro ee w1 ⟨g, cg, rfl, hO1⟩
  have HO1 := Lib.hid hO1
  clear hO1
  go_wp2_with fail
  go_loopw [15] (fun vi wr => ∃ k : Nat, k ≤ ph.length ∧ vi = .int .i64 k ∧ Hid (Owns (w.alloc (.cells #[.slice DA s.disks.length cD, .slice KA s.racks.length cK, .slice HA s.houses.length cH, .int .i64 s.owners, .int .i64 s.d, .slice GA s.gs.length cG, .int .i64 s.gl, .int .i64 s.floor, .slice (some ar) s.room.length cR, .slice FA s.src.length cF, .slice TA s.dst.length cT] 30)) wr [⟨.slice (some ⟨g, 0, none⟩) s.room.length cg, 3, 1, s.room.length, (Mv.goneTo s ph k).map (Value.int .i64)⟩])) (fun vi _ => ph.length - (intOf vi).toNat)
  case atStart => exact ⟨0, Nat.zero_le _, rfl, by rw [Mv.goneTo_zero]; exact HO1⟩
  case round =>
    obtain ⟨k, hk, rfl, HI⟩ := hrel
    by_cases hlt : k < ph.length
    · have HXI := Lib.hid HI.out.ext
      obtain ⟨ap, u, rfl, hcp, hu⟩ := (Rs.ext RI.ext _ _ _ _ HXI.out HP.out).at hlt
      obtain ⟨rfl, hlo, hhi⟩ := hu
      have hks : k < s.src.length := by have := HPL.out; have := HOK.out.dstLen; omega
      obtain ⟨af, u1, rfl, hcf, hu1⟩ := (Rs.ext RI.ext _ _ _ _ HXI.out HS.out.src).at hks
      obtain ⟨rfl, _, _⟩ := hu1
      have hd0 := HOK.out.src _ (List.getElem_mem hks)
      obtain ⟨d0, hd0e⟩ : ∃ d0 : Nat, s.src[k] = (d0 : Int) := ⟨(s.src[k]).toNat, by omega⟩
      rw [hd0e] at hcf hd0
      have hd0n : d0 < s.room.length := by have := HOK.out.roomLen; omega
      have hgs : s.src.getD k 0 = (d0 : Int) := by rw [getD_get hks]; exact hd0e
      have hgd := getD_get (x := (0 : Int)) hlt
      obtain ⟨p, hp⟩ : ∃ p, ph[k] = p := ⟨_, rfl⟩
      rw [hp] at hcp hgd hlo hhi
      obtain ⟨Rk, hRk⟩ : ∃ Rk, Mv.goneTo s ph k = Rk := ⟨_, rfl⟩
      have hRl : Rk.length = s.room.length := by rw [← hRk]; exact Mv.goneTo_len s ph k
      have hval : Rk.getD d0 0 = s.room.getD d0 0 + Mv.gone s ph (d0 : Int) k := by rw [← hRk]; exact Mv.goneTo_get (Mv.idx_src HOK.out HPL.out) d0 k (by omega)
      rw [hRk] at HI
      obtain ⟨z, hz⟩ : ∃ z, Rk.getD d0 0 = z := ⟨_, rfl⟩
      have hzb : -100 ≤ z ∧ z ≤ 100 := by
        have a := HOK.out.room _ (List.getElem_mem hd0n)
        have b := Mv.gone_le s ph (d0 : Int) k
        have c := Mv.come_le s ph (d0 : Int) k
        have h24 := HOK.out.few
        have hl := HPL.out
        rw [getD_get hd0n] at hval
        omega
      have hzc : (Rk.map (Value.int .i64))[d0]? = some (.int .i64 z) := by
        rw [List.getElem?_map, List.getElem?_eq_getElem (by rw [hRl]; exact hd0n), ← hz, getD_get (by rw [hRl]; exact hd0n)]; rfl
      have c0 := HI.out.cell 0 rfl d0 hzc
      have q0 := HI.out.frozen 0 rfl d0
      have a9 := (HB.out.ext HXI.out).b9
      have hd0i : (d0 : Int) < (s.room.length : Int) := by omega
      have hksi : (k : Int) < (s.src.length : Int) := by omega
      have HGD := Lib.hid (And.intro hgd (And.intro hgs hRk))
      have HZ := Lib.hid hz
      have HZB := Lib.hid hzb
      clear hp hgd hgs hRk hd0e hd0 hval hz hzc hRl hlo hhi
      by_cases hc : p = 2
      · have hst := Mv.goneTo_yes (s := s) (ph := ph) (k := k) (by rw [HGD.out.1]; exact hc)
        rw [HGD.out.2.2, HGD.out.2.1, Int.toNat_natCast, Mv.addAt, HZ.out] at hst
        have HST := Lib.hid hst
        have hw : wrap64 (z + 1) = z + 1 := by have := HZB.out; unfold wrap64; omega
        rw [hc] at hcp
        clear hst
        go_wp2_with fail
        have hO := HI.out.store 0 rfl d0 (.int .i64 (z + 1))
        have HO := Lib.hid hO
        clear hO c0 q0 a9 hcf hcp hw hd0i hksi hzb
        go_roundw
        case rel => exact ⟨k + 1, by omega, by go_num, Lib.hid (by rw [HST.out, List.map_set]; exact HO.out)⟩
        case measure => simp [intOf]; omega
      · have hst := Mv.goneTo_no (s := s) (ph := ph) (k := k) (by rw [HGD.out.1]; exact hc)
        rw [HGD.out.2.2] at hst
        have HST := Lib.hid hst
        have e1 : (p == 2) = false := by rw [beq_eq_false_iff_ne]; exact hc
        clear hst
        go_wp2_with fail
        clear c0 q0 a9 hcf hcp hd0i hksi hzb
        go_roundw
        case rel => exact ⟨k + 1, by omega, by go_num, Lib.hid (by rw [HST.out]; exact HI.out)⟩
        case measure => simp [intOf]; omega
    · obtain rfl : k = ph.length := by omega
      go_wp2_with fail
      have HI1 := Lib.hid HI.out
      clear hk HI hlt
      go_loopw [35] (fun vi wr => ∃ k : Nat, k ≤ ph.length ∧ vi = .int .i64 k ∧ Hid (Owns (w.alloc (.cells #[.slice DA s.disks.length cD, .slice KA s.racks.length cK, .slice HA s.houses.length cH, .int .i64 s.owners, .int .i64 s.d, .slice GA s.gs.length cG, .int .i64 s.gl, .int .i64 s.floor, .slice (some ar) s.room.length cR, .slice FA s.src.length cF, .slice TA s.dst.length cT] 30)) wr [⟨.slice (some ⟨g, 0, none⟩) s.room.length cg, 3, 1, s.room.length, (Mv.comeTo s ph k).map (Value.int .i64)⟩])) (fun vi _ => ph.length - (intOf vi).toNat)
      case atStart => exact ⟨0, Nat.zero_le _, rfl, by rw [Mv.comeTo_zero]; exact HI1⟩
      case round =>
        obtain ⟨k, hk, rfl, HI⟩ := hrel
        by_cases hlt : k < ph.length
        · have HXI := Lib.hid HI.out.ext
          obtain ⟨ap, u, rfl, hcp, hu⟩ := (Rs.ext RI.ext _ _ _ _ HXI.out HP.out).at hlt
          obtain ⟨rfl, hlo, hhi⟩ := hu
          have hks : k < s.dst.length := by have := HPL.out; have := HOK.out.dstLen; omega
          obtain ⟨at_, u1, rfl, hcf, hu1⟩ := (Rs.ext RI.ext _ _ _ _ HXI.out HS.out.dst).at hks
          obtain ⟨rfl, _, _⟩ := hu1
          have hd0 := HOK.out.dst _ (List.getElem_mem hks)
          obtain ⟨d0, hd0e⟩ : ∃ d0 : Nat, s.dst[k] = (d0 : Int) := ⟨(s.dst[k]).toNat, by omega⟩
          rw [hd0e] at hcf hd0
          have hd0n : d0 < s.room.length := by have := HOK.out.roomLen; omega
          have hgs : s.dst.getD k 0 = (d0 : Int) := by rw [getD_get hks]; exact hd0e
          have hgd := getD_get (x := (0 : Int)) hlt
          obtain ⟨p, hp⟩ : ∃ p, ph[k] = p := ⟨_, rfl⟩
          rw [hp] at hcp hgd hlo hhi
          obtain ⟨Rk, hRk⟩ : ∃ Rk, Mv.comeTo s ph k = Rk := ⟨_, rfl⟩
          have hRl : Rk.length = s.room.length := by rw [← hRk]; exact Mv.comeTo_len s ph k
          have hval : Rk.getD d0 0 = s.room.getD d0 0 + Mv.gone s ph (d0 : Int) ph.length - Mv.come s ph (d0 : Int) k := by rw [← hRk]; exact Mv.comeTo_get (Mv.idx_src HOK.out HPL.out) (Mv.idx_dst HOK.out HPL.out) d0 k (by omega)
          rw [hRk] at HI
          obtain ⟨z, hz⟩ : ∃ z, Rk.getD d0 0 = z := ⟨_, rfl⟩
          have hzb : -100 ≤ z ∧ z ≤ 100 := by
            have a := HOK.out.room _ (List.getElem_mem hd0n)
            have b := Mv.gone_le s ph (d0 : Int) ph.length
            have c := Mv.come_le s ph (d0 : Int) k
            have h24 := HOK.out.few
            have hl := HPL.out
            rw [getD_get hd0n] at hval
            omega
          have hzc : (Rk.map (Value.int .i64))[d0]? = some (.int .i64 z) := by
            rw [List.getElem?_map, List.getElem?_eq_getElem (by rw [hRl]; exact hd0n), ← hz, getD_get (by rw [hRl]; exact hd0n)]; rfl
          have c0 := HI.out.cell 0 rfl d0 hzc
          have q0 := HI.out.frozen 0 rfl d0
          have a10 := (HB.out.ext HXI.out).b10
          have hd0i : (d0 : Int) < (s.room.length : Int) := by omega
          have hksi : (k : Int) < (s.dst.length : Int) := by omega
          have HGD := Lib.hid (And.intro hgd (And.intro hgs hRk))
          have HZ := Lib.hid hz
          have HZB := Lib.hid hzb
          clear hp hgd hgs hRk hd0e hd0 hval hz hzc hRl hlo hhi
          by_cases hc : 0 < p
          · have hst := Mv.comeTo_yes (s := s) (ph := ph) (k := k) (by rw [HGD.out.1]; exact hc)
            rw [HGD.out.2.2, HGD.out.2.1, Int.toNat_natCast, Mv.addAt, HZ.out, show z + -1 = z - 1 from rfl] at hst
            have HST := Lib.hid hst
            have hw : wrap64 (z - 1) = z - 1 := by have := HZB.out; unfold wrap64; omega
            skip
            clear hst
            go_wp2_with fail
            have hO := HI.out.store 0 rfl d0 (.int .i64 (z - 1))
            have HO := Lib.hid hO
            clear hO c0 q0 a10 hcf hcp hw hd0i hksi hzb
            go_roundw
            case rel => exact ⟨k + 1, by omega, by go_num, Lib.hid (by rw [HST.out, List.map_set]; exact HO.out)⟩
            case measure => simp [intOf]; omega
          · have hst := Mv.comeTo_no (s := s) (ph := ph) (k := k) (by rw [HGD.out.1]; exact hc)
            rw [HGD.out.2.2] at hst
            have HST := Lib.hid hst
            skip
            clear hst
            go_wp2_with fail
            clear c0 q0 a10 hcf hcp hd0i hksi hzb
            go_roundw
            case rel => exact ⟨k + 1, by omega, by go_num, Lib.hid (by rw [HST.out]; exact HI.out)⟩
            case measure => simp [intOf]; omega
        · obtain rfl : k = ph.length := by omega
          go_wp2_with fail
          have hO := HI.out
          have hcr : Rs RI wr (.slice (some ⟨g, 0, none⟩) s.room.length cg) (Mv.comeTo s ph ph.length) := Rs.of_rdI (hO.rd 0 rfl) (Mv.comeTo_len s ph _).symm (by rw [Mv.comeTo_len]; omega) (fun x hx => by
            obtain ⟨d, hd, rfl⟩ := List.getElem_of_mem hx
            rw [Mv.comeTo_len] at hd
            have e := Mv.comeTo_get (Mv.idx_src HOK.out HPL.out) (Mv.idx_dst HOK.out HPL.out) d ph.length (Nat.le_refl _)
            rw [getD_get (by rw [Mv.comeTo_len]; exact hd), getD_get hd] at e
            have a := HOK.out.room _ (List.getElem_mem hd)
            have b := Mv.gone_le s ph (d : Int) ph.length
            have c := Mv.come_le s ph (d : Int) ph.length
            have h24 := HOK.out.few
            have hl := HPL.out
            omega)
          refine (mNegs_any _ _ _ _ wr hcr).mono ?_
          rintro ee w2 ⟨rfl, rfl⟩
          have hfit := not_negs (Mv.comeTo s ph ph.length)
          have HX := Lib.hid (HX0.out.trans hO.ext)
          clear hO hcr
          cases hb : decide (∃ x ∈ Mv.comeTo s ph ph.length, x < 0) with
          | true =>
            rw [hb] at hfit
            have HE : Hid (Mv.fits s ph = false) := Lib.hid hfit.symm
            clear hb hfit
            go_wp2_with fail
            go_ret
            exact ⟨by rw [HE.out]; rfl, HX.out⟩
          | false =>
            rw [hb] at hfit
            have HE : Hid (Mv.fits s ph = true) := Lib.hid hfit.symm
            clear hb hfit
            go_wp2_with fail
            go_ret
            exact ⟨by rw [HE.out]; rfl, HX.out⟩
end Go.Proofs.YtkbiffbmjgmcaaaDoor

/- THE WALK over failures of package moves. -/
namespace Go.Proofs.YtkbiffbmjgmcaaaDoor
open Go.RowKit
theorem InvO.skip {dsts : List (Option Nat)} {vals : List Value} {a0 a : Act} {L : Nat → Bool} (h : InvO dsts vals a0 L a) (i : Nat) (hd : dsts[i]? = some none) : InvO dsts vals a0 (upd L i) a := by
  refine ⟨h.inv.skip i hd, ?_⟩
  intro j t hj hL
  unfold upd at hL
  split at hL
  · cases hL
  · exact h.old j t hj hL
noncomputable def fl_used_code : Code := ((Tryd.f59.body.bind (regionOf 5)).getD .skip)
def fl_used_dsts : List (Option Nat) := [some 13, some 14, some 15, some 16, some 17, some 18, some 19, some 20, some 21, some 22, some 23, some 24, some 25, some 26, some 27, some 28, some 29, some 30, some 31, some 32, some 33, some 34, some 35, some 36, some 37, none]
theorem fl_used_apart : apartD fl_used_dsts = true := by decide +kernel
set_option maxRecDepth 1000000 in
set_option maxHeartbeats 16000000 in
theorem fl_used (W0 wr : World) (B U k nd nf nt cD cF cT d0 d1 r0 r1 us P0 P1 : Nat) (pd pf pt : Addr) (hkf : k < nf) (hkt : k < nt) (hd0 : d0 < nd) (hd1 : d1 < nd) (hr0 : r0 ≤ 24) (hr1 : r1 ≤ 24) (HW : Hid (IntKind.i64.wrap (2 ^ r0) = (P0 : Int) ∧ IntKind.i64.wrap (2 ^ r1) = (P1 : Int))) (HOR : Hid (bits .or .i64 (P0 : Int) (P1 : Int) = ((P0 ||| P1 : Nat) : Int) ∧ bits .or .i64 ((us : Nat) : Int) ((P0 ||| P1 : Nat) : Int) = ((us ||| (P0 ||| P1)) : Nat))) (b0 : W0.cell? ⟨B, 0, none⟩ = some (.slice (some pd) nd cD)) (b9 : W0.cell? ⟨B, 9, none⟩ = some (.slice (some pf) nf cF)) (b10 : W0.cell? ⟨B, 10, none⟩ = some (.slice (some pt) nt cT)) (e0 : W0.cell? (pf.add k) = some (.int .i64 (d0 : Nat))) (e1 : W0.cell? (pd.add d0) = some (.int .i64 (r0 : Nat))) (g0 : W0.cell? (pt.add k) = some (.int .i64 (d1 : Nat))) (g1 : W0.cell? (pd.add d1) = some (.int .i64 (r1 : Nat))) (HOO : Hid (Owns W0 wr.drew [⟨.slice (some ⟨U, 0, none⟩) 1 1, 3, 1, 1, [.int .i64 (us : Nat)]⟩])) (c0 c1 c3 c4 c7 c8 c9 c10 c11 c12 c13 c14 c15 c16 c17 c18 c19 c20 c21 c22 c23 c24 c25 c26 c27 c28 c29 c30 c31 c32 c33 c34 c35 c36 c37 c38 c39 : Value) (df : List Deferred) (K : Act → World → Prop)
    (hK : ∀  (u13 u14 u15 u16 u17 u18 u19 u20 u21 u22 u23 u24 u25 u26 u27 u28 u29 u30 u31 u32 u33 u34 u35 u36 u37 : Value) (wx : World), Owns W0 wx [⟨.slice (some ⟨U, 0, none⟩) 1 1, 3, 1, 1, [.int .i64 ((us ||| (P0 ||| P1)) : Nat)]⟩] → K ⟨#[c0, c1, .pointer (some ⟨B, 0, none⟩), c3, c4, .pointer (some ⟨U, 0, none⟩), .int .i64 (k : Nat), c7, c8, c9, c10, c11, c12, u13, u14, u15, u16, u17, u18, u19, u20, u21, u22, u23, u24, u25, u26, u27, u28, u29, u30, u31, u32, u33, u34, u35, u36, u37, c38, c39], df⟩ wx) :
    Code.wp Tryd.prog fl_used_code (AtEnd K) ⟨#[c0, c1, .pointer (some ⟨B, 0, none⟩), c3, c4, .pointer (some ⟨U, 0, none⟩), .int .i64 (k : Nat), c7, c8, c9, c10, c11, c12, c13, c14, c15, c16, c17, c18, c19, c20, c21, c22, c23, c24, c25, c26, c27, c28, c29, c30, c31, c32, c33, c34, c35, c36, c37, c38, c39], df⟩ wr := by
  conv => arg 2; whnf
  refine region_inv (by kernel_rfl) [[], [], [1], [2], [], [4], [], [5, 6], [7], [3, 8], [9], [10], [], [12], [13], [], [15], [], [16, 17], [18], [14, 19], [20], [21], [11, 22], [0, 23], [24, 0, 1, 2, 3, 4, 5, 6, 7, 8, 9, 10, 11, 12, 13, 14, 15, 16, 17, 18, 19, 20, 21, 22, 23, 24]] (by kernel_rfl) [0, 1, 2, 3, 4, 5, 6, 7, 8, 9, 10, 11, 12, 13, 14, 15, 16, 17, 18, 19, 20, 21, 22, 23, 24, 25] (by decide +kernel) (by decide +kernel) (by decide +kernel) (fun L a wc => InvO fl_used_dsts [.int .i64 (us : Nat), .pointer (some ⟨B, 0, none⟩), .pointer (some ⟨B, 0, none⟩), .slice (some pd) nd cD, .pointer (some ⟨B, 9, none⟩), .slice (some pf) nf cF, .int .i64 (k : Nat), .pointer (some (pf.add k)), .int .i64 (d0 : Nat), .pointer (some (pd.add d0)), .int .i64 (r0 : Nat), .int .i64 (P0 : Nat), .pointer (some ⟨B, 0, none⟩), .pointer (some ⟨B, 0, none⟩), .slice (some pd) nd cD, .pointer (some ⟨B, 10, none⟩), .slice (some pt) nt cT, .int .i64 (k : Nat), .pointer (some (pt.add k)), .int .i64 (d1 : Nat), .pointer (some (pd.add d1)), .int .i64 (r1 : Nat), .int .i64 (P1 : Nat), .int .i64 ((P0 ||| P1 : Nat) : Int), .int .i64 ((us ||| (P0 ||| P1)) : Nat), undef] ⟨#[c0, c1, .pointer (some ⟨B, 0, none⟩), c3, c4, .pointer (some ⟨U, 0, none⟩), .int .i64 (k : Nat), c7, c8, c9, c10, c11, c12, c13, c14, c15, c16, c17, c18, c19, c20, c21, c22, c23, c24, c25, c26, c27, c28, c29, c30, c31, c32, c33, c34, c35, c36, c37, c38, c39], df⟩ L a ∧ Hid (Owns W0 wc [if L 25 = true then ⟨.slice (some ⟨U, 0, none⟩) 1 1, 3, 1, 1, [.int .i64 ((us ||| (P0 ||| P1)) : Nat)]⟩ else ⟨.slice (some ⟨U, 0, none⟩) 1 1, 3, 1, 1, [.int .i64 (us : Nat)]⟩])) ⟨InvO.start, HOO⟩ ?_ ?_
  · refine ⟨?_, ?_, ?_, ?_, ?_, ?_, ?_, ?_, ?_, ?_, ?_, ?_, ?_, ?_, ?_, ?_, ?_, ?_, ?_, ?_, ?_, ?_, ?_, ?_, ?_, ?_, trivial⟩
    · -- 0 load
      rintro L a wc ⟨hv, HO⟩ hL hc hd
      have n25 : L 25 = false := Bool.eq_false_iff.2 fun h => Bool.false_ne_true (hL.symm.trans (hc 24 (hc 25 h 24 (by decide)) 0 (by decide)))
      have hO := HO.out
      simp only [n25, Bool.false_eq_true, if_false] at hO
      have k1 := hO.cell 0 rfl 0 rfl
      exact wpOp_val rfl rfl (ex_load rfl ((hv.fixed 5 (by decide)).trans rfl) (by go_simp)) ⟨hv.put fl_used_apart 0 rfl (Nat.le_of_ble_eq_true rfl) (Nat.le_of_ble_eq_true rfl) rfl, (Lib.hid (by simpa [upd] using HO.out))⟩
    · -- 1 field
      rintro L a wc ⟨hv, HO⟩ hL hc hd
      exact wpOp_val rfl rfl (ex_field rfl ((hv.fixed 2 (by decide)).trans rfl) (by go_simp)) ⟨hv.put fl_used_apart 1 rfl (Nat.le_of_ble_eq_true rfl) (Nat.le_of_ble_eq_true rfl) rfl, (Lib.hid (by simpa [upd] using HO.out))⟩
    · -- 2 field
      rintro L a wc ⟨hv, HO⟩ hL hc hd
      exact wpOp_val rfl rfl (ex_field rfl (hv.get 1 rfl rfl (hd 1 (by decide))) (by go_simp)) ⟨hv.put fl_used_apart 2 rfl (Nat.le_of_ble_eq_true rfl) (Nat.le_of_ble_eq_true rfl) rfl, (Lib.hid (by simpa [upd] using HO.out))⟩
    · -- 3 load
      rintro L a wc ⟨hv, HO⟩ hL hc hd
      have h0 : wc.cell? ⟨B, 0, none⟩ = some (.slice (some pd) nd cD) := HO.out.ext.cell b0
      exact wpOp_val rfl rfl (ex_load rfl (hv.get 2 rfl rfl (hd 2 (by decide))) (by go_simp)) ⟨hv.put fl_used_apart 3 rfl (Nat.le_of_ble_eq_true rfl) (Nat.le_of_ble_eq_true rfl) rfl, (Lib.hid (by simpa [upd] using HO.out))⟩
    · -- 4 field
      rintro L a wc ⟨hv, HO⟩ hL hc hd
      exact wpOp_val rfl rfl (ex_field rfl ((hv.fixed 2 (by decide)).trans rfl) (by go_simp)) ⟨hv.put fl_used_apart 4 rfl (Nat.le_of_ble_eq_true rfl) (Nat.le_of_ble_eq_true rfl) rfl, (Lib.hid (by simpa [upd] using HO.out))⟩
    · -- 5 load
      rintro L a wc ⟨hv, HO⟩ hL hc hd
      have h1 : wc.cell? ⟨B, 9, none⟩ = some (.slice (some pf) nf cF) := HO.out.ext.cell b9
      exact wpOp_val rfl rfl (ex_load rfl (hv.get 4 rfl rfl (hd 4 (by decide))) (by go_simp)) ⟨hv.put fl_used_apart 5 rfl (Nat.le_of_ble_eq_true rfl) (Nat.le_of_ble_eq_true rfl) rfl, (Lib.hid (by simpa [upd] using HO.out))⟩
    · -- 6 move
      rintro L a wc ⟨hv, HO⟩ hL hc hd
      exact wpOp_val rfl rfl (ex_move rfl ((hv.fixed 6 (by decide)).trans rfl)) ⟨hv.put fl_used_apart 6 rfl (Nat.le_of_ble_eq_true rfl) (Nat.le_of_ble_eq_true rfl) rfl, (Lib.hid (by simpa [upd] using HO.out))⟩
    · -- 7 index
      rintro L a wc ⟨hv, HO⟩ hL hc hd
      have u1 : (0 : Int) ≤ (k : Int) := by omega
      have u2 : (k : Int) < (nf : Int) := by omega
      exact wpOp_val rfl rfl (ex_index rfl (hv.get 5 rfl rfl (hd 5 (by decide))) (hv.get 6 rfl rfl (hd 6 (by decide))) (by go_simp)) ⟨hv.put fl_used_apart 7 rfl (Nat.le_of_ble_eq_true rfl) (Nat.le_of_ble_eq_true rfl) rfl, (Lib.hid (by simpa [upd] using HO.out))⟩
    · -- 8 load
      rintro L a wc ⟨hv, HO⟩ hL hc hd
      have h1 : wc.cell? (pf.add k) = some (.int .i64 (d0 : Nat)) := HO.out.ext.cell e0
      exact wpOp_val rfl rfl (ex_load rfl (hv.get 7 rfl rfl (hd 7 (by decide))) (by go_simp)) ⟨hv.put fl_used_apart 8 rfl (Nat.le_of_ble_eq_true rfl) (Nat.le_of_ble_eq_true rfl) rfl, (Lib.hid (by simpa [upd] using HO.out))⟩
    · -- 9 index
      rintro L a wc ⟨hv, HO⟩ hL hc hd
      have u1 : (0 : Int) ≤ (d0 : Int) := by omega
      have u2 : (d0 : Int) < (nd : Int) := by omega
      exact wpOp_val rfl rfl (ex_index rfl (hv.get 3 rfl rfl (hd 3 (by decide))) (hv.get 8 rfl rfl (hd 8 (by decide))) (by go_simp)) ⟨hv.put fl_used_apart 9 rfl (Nat.le_of_ble_eq_true rfl) (Nat.le_of_ble_eq_true rfl) rfl, (Lib.hid (by simpa [upd] using HO.out))⟩
    · -- 10 load
      rintro L a wc ⟨hv, HO⟩ hL hc hd
      have h1 : wc.cell? (pd.add d0) = some (.int .i64 (r0 : Nat)) := HO.out.ext.cell e1
      exact wpOp_val rfl rfl (ex_load rfl (hv.get 9 rfl rfl (hd 9 (by decide))) (by go_simp)) ⟨hv.put fl_used_apart 10 rfl (Nat.le_of_ble_eq_true rfl) (Nat.le_of_ble_eq_true rfl) rfl, (Lib.hid (by simpa [upd] using HO.out))⟩
    · -- 11 bin
      rintro L a wc ⟨hv, HO⟩ hL hc hd
      have hwp := HW.out.1
      exact wpOp_val rfl rfl (ex_bin rfl rfl (hv.get 10 rfl rfl (hd 10 (by decide))) (by go_simp)) ⟨hv.put fl_used_apart 11 rfl (Nat.le_of_ble_eq_true rfl) (Nat.le_of_ble_eq_true rfl) rfl, (Lib.hid (by simpa [upd] using HO.out))⟩
    · -- 12 field
      rintro L a wc ⟨hv, HO⟩ hL hc hd
      exact wpOp_val rfl rfl (ex_field rfl ((hv.fixed 2 (by decide)).trans rfl) (by go_simp)) ⟨hv.put fl_used_apart 12 rfl (Nat.le_of_ble_eq_true rfl) (Nat.le_of_ble_eq_true rfl) rfl, (Lib.hid (by simpa [upd] using HO.out))⟩
    · -- 13 field
      rintro L a wc ⟨hv, HO⟩ hL hc hd
      exact wpOp_val rfl rfl (ex_field rfl (hv.get 12 rfl rfl (hd 12 (by decide))) (by go_simp)) ⟨hv.put fl_used_apart 13 rfl (Nat.le_of_ble_eq_true rfl) (Nat.le_of_ble_eq_true rfl) rfl, (Lib.hid (by simpa [upd] using HO.out))⟩
    · -- 14 load
      rintro L a wc ⟨hv, HO⟩ hL hc hd
      have h0 : wc.cell? ⟨B, 0, none⟩ = some (.slice (some pd) nd cD) := HO.out.ext.cell b0
      exact wpOp_val rfl rfl (ex_load rfl (hv.get 13 rfl rfl (hd 13 (by decide))) (by go_simp)) ⟨hv.put fl_used_apart 14 rfl (Nat.le_of_ble_eq_true rfl) (Nat.le_of_ble_eq_true rfl) rfl, (Lib.hid (by simpa [upd] using HO.out))⟩
    · -- 15 field
      rintro L a wc ⟨hv, HO⟩ hL hc hd
      exact wpOp_val rfl rfl (ex_field rfl ((hv.fixed 2 (by decide)).trans rfl) (by go_simp)) ⟨hv.put fl_used_apart 15 rfl (Nat.le_of_ble_eq_true rfl) (Nat.le_of_ble_eq_true rfl) rfl, (Lib.hid (by simpa [upd] using HO.out))⟩
    · -- 16 load
      rintro L a wc ⟨hv, HO⟩ hL hc hd
      have h1 : wc.cell? ⟨B, 10, none⟩ = some (.slice (some pt) nt cT) := HO.out.ext.cell b10
      exact wpOp_val rfl rfl (ex_load rfl (hv.get 15 rfl rfl (hd 15 (by decide))) (by go_simp)) ⟨hv.put fl_used_apart 16 rfl (Nat.le_of_ble_eq_true rfl) (Nat.le_of_ble_eq_true rfl) rfl, (Lib.hid (by simpa [upd] using HO.out))⟩
    · -- 17 move
      rintro L a wc ⟨hv, HO⟩ hL hc hd
      exact wpOp_val rfl rfl (ex_move rfl ((hv.fixed 6 (by decide)).trans rfl)) ⟨hv.put fl_used_apart 17 rfl (Nat.le_of_ble_eq_true rfl) (Nat.le_of_ble_eq_true rfl) rfl, (Lib.hid (by simpa [upd] using HO.out))⟩
    · -- 18 index
      rintro L a wc ⟨hv, HO⟩ hL hc hd
      have u1 : (0 : Int) ≤ (k : Int) := by omega
      have u2 : (k : Int) < (nt : Int) := by omega
      exact wpOp_val rfl rfl (ex_index rfl (hv.get 16 rfl rfl (hd 16 (by decide))) (hv.get 17 rfl rfl (hd 17 (by decide))) (by go_simp)) ⟨hv.put fl_used_apart 18 rfl (Nat.le_of_ble_eq_true rfl) (Nat.le_of_ble_eq_true rfl) rfl, (Lib.hid (by simpa [upd] using HO.out))⟩
    · -- 19 load
      rintro L a wc ⟨hv, HO⟩ hL hc hd
      have h1 : wc.cell? (pt.add k) = some (.int .i64 (d1 : Nat)) := HO.out.ext.cell g0
      exact wpOp_val rfl rfl (ex_load rfl (hv.get 18 rfl rfl (hd 18 (by decide))) (by go_simp)) ⟨hv.put fl_used_apart 19 rfl (Nat.le_of_ble_eq_true rfl) (Nat.le_of_ble_eq_true rfl) rfl, (Lib.hid (by simpa [upd] using HO.out))⟩
    · -- 20 index
      rintro L a wc ⟨hv, HO⟩ hL hc hd
      have u1 : (0 : Int) ≤ (d1 : Int) := by omega
      have u2 : (d1 : Int) < (nd : Int) := by omega
      exact wpOp_val rfl rfl (ex_index rfl (hv.get 14 rfl rfl (hd 14 (by decide))) (hv.get 19 rfl rfl (hd 19 (by decide))) (by go_simp)) ⟨hv.put fl_used_apart 20 rfl (Nat.le_of_ble_eq_true rfl) (Nat.le_of_ble_eq_true rfl) rfl, (Lib.hid (by simpa [upd] using HO.out))⟩
    · -- 21 load
      rintro L a wc ⟨hv, HO⟩ hL hc hd
      have h1 : wc.cell? (pd.add d1) = some (.int .i64 (r1 : Nat)) := HO.out.ext.cell g1
      exact wpOp_val rfl rfl (ex_load rfl (hv.get 20 rfl rfl (hd 20 (by decide))) (by go_simp)) ⟨hv.put fl_used_apart 21 rfl (Nat.le_of_ble_eq_true rfl) (Nat.le_of_ble_eq_true rfl) rfl, (Lib.hid (by simpa [upd] using HO.out))⟩
    · -- 22 bin
      rintro L a wc ⟨hv, HO⟩ hL hc hd
      have hwp := HW.out.2
      exact wpOp_val rfl rfl (ex_bin rfl rfl (hv.get 21 rfl rfl (hd 21 (by decide))) (by go_simp)) ⟨hv.put fl_used_apart 22 rfl (Nat.le_of_ble_eq_true rfl) (Nat.le_of_ble_eq_true rfl) rfl, (Lib.hid (by simpa [upd] using HO.out))⟩
    · -- 23 bin
      rintro L a wc ⟨hv, HO⟩ hL hc hd
      have hor := HOR.out.1
      exact wpOp_val rfl rfl (ex_bin rfl (hv.get 11 rfl rfl (hd 11 (by decide))) (hv.get 22 rfl rfl (hd 22 (by decide))) (by go_simp)) ⟨hv.put fl_used_apart 23 rfl (Nat.le_of_ble_eq_true rfl) (Nat.le_of_ble_eq_true rfl) rfl, (Lib.hid (by simpa [upd] using HO.out))⟩
    · -- 24 bin
      rintro L a wc ⟨hv, HO⟩ hL hc hd
      have hor := HOR.out.2
      exact wpOp_val rfl rfl (ex_bin rfl (hv.get 0 rfl rfl (hd 0 (by decide))) (hv.get 23 rfl rfl (hd 23 (by decide))) (by go_simp)) ⟨hv.put fl_used_apart 24 rfl (Nat.le_of_ble_eq_true rfl) (Nat.le_of_ble_eq_true rfl) rfl, (Lib.hid (by simpa [upd] using HO.out))⟩
    · -- 25 store
      rintro L a wc ⟨hv, HO⟩ hL hc hd
      have hO := HO.out
      simp only [hL, Bool.false_eq_true, if_false] at hO
      have k1 := hO.cell 0 rfl 0 rfl
      have q1 := hO.frozen 0 rfl 0
      have hS : Owns W0 (wc.setCell ⟨U, 0, none⟩ (.int .i64 ((us ||| (P0 ||| P1)) : Nat))) [if upd L 25 25 = true then ⟨.slice (some ⟨U, 0, none⟩) 1 1, 3, 1, 1, [.int .i64 ((us ||| (P0 ||| P1)) : Nat)]⟩ else ⟨.slice (some ⟨U, 0, none⟩) 1 1, 3, 1, 1, [.int .i64 (us : Nat)]⟩] := by rw [if_pos (show upd L 25 25 = true from by simp [upd])]; exact hO.store 0 rfl 0 (.int .i64 ((us ||| (P0 ||| P1)) : Nat))
      exact wpOp_skip rfl rfl rfl (ex_store rfl ((hv.fixed 5 (by decide)).trans rfl) (hv.get 24 rfl rfl (hd 24 (by decide))) (by go_simp)) ⟨hv.skip 25 rfl, (Lib.hid hS)⟩
  · rintro L a wc ⟨hv, HO⟩ hall
    show K a wc
    have ha := act_lit a
    rw [hv.size, hv.defers] at ha
    have hl : ∀ f : Nat → Value, ((List.range (⟨#[c0, c1, .pointer (some ⟨B, 0, none⟩), c3, c4, .pointer (some ⟨U, 0, none⟩), .int .i64 (k : Nat), c7, c8, c9, c10, c11, c12, c13, c14, c15, c16, c17, c18, c19, c20, c21, c22, c23, c24, c25, c26, c27, c28, c29, c30, c31, c32, c33, c34, c35, c36, c37, c38, c39], df⟩ : Act).tmps.size).map f).toArray = #[f 0, f 1, f 2, f 3, f 4, f 5, f 6, f 7, f 8, f 9, f 10, f 11, f 12, f 13, f 14, f 15, f 16, f 17, f 18, f 19, f 20, f 21, f 22, f 23, f 24, f 25, f 26, f 27, f 28, f 29, f 30, f 31, f 32, f 33, f 34, f 35, f 36, f 37, f 38, f 39] := fun _ => rfl
    rw [hl] at ha
    simp only [hv.fixed 0 (by decide), hv.fixed 1 (by decide), hv.fixed 2 (by decide), hv.fixed 3 (by decide), hv.fixed 4 (by decide), hv.fixed 5 (by decide), hv.fixed 6 (by decide), hv.fixed 7 (by decide), hv.fixed 8 (by decide), hv.fixed 9 (by decide), hv.fixed 10 (by decide), hv.fixed 11 (by decide), hv.fixed 12 (by decide), hv.fixed 38 (by decide), hv.fixed 39 (by decide)] at ha
    rw [ha]
    have hO := HO.out
    rw [if_pos (hall 25 (by decide))] at hO
    exact hK _ _ _ _ _ _ _ _ _ _ _ _ _ _ _ _ _ _ _ _ _ _ _ _ _ wc hO
end Go.Proofs.YtkbiffbmjgmcaaaDoor

/- THE WALK over failures of package moves. -/
namespace Go.Proofs.YtkbiffbmjgmcaaaDoor
open Go.RowKit
set_option maxHeartbeats 8000000 in
set_option maxRecDepth 100000 in
theorem mFail_any (s : Mv.Sh) (n : Int) (hok : Mv.Ok s) (DA KA HA GA RA FA TA : Option Addr) (cD cK cH cG cR cF cT : Nat) (w : World) (hS : ShAt w s DA KA HA GA RA FA TA cD cK cH cG cR cF cT) :
    Calls Tryd.prog 59 #[.agg #[.slice DA s.disks.length cD, .slice KA s.racks.length cK, .slice HA s.houses.length cH, .int .i64 s.owners, .int .i64 s.d, .slice GA s.gs.length cG, .int .i64 s.gl, .int .i64 s.floor, .slice RA s.room.length cR, .slice FA s.src.length cF, .slice TA s.dst.length cT], .int .i64 n] w fun e w' => e = .returned (.func (.func 72) #[] #[.pointer (some ⟨w.heap.size, 0, none⟩), .pointer (some ⟨w.heap.size + 1 + 1, 0, none⟩), .pointer (some ⟨w.heap.size + 1, 0, none⟩)]) ∧
      BoxAt w' w.heap.size s DA KA HA GA RA FA TA cD cK cH cG cR cF cT ∧ w'.cell? ⟨w.heap.size + 1, 0, none⟩ = some (.int .i64 n) ∧ w'.cell? ⟨w.heap.size + 1 + 1, 0, none⟩ = some (.int .i64 (Mv.usedTo s s.src.length : Nat)) ∧ Ext w w' := by
  have hx0 := ((Ext.refl w).alloc (.cells #[.slice DA s.disks.length cD, .slice KA s.racks.length cK, .slice HA s.houses.length cH, .int .i64 s.owners, .int .i64 s.d, .slice GA s.gs.length cG, .int .i64 s.gl, .int .i64 s.floor, .slice RA s.room.length cR, .slice FA s.src.length cF, .slice TA s.dst.length cT] 30)).alloc (.cells #[.int .i64 n] 3)
  have HX0 := Lib.hid hx0
  have HS := Lib.hid (hS.ext hx0)
  have hB := (BoxAt.new w s DA KA HA GA RA FA TA cD cK cH cG cR cF cT).ext ((Ext.refl _).alloc (.cells #[.int .i64 n] 3))
  have HB := Lib.hid hB
  have HOK := Lib.hid hok
  have hN : ((w.alloc (.cells #[.slice DA s.disks.length cD, .slice KA s.racks.length cK, .slice HA s.houses.length cH, .int .i64 s.owners, .int .i64 s.d, .slice GA s.gs.length cG, .int .i64 s.gl, .int .i64 s.floor, .slice RA s.room.length cR, .slice FA s.src.length cF, .slice TA s.dst.length cT] 30)).alloc (.cells #[.int .i64 n] 3)).cell? ⟨w.heap.size + 1, 0, none⟩ = some (.int .i64 n) := by go_simp
  have HN := Lib.hid hN
  have hsz : ((w.alloc (.cells #[.slice DA s.disks.length cD, .slice KA s.racks.length cK, .slice HA s.houses.length cH, .int .i64 s.owners, .int .i64 s.d, .slice GA s.gs.length cG, .int .i64 s.gl, .int .i64 s.floor, .slice RA s.room.length cR, .slice FA s.src.length cF, .slice TA s.dst.length cT] 30)).alloc (.cells #[.int .i64 n] 3)).heap.size = w.heap.size + 1 + 1 := by simp
  have HSZ := Lib.hid hsz
  have HO0 : Hid (Owns ((w.alloc (.cells #[.slice DA s.disks.length cD, .slice KA s.racks.length cK, .slice HA s.houses.length cH, .int .i64 s.owners, .int .i64 s.d, .slice GA s.gs.length cG, .int .i64 s.gl, .int .i64 s.floor, .slice RA s.room.length cR, .slice FA s.src.length cF, .slice TA s.dst.length cT] 30)).alloc (.cells #[.int .i64 n] 3)) (((w.alloc (.cells #[.slice DA s.disks.length cD, .slice KA s.racks.length cK, .slice HA s.houses.length cH, .int .i64 s.owners, .int .i64 s.d, .slice GA s.gs.length cG, .int .i64 s.gl, .int .i64 s.floor, .slice RA s.room.length cR, .slice FA s.src.length cF, .slice TA s.dst.length cT] 30)).alloc (.cells #[.int .i64 n] 3)).alloc (.cells #[.int .i64 0] 3)) [⟨.slice (some ⟨w.heap.size + 1 + 1, 0, none⟩) 1 1, 3, 1, 1, [.int .i64 (0 : Nat)]⟩]) := Lib.hid (by
    have h := (Owns.start ((w.alloc (.cells #[.slice DA s.disks.length cD, .slice KA s.racks.length cK, .slice HA s.houses.length cH, .int .i64 s.owners, .int .i64 s.d, .slice GA s.gs.length cG, .int .i64 s.gl, .int .i64 s.floor, .slice RA s.room.length cR, .slice FA s.src.length cF, .slice TA s.dst.length cT] 30)).alloc (.cells #[.int .i64 n] 3)) (L := [no]) (by intro r hr; simp at hr; subst hr; exact ⟨rfl, rfl, rfl⟩)).new 0 #[.int .i64 0] 3 (by simp [maxLen])
    rw [HSZ.out] at h
    exact h)
  have h24 := hok.few
  have a9 := (hB.ext ((Ext.refl _).alloc (.cells #[.int .i64 0] 3))).b9
  clear hS hx0 hB hok hN hsz
  go_enter Tryd.func59, Tryd.ntmps59
  go_wp2_with fail
  clear a9
  go_loopw [10] (fun vi wr => ∃ k : Nat, k ≤ s.src.length ∧ vi = .int .i64 k ∧ Hid (Owns ((w.alloc (.cells #[.slice DA s.disks.length cD, .slice KA s.racks.length cK, .slice HA s.houses.length cH, .int .i64 s.owners, .int .i64 s.d, .slice GA s.gs.length cG, .int .i64 s.gl, .int .i64 s.floor, .slice RA s.room.length cR, .slice FA s.src.length cF, .slice TA s.dst.length cT] 30)).alloc (.cells #[.int .i64 n] 3)) wr [⟨.slice (some ⟨w.heap.size + 1 + 1, 0, none⟩) 1 1, 3, 1, 1, [.int .i64 (Mv.usedTo s k : Nat)]⟩])) (fun vi _ => s.src.length - (intOf vi).toNat)
  case atStart => exact ⟨0, Nat.zero_le _, rfl, HO0⟩
  case round =>
    obtain ⟨k, hk, rfl, HI⟩ := hrel
    obtain ⟨uk, huk⟩ : ∃ uk, Mv.usedTo s k = uk := ⟨_, rfl⟩
    have hul := Mv.usedTo_lt s (R := 24) (fun j => by
      have hd : ∀ x : Nat, (s.disks.getD x 0).toNat < 24 := fun x => by
        rw [List.getD_eq_getElem?_getD]
        cases hx : s.disks[x]? with
        | none => show (0 : Int).toNat < 24; decide
        | some y =>
          have a := HOK.out.disk y (List.mem_of_getElem? hx)
          have b := HOK.out.racks
          show y.toNat < 24
          omega
      exact ⟨hd _, hd _⟩) k
    rw [huk] at HI hul
    by_cases hlt : k < s.src.length
    · have hkd : k < s.dst.length := by have := HOK.out.dstLen; omega
      obtain ⟨af, u1, eF, hcf, hu1⟩ := HS.out.src.at hlt
      obtain ⟨rfl, _, _⟩ := hu1
      obtain ⟨at_, u2, eT, hct, hu2⟩ := HS.out.dst.at hkd
      obtain ⟨rfl, _, _⟩ := hu2
      have hd0 := HOK.out.src _ (List.getElem_mem hlt)
      have hd1 := HOK.out.dst _ (List.getElem_mem hkd)
      obtain ⟨d0, hd0e⟩ : ∃ d0 : Nat, s.src[k] = (d0 : Int) := ⟨(s.src[k]).toNat, by omega⟩
      obtain ⟨d1, hd1e⟩ : ∃ d1 : Nat, s.dst[k] = (d1 : Int) := ⟨(s.dst[k]).toNat, by omega⟩
      rw [hd0e] at hcf hd0
      rw [hd1e] at hct hd1
      have hd0n : d0 < s.disks.length := by omega
      have hd1n : d1 < s.disks.length := by omega
      obtain ⟨ad, u3, eD, hc0, hu3⟩ := HS.out.disks.at hd0n
      obtain ⟨rfl, _, _⟩ := hu3
      obtain ⟨ad', u4, eD', hc1, hu4⟩ := HS.out.disks.at hd1n
      obtain ⟨rfl, _, _⟩ := hu4
      have eDD : ad = ad' := by rw [eD] at eD'; injection eD'
      subst eDD
      subst eF eT eD
      have hr0 := HOK.out.disk _ (List.getElem_mem hd0n)
      have hr1 := HOK.out.disk _ (List.getElem_mem hd1n)
      obtain ⟨r0, hr0e⟩ : ∃ r0 : Nat, s.disks[d0] = (r0 : Int) := ⟨(s.disks[d0]).toNat, by omega⟩
      obtain ⟨r1, hr1e⟩ : ∃ r1 : Nat, s.disks[d1] = (r1 : Int) := ⟨(s.disks[d1]).toNat, by omega⟩
      rw [hr0e] at hc0 hr0
      rw [hr1e] at hc1 hr1
      have hr0m : r0 ≤ 24 := by have := HOK.out.racks; omega
      have hr1m : r1 ≤ 24 := by have := HOK.out.racks; omega
      have hk0 : Mv.rackOf s s.src k = r0 := by
        unfold Mv.rackOf
        rw [getD_get hlt, hd0e, Int.toNat_natCast, getD_get hd0n, hr0e, Int.toNat_natCast]
      have hk1 : Mv.rackOf s s.dst k = r1 := by
        unfold Mv.rackOf
        rw [getD_get hkd, hd1e, Int.toNat_natCast, getD_get hd1n, hr1e, Int.toNat_natCast]
      have hst := Mv.usedTo_succ s k
      rw [huk, hk0, hk1] at hst
      obtain ⟨P0, hP0⟩ : ∃ P0, 2 ^ r0 = P0 := ⟨_, rfl⟩
      obtain ⟨P1, hP1⟩ : ∃ P1, 2 ^ r1 = P1 := ⟨_, rfl⟩
      rw [hP0, hP1] at hst
      have HWW : Hid (IntKind.i64.wrap (2 ^ r0) = (P0 : Int) ∧ IntKind.i64.wrap (2 ^ r1) = (P1 : Int)) := Lib.hid (by
        have a := wrap_pow r0 (by omega)
        have b := wrap_pow r1 (by omega)
        rw [hP0] at a
        rw [hP1] at b
        unfold wrap64 at a b
        rw [IntKind.wrap_i64, IntKind.wrap_i64]
        exact ⟨a, b⟩)
      have hb0 : P0 < 2 ^ 25 := by rw [← hP0]; exact Nat.pow_lt_pow_right (by decide) (by omega)
      have hb1 : P1 < 2 ^ 25 := by rw [← hP1]; exact Nat.pow_lt_pow_right (by decide) (by omega)
      have hb2 : P0 ||| P1 < 2 ^ 25 := Nat.or_lt_two_pow hb0 hb1
      have hb3 : uk < 2 ^ 25 := Nat.lt_of_lt_of_le hul (Nat.pow_le_pow_right (by decide) (by decide))
      have HOR : Hid (bits .or .i64 (P0 : Int) (P1 : Int) = ((P0 ||| P1 : Nat) : Int) ∧ bits .or .i64 ((uk : Nat) : Int) ((P0 ||| P1 : Nat) : Int) = ((uk ||| (P0 ||| P1) : Nat) : Int)) := Lib.hid ⟨or64 _ _ (Nat.lt_trans hb0 (by decide)) (Nat.lt_trans hb1 (by decide)), or64 _ _ (Nat.lt_trans hb3 (by decide)) (Nat.lt_trans hb2 (by decide))⟩
      have HST := Lib.hid hst
      clear hst hP0 hP1 hb0 hb1 hb2 hb3 hul huk hk0 hk1 hr0e hr1e hd0e hd1e hr0 hr1 hd0 hd1 eD'
      go_wp2_with fail
      refine wp_atEnd' (fl_used _ wr w.heap.size (w.heap.size + 1 + 1) k s.disks.length s.src.length s.dst.length cD cF cT d0 d1 r0 r1 uk P0 P1 ad af at_ hlt hkd hd0n hd1n hr0m hr1m HWW HOR HB.out.b0 HB.out.b9 HB.out.b10 hcf hc0 hct hc1 (Lib.hid HI.out.drew) _ _ _ _ _ _ _ _ _ _ _ _ _ _ _ _ _ _ _ _ _ _ _ _ _ _ _ _ _ _ _ _ _ _ _ _ _ _ _ ?_)
      intro u13 u14 u15 u16 u17 u18 u19 u20 u21 u22 u23 u24 u25 u26 u27 u28 u29 u30 u31 u32 u33 u34 u35 u36 u37 wx hO
      have HO := Lib.hid hO
      clear hO hcf hc0 hct hc1
      go_wp2_with fail
      go_roundw
      case rel => exact ⟨k + 1, by omega, by go_num, Lib.hid (by rw [HST.out]; exact HO.out)⟩
      case measure => simp [intOf]; omega
    · obtain rfl : k = s.src.length := by omega
      have HE := Lib.hid huk
      clear huk hul
      go_wp2_with fail
      go_ret
      exact ⟨rfl, HB.out.ext HI.out.ext, HI.out.ext.cell HN.out, by rw [HE.out]; exact HI.out.cell 0 rfl 0 rfl, HX0.out.trans HI.out.ext⟩
end Go.Proofs.YtkbiffbmjgmcaaaDoor

/- A REGION THAT DRAWS ITS ORDER, by an invariant (XInv), inside a fence: in the body of a range over a function. -/
namespace Go.Proofs.YtkbiffbmjgmcaaaDoor
open Go.RowKit Go.Shelf
section
variable {F : Fence} {n : Nat} {P : Program} {ops : Array Oper} {Q : Exit → Act → World → Prop} {md : Region.Mode}
theorem wpAnyIn_inv (I : Array Bool → Act → World → Prop)
    (hstep : ∀ listed a w i, I listed a w → i ∈ Region.ready md ops listed → wpOpIn F n P ops Q i (I (listed.setIfInBounds i true)) a w)
    (hend : ∀ listed a w, I listed a w → Region.ready md ops listed = [] → Q .normal a w) :
    ∀ (fuel : Nat) (listed : Array Bool) (a : Act) (w : World), undone listed ≤ fuel → I listed a w → wpAnyIn F n P md ops Q fuel listed a w := by
  have hun : ∀ (listed : Array Bool) (i : Nat), i ∈ Region.ready md ops listed → listed.getD i true = false := fun listed i hi => by
    unfold Region.ready at hi
    have := (List.mem_filter.1 hi).2
    simp only [Bool.and_eq_true, Bool.not_eq_true'] at this
    exact this.1
  intro fuel
  induction fuel with
  | zero =>
    intro listed a w hf hI
    have hr : Region.ready md ops listed = [] := by
      cases h : Region.ready md ops listed with
      | nil => rfl
      | cons i r =>
        exfalso
        have := undone_set (hun listed i (by rw [h]; simp))
        omega
    exact ⟨hr, hend _ _ _ hI hr⟩
  | succ fuel ih =>
    intro listed a w hf hI
    refine ⟨fun hr => hend _ _ _ hI hr, fun i hi => ?_⟩
    have h1 := undone_set (hun listed i hi)
    exact wpOpIn_mono (fun a w h => ih _ a w (by omega) h) (hstep _ _ _ _ hI hi)
def StepOkIn (F : Fence) (n : Nat) (P : Program) (ops : Array Oper) (Q : Exit → Act → World → Prop) (deps : List (List Nat)) (I : (Nat → Bool) → Act → World → Prop) (i : Nat) : Prop :=
  ∀ L a w, I L a w → L i = false → Closed deps L → (∀ j ∈ deps.getD i [], L j = true) → wpOpIn F n P ops Q i (I (upd L i)) a w
def StepsIn' (F : Fence) (n : Nat) (P : Program) (ops : Array Oper) (Q : Exit → Act → World → Prop) (deps : List (List Nat)) (I : (Nat → Bool) → Act → World → Prop) : Nat → Nat → Prop
  | _, 0 => True
  | m, k + 1 => StepOkIn F n P ops Q deps I m ∧ StepsIn' F n P ops Q deps I (m + 1) k
theorem StepsIn'.at {deps : List (List Nat)} {I : (Nat → Bool) → Act → World → Prop} : ∀ {k m i : Nat}, StepsIn' F n P ops Q deps I m k → m ≤ i → i < m + k → StepOkIn F n P ops Q deps I i
  | 0, m, i, _, h1, h2 => by omega
  | k + 1, m, i, h, h1, h2 => by
    by_cases he : i = m
    · rw [he]; exact h.1
    · exact StepsIn'.at h.2 (by omega) (by omega)
theorem region_invIn {id : Nat} {a : Act} {w : World} (hm : P.follows .mixedOrders = true) (deps : List (List Nat)) (hdeps : depsOf ops = deps) (ord : List Nat) (ht : topo deps ord [] = true) (ho : ((List.range deps.length).all fun i => ord.contains i) = true) (ho2 : (ord.all fun i => decide (i < deps.length)) = true)
    (I : (Nat → Bool) → Act → World → Prop) (h0 : I (fun _ => false) a { w with drawn := w.drawn + 1 })
    (hs : StepsIn' F n P ops Q deps I 0 deps.length)
    (hend : ∀ L a w, I L a w → (∀ i, i < deps.length → L i = true) → Q .normal a w) : (Code.region id ops true).wpIn F n P Q a w := by
  refine wpIn_region_any hm ?_
  have hlen : deps.length = ops.size := by rw [← hdeps]; simp [depsOf]
  have hdep : ∀ (i : Nat) (o : Oper), ops[i]? = some o → deps.getD i [] = (o.after.toList.filter (Region.binds .any)).map (·.on) := fun i o hi => by
    rw [← hdeps, depsOf, List.getD_eq_getElem?_getD, List.getElem?_map]
    rw [← Array.getElem?_toList] at hi
    rw [hi]
    rfl
  have hun : undone (Array.replicate ops.size false) ≤ ops.size := by
    unfold undone
    have := List.countP_le_length (p := (· == false)) (l := (Array.replicate ops.size false).toList)
    simpa using this
  refine wpAnyIn_inv (fun listed a w => listed.size = ops.size ∧ Closed deps (fun j => listed.getD j false) ∧ I (fun j => listed.getD j false) a w) ?_ ?_ ops.size _ _ _ hun ?_
  · rintro listed a w i ⟨hsz, hc, hI⟩ hi
    obtain ⟨h1, h2, h3⟩ := ready_spec hi
    have hL : listed.getD i false = false := by
      rw [Array.getD_eq_getD_getElem?] at h2 ⊢
      rw [Array.getElem?_eq_getElem (by omega)] at h2 ⊢
      exact h2
    obtain ⟨o, hoi⟩ : ∃ o, ops[i]? = some o := ⟨_, Array.getElem?_eq_getElem h1⟩
    have hd : ∀ j ∈ deps.getD i [], listed.getD j false = true := fun j hj => by
      rw [hdep i o hoi] at hj
      obtain ⟨e, he, rfl⟩ := List.mem_map.1 hj
      exact h3 o hoi e (by simpa using (List.mem_filter.1 he).1) (List.mem_filter.1 he).2
    have hu : (fun j => (listed.setIfInBounds i true).getD j false) = upd (fun j => listed.getD j false) i := by
      funext j
      unfold upd
      by_cases hji : j = i
      · subst hji
        rw [if_pos rfl, Array.getD_eq_getD_getElem?, Array.getElem?_setIfInBounds_self_of_lt (by omega)]
        rfl
      · rw [if_neg hji]
        exact getD_set_ne false (Ne.symm hji)
    have hstep := StepsIn'.at hs (Nat.zero_le i) (by omega) (fun j => listed.getD j false) a w hI hL hc hd
    refine wpOpIn_mono ?_ hstep
    intro a' w' hI'
    refine ⟨by rw [Array.size_setIfInBounds]; exact hsz, ?_, by rw [hu]; exact hI'⟩
    rw [hu]
    intro k hk j hj
    unfold upd at hk ⊢
    by_cases hki : k = i
    · subst hki
      split
      · rfl
      · exact hd j hj
    · rw [if_neg hki] at hk
      split
      · rfl
      · exact hc k hk j hj
  · rintro listed a w ⟨hsz, hc, hI⟩ hr
    refine hend _ a w hI ?_
    have hall : ∀ i, i < deps.length → (∀ j ∈ deps.getD i [], listed.getD j false = true) → listed.getD i false = true := by
      intro i hi hdi
      by_cases hL : listed.getD i false = true
      · exact hL
      · exfalso
        have hmem : i ∈ Region.ready .any ops listed := by
          rw [mem_ready]
          obtain ⟨o, hoi⟩ : ∃ o, ops[i]? = some o := ⟨_, Array.getElem?_eq_getElem (by omega)⟩
          refine ⟨?_, o, hoi, fun e he hbn => hdi e.on (by rw [hdep i o hoi]; exact List.mem_map.2 ⟨e, List.mem_filter.2 ⟨by simpa using he, hbn⟩, rfl⟩)⟩
          rw [Array.getD_eq_getD_getElem?] at hL ⊢
          rw [Array.getElem?_eq_getElem (by omega)] at hL ⊢
          simpa using hL
        rw [hr] at hmem
        cases hmem
    intro i hi
    refine topo_all (L := fun j => listed.getD j false) hall ord [] ht (fun i hi => by simpa using List.all_eq_true.1 ho2 i hi) (fun j hj => by cases hj) i ?_
    have := List.all_eq_true.1 ho i (by simpa using hi)
    simpa using this
  · refine ⟨by simp, fun i hi => ?_, ?_⟩
    · simp [Array.getElem?_replicate] at hi
      split at hi <;> simp at hi
    · have e : (fun j => (Array.replicate ops.size false).getD j false) = fun _ => false := by
        funext j
        simp [Array.getElem?_replicate]
        split <;> simp
      rw [e]
      exact h0
theorem wpIn_atEnd' {c : Code} {Q : Exit → Act → World → Prop} {a : Act} {w : World} (h : Code.wpIn F n P c (AtEnd fun a w => Q .normal a w) a w) : Code.wpIn F n P c Q a w :=
  Code.wpIn_mono (fun e a w hr => by
    cases e with
    | normal => exact hr
    | _ => exact (hr : False).elim) h
theorem wpOpIn_val {i : Nat} {o : Oper} {a : Act} {w w' : World} {K : Act → World → Prop} {v : Value} (hF : ∀ f, F.fn f) (hi : ops[i]? = some o) (hw : Region.wanted o (yielded ops a.tmps) = true) (hdf : ∀ c, o.op ≠ .defer c) (hr : (execOp a.eval o).run P w = .ok (.value v) w') (hK : K (a.put o.dst v) w') : wpOpIn F n P ops Q i K a w := by
  unfold wpOpIn
  simp only [hi, hw, if_true, Oper.wpIn, Oper.semAt_plain F _ _ hdf, hr, Oper.uponIn]
  exact ⟨fun f _ => hF f, hK⟩
theorem wpOpIn_off {i : Nat} {o : Oper} {a : Act} {w : World} {K : Act → World → Prop} (hF : ∀ f, F.fn f) (hi : ops[i]? = some o) (hw : Region.wanted o (yielded ops a.tmps) = false) (hK : K (a.put o.dst undef) w) : wpOpIn F n P ops Q i K a w := by
  unfold wpOpIn
  simp only [hi, hw]
  exact ⟨fun f _ => hF f, hK⟩
end
end Go.Proofs.YtkbiffbmjgmcaaaDoor

/- THE DRAWN REGION of the closure that calls itself in failures of package moves. -/
namespace Go.Proofs.YtkbiffbmjgmcaaaDoor
open Go.RowKit Go.Shelf
theorem ent_more : ∀ args w, (callFunc 73 args).run Tryd.prog w = .ok (.enter 73 args) w := enters_of Tryd.func73 (by kernel_rfl) rfl
theorem wpOpIn_callw {Fe : Fence} {n : Nat} {P : Program} {ops : Array Oper} {Q : Exit → Act → World → Prop} {i : Nat} {o : Oper} {a : Act} {w w1 : World} {K : Act → World → Prop} {f : FuncId} {args : Array Value} {R : Value → World → Prop} (hF : ∀ f, Fe.fn f) (hD : Fe.depth = none) (hi : ops[i]? = some o) (hw : Region.wanted o (yielded ops a.tmps) = true) (hdf : ∀ c, o.op ≠ .defer c) (hr : (execOp a.eval o).run P w = .ok (.enter f args) w1)
    (h : CallsIn Fe (n - 1) P f args w1 fun e w' => ∃ v, e = .returned v ∧ R v w') (hK : ∀ v w', R v w' → K (a.put o.dst v) w') : wpOpIn Fe n P ops Q i K a w := by
  unfold wpOpIn
  simp only [hi, hw, if_true, Oper.wpIn, Oper.semAt_plain Fe _ _ hdf, hr, Oper.uponIn]
  refine ⟨fun f _ => hF f, ⟨fun hh => absurd hh (by rw [hD]; simp), h.mono ?_⟩⟩
  rintro e w' ⟨v, rfl, hv⟩
  exact hK v w' hv
theorem map3m {a : Act} {x y z : Operand} {u v s : Value} {cap : Array Value} (h : a.eval x = u) (h2 : a.eval y = v) (h3 : a.eval z = s) : #[x, y, z].map a.eval ++ cap = #[u, v, s] ++ cap := by simp [h, h2, h3]
noncomputable def mr_on_code : Code := ((Tryd.f73.body.bind (regionOf 6)).getD .skip)
def mr_on_dsts : List (Option Nat) := [some 29, some 30, some 31, some 32, some 33, some 34, some 35, some 36, some 37, some 38, some 39, some 40, some 41, some 42, some 43, some 44, some 45, some 46]
theorem mr_on_apart : apartD mr_on_dsts = true := by decide +kernel
set_option maxRecDepth 1000000 in
set_option maxHeartbeats 16000000 in
theorem mr_on (R : Bool → World → Prop) (m Y B U M set n r us bb P : Nat) (wr : World) (hr24 : r ≤ 24) (hU : wr.drew.cell? ⟨U, 0, none⟩ = some (.int .i64 (us : Nat))) (HBB : Hid (bits .and .i64 ((us : Int) / 2 ^ r) 1 = (bb : Int))) (HB1 : Hid (((bb : Int) == 1) = true)) (hn : n ≤ 100) (HW : Hid (IntKind.i64.wrap (2 ^ r) = (P : Int))) (HOR : Hid (bits .or .i64 (set : Int) (P : Int) = ((set ||| P : Nat) : Int))) (hM : wr.drew.cell? ⟨M, 0, none⟩ = some (.func (.func 73) #[] #[.pointer (some ⟨Y, 0, none⟩), .pointer (some ⟨B, 0, none⟩), .pointer (some ⟨U, 0, none⟩), .pointer (some ⟨M, 0, none⟩)])) (hy : CallsIn Fence.wide (m - 1) Tryd.prog 73 (#[.int .i64 (set ||| P : Nat), .int .i64 (r + 1 : Nat), .int .i64 (n : Nat)] ++ #[.pointer (some ⟨Y, 0, none⟩), .pointer (some ⟨B, 0, none⟩), .pointer (some ⟨U, 0, none⟩), .pointer (some ⟨M, 0, none⟩)]) wr.drew fun e w' => ∃ v, e = .returned v ∧ ∃ b, v = .bool b ∧ R b w') (c1 c3 c4 c7 c8 c9 c10 c12 c13 c14 c15 c16 c17 c18 c19 c20 c21 c22 c23 c24 c25 c26 c27 c28 c29 c30 c31 c32 c33 c34 c35 c36 c37 c38 c39 c40 c41 c42 c43 c44 c45 c46 : Value) (df : List Deferred) (K : Act → World → Prop)
    (hK : ∀ (b : Bool) (u29 u30 u31 u32 u33 u34 u35 u36 u37 u38 u39 u40 u41 u42 u43 u44 u45 : Value) (wx : World), R b wx → K ⟨#[.int .i64 (set : Nat), c1, .int .i64 (n + 1 : Nat), c3, c4, .pointer (some ⟨U, 0, none⟩), .pointer (some ⟨M, 0, none⟩), c7, c8, c9, c10, .int .i64 (r : Nat), c12, c13, c14, c15, c16, c17, c18, c19, c20, c21, c22, c23, c24, c25, c26, c27, c28, u29, u30, u31, u32, u33, u34, u35, u36, u37, u38, u39, u40, u41, u42, u43, u44, u45, .bool (!b)], df⟩ wx) :
    Code.wpIn Fence.wide m Tryd.prog mr_on_code (AtEnd K) ⟨#[.int .i64 (set : Nat), c1, .int .i64 (n + 1 : Nat), c3, c4, .pointer (some ⟨U, 0, none⟩), .pointer (some ⟨M, 0, none⟩), c7, c8, c9, c10, .int .i64 (r : Nat), c12, c13, c14, c15, c16, c17, c18, c19, c20, c21, c22, c23, c24, c25, c26, c27, c28, c29, c30, c31, c32, c33, c34, c35, c36, c37, c38, c39, c40, c41, c42, c43, c44, c45, c46], df⟩ wr := by
  conv => arg 4; whnf
  refine region_invIn (by kernel_rfl) [[], [], [0, 1], [2], [3], [4], [5], [5], [5], [8, 5], [7, 9, 5], [5], [11, 5], [5], [13, 5], [6, 10, 12, 14, 5, 5], [15, 5], [5, 16]] (by kernel_rfl) [0, 1, 2, 3, 4, 5, 6, 7, 8, 9, 10, 11, 12, 13, 14, 15, 16, 17] (by decide +kernel) (by decide +kernel) (by decide +kernel) (fun L a wc => ∃ (b : Bool), Inv mr_on_dsts [.int .i64 (us : Nat), .int .i64 (r : Nat), .int .i64 ((us : Int) / 2 ^ r), .int .i64 (bb : Nat), .bool true, .bool true, .func (.func 73) #[] #[.pointer (some ⟨Y, 0, none⟩), .pointer (some ⟨B, 0, none⟩), .pointer (some ⟨U, 0, none⟩), .pointer (some ⟨M, 0, none⟩)], .int .i64 (set : Nat), .int .i64 (r : Nat), .int .i64 (P : Nat), .int .i64 (set ||| P : Nat), .int .i64 (r : Nat), .int .i64 (r + 1 : Nat), .int .i64 (n + 1 : Nat), .int .i64 (n : Nat), .bool b, .bool (!b), .bool (!b)] ⟨#[.int .i64 (set : Nat), c1, .int .i64 (n + 1 : Nat), c3, c4, .pointer (some ⟨U, 0, none⟩), .pointer (some ⟨M, 0, none⟩), c7, c8, c9, c10, .int .i64 (r : Nat), c12, c13, c14, c15, c16, c17, c18, c19, c20, c21, c22, c23, c24, c25, c26, c27, c28, c29, c30, c31, c32, c33, c34, c35, c36, c37, c38, c39, c40, c41, c42, c43, c44, c45, c46], df⟩ L a ∧ Hid (if L 15 = true then R b wc else wc = wr.drew)) ⟨false, Inv.start, Lib.hid rfl⟩ ?_ ?_
  · refine ⟨?_, ?_, ?_, ?_, ?_, ?_, ?_, ?_, ?_, ?_, ?_, ?_, ?_, ?_, ?_, ?_, ?_, ?_, trivial⟩
    · -- 0 load
      rintro L a wc ⟨b, hv, HO⟩ hL hc hd
      have n15 : L 15 = false := Bool.eq_false_iff.2 fun h => Bool.false_ne_true (hL.symm.trans (hc 2 (hc 3 (hc 4 (hc 5 (hc 15 h 5 (by decide)) 4 (by decide)) 3 (by decide)) 2 (by decide)) 0 (by decide)))
      have hwc : wc = wr.drew := by have h := HO.out; rw [if_neg (by simp [n15])] at h; exact h
      have eU : wc.cell? ⟨U, 0, none⟩ = some (.int .i64 (us : Nat)) := by rw [hwc]; exact hU
      exact wpOpIn_val (fun _ => trivial) rfl rfl (by intro c h; cases h) (ex_load rfl ((hv.fixed 5 (by decide)).trans rfl) (by go_simp)) ⟨b, hv.put mr_on_apart 0 rfl (Nat.le_of_ble_eq_true rfl) (Nat.le_of_ble_eq_true rfl) rfl, HO⟩
    · -- 1 move
      rintro L a wc ⟨b, hv, HO⟩ hL hc hd
      exact wpOpIn_val (fun _ => trivial) rfl rfl (by intro c h; cases h) (ex_move rfl ((hv.fixed 11 (by decide)).trans rfl)) ⟨b, hv.put mr_on_apart 1 rfl (Nat.le_of_ble_eq_true rfl) (Nat.le_of_ble_eq_true rfl) rfl, HO⟩
    · -- 2 bin
      rintro L a wc ⟨b, hv, HO⟩ hL hc hd
      exact wpOpIn_val (fun _ => trivial) rfl rfl (by intro c h; cases h) (ex_bin rfl (hv.get 0 rfl rfl (hd 0 (by decide))) (hv.get 1 rfl rfl (hd 1 (by decide))) (by go_simp)) ⟨b, hv.put mr_on_apart 2 rfl (Nat.le_of_ble_eq_true rfl) (Nat.le_of_ble_eq_true rfl) rfl, HO⟩
    · -- 3 bin
      rintro L a wc ⟨b, hv, HO⟩ hL hc hd
      have eb := HBB.out
      exact wpOpIn_val (fun _ => trivial) rfl rfl (by intro c h; cases h) (ex_bin rfl (hv.get 2 rfl rfl (hd 2 (by decide))) rfl (by go_simp)) ⟨b, hv.put mr_on_apart 3 rfl (Nat.le_of_ble_eq_true rfl) (Nat.le_of_ble_eq_true rfl) rfl, HO⟩
    · -- 4 bin
      rintro L a wc ⟨b, hv, HO⟩ hL hc hd
      have eb2 := HB1.out
      exact wpOpIn_val (fun _ => trivial) rfl rfl (by intro c h; cases h) (ex_bin rfl (hv.get 3 rfl rfl (hd 3 (by decide))) rfl (by go_simp)) ⟨b, hv.put mr_on_apart 4 rfl (Nat.le_of_ble_eq_true rfl) (Nat.le_of_ble_eq_true rfl) rfl, HO⟩
    · -- 5 move
      rintro L a wc ⟨b, hv, HO⟩ hL hc hd
      exact wpOpIn_val (fun _ => trivial) rfl rfl (by intro c h; cases h) (ex_move rfl (hv.get 4 rfl rfl (hd 4 (by decide)))) ⟨b, hv.put mr_on_apart 5 rfl (Nat.le_of_ble_eq_true rfl) (Nat.le_of_ble_eq_true rfl) rfl, HO⟩
    · -- 6 load
      rintro L a wc ⟨b, hv, HO⟩ hL hc hd
      have n15 : L 15 = false := Bool.eq_false_iff.2 fun h => Bool.false_ne_true (hL.symm.trans (hc 15 h 6 (by decide)))
      have hwc : wc = wr.drew := by have h := HO.out; rw [if_neg (by simp [n15])] at h; exact h
      have eM : wc.cell? ⟨M, 0, none⟩ = some (.func (.func 73) #[] #[.pointer (some ⟨Y, 0, none⟩), .pointer (some ⟨B, 0, none⟩), .pointer (some ⟨U, 0, none⟩), .pointer (some ⟨M, 0, none⟩)]) := by rw [hwc]; exact hM
      exact wpOpIn_val (fun _ => trivial) rfl ((wanted_at rfl rfl (hv.get 5 rfl rfl (hd 5 (by decide)))).trans rfl) (by intro c h; cases h) (ex_load rfl ((hv.fixed 6 (by decide)).trans rfl) (by go_simp)) ⟨b, hv.put mr_on_apart 6 rfl (Nat.le_of_ble_eq_true rfl) (Nat.le_of_ble_eq_true rfl) rfl, HO⟩
    · -- 7 move
      rintro L a wc ⟨b, hv, HO⟩ hL hc hd
      exact wpOpIn_val (fun _ => trivial) rfl ((wanted_at rfl rfl (hv.get 5 rfl rfl (hd 5 (by decide)))).trans rfl) (by intro c h; cases h) (ex_move rfl ((hv.fixed 0 (by decide)).trans rfl)) ⟨b, hv.put mr_on_apart 7 rfl (Nat.le_of_ble_eq_true rfl) (Nat.le_of_ble_eq_true rfl) rfl, HO⟩
    · -- 8 move
      rintro L a wc ⟨b, hv, HO⟩ hL hc hd
      exact wpOpIn_val (fun _ => trivial) rfl ((wanted_at rfl rfl (hv.get 5 rfl rfl (hd 5 (by decide)))).trans rfl) (by intro c h; cases h) (ex_move rfl ((hv.fixed 11 (by decide)).trans rfl)) ⟨b, hv.put mr_on_apart 8 rfl (Nat.le_of_ble_eq_true rfl) (Nat.le_of_ble_eq_true rfl) rfl, HO⟩
    · -- 9 bin
      rintro L a wc ⟨b, hv, HO⟩ hL hc hd
      have hwp := HW.out
      exact wpOpIn_val (fun _ => trivial) rfl ((wanted_at rfl rfl (hv.get 5 rfl rfl (hd 5 (by decide)))).trans rfl) (by intro c h; cases h) (ex_bin rfl rfl (hv.get 8 rfl rfl (hd 8 (by decide))) (by go_simp)) ⟨b, hv.put mr_on_apart 9 rfl (Nat.le_of_ble_eq_true rfl) (Nat.le_of_ble_eq_true rfl) rfl, HO⟩
    · -- 10 bin
      rintro L a wc ⟨b, hv, HO⟩ hL hc hd
      have hor := HOR.out
      exact wpOpIn_val (fun _ => trivial) rfl ((wanted_at rfl rfl (hv.get 5 rfl rfl (hd 5 (by decide)))).trans rfl) (by intro c h; cases h) (ex_bin rfl (hv.get 7 rfl rfl (hd 7 (by decide))) (hv.get 9 rfl rfl (hd 9 (by decide))) (by go_simp)) ⟨b, hv.put mr_on_apart 10 rfl (Nat.le_of_ble_eq_true rfl) (Nat.le_of_ble_eq_true rfl) rfl, HO⟩
    · -- 11 move
      rintro L a wc ⟨b, hv, HO⟩ hL hc hd
      exact wpOpIn_val (fun _ => trivial) rfl ((wanted_at rfl rfl (hv.get 5 rfl rfl (hd 5 (by decide)))).trans rfl) (by intro c h; cases h) (ex_move rfl ((hv.fixed 11 (by decide)).trans rfl)) ⟨b, hv.put mr_on_apart 11 rfl (Nat.le_of_ble_eq_true rfl) (Nat.le_of_ble_eq_true rfl) rfl, HO⟩
    · -- 12 bin
      rintro L a wc ⟨b, hv, HO⟩ hL hc hd
      have hwr : IntKind.i64.wrap ((r : Int) + 1) = (r : Int) + 1 := by rw [IntKind.wrap_i64]; omega
      have hcc : ((r + 1 : Nat) : Int) = (r : Int) + 1 := rfl
      exact wpOpIn_val (fun _ => trivial) rfl ((wanted_at rfl rfl (hv.get 5 rfl rfl (hd 5 (by decide)))).trans rfl) (by intro c h; cases h) (ex_bin rfl (hv.get 11 rfl rfl (hd 11 (by decide))) rfl (by go_simp)) ⟨b, hv.put mr_on_apart 12 rfl (Nat.le_of_ble_eq_true rfl) (Nat.le_of_ble_eq_true rfl) rfl, HO⟩
    · -- 13 move
      rintro L a wc ⟨b, hv, HO⟩ hL hc hd
      exact wpOpIn_val (fun _ => trivial) rfl ((wanted_at rfl rfl (hv.get 5 rfl rfl (hd 5 (by decide)))).trans rfl) (by intro c h; cases h) (ex_move rfl ((hv.fixed 2 (by decide)).trans rfl)) ⟨b, hv.put mr_on_apart 13 rfl (Nat.le_of_ble_eq_true rfl) (Nat.le_of_ble_eq_true rfl) rfl, HO⟩
    · -- 14 bin
      rintro L a wc ⟨b, hv, HO⟩ hL hc hd
      have hwn : IntKind.i64.wrap (n : Int) = (n : Int) := by rw [IntKind.wrap_i64]; omega
      exact wpOpIn_val (fun _ => trivial) rfl ((wanted_at rfl rfl (hv.get 5 rfl rfl (hd 5 (by decide)))).trans rfl) (by intro c h; cases h) (ex_bin rfl (hv.get 13 rfl rfl (hd 13 (by decide))) rfl (by go_simp)) ⟨b, hv.put mr_on_apart 14 rfl (Nat.le_of_ble_eq_true rfl) (Nat.le_of_ble_eq_true rfl) rfl, HO⟩
    · -- 15 lines
      rintro L a wc ⟨b, hv, HO⟩ hL hc hd
      have hwc : wc = wr.drew := by have h := HO.out; rw [if_neg (by simp [hL])] at h; exact h
      subst hwc
      refine wpOpIn_callw (fun _ => trivial) rfl rfl ((wanted_at rfl rfl (hv.get 5 rfl rfl (hd 5 (by decide)))).trans rfl) (by intro c h; cases h) (ex_call rfl (hv.get 6 rfl rfl (hd 6 (by decide))) (map3m (hv.get 10 rfl rfl (hd 10 (by decide))) (hv.get 12 rfl rfl (hd 12 (by decide))) (hv.get 14 rfl rfl (hd 14 (by decide)))) (ent_more _ _)) hy ?_
      rintro v w' ⟨b', rfl, hR⟩
      have n16 : L 16 = false := Bool.eq_false_iff.2 fun h => Bool.false_ne_true (hL.symm.trans (hc 16 h 15 (by decide)))
      have n17 : L 17 = false := Bool.eq_false_iff.2 fun h => Bool.false_ne_true (n16.symm.trans (hc 17 h 16 (by decide)))
      have hv := (hv.reset 16 n16 (.bool (!b'))).reset 17 n17 (.bool (!b'))
      exact ⟨b', hv.put mr_on_apart 15 rfl (Nat.le_of_ble_eq_true rfl) (Nat.le_of_ble_eq_true rfl) rfl, Lib.hid hR⟩
    · -- 16 un
      rintro L a wc ⟨b, hv, HO⟩ hL hc hd
      exact wpOpIn_val (fun _ => trivial) rfl ((wanted_at rfl rfl (hv.get 5 rfl rfl (hd 5 (by decide)))).trans rfl) (by intro c h; cases h) (ex_un rfl (hv.get 15 rfl rfl (hd 15 (by decide))) (by go_simp)) ⟨b, hv.put mr_on_apart 16 rfl (Nat.le_of_ble_eq_true rfl) (Nat.le_of_ble_eq_true rfl) rfl, HO⟩
    · -- 17 pick
      rintro L a wc ⟨b, hv, HO⟩ hL hc hd
      exact wpOpIn_val (fun _ => trivial) rfl rfl (by intro c h; cases h) (ex_pick rfl (hv.get 5 rfl rfl (hd 5 (by decide))) (if_pos rfl |>.trans (hv.get 16 rfl rfl (hd 16 (by decide))))) ⟨b, hv.put mr_on_apart 17 rfl (Nat.le_of_ble_eq_true rfl) (Nat.le_of_ble_eq_true rfl) rfl, HO⟩
  · rintro L a wc ⟨b, hv, HO⟩ hall
    show K a wc
    have ha := act_lit a
    rw [hv.size, hv.defers] at ha
    have hl : ∀ f : Nat → Value, ((List.range (⟨#[.int .i64 (set : Nat), c1, .int .i64 (n + 1 : Nat), c3, c4, .pointer (some ⟨U, 0, none⟩), .pointer (some ⟨M, 0, none⟩), c7, c8, c9, c10, .int .i64 (r : Nat), c12, c13, c14, c15, c16, c17, c18, c19, c20, c21, c22, c23, c24, c25, c26, c27, c28, c29, c30, c31, c32, c33, c34, c35, c36, c37, c38, c39, c40, c41, c42, c43, c44, c45, c46], df⟩ : Act).tmps.size).map f).toArray = #[f 0, f 1, f 2, f 3, f 4, f 5, f 6, f 7, f 8, f 9, f 10, f 11, f 12, f 13, f 14, f 15, f 16, f 17, f 18, f 19, f 20, f 21, f 22, f 23, f 24, f 25, f 26, f 27, f 28, f 29, f 30, f 31, f 32, f 33, f 34, f 35, f 36, f 37, f 38, f 39, f 40, f 41, f 42, f 43, f 44, f 45, f 46] := fun _ => rfl
    rw [hl] at ha
    simp only [hv.fixed 0 (by decide), hv.fixed 1 (by decide), hv.fixed 2 (by decide), hv.fixed 3 (by decide), hv.fixed 4 (by decide), hv.fixed 5 (by decide), hv.fixed 6 (by decide), hv.fixed 7 (by decide), hv.fixed 8 (by decide), hv.fixed 9 (by decide), hv.fixed 10 (by decide), hv.fixed 11 (by decide), hv.fixed 12 (by decide), hv.fixed 13 (by decide), hv.fixed 14 (by decide), hv.fixed 15 (by decide), hv.fixed 16 (by decide), hv.fixed 17 (by decide), hv.fixed 18 (by decide), hv.fixed 19 (by decide), hv.fixed 20 (by decide), hv.fixed 21 (by decide), hv.fixed 22 (by decide), hv.fixed 23 (by decide), hv.fixed 24 (by decide), hv.fixed 25 (by decide), hv.fixed 26 (by decide), hv.fixed 27 (by decide), hv.fixed 28 (by decide), hv.get 17 (d := 46) rfl rfl (hall 17 (by decide))] at ha
    rw [ha]
    have h := HO.out
    rw [if_pos (hall 15 (by decide))] at h
    exact hK b _ _ _ _ _ _ _ _ _ _ _ _ _ _ _ _ _ wc h
noncomputable def mr_off_code : Code := ((Tryd.f73.body.bind (regionOf 6)).getD .skip)
def mr_off_dsts : List (Option Nat) := [some 29, some 30, some 31, some 32, some 33, some 34, some 35, some 36, some 37, some 38, some 39, some 40, some 41, some 42, some 43, some 44, some 45, some 46]
theorem mr_off_apart : apartD mr_off_dsts = true := by decide +kernel
set_option maxRecDepth 1000000 in
set_option maxHeartbeats 16000000 in
theorem mr_off (m U M set n r us bb : Nat) (wr : World) (hr24 : r ≤ 24) (hU : wr.drew.cell? ⟨U, 0, none⟩ = some (.int .i64 (us : Nat))) (HBB : Hid (bits .and .i64 ((us : Int) / 2 ^ r) 1 = (bb : Int))) (HB1 : Hid (((bb : Int) == 1) = false)) (c1 c3 c4 c7 c8 c9 c10 c12 c13 c14 c15 c16 c17 c18 c19 c20 c21 c22 c23 c24 c25 c26 c27 c28 c29 c30 c31 c32 c33 c34 c35 c36 c37 c38 c39 c40 c41 c42 c43 c44 c45 c46 : Value) (df : List Deferred) (K : Act → World → Prop)
    (hK : ∀  (u29 u30 u31 u32 u33 u34 u35 u36 u37 u38 u39 u40 u41 u42 u43 u44 u45 : Value) (wx : World), wx = wr.drew → K ⟨#[.int .i64 (set : Nat), c1, .int .i64 (n + 1 : Nat), c3, c4, .pointer (some ⟨U, 0, none⟩), .pointer (some ⟨M, 0, none⟩), c7, c8, c9, c10, .int .i64 (r : Nat), c12, c13, c14, c15, c16, c17, c18, c19, c20, c21, c22, c23, c24, c25, c26, c27, c28, u29, u30, u31, u32, u33, u34, u35, u36, u37, u38, u39, u40, u41, u42, u43, u44, u45, .bool false], df⟩ wx) :
    Code.wpIn Fence.wide m Tryd.prog mr_off_code (AtEnd K) ⟨#[.int .i64 (set : Nat), c1, .int .i64 (n + 1 : Nat), c3, c4, .pointer (some ⟨U, 0, none⟩), .pointer (some ⟨M, 0, none⟩), c7, c8, c9, c10, .int .i64 (r : Nat), c12, c13, c14, c15, c16, c17, c18, c19, c20, c21, c22, c23, c24, c25, c26, c27, c28, c29, c30, c31, c32, c33, c34, c35, c36, c37, c38, c39, c40, c41, c42, c43, c44, c45, c46], df⟩ wr := by
  conv => arg 4; whnf
  refine region_invIn (by kernel_rfl) [[], [], [0, 1], [2], [3], [4], [5], [5], [5], [8, 5], [7, 9, 5], [5], [11, 5], [5], [13, 5], [6, 10, 12, 14, 5, 5], [15, 5], [5, 16]] (by kernel_rfl) [0, 1, 2, 3, 4, 5, 6, 7, 8, 9, 10, 11, 12, 13, 14, 15, 16, 17] (by decide +kernel) (by decide +kernel) (by decide +kernel) (fun L a wc => Inv mr_off_dsts [.int .i64 (us : Nat), .int .i64 (r : Nat), .int .i64 ((us : Int) / 2 ^ r), .int .i64 (bb : Nat), .bool false, .bool false, undef, undef, undef, undef, undef, undef, undef, undef, undef, undef, undef, .bool false] ⟨#[.int .i64 (set : Nat), c1, .int .i64 (n + 1 : Nat), c3, c4, .pointer (some ⟨U, 0, none⟩), .pointer (some ⟨M, 0, none⟩), c7, c8, c9, c10, .int .i64 (r : Nat), c12, c13, c14, c15, c16, c17, c18, c19, c20, c21, c22, c23, c24, c25, c26, c27, c28, c29, c30, c31, c32, c33, c34, c35, c36, c37, c38, c39, c40, c41, c42, c43, c44, c45, c46], df⟩ L a ∧ Hid (wc = wr.drew)) ⟨Inv.start, Lib.hid rfl⟩ ?_ ?_
  · refine ⟨?_, ?_, ?_, ?_, ?_, ?_, ?_, ?_, ?_, ?_, ?_, ?_, ?_, ?_, ?_, ?_, ?_, ?_, trivial⟩
    · -- 0 load
      rintro L a wc ⟨hv, HO⟩ hL hc hd
      have hwc : wc = wr.drew := HO.out
      have eU : wc.cell? ⟨U, 0, none⟩ = some (.int .i64 (us : Nat)) := by rw [hwc]; exact hU
      exact wpOpIn_val (fun _ => trivial) rfl rfl (by intro c h; cases h) (ex_load rfl ((hv.fixed 5 (by decide)).trans rfl) (by go_simp)) ⟨hv.put mr_off_apart 0 rfl (Nat.le_of_ble_eq_true rfl) (Nat.le_of_ble_eq_true rfl) rfl, HO⟩
    · -- 1 move
      rintro L a wc ⟨hv, HO⟩ hL hc hd
      exact wpOpIn_val (fun _ => trivial) rfl rfl (by intro c h; cases h) (ex_move rfl ((hv.fixed 11 (by decide)).trans rfl)) ⟨hv.put mr_off_apart 1 rfl (Nat.le_of_ble_eq_true rfl) (Nat.le_of_ble_eq_true rfl) rfl, HO⟩
    · -- 2 bin
      rintro L a wc ⟨hv, HO⟩ hL hc hd
      exact wpOpIn_val (fun _ => trivial) rfl rfl (by intro c h; cases h) (ex_bin rfl (hv.get 0 rfl rfl (hd 0 (by decide))) (hv.get 1 rfl rfl (hd 1 (by decide))) (by go_simp)) ⟨hv.put mr_off_apart 2 rfl (Nat.le_of_ble_eq_true rfl) (Nat.le_of_ble_eq_true rfl) rfl, HO⟩
    · -- 3 bin
      rintro L a wc ⟨hv, HO⟩ hL hc hd
      have eb := HBB.out
      exact wpOpIn_val (fun _ => trivial) rfl rfl (by intro c h; cases h) (ex_bin rfl (hv.get 2 rfl rfl (hd 2 (by decide))) rfl (by go_simp)) ⟨hv.put mr_off_apart 3 rfl (Nat.le_of_ble_eq_true rfl) (Nat.le_of_ble_eq_true rfl) rfl, HO⟩
    · -- 4 bin
      rintro L a wc ⟨hv, HO⟩ hL hc hd
      have eb2 := HB1.out
      exact wpOpIn_val (fun _ => trivial) rfl rfl (by intro c h; cases h) (ex_bin rfl (hv.get 3 rfl rfl (hd 3 (by decide))) rfl (by go_simp)) ⟨hv.put mr_off_apart 4 rfl (Nat.le_of_ble_eq_true rfl) (Nat.le_of_ble_eq_true rfl) rfl, HO⟩
    · -- 5 move
      rintro L a wc ⟨hv, HO⟩ hL hc hd
      exact wpOpIn_val (fun _ => trivial) rfl rfl (by intro c h; cases h) (ex_move rfl (hv.get 4 rfl rfl (hd 4 (by decide)))) ⟨hv.put mr_off_apart 5 rfl (Nat.le_of_ble_eq_true rfl) (Nat.le_of_ble_eq_true rfl) rfl, HO⟩
    · -- 6 off
      rintro L a wc ⟨hv, HO⟩ hL hc hd
      exact wpOpIn_off (fun _ => trivial) rfl ((wanted_at rfl rfl (hv.get 5 rfl rfl (hd 5 (by decide)))).trans rfl) ⟨hv.put mr_off_apart 6 rfl (Nat.le_of_ble_eq_true rfl) (Nat.le_of_ble_eq_true rfl) rfl, HO⟩
    · -- 7 off
      rintro L a wc ⟨hv, HO⟩ hL hc hd
      exact wpOpIn_off (fun _ => trivial) rfl ((wanted_at rfl rfl (hv.get 5 rfl rfl (hd 5 (by decide)))).trans rfl) ⟨hv.put mr_off_apart 7 rfl (Nat.le_of_ble_eq_true rfl) (Nat.le_of_ble_eq_true rfl) rfl, HO⟩
    · -- 8 off
      rintro L a wc ⟨hv, HO⟩ hL hc hd
      exact wpOpIn_off (fun _ => trivial) rfl ((wanted_at rfl rfl (hv.get 5 rfl rfl (hd 5 (by decide)))).trans rfl) ⟨hv.put mr_off_apart 8 rfl (Nat.le_of_ble_eq_true rfl) (Nat.le_of_ble_eq_true rfl) rfl, HO⟩
    · -- 9 off
      rintro L a wc ⟨hv, HO⟩ hL hc hd
      exact wpOpIn_off (fun _ => trivial) rfl ((wanted_at rfl rfl (hv.get 5 rfl rfl (hd 5 (by decide)))).trans rfl) ⟨hv.put mr_off_apart 9 rfl (Nat.le_of_ble_eq_true rfl) (Nat.le_of_ble_eq_true rfl) rfl, HO⟩
    · -- 10 off
      rintro L a wc ⟨hv, HO⟩ hL hc hd
      exact wpOpIn_off (fun _ => trivial) rfl ((wanted_at rfl rfl (hv.get 5 rfl rfl (hd 5 (by decide)))).trans rfl) ⟨hv.put mr_off_apart 10 rfl (Nat.le_of_ble_eq_true rfl) (Nat.le_of_ble_eq_true rfl) rfl, HO⟩
    · -- 11 off
      rintro L a wc ⟨hv, HO⟩ hL hc hd
      exact wpOpIn_off (fun _ => trivial) rfl ((wanted_at rfl rfl (hv.get 5 rfl rfl (hd 5 (by decide)))).trans rfl) ⟨hv.put mr_off_apart 11 rfl (Nat.le_of_ble_eq_true rfl) (Nat.le_of_ble_eq_true rfl) rfl, HO⟩
    · -- 12 off
      rintro L a wc ⟨hv, HO⟩ hL hc hd
      exact wpOpIn_off (fun _ => trivial) rfl ((wanted_at rfl rfl (hv.get 5 rfl rfl (hd 5 (by decide)))).trans rfl) ⟨hv.put mr_off_apart 12 rfl (Nat.le_of_ble_eq_true rfl) (Nat.le_of_ble_eq_true rfl) rfl, HO⟩
    · -- 13 off
      rintro L a wc ⟨hv, HO⟩ hL hc hd
      exact wpOpIn_off (fun _ => trivial) rfl ((wanted_at rfl rfl (hv.get 5 rfl rfl (hd 5 (by decide)))).trans rfl) ⟨hv.put mr_off_apart 13 rfl (Nat.le_of_ble_eq_true rfl) (Nat.le_of_ble_eq_true rfl) rfl, HO⟩
    · -- 14 off
      rintro L a wc ⟨hv, HO⟩ hL hc hd
      exact wpOpIn_off (fun _ => trivial) rfl ((wanted_at rfl rfl (hv.get 5 rfl rfl (hd 5 (by decide)))).trans rfl) ⟨hv.put mr_off_apart 14 rfl (Nat.le_of_ble_eq_true rfl) (Nat.le_of_ble_eq_true rfl) rfl, HO⟩
    · -- 15 off
      rintro L a wc ⟨hv, HO⟩ hL hc hd
      exact wpOpIn_off (fun _ => trivial) rfl ((wanted_at rfl rfl (hv.get 5 rfl rfl (hd 5 (by decide)))).trans rfl) ⟨hv.put mr_off_apart 15 rfl (Nat.le_of_ble_eq_true rfl) (Nat.le_of_ble_eq_true rfl) rfl, HO⟩
    · -- 16 off
      rintro L a wc ⟨hv, HO⟩ hL hc hd
      exact wpOpIn_off (fun _ => trivial) rfl ((wanted_at rfl rfl (hv.get 5 rfl rfl (hd 5 (by decide)))).trans rfl) ⟨hv.put mr_off_apart 16 rfl (Nat.le_of_ble_eq_true rfl) (Nat.le_of_ble_eq_true rfl) rfl, HO⟩
    · -- 17 pick
      rintro L a wc ⟨hv, HO⟩ hL hc hd
      exact wpOpIn_val (fun _ => trivial) rfl rfl (by intro c h; cases h) (ex_pick rfl (hv.get 5 rfl rfl (hd 5 (by decide))) rfl) ⟨hv.put mr_off_apart 17 rfl (Nat.le_of_ble_eq_true rfl) (Nat.le_of_ble_eq_true rfl) rfl, HO⟩
  · rintro L a wc ⟨hv, HO⟩ hall
    show K a wc
    have ha := act_lit a
    rw [hv.size, hv.defers] at ha
    have hl : ∀ f : Nat → Value, ((List.range (⟨#[.int .i64 (set : Nat), c1, .int .i64 (n + 1 : Nat), c3, c4, .pointer (some ⟨U, 0, none⟩), .pointer (some ⟨M, 0, none⟩), c7, c8, c9, c10, .int .i64 (r : Nat), c12, c13, c14, c15, c16, c17, c18, c19, c20, c21, c22, c23, c24, c25, c26, c27, c28, c29, c30, c31, c32, c33, c34, c35, c36, c37, c38, c39, c40, c41, c42, c43, c44, c45, c46], df⟩ : Act).tmps.size).map f).toArray = #[f 0, f 1, f 2, f 3, f 4, f 5, f 6, f 7, f 8, f 9, f 10, f 11, f 12, f 13, f 14, f 15, f 16, f 17, f 18, f 19, f 20, f 21, f 22, f 23, f 24, f 25, f 26, f 27, f 28, f 29, f 30, f 31, f 32, f 33, f 34, f 35, f 36, f 37, f 38, f 39, f 40, f 41, f 42, f 43, f 44, f 45, f 46] := fun _ => rfl
    rw [hl] at ha
    simp only [hv.fixed 0 (by decide), hv.fixed 1 (by decide), hv.fixed 2 (by decide), hv.fixed 3 (by decide), hv.fixed 4 (by decide), hv.fixed 5 (by decide), hv.fixed 6 (by decide), hv.fixed 7 (by decide), hv.fixed 8 (by decide), hv.fixed 9 (by decide), hv.fixed 10 (by decide), hv.fixed 11 (by decide), hv.fixed 12 (by decide), hv.fixed 13 (by decide), hv.fixed 14 (by decide), hv.fixed 15 (by decide), hv.fixed 16 (by decide), hv.fixed 17 (by decide), hv.fixed 18 (by decide), hv.fixed 19 (by decide), hv.fixed 20 (by decide), hv.fixed 21 (by decide), hv.fixed 22 (by decide), hv.fixed 23 (by decide), hv.fixed 24 (by decide), hv.fixed 25 (by decide), hv.fixed 26 (by decide), hv.fixed 27 (by decide), hv.fixed 28 (by decide), hv.get 17 (d := 46) rfl rfl (hall 17 (by decide))] at ha
    rw [ha]
    exact hK _ _ _ _ _ _ _ _ _ _ _ _ _ _ _ _ _ wc HO.out
end Go.Proofs.YtkbiffbmjgmcaaaDoor

/- THE WALK over the closure that calls itself in failures of package moves. -/
namespace Go.Proofs.YtkbiffbmjgmcaaaDoor
open Go.RowKit Go.Shelf
attribute [local go_sem] Oper.semAt_some
abbrev FN := { x : Nat // x < 2 ^ 40 }
def encF (x : FN) : Array Value := #[.int .i64 x.1]
/-- What lies in cells stays. -/
def KeepsC (A B : World) : Prop := ∀ (a : Addr) (v : Value), A.cell? a = some v → B.cell? a = some v
theorem KeepsC.refl (A : World) : KeepsC A A := fun _ _ h => h
theorem KeepsC.trans {A B C : World} (h : KeepsC A B) (k : KeepsC B C) : KeepsC A C := fun a v e => k a v (h a v e)
theorem KeepsC.of_ext {A B : World} (h : Ext A B) : KeepsC A B := fun _ _ e => h.cell e
theorem YieldAt.anyDepth {m : Nat} (m' : Nat) {P : Program} {l : Nat} {args : Array Value} {W : World} {R : Ending → World → Prop} (h : YieldAt Fence.wide m P l args W R) : YieldAt Fence.wide m' P l args W R := by
  obtain ⟨fn, tmps, assign, body, hy, hR⟩ := h
  exact ⟨fn, tmps, assign, body, hy, hR.1, fun c cs _ => hR.2 c cs (fun d h => by cases h)⟩
/-- The cells that the closure reads. -/
structure MoreAt (W : World) (l Y B U M us R : Nat) (KA : Option Addr) (cK : Nat) : Prop where
  y : W.cell? ⟨Y, 0, none⟩ = some (.func (.yield l) #[] #[])
  b : W.cell? ⟨B, 1, none⟩ = some (.slice KA R cK)
  u : W.cell? ⟨U, 0, none⟩ = some (.int .i64 (us : Nat))
  m : W.cell? ⟨M, 0, none⟩ = some (.func (.func 73) #[] #[.pointer (some ⟨Y, 0, none⟩), .pointer (some ⟨B, 0, none⟩), .pointer (some ⟨U, 0, none⟩), .pointer (some ⟨M, 0, none⟩)])
theorem MoreAt.keep {W W' : World} {l Y B U M us R : Nat} {KA : Option Addr} {cK : Nat} (h : MoreAt W l Y B U M us R KA cK) (k : KeepsC W W') : MoreAt W' l Y B U M us R KA cK := ⟨k _ _ h.y, k _ _ h.b, k _ _ h.u, k _ _ h.m⟩
/-- What the closure returns. -/
def MoreOut (J Jx : List FN → World → Prop) (pre : List FN) (L : List Nat) (W : World) (b : Bool) (W' : World) : Prop :=
  (b = true ∧ ∃ q : List FN, q.map (·.1) = L ∧ J (pre ++ q) W' ∧ KeepsC W W') ∨ (b = false ∧ ∃ q : List FN, q.map (·.1) <+: L ∧ Jx (pre ++ q) W')
set_option maxHeartbeats 8000000 in
set_option maxRecDepth 100000 in
theorem mMore_in (l N : Nat) (J Jx : List FN → World → Prop) (hJd : ∀ pre W, J pre W → J pre W.drew) (Y B U M R us : Nat) (KA : Option Addr) (cK : Nat) (hR : R ≤ 24) (hus : us < 2 ^ 40)
    (hY : ∀ m pre x W, J pre W → pre.length < N → YieldAt Fence.wide m Tryd.prog l (encF x) W fun e W' => (e = .returned (.bool true) ∧ J (pre ++ [x]) W' ∧ KeepsC W W') ∨ (e = .returned (.bool false) ∧ Jx (pre ++ [x]) W')) :
    ∀ (n m set r : Nat) (pre : List FN) (W : World), n ≤ 100 → set < 2 ^ R → r ≤ R → MoreAt W l Y B U M us R KA cK → J pre W → pre.length + (Mv.fails us R n set r).length ≤ N →
      CallsIn Fence.wide m Tryd.prog 73 (#[.int .i64 (set : Nat), .int .i64 (r : Nat), .int .i64 (n : Nat)] ++ #[.pointer (some ⟨Y, 0, none⟩), .pointer (some ⟨B, 0, none⟩), .pointer (some ⟨U, 0, none⟩), .pointer (some ⟨M, 0, none⟩)]) W fun e W' => ∃ v, e = .returned v ∧ ∃ b, v = .bool b ∧ MoreOut J Jx pre (Mv.fails us R n set r) W b W'
  | 0, m, set, r, pre, W, _, hset, hr, hM, hJ, hN => by
    have h40 : set < 2 ^ 40 := Nat.lt_of_lt_of_le hset (Nat.pow_le_pow_right (by decide) (by omega))
    have hy := hY (m - 1) pre ⟨set, h40⟩ W hJ (by simp [Mv.fails] at hN; omega)
    obtain ⟨fn, tmps, assign, body, hyy, hRR⟩ := hy
    have m1 := hM.y
    unfold encF at hyy
    dsimp only at hyy
    have HR := Lib.hid hRR
    clear hRR hM hJ hY hJd
    refine callsIn_of_wp Tryd.func73 rfl trivial ?_ rfl
    simp only [Tryd.ntmps73, List.size_toArray, List.length_cons, List.length_nil, Nat.reduceAdd, Nat.reduceSub, Array.replicate_succ, Array.replicate_zero, List.push_toArray, List.append_toArray, List.nil_append, List.cons_append]
    gi_wp2
    refine ⟨fun h => (by cases h), HR.out.mono ?_⟩
    rintro e W1 (⟨rfl, hJ1, hk1⟩ | ⟨rfl, hx1⟩)
    · have HJ1 := Lib.hid (And.intro hJ1 hk1)
      clear hJ1 hk1 m1 hyy
      gi_wp2
      gi_loopw [11] (fun vr wr => vr = .int .i64 (r : Nat) ∧ Hid (W1 = wr)) (fun _ _ => 0)
      case atStart => exact ⟨rfl, Lib.hid rfl⟩
      case round =>
        obtain ⟨rfl, HW⟩ := hrel
        gi_wp2
        go_ret
        refine ⟨_, rfl, true, rfl, .inl ⟨rfl, [⟨set, h40⟩], rfl, ?_, ?_⟩⟩
        · rw [← HW.out]; exact HJ1.out.1
        · rw [← HW.out]; exact HJ1.out.2
    · have HX := Lib.hid hx1
      clear hx1 m1 hyy
      gi_wp2
      go_ret
      exact ⟨_, rfl, false, rfl, .inr ⟨rfl, [⟨set, h40⟩], List.prefix_refl _, HX.out⟩⟩
  | n + 1, m, set, r, pre, W, hn, hset, hr, hM, hJ, hN => by
    have IH := Lib.hid (mMore_in l N J Jx hJd Y B U M R us KA cK hR hus hY n)
    have h40 : set < 2 ^ 40 := Nat.lt_of_lt_of_le hset (Nat.pow_le_pow_right (by decide) (by omega))
    have hN1 : pre.length + (1 + (Mv.failsR (Mv.fails us R n) us R set (R - r)).length) ≤ N := by
      rw [Mv.fails, List.length_cons] at hN; omega
    have hy := hY (m - 1) pre ⟨set, h40⟩ W hJ (by omega)
    obtain ⟨fn, tmps, assign, body, hyy, hRR⟩ := hy
    have m1 := hM.y
    unfold encF at hyy
    dsimp only at hyy
    have HR := Lib.hid hRR
    have HM := Lib.hid hM
    have HJD := Lib.hid hJd
    have HN1 := Lib.hid hN1
    obtain ⟨LR, hLR⟩ : ∃ LR, Mv.failsR (Mv.fails us R n) us R set (R - r) = LR := ⟨_, rfl⟩
    have HLR := Lib.hid hLR
    clear hRR hM hJ hY hJd hN hN1 hLR
    refine callsIn_of_wp Tryd.func73 rfl trivial ?_ rfl
    simp only [Tryd.ntmps73, List.size_toArray, List.length_cons, List.length_nil, Nat.reduceAdd, Nat.reduceSub, Array.replicate_succ, Array.replicate_zero, List.push_toArray, List.append_toArray, List.nil_append, List.cons_append]
    gi_wp2
    refine ⟨fun h => (by cases h), HR.out.mono ?_⟩
    rintro e W1 (⟨rfl, hJ1, hk1⟩ | ⟨rfl, hx1⟩)
    case inr =>
      have HX := Lib.hid hx1
      clear hx1 m1 hyy
      gi_wp2
      go_ret
      exact ⟨_, rfl, false, rfl, .inr ⟨rfl, [⟨set, h40⟩], by rw [Mv.fails]; exact ⟨_, rfl⟩, HX.out⟩⟩
    case inl =>
    have HJ1 := Lib.hid (And.intro hJ1 hk1)
    clear hJ1 hk1 m1 hyy
    gi_wp2
    gi_loopw [11] (fun vr wr => ∃ (k : Nat) (q : List FN), r ≤ k ∧ k ≤ R ∧ vr = .int .i64 (k : Nat) ∧ Hid (q.map (·.1) ++ Mv.failsR (Mv.fails us R n) us R set (R - k) = LR ∧ J (pre ++ (⟨set, h40⟩ :: q)) wr ∧ KeepsC W wr)) (fun vr _ => R - (intOf vr).toNat)
    case atStart => exact ⟨r, [], Nat.le_refl _, hr, rfl, Lib.hid ⟨by rw [HLR.out]; rfl, HJ1.out.1, HJ1.out.2⟩⟩
    case round =>
      obtain ⟨k, q, hrk, hkR, rfl, HI⟩ := hrel
      have hm := HM.out.keep HI.out.2.2
      have mb := hm.b
      have hn0 : (0 : Int) < ((n + 1 : Nat) : Int) := by omega
      by_cases hlt : k < R
      · have hkI : (k : Int) < (R : Int) := by omega
        have hst : Mv.failsR (Mv.fails us R n) us R set (R - k) = (if us.testBit k = true then Mv.fails us R n (set ||| 2 ^ k) (k + 1) else []) ++ Mv.failsR (Mv.fails us R n) us R set (R - (k + 1)) := by
          obtain ⟨j, hj⟩ : ∃ j, R - k = j + 1 := ⟨R - k - 1, by omega⟩
          rw [hj, Mv.failsR, show R - (j + 1) = k by omega, show R - (k + 1) = j by omega]
        have hmd : MoreAt wr.drew l Y B U M us R KA cK := hm.keep (KeepsC.of_ext ((Ext.refl wr).drew))
        have hJw := HJD.out _ wr HI.out.2.1
        have HST := Lib.hid hst
        have HMD := Lib.hid hmd
        have HJW := Lib.hid hJw
        clear hst hmd hJw hm
        cases hbit : us.testBit k with
        | true =>
          have hb1 : us / 2 ^ k % 2 = 1 := by rw [Nat.testBit_eq_decide_div_mod_eq, decide_eq_true_eq] at hbit; exact hbit
          have HBB : Hid (bits .and .i64 ((us : Int) / 2 ^ k) 1 = ((1 : Nat) : Int)) := Lib.hid (by rw [bit_int us k hus, hb1])
          have HST2 : Hid (Mv.failsR (Mv.fails us R n) us R set (R - k) = Mv.fails us R n (set ||| 2 ^ k) (k + 1) ++ Mv.failsR (Mv.fails us R n) us R set (R - (k + 1))) := Lib.hid (by rw [HST.out, if_pos hbit])
          obtain ⟨P, hP⟩ : ∃ P, 2 ^ k = P := ⟨_, rfl⟩
          have hw := wrap_pow k (by omega)
          have hor := or_pow40 set k h40 (by omega)
          rw [hw] at hor
          rw [hP] at hw hor
          have HW : Hid (IntKind.i64.wrap (2 ^ k) = (P : Int)) := Lib.hid (by unfold wrap64 at hw; rw [IntKind.wrap_i64]; exact hw)
          have HOR := Lib.hid hor.1
          have hPR : set ||| P < 2 ^ R := Nat.or_lt_two_pow hset (by rw [← hP]; exact Nat.pow_lt_pow_right (by decide) hlt)
          rw [hP] at HST2
          have hlen : pre.length + (1 + q.length) + (Mv.fails us R n (set ||| P) (k + 1)).length ≤ N := by
            have a := HN1.out
            rw [HLR.out, ← HI.out.1, HST2.out] at a
            simp only [List.length_append, List.length_map] at a
            omega
          have hcall := IH.out (m - 1) (set ||| P) (k + 1) (pre ++ (⟨set, h40⟩ :: q)) wr.drew (by omega) hPR (by omega) HMD.out HJW.out (by simp only [List.length_append, List.length_cons]; omega)
          have HC := Lib.hid hcall
          clear hcall hlen hw hor hP hb1 hbit hPR
          gi_wp2
          refine wpIn_atEnd' (mr_on (MoreOut J Jx (pre ++ (⟨set, h40⟩ :: q)) (Mv.fails us R n (set ||| P) (k + 1)) wr.drew) m Y B U M set n k us 1 P wr (by omega) HMD.out.u HBB (Lib.hid rfl) (by omega) HW HOR HMD.out.m HC.out _ _ _ _ _ _ _ _ _ _ _ _ _ _ _ _ _ _ _ _ _ _ _ _ _ _ _ _ _ _ _ _ _ _ _ _ _ _ _ _ _ _ _ _ ?_)
          intro b u29 u30 u31 u32 u33 u34 u35 u36 u37 u38 u39 u40 u41 u42 u43 u44 u45 wx hR2
          rcases hR2 with ⟨rfl, q2, hq2, hJ2, hk2⟩ | ⟨rfl, q2, hq2, hx2⟩
          · have HQ := Lib.hid (And.intro hq2 (And.intro hJ2 hk2))
            clear hq2 hJ2 hk2 mb
            gi_wp2
            refine ⟨?_, ?measure⟩
            (repeat apply Exists.intro)
            refine ⟨?rel, rfl⟩
            case rel => exact ⟨k + 1, q ++ q2, by omega, by omega, by go_num, Lib.hid ⟨by rw [List.map_append, HQ.out.1, List.append_assoc, ← HST2.out]; exact HI.out.1, by have := HQ.out.2.1; simpa using this, HI.out.2.2.trans ((KeepsC.of_ext ((Ext.refl wr).drew)).trans HQ.out.2.2)⟩⟩
            case measure => simp [intOf]; omega
          · have HQ := Lib.hid (And.intro hq2 hx2)
            clear hq2 hx2 mb
            gi_wp2
            go_ret
            refine ⟨_, rfl, false, rfl, .inr ⟨rfl, ⟨set, h40⟩ :: (q ++ q2), ?_, by have := HQ.out.2; simpa using this⟩⟩
            rw [Mv.fails, HLR.out, ← HI.out.1, HST2.out, List.map_cons, List.map_append]
            obtain ⟨z, hz⟩ := HQ.out.1
            exact ⟨z ++ Mv.failsR (Mv.fails us R n) us R set (R - (k + 1)), by simp [← hz]⟩
        | false =>
          have hb0 : us / 2 ^ k % 2 = 0 := by rw [Nat.testBit_eq_decide_div_mod_eq, decide_eq_false_iff_not] at hbit; omega
          have HBB : Hid (bits .and .i64 ((us : Int) / 2 ^ k) 1 = ((0 : Nat) : Int)) := Lib.hid (by rw [bit_int us k hus, hb0])
          have HST2 : Hid (Mv.failsR (Mv.fails us R n) us R set (R - k) = Mv.failsR (Mv.fails us R n) us R set (R - (k + 1))) := Lib.hid (by rw [HST.out, hbit]; rfl)
          clear hb0 hbit
          gi_wp2
          refine wpIn_atEnd' (mr_off m U M set n k us 0 wr (by omega) HMD.out.u HBB (Lib.hid rfl) _ _ _ _ _ _ _ _ _ _ _ _ _ _ _ _ _ _ _ _ _ _ _ _ _ _ _ _ _ _ _ _ _ _ _ _ _ _ _ _ _ _ _ _ ?_)
          rintro u29 u30 u31 u32 u33 u34 u35 u36 u37 u38 u39 u40 u41 u42 u43 u44 u45 wx rfl
          clear mb
          gi_wp2
          refine ⟨?_, ?measure⟩
          (repeat apply Exists.intro)
          refine ⟨?rel, rfl⟩
          case rel => exact ⟨k + 1, q, by omega, by omega, by go_num, Lib.hid ⟨by rw [← HST2.out]; exact HI.out.1, HJW.out, HI.out.2.2.trans (KeepsC.of_ext ((Ext.refl wr).drew))⟩⟩
          case measure => simp [intOf]; omega
      · obtain rfl : k = R := by omega
        gi_wp2
        go_ret
        refine ⟨_, rfl, true, rfl, .inl ⟨rfl, ⟨set, h40⟩ :: q, ?_, HI.out.2.1, HI.out.2.2⟩⟩
        rw [Mv.fails, HLR.out, ← HI.out.1, Nat.sub_self, Mv.failsR, List.append_nil]
        rfl
end Go.Proofs.YtkbiffbmjgmcaaaDoor

/- THE ITERATOR of failures of package moves. -/
namespace Go.Proofs.YtkbiffbmjgmcaaaDoor
open Go.RowKit Go.Shelf
attribute [local go_sem] Oper.semAt_some
def FailS (L : List Nat) (xs : List FN) : Prop := xs.map (·.1) = L
def FailSp (L : List Nat) (pre : List FN) : Prop := pre.map (·.1) <+: L
set_option maxHeartbeats 8000000 in
set_option maxRecDepth 100000 in
theorem fail1_stops (m B U Nn R us n : Nat) (KA : Option Addr) (cK : Nat) (w : World) (hR : R ≤ 24) (hus : us < 2 ^ 40) (hn : n ≤ 100) (hb : w.cell? ⟨B, 1, none⟩ = some (.slice KA R cK)) (hu : w.cell? ⟨U, 0, none⟩ = some (.int .i64 (us : Nat))) (hc : w.cell? ⟨Nn, 0, none⟩ = some (.int .i64 (n : Nat))) :
    SeqStopsK Fence.wide m Tryd.prog 72 #[.pointer (some ⟨B, 0, none⟩), .pointer (some ⟨U, 0, none⟩), .pointer (some ⟨Nn, 0, none⟩)] encF KeepsC (FailS (Mv.fails us R n 0 0)) (FailSp (Mv.fails us R n 0 0)) (Mv.fails us R n 0 0).length w := by
  intro l J Jx W hW hJ hJx hY h0
  have hx2 := ((Ext.refl W).alloc (.cells #[.func (.yield l) #[] #[]] 53)).alloc (.cells #[.func (.func 73) #[] #[.pointer (some ⟨W.heap.size, 0, none⟩), .pointer (some ⟨B, 0, none⟩), .pointer (some ⟨U, 0, none⟩), .pointer (some ⟨W.heap.size + 1, 0, none⟩)]] 92)
  obtain ⟨W2, hW2⟩ : ∃ W2, (W.alloc (.cells #[.func (.yield l) #[] #[]] 53)).alloc (.cells #[.func (.func 73) #[] #[.pointer (some ⟨W.heap.size, 0, none⟩), .pointer (some ⟨B, 0, none⟩), .pointer (some ⟨U, 0, none⟩), .pointer (some ⟨W.heap.size + 1, 0, none⟩)]] 92) = W2 := ⟨_, rfl⟩
  rw [hW2] at hx2
  have hJ2 : J [] W2 := by
    rw [← hW2]
    refine hJ [] _ _ none (hJ [] _ _ none h0 (World.grownBy_alloc _ _ none) (fun r e => by cases e)) (World.grownBy_alloc _ _ none) (fun r e => by cases e)
  have hM : MoreAt W2 l W.heap.size B U (W.heap.size + 1) us R KA cK := by
    refine ⟨?_, hx2.cell ((Below.cell hW (lt_of_cell hb)).trans hb), hx2.cell ((Below.cell hW (lt_of_cell hu)).trans hu), ?_⟩
    · rw [← hW2]; exact ((Ext.refl _).alloc _).cell (cells_new _ _ _ 0 _ rfl)
    · rw [← hW2]
      have h := cells_new (W.alloc (.cells #[.func (.yield l) #[] #[]] 53)) #[.func (.func 73) #[] #[.pointer (some ⟨W.heap.size, 0, none⟩), .pointer (some ⟨B, 0, none⟩), .pointer (some ⟨U, 0, none⟩), .pointer (some ⟨W.heap.size + 1, 0, none⟩)]] 92 0 _ rfl
      rw [World.size_alloc] at h
      exact h
  have cN := hx2.cell ((Below.cell hW (lt_of_cell hc)).trans hc)
  have hcall := fun m' => mMore_in l (Mv.fails us R n 0 0).length J Jx (fun pre W h => hJ pre W W.drew none h ⟨rfl, rfl, rfl, Nat.le_refl _, fun _ _ _ => rfl⟩ (fun r e => by cases e)) W.heap.size B U (W.heap.size + 1) R us KA cK hR hus (fun m' pre x W1 h h2 => YieldAt.anyDepth m' (hY pre x W1 h h2)) n m' 0 0 [] W2 hn (Nat.two_pow_pos _) (Nat.zero_le _) hM hJ2 (by simp)
  have HC := Lib.hid hcall
  have c1 := cN
  have c2 := hM.m
  rw [← hW2] at c1 c2
  have HW2 := Lib.hid hW2
  clear hJ hJx hY h0 hJ2 hcall hM hx2 cN hb hu hc hW hW2
  have hsf : ∀ (w : World) (a : Addr) (f : Fn) (cap : Array Value), (store a (.func f #[] cap)).run Tryd.prog w = stored Tryd.prog w a (.func f #[] cap) .plain := fun w a f cap => run_store _ w a _ _ rfl
  refine callsIn_of_wp Tryd.func72 rfl trivial ?_ rfl
  simp only [Tryd.ntmps72, List.size_toArray, List.length_cons, List.length_nil, Nat.reduceAdd, Nat.reduceSub, Array.replicate_succ, Array.replicate_zero, List.push_toArray, List.append_toArray, List.nil_append, List.cons_append]
  gi_wp2
  refine ⟨trivial, fun h => (by cases h), ?_⟩
  rw [HW2.out]
  refine (HC.out (m - 1)).mono ?_
  intro e W' h
  obtain ⟨v, rfl, b, rfl, hout⟩ := h
  clear HC HW2 c1 c2 hsf
  have HO := Lib.hid hout
  clear hout
  dsimp only
  gi_wp2
  go_end0
  refine ⟨⟨_, rfl⟩, ?_⟩
  rcases HO.out with ⟨_, q, hq, hJq, _⟩ | ⟨_, q, hq, hJq⟩
  · exact .inl ⟨q, hq, hJq⟩
  · exact .inr ⟨q, hq, hJq⟩
end Go.Proofs.YtkbiffbmjgmcaaaDoor

/- WHAT IS KNOWN, in package moves: a map from sets of pieces to whether they are recoverable. -/
namespace Mv
/-- Of how many of the first numbers a function says yes. -/
def cnt (f : Int → Bool) : Nat → Nat
  | 0 => 0
  | k + 1 => cnt f k + if f k then 1 else 0
theorem cnt_le (f : Int → Bool) : ∀ n, cnt f n ≤ n
  | 0 => Nat.le_refl _
  | k + 1 => by have := cnt_le f k; rw [cnt]; split <;> omega
theorem cnt_mono {f g : Int → Bool} (h : ∀ x, f x = true → g x = true) : ∀ n, cnt f n ≤ cnt g n
  | 0 => Nat.le_refl _
  | k + 1 => by
    have := cnt_mono h k
    rw [cnt, cnt]
    by_cases hf : f k = true
    · rw [if_pos hf, if_pos (h _ hf)]; omega
    · rw [if_neg hf]; omega
theorem cnt_put {f g : Int → Bool} {a : Nat} (h : ∀ x, f x = true → g x = true) (hf : f a = false) (hg : g a = true) : ∀ n, a < n → cnt f n + 1 ≤ cnt g n
  | 0, ha => absurd ha (Nat.not_lt_zero a)
  | k + 1, ha => by
    rw [cnt, cnt]
    by_cases hk : a = k
    · subst hk
      have := cnt_mono h a
      rw [hf, if_pos hg, if_neg (by decide)]; omega
    · have := cnt_put h hf hg k (by omega)
      by_cases hx : f k = true
      · rw [if_pos hx, if_pos (h _ hx)]; omega
      · rw [if_neg hx]; omega
def lim : Nat := 16777216
theorem lim_eq : lim = 16777216 := rfl
attribute [irreducible] cnt lim
end Mv
namespace Go.Proofs.YtkbiffbmjgmcaaaDoor
open Go.RowKit Go.Shelf
open Go.Maps (Keyed)
open Go.WideMaps Go.ChangeMaps Go.MapKept Go.WideShapes
theorem intLaw : Keyed Tryd.prog 3 := Go.Maps.int_keyed Tryd.underlying3
theorem boolZero (w : World) : (zeroValue 4).run Tryd.prog w = .ok (.bool false) w := by kernel_rfl
theorem plainElem_bool_inv {H : Type} {P : Program} {e : TypeId} (he : P.underlying e = some .bool) {v : Value} {z : DataW H × List MemPlace} (h : plainElem P e v = some z) : ∃ x, v = .bool x ∧ z = (.lit (.bool x), []) := by
  unfold plainElem at h
  rw [he] at h
  cases v <;> simp at h
  subst h
  exact ⟨_, rfl, rfl⟩
theorem ownsMap_ext {w w' : World} {H : Type} {P : Program} {k : TypeId} {R : Value → Option (DataW H × List MemPlace)} {b n : Nat} {D : DataW H} (h : w.ownsMap P k R b n D) (hx : Ext w w') : w'.ownsMap P k R b n D := by
  obtain ⟨es, clock, hb, r⟩ := h
  exact ⟨es, clock, hx.heap hb, r⟩
theorem ownsMap_same {w w' : World} {H : Type} {P : Program} {k : TypeId} {R : Value → Option (DataW H × List MemPlace)} {b n : Nat} {D : DataW H} (h : w.ownsMap P k R b n D) (hx : w'.heap[b]? = w.heap[b]?) : w'.ownsMap P k R b n D := by
  obtain ⟨es, clock, hb, r⟩ := h
  exact ⟨es, clock, hx.trans hb, r⟩
theorem ownsMap_le {w : World} {H : Type} {P : Program} {k : TypeId} {R : Value → Option (DataW H × List MemPlace)} {b n n' : Nat} {D : DataW H} (h : w.ownsMap P k R b n D) (hn : n ≤ n') : w.ownsMap P k R b n' D := by
  obtain ⟨es, clock, hb, hf, hs, r⟩ := h
  exact ⟨es, clock, hb, hf, Nat.le_trans hs hn, r⟩
/-- A store into a map turns no cell. -/
theorem grown_cell {w w' : World} {b n : Nat} {D : DataW Unit} {k : TypeId} {R : Value → Option (DataW Unit × List MemPlace)} (hown : w.ownsMap Tryd.prog k R b n D) (hg : w.grownBy w' (some b)) {p : Addr} {v : Value} (hp : w.cell? p = some v) : w'.cell? p = some v := by
  obtain ⟨es, clock, hb, _⟩ := hown
  by_cases hpb : p.block = b
  · exfalso
    simp [World.cell?, hpb, hb] at hp
  · have hlt : p.block < w.heap.size := by
      rcases Nat.lt_or_ge p.block w.heap.size with h1 | h1
      · exact h1
      · simp [World.cell?, Array.getElem?_eq_none h1] at hp
    have h1 := hg.block p.block hlt (by intro e; injection e with e; exact hpb e)
    unfold World.cell? at hp ⊢
    rw [h1]
    exact hp
/-- A map says what a function says. -/
def KSays (D : DataW Unit) (nx : Int → Option Bool) : Prop := ∀ a : Int, Go.Maps.has D (.int .i64 a) = (nx a).isSome ∧ ∀ z, D.atKey (.int .i64 a) z = (nx a).elim z fun b => .lit (.bool b)
theorem KSays.start : KSays (.map []) (fun _ => none) := fun _ => ⟨rfl, fun _ => rfl⟩
theorem KSays.put {D : DataW Unit} {nx : Int → Option Bool} (h : KSays D nx) (hD : Go.Maps.IsMap D) (f : Int) (t : Bool) : KSays (D.put (.int .i64 f) (.lit (.bool t))) (fun a => if a = f then some t else nx a) := by
  have hk : WideAt.IsKeyLit (.int .i64 f) := by simp [WideAt.IsKeyLit]
  intro a
  dsimp only
  by_cases ha : a = f
  · subst ha
    rw [if_pos rfl]
    exact ⟨Go.Maps.has_put_same hD hk _, fun z => Go.Maps.atKey_put_same hD hk _ z⟩
  · have hne : (Lit.int .i64 a) ≠ .int .i64 f := by
      intro h
      injection h with _ h
      exact ha h
    rw [if_neg ha]
    refine ⟨by rw [Go.Maps.has_put_other hne]; exact (h a).1, fun z => ?_⟩
    rw [Go.Maps.atKey_put_other hne]
    exact (h a).2 z
/-- What lies at a block is a map that says nothing wrong. -/
def Known (s : Mv.Sh) (w : World) (b : Nat) : Prop :=
  ∃ (nx : Int → Option Bool) (D : DataW Unit), w.ownsMap Tryd.prog 3 (plainElem Tryd.prog 4) b (Mv.cnt (fun a => (nx a).isSome) Mv.lim) D ∧ KSays D nx ∧ ∀ a c, nx a = some c → Cd.can s.d s.gl s.gs a = c
theorem Known.same {s : Mv.Sh} {w w' : World} {b : Nat} (h : Known s w b) (hx : w'.heap[b]? = w.heap[b]?) : Known s w' b := by
  obtain ⟨nx, D, h1, h2⟩ := h
  exact ⟨nx, D, ownsMap_same h1 hx, h2⟩
theorem Known.ext {s : Mv.Sh} {w w' : World} {b : Nat} (h : Known s w b) (hx : Ext w w') : Known s w' b := by
  obtain ⟨nx, D, h1, h2⟩ := h
  exact ⟨nx, D, ownsMap_ext h1 hx, h2⟩
theorem ownsMap_lt {w : World} {H : Type} {P : Program} {k : TypeId} {R : Value → Option (DataW H × List MemPlace)} {b n : Nat} {D : DataW H} (h : w.ownsMap P k R b n D) : b < w.heap.size := by
  obtain ⟨es, clock, hb, hr⟩ := h
  exact (Array.getElem?_eq_some_iff.1 hb).1
theorem Known.lt {s : Mv.Sh} {w : World} {b : Nat} (h : Known s w b) : b < w.heap.size := by
  obtain ⟨nx, D, h1, h2⟩ := h
  exact ownsMap_lt h1
theorem Known.keeps {s : Mv.Sh} {w w' : World} {b : Nat} (h : Known s w b) (hg : w.grownBy w' (some b)) : KeepsC w w' := by
  obtain ⟨nx, D, h1, h2⟩ := h
  exact fun _ _ hp => grown_cell h1 hg hp
/-- 'c, is := m[k]' in such a map. -/
theorem wpl_known {F : Fence} {nF : Nat} {ops : Array Oper} {rest : List Oper} {o : Oper} {a : Act} {Q : Exit → Act → World → Prop} {w : World} (hg : o.guard = none) (m x : Operand) (hop : o.op = Op.lookup 58 m x true)
    (b n : Nat) {D : DataW Unit} {nx : Int → Option Bool} (hm : a.eval m = .map (some b)) (hown : w.ownsMap Tryd.prog 3 (plainElem Tryd.prog 4) b n D) (hS : KSays D nx) {y : Int} (hx : a.eval x = .int .i64 y) (hlo : -9223372036854775808 ≤ y) (hhi : y ≤ 9223372036854775807)
    {z : Bool} {bb : Bool} (hz : (nx y).getD false = z) (hb : (nx y).isSome = bb)
    (hK : wpListIn F nF Tryd.prog ops Q rest (a.put o.dst (.tuple #[.bool z, .bool bb])) w) : wpListIn F nF Tryd.prog ops Q (o :: rest) a w := by
  refine wpListIn_lookup_own_ok _ hg m x 58 hop 3 4 intLaw Tryd.underlying58 (plainElem Tryd.prog 4) (boolZero _) (.lit (.bool false)) [] (plainElem_bool Tryd.underlying4 false) b n D hm hown _ _ hx (Go.Maps.keyOf_int_mk Tryd.underlying3 (WalkArith.wf_i64 (by omega))) ?_
  intro v ps hv
  rw [(hS y).2] at hv
  rw [(hS y).1, hb]
  obtain ⟨q, rfl, hq⟩ := plainElem_bool_inv Tryd.underlying4 hv
  have hqz : q = z := by
    have h1 := congrArg Prod.fst hq
    dsimp only at h1
    cases hn : nx y with
    | none => rw [hn] at h1 hz; simp at h1 hz; rw [h1, hz]
    | some t => rw [hn] at h1 hz; simp at h1 hz; rw [← h1, ← hz]
  rw [hqz]
  exact hK
end Go.Proofs.YtkbiffbmjgmcaaaDoor

/- MARKS: what ranges over functions leave among the deferred calls of a function, each taken up when it returns. -/
namespace Go.Proofs.YtkbiffbmjgmcaaaDoor
open Go.RowKit Go.Shelf
/-- Marks whose blocks lie from lo on, below hi, each open. -/
def MarksOk (lo hi : Nat) (w : World) : List Deferred → Prop
  | [] => True
  | d :: ds => (∃ D, d = { target := .collected D, args := #[] } ∧ lo ≤ D ∧ D < hi ∧ w.heap[D]? = some (.deferred (some [])) ∧ ∀ d' ∈ ds, d'.target ≠ .collected D) ∧ MarksOk lo hi w ds
theorem MarksOk.kept {lo hi hi' : Nat} {w w' : World} : ∀ {ds : List Deferred}, MarksOk lo hi w ds → hi ≤ hi' → (∀ D, lo ≤ D → D < hi → w.heap[D]? = some (.deferred (some [])) → w'.heap[D]? = some (.deferred (some []))) → MarksOk lo hi' w' ds
  | [], _, _, _ => trivial
  | d :: ds, ⟨⟨D, h1, h2, h3, h4, h5⟩, h⟩, hh, hk => ⟨⟨D, h1, h2, by omega, hk D h2 h3 h4, h5⟩, MarksOk.kept h hh hk⟩
theorem MarksOk.lt {lo hi : Nat} {w : World} : ∀ {ds : List Deferred}, MarksOk lo hi w ds → ∀ d ∈ ds, ∃ D, d.target = .collected D ∧ D < hi
  | [], _, _, h => by cases h
  | d :: ds, ⟨⟨D, h1, h2, h3, h4, h5⟩, h⟩, e, he => by
    rcases List.mem_cons.1 he with rfl | he
    · exact ⟨D, by rw [h1], h3⟩
    · exact MarksOk.lt h e he
theorem MarksOk.push {lo hi D : Nat} {w w' : World} {ds : List Deferred} (h : MarksOk lo hi w ds) (hk : ∀ D, lo ≤ D → D < hi → w.heap[D]? = some (.deferred (some [])) → w'.heap[D]? = some (.deferred (some []))) (hlo : lo ≤ D) (hD : hi ≤ D) (hw : w'.heap[D]? = some (.deferred (some []))) : MarksOk lo (D + 1) w' ({ target := .collected D, args := #[] } :: ds) :=
  ⟨⟨D, rfl, hlo, by omega, hw, fun d' hd' he => by
    obtain ⟨D', h1, h2⟩ := h.lt d' hd'
    rw [h1] at he
    injection he with he
    omega⟩, h.kept (by omega) hk⟩
theorem MarksOk.ext {lo hi : Nat} {w w' : World} {ds : List Deferred} (h : MarksOk lo hi w ds) (hx : Ext w w') : MarksOk lo hi w' ds := h.kept (Nat.le_refl _) fun _ _ _ hD => hx.heap hD
/-- The function returns: each mark is taken up; nothing below lo turns. -/
theorem leaves_marks {F : Fence} {n lo : Nat} {P : Program} {fn : Func} {tmps : Array Value} {R : Ending → World → Prop} : ∀ {ds : List Deferred} {hi : Nat} {w : World}, MarksOk lo hi w ds →
    (∀ w', Below lo w w' → LeavesIn F n P fn tmps R [] .returning w') → LeavesInM F n P fn tmps R ds .returning w
  | [], _, w, _, hR => hR w (Below.refl _ _)
  | d :: ds, hi, w, ⟨⟨D, h1, h2, h3, h4, h5⟩, h⟩, hR => by
    refine ⟨by simp, .inl ⟨D, _, by rw [h1], run_takeDeferred h4, ?_⟩⟩
    have hlt := (Array.getElem?_eq_some_iff.1 h4).1
    have hb : Below lo w (w.putObj D (.deferred none)) := (Below.refl lo w).grown (grownBy_putObj' w D (.deferred none)) (by omega) (fun k e => by cases e; exact h2)
    have hm : MarksOk lo hi (w.putObj D (.deferred none)) ds := by
      have hne : ∀ d' ∈ ds, d'.target ≠ .collected D := h5
      clear h1 h5 hR
      induction ds with
      | nil => trivial
      | cons e ds ih =>
        obtain ⟨⟨D', g1, g2, g3, g4, g5⟩, g⟩ := h
        refine ⟨⟨D', g1, g2, g3, ?_, g5⟩, ih g fun d' hd' => hne d' (List.mem_cons_of_mem _ hd')⟩
        refine (World.putObj_heap_other (fun he => hne e List.mem_cons_self ?_)).trans g4
        rw [g1, he]
    exact leaves_marks hm fun w' hw' => hR w' (hb.trans hw')
end Go.Proofs.YtkbiffbmjgmcaaaDoor

/- THE WALK over safe of package moves. -/
namespace Go.Proofs.YtkbiffbmjgmcaaaDoor
open Go.RowKit Go.Shelf
open Go.Maps (Keyed)
open Go.WideMaps Go.ChangeMaps Go.MapKept Go.WideShapes
attribute [local go_sem] Oper.semAt_some
/-- What is read stays while what lies in cells stays. -/
def StableC {α : Type} (R : World → Value → α → Prop) : Prop := ∀ w w' v x, KeepsC w w' → R w v x → R w' v x
theorem Rs.keep {α : Type} {R : World → Value → α → Prop} (hR : StableC R) : StableC (Rs R) := fun w w' v xs hx h => by
  obtain ⟨A, c, rfl, hl, h⟩ := h
  refine ⟨A, c, rfl, hl, fun i x hi => ?_⟩
  obtain ⟨ad, u, h1, h2, h3⟩ := h i x hi
  exact ⟨ad, u, h1, hx _ _ h2, hR w w' u x hx h3⟩
theorem RI.keep : StableC RI := fun _ _ _ _ _ h => h
theorem RK.keep : StableC RK := fun _ _ _ _ hx ⟨A, c, e, hl, h⟩ => ⟨A, c, e, hl, fun i x hi => by
  obtain ⟨ad, b, h1, h2, h3, h4⟩ := h i x hi
  exact ⟨ad, b, h1, hx _ _ h2, hx _ _ h3, h4⟩⟩
theorem Tab.keep {w w' : World} (h : Tab w) (k : KeepsC w w') : Tab w' := fun i hi => k _ _ (h i hi)
section
variable {w w' : World} {s : Mv.Sh} {DA KA HA GA RA FA TA : Option Addr} {cD cK cH cG cR cF cT : Nat}
theorem ShAt.keep (h : ShAt w s DA KA HA GA RA FA TA cD cK cH cG cR cF cT) (k : KeepsC w w') : ShAt w' s DA KA HA GA RA FA TA cD cK cH cG cR cF cT :=
  ⟨Rs.keep RI.keep _ _ _ _ k h.disks, RK.keep _ _ _ _ k h.racks, Rs.keep RI.keep _ _ _ _ k h.houses, Rs.keep (Rs.keep RI.keep) _ _ _ _ k h.gs, Rs.keep RI.keep _ _ _ _ k h.room, Rs.keep RI.keep _ _ _ _ k h.src, Rs.keep RI.keep _ _ _ _ k h.dst, h.owners, h.d, h.gl, h.floor, h.len⟩
theorem BoxAt.keep {B : Nat} (h : BoxAt w B s DA KA HA GA RA FA TA cD cK cH cG cR cF cT) (k : KeepsC w w') : BoxAt w' B s DA KA HA GA RA FA TA cD cK cH cG cR cF cT :=
  ⟨k _ _ h.b0, k _ _ h.b1, k _ _ h.b2, k _ _ h.b3, k _ _ h.b4, k _ _ h.b5, k _ _ h.b6, k _ _ h.b7, k _ _ h.b8, k _ _ h.b9, k _ _ h.b10⟩
end
theorem keepsO {W W' : World} (h : Ext W W') : KeepsOthers W W' := ⟨h.size, fun _ _ hk _ => h.heap hk⟩
theorem grown_set (w : World) (a : Addr) (u : Value) : w.grownBy (w.setCell a u) (some a.block) := ⟨rfl, rfl, rfl, by simp, fun k _ hk => heap_setCell_other w a k u (fun e => hk (by rw [e]))⟩
theorem grown_of_ext {w w' : World} (h : Ext w w') (b : Nat) : w.grownBy w' (some b) := ⟨h.os, h.tape, h.output, h.size, fun k hk _ => h.block k hk⟩
/-- A turn of a block that came later is none of the old ones. -/
theorem grown_later {w W W' : World} {b : Nat} {row : Option Nat} (h : w.grownBy W (some b)) (hg : W.grownBy W' row) (hr : ∀ r, row = some r → w.heap.size ≤ r) : w.grownBy W' (some b) :=
  ⟨hg.os.trans h.os, hg.tape.trans h.tape, hg.output.trans h.output, Nat.le_trans h.size hg.size, fun k hk hne => (hg.block k (Nat.lt_of_lt_of_le hk h.size) (fun e => by have := hr k e.symm; omega)).trans (h.block k hk hne)⟩
theorem grown_below {w W W' : World} {b lo : Nat} (h : w.grownBy W (some b)) (hb : Below lo W W') (hlo : w.heap.size ≤ lo) : w.grownBy W' (some b) :=
  ⟨hb.os.trans h.os, hb.tape.trans h.tape, hb.output.trans h.output, Nat.le_trans h.size hb.size, fun k hk hne => (hb.block k (by omega)).trans (h.block k hk hne)⟩
theorem ownFrom_grown {β : Type} {w : World} {b B : Nat} (hB : w.heap.size ≤ B) : OwnFrom B (fun (_ : β) W => w.grownBy W (some b)) :=
  fun _ _ _ _ hs hg hr => grown_later hs hg (fun r e => Nat.le_trans hB (hr r e).1)
theorem ownFrom_known {β : Type} {s : Mv.Sh} {b B : Nat} (hB : b < B) : OwnFrom B (fun (_ : β) W => Known s W b) :=
  fun _ _ _ _ hs hg hr => hs.same (hg.block b hs.lt (fun e => by have := (hr b e.symm).1; omega))
theorem keepsC_turn {W : World} {l : Nat} {o : Obj} (o' : Obj) (h : W.heap[l]? = some o) (hc : o.isCells = false) : KeepsC W (W.putObj l o') := fun a v e => cell_kept e (grownBy_putObj' W l o') (fun r er => by cases er; exact ⟨_, h, hc⟩)
theorem Known.put {s : Mv.Sh} {w w3 : World} {b T : Nat} {cc : Bool} {nx : Int → Option Bool} {D : DataW Unit} (h : w.ownsMap Tryd.prog 3 (plainElem Tryd.prog 4) b (Mv.cnt (fun a => (nx a).isSome) Mv.lim) D) (hS : KSays D nx) (hnx : ∀ a c, nx a = some c → Cd.can s.d s.gl s.gs a = c) (hn : (nx (T : Nat)).isSome = false) (hT : T < 16777216) (hc : Cd.can s.d s.gl s.gs (T : Nat) = cc)
    (h3 : w3.ownsMap Tryd.prog 3 (plainElem Tryd.prog 4) b (Mv.cnt (fun a => (nx a).isSome) Mv.lim + 1) (D.put (.int .i64 (T : Nat)) (.lit (.bool cc)))) : Known s w3 b := by
  refine ⟨fun a => if a = (T : Nat) then some cc else nx a, _, ownsMap_le h3 ?_, hS.put h.isMap _ _, ?_⟩
  · exact Mv.cnt_put (a := T) (fun y hy => by dsimp only; split; rfl; exact hy) hn (by simp) _ (by rw [Mv.lim_eq]; exact hT)
  · intro a c ha
    dsimp only at ha
    by_cases e : a = (T : Nat)
    · rw [if_pos e] at ha; injection ha with ha; rw [e, hc, ha]
    · rw [if_neg e] at ha; exact hnx a c ha
set_option maxHeartbeats 8000000 in
set_option maxRecDepth 100000 in
theorem mSafe_any (s : Mv.Sh) (ph : List Int) (b : Nat) (hok : Mv.Ok s) (hpl : ph.length = s.src.length) (v u : Value) (w : World) (hT : Tab w) (hv : RSh w v s) (hu : Rs RI w u ph) (hk : Known s w b) :
    Calls Tryd.prog 39 #[v, u, .map (some b)] w fun e w' => e = .returned (.bool (Mv.safe (fun m => Cd.can s.d s.gl s.gs m) s ph)) ∧ w.grownBy w' (some b) ∧ Known s w' b := by
  obtain ⟨DA, KA, HA, GA, RA, FA, TA, cD, cK, cH, cG, cR, cF, cT, rfl, hS⟩ := hv.open
  obtain ⟨PA, cP, rfl, hp64⟩ := hu.form
  obtain ⟨w4, hw4⟩ : ∃ w4, (((w.alloc (.cells #[.slice DA s.disks.length cD, .slice KA s.racks.length cK, .slice HA s.houses.length cH, .int .i64 s.owners, .int .i64 s.d, .slice GA s.gs.length cG, .int .i64 s.gl, .int .i64 s.floor, .slice RA s.room.length cR, .slice FA s.src.length cF, .slice TA s.dst.length cT] 30)).alloc (.cells #[.slice PA ph.length cP] 22)).alloc (.cells #[.map (some b)] 58)).alloc (.cells #[.bool false] 4) = w4 := ⟨_, rfl⟩
  have hx4 : Ext w w4 := by rw [← hw4]; exact ((((Ext.refl w).alloc _).alloc _).alloc _).alloc _
  have hsz4 : w4.heap.size = w.heap.size + 1 + 1 + 1 + 1 := by rw [← hw4]; simp
  have hB : BoxAt w4 w.heap.size s DA KA HA GA RA FA TA cD cK cH cG cR cF cT := by
    rw [← hw4]; exact (BoxAt.new w s DA KA HA GA RA FA TA cD cK cH cG cR cF cT).ext ((((Ext.refl _).alloc _).alloc _).alloc _)
  have c1 : w4.cell? ⟨w.heap.size + 1, 0, none⟩ = some (.slice PA ph.length cP) := by rw [← hw4]; go_simp
  have c2 : w4.cell? ⟨w.heap.size + 1 + 1, 0, none⟩ = some (.map (some b)) := by rw [← hw4]; go_simp
  have c3 : w4.cell? ⟨w.heap.size + 1 + 1 + 1, 0, none⟩ = some (.bool false) := by rw [← hw4]; go_simp
  have f3 : w4.frozen? ⟨w.heap.size + 1 + 1 + 1, 0, none⟩ = false := by rw [← hw4]; go_simp
  have HW4 := Lib.hid hw4
  have HX4 := Lib.hid (And.intro hx4 hsz4)
  have HS := Lib.hid (hS.ext hx4)
  have HP := Lib.hid (Rs.ext RI.ext _ _ _ _ hx4 hu)
  have HB := Lib.hid hB
  have HC := Lib.hid (And.intro c1 (And.intro c2 (And.intro c3 f3)))
  have HOK := Lib.hid hok
  have HPL := Lib.hid hpl
  have HT := Lib.hid (hT.ext hx4)
  have HK := Lib.hid (hk.ext hx4)
  have hbl := hk.lt
  have HBL := Lib.hid hbl
  have h24 := hok.racks
  obtain ⟨n, hn⟩ : ∃ n : Nat, s.floor = (n : Int) + 1 := ⟨(s.floor - 1).toNat, by have := hok.floor; omega⟩
  have hn3 : n ≤ 3 := by have := hok.floor; omega
  have hnf : s.floor - 1 = (n : Int) := by omega
  have HN := Lib.hid (And.intro hn hnf)
  have hfl : 1 ≤ s.floor ∧ s.floor ≤ 4 := hok.floor
  have a0 := hB.b0
  have a1 := hB.b1
  have a2 := hB.b2
  have a3 := hB.b3
  have a4 := hB.b4
  have a5 := hB.b5
  have a6 := hB.b6
  have a7 := hB.b7
  have a8 := hB.b8
  have a9 := hB.b9
  have a10 := hB.b10
  rw [← hw4] at a0 a1 a2 a3 a4 a5 a6 a7 a8 a9 a10
  clear hv hu hS hx4 hsz4 hB hw4 c1 c2 c3 f3 hT hk hok hpl hbl hn hnf
  refine (callsIn_wide (n := 40)).1 ?_
  refine callsIn_of_wp_marks Tryd.func39 rfl trivial ?_ rfl
  simp only [Tryd.ntmps39, List.size_toArray, List.length_cons, List.length_nil, Nat.reduceAdd, Nat.reduceSub, Array.replicate_succ, Array.replicate_zero, List.push_toArray, List.append_toArray, List.nil_append, List.cons_append]
  gi_wp2_with fail
  clear a0 a1 a2 a3 a4 a5 a6 a7 a8 a9 a10
  rw [HW4.out]
  refine ⟨trivial, (callsIn_wide.2 (mFail_any s _ HOK.out DA KA HA GA RA FA TA cD cK cH cG cR cF cT w4 HS.out)).mono ?_⟩
  rintro e W0 ⟨rfl, hB0, hn0, hu0, hx0⟩
  rw [HN.out.2] at hn0
  have HX0 := Lib.hid hx0
  have hsz0 : w4.heap.size + 1 + 1 < W0.heap.size := lt_of_cell hu0
  obtain ⟨us, hus⟩ : ∃ us, Mv.usedTo s s.src.length = us := ⟨_, rfl⟩
  rw [hus] at hu0
  have hul : us < 2 ^ 40 := by
    have h := Mv.usedTo_lt s (R := 24) (fun j => by
      have hd : ∀ x : Nat, (s.disks.getD x 0).toNat < 24 := fun x => by
        rw [List.getD_eq_getElem?_getD]
        cases hx : s.disks[x]? with
        | none => show (0 : Int).toNat < 24; decide
        | some y =>
          have a := HOK.out.disk y (List.mem_of_getElem? hx)
          have b := HOK.out.racks
          show y.toNat < 24
          omega
      exact ⟨hd _, hd _⟩) s.src.length
    rw [hus] at h
    omega
  have hSB : BoxAt W0 w.heap.size s DA KA HA GA RA FA TA cD cK cH cG cR cF cT := HB.out.ext hx0
  have k1 := hx0.cell HC.out.1
  have k2 := hx0.cell HC.out.2.1
  have k3 := hx0.cell HC.out.2.2.1
  have HB0 := Lib.hid hSB
  have HST := Lib.hid (fail1_stops 39 w4.heap.size (w4.heap.size + 1 + 1) (w4.heap.size + 1) s.racks.length us n KA cK W0 h24 hul (by omega) hB0.b1 hu0 hn0)
  have HUS := Lib.hid hus
  have HCC := Lib.hid (And.intro k1 (And.intro k2 k3))
  have HK0 := Lib.hid (HK.out.ext hx0)
  clear hx0 hB0 hn0 hu0 hus hSB k1 k2 k3
  gi_wp2_with fail
  have hb0 : b < W0.heap.size := by have a := HX0.out.size; have c := HX4.out.2; have d := HBL.out; omega
  have hs4 : w.heap.size ≤ W0.heap.size := by have a := HX0.out.size; have c := HX4.out.2; omega
  have hwg : w.grownBy W0 (some b) := grown_of_ext (HX4.out.1.trans HX0.out) b
  have HWG := Lib.hid (And.intro hwg (And.intro hb0 hs4))
  clear hwg
  refine wpIn_rangeFunc_ownG rfl (by decide) (gf := 72) (lb := #[.pointer (some ⟨w4.heap.size, 0, none⟩), .pointer (some ⟨w4.heap.size + 1 + 1, 0, none⟩), .pointer (some ⟨w4.heap.size + 1, 0, none⟩)]) rfl trivial (enters_of Tryd.func72 (by kernel_rfl) rfl) HST.out KeepsC.trans (fun W l o o' _ ho hc _ => keepsC_turn o' ho hc) (Below.refl _ _) (fun _ => rfl)
    (fun pre W => (∀ x ∈ pre, Cd.can s.d s.gl s.gs (Mv.left s ph x.1 : Nat) = true) ∧ W0.grownBy W (some b) ∧ Known s W b)
    (fun c pre W => (c = .ret ∧ ∃ x ∈ pre, Cd.can s.d s.gl s.gs (Mv.left s ph x.1 : Nat) = false) ∧ W.cell? ⟨w.heap.size + 1 + 1 + 1, 0, none⟩ = some (.bool false) ∧ w.grownBy W (some b) ∧ Known s W b)
    (OwnFrom.and (ownFrom_pure _ _) (OwnFrom.and (ownFrom_grown (Nat.le_refl _)) (ownFrom_known hb0)))
    (fun c => OwnFrom.and (ownFrom_pure _ _) (OwnFrom.and (Own.from (fun s A B row hs hg hr => cell_kept hs hg hr) _) (OwnFrom.and (ownFrom_grown hs4) (ownFrom_known hb0))))
    ⟨by simp, grown_of_ext (Ext.refl _) b, HK0.out⟩
    (fun x => { tmps := #[Value.agg
            #[Value.slice DA s.disks.length cD, Value.slice KA s.racks.length cK, Value.slice HA s.houses.length cH,
              Value.int IntKind.i64 s.owners, Value.int IntKind.i64 s.d, Value.slice GA s.gs.length cG,
              Value.int IntKind.i64 s.gl, Value.int IntKind.i64 s.floor, Value.slice RA s.room.length cR,
              Value.slice FA s.src.length cF, Value.slice TA s.dst.length cT],
          Value.slice PA ph.length cP, Value.map (some b), Value.pointer (some { block := w.heap.size, off := 0 }),
          Value.pointer (some { block := w.heap.size + 1, off := 0 }),
          Value.pointer (some { block := w.heap.size + 1 + 1, off := 0 }),
          Value.pointer (some { block := w.heap.size + 1 + 1 + 1, off := 0 }), .int .i64 (x.1 : Nat), undef, undef, undef,
          Value.agg
            #[Value.slice DA s.disks.length cD, Value.slice KA s.racks.length cK, Value.slice HA s.houses.length cH,
              Value.int IntKind.i64 s.owners, Value.int IntKind.i64 s.d, Value.slice GA s.gs.length cG,
              Value.int IntKind.i64 s.gl, Value.int IntKind.i64 s.floor, Value.slice RA s.room.length cR,
              Value.slice FA s.src.length cF, Value.slice TA s.dst.length cT],
          Value.pointer (some { block := w.heap.size, off := 7 }), Value.int IntKind.i64 s.floor,
          Value.int IntKind.i64 (s.floor - 1),
          Value.func (Fn.func 72) #[]
            #[Value.pointer (some { block := w4.heap.size, off := 0 }),
              Value.pointer (some { block := w4.heap.size + 1 + 1, off := 0 }),
              Value.pointer (some { block := w4.heap.size + 1, off := 0 })],
          .int .i64 (x.1 : Nat), undef, undef, undef, undef, undef, undef, undef, undef, undef, undef, undef, undef, undef, undef,
          undef, undef, undef, undef, undef, undef, undef], defers := [] }) ?assign ?body ?done ?stop
  case assign =>
    intro l x W K hK
    unfold encF
    gi_wp2
    exact hK
  case body =>
    rintro l pre x W ⟨hcan, hG, hK⟩ _
    have hkc := HK0.out.keeps hG
    have hB := HB0.out.keep hkc
    have k1 := hkc _ _ HCC.out.1
    have k2 := hkc _ _ HCC.out.2.1
    have k3 := hkc _ _ HCC.out.2.2
    have a0 := hB.b0
    have a1 := hB.b1
    have a2 := hB.b2
    have a3 := hB.b3
    have a4 := hB.b4
    have a5 := hB.b5
    have a6 := hB.b6
    have a7 := hB.b7
    have a8 := hB.b8
    have a9 := hB.b9
    have a10 := hB.b10
    have HI := Lib.hid (And.intro hcan (And.intro hG hK))
    have HKC := Lib.hid (KeepsC.trans (KeepsC.of_ext HX0.out) hkc)
    have HBW := Lib.hid hB
    clear hcan hG hK hkc hB
    gi_wp2_with fail
    refine ⟨trivial, (CallsIn.inRound l (callsIn_wide.2 (mLeft1_any s ph x.1 HOK.out HPL.out x.2 _ _ W (ShAt.keep HS.out HKC.out).sh (Rs.keep RI.keep _ _ _ _ HKC.out HP.out)))).mono ?_⟩
    rintro e w1 ⟨rfl, hx1⟩
    obtain ⟨T, hTe⟩ : ∃ T, Mv.left s ph x.1 = T := ⟨_, rfl⟩
    have hTl : T < 16777216 := by
      have h := Mv.leftTo_lt s ph x.1 ph.length
      have h2 : Mv.leftTo s ph x.1 ph.length = T := hTe
      rw [h2] at h
      have h3 : 2 ^ ph.length ≤ 2 ^ 24 := Nat.pow_le_pow_right (by decide) (by have a := HOK.out.few; have c := HPL.out; omega)
      omega
    rw [hTe]
    have hK1 := HI.out.2.2.ext hx1
    obtain ⟨nx, D, hown, hsays, hnx⟩ := hK1
    have q1 := hx1.cell k1
    have q2 := hx1.cell k2
    have q3 := hx1.cell k3
    have hfz : w1.frozen? ⟨w.heap.size + 1 + 1 + 1, 0, none⟩ = false := by
      have hlt4 : w.heap.size + 1 + 1 + 1 < w4.heap.size := by have := HX4.out.2; omega
      have hne : some (w.heap.size + 1 + 1 + 1) ≠ some b := by intro e; injection e with e; have := HBL.out; omega
      have h1 : W0.frozen? ⟨w.heap.size + 1 + 1 + 1, 0, none⟩ = false := (Below.frozen HX0.out hlt4).trans HC.out.2.2.2
      have h2 : W.frozen? ⟨w.heap.size + 1 + 1 + 1, 0, none⟩ = false := (World.frozen?_of_block (a := ⟨w.heap.size + 1 + 1 + 1, 0, none⟩) (HI.out.2.1.block (w.heap.size + 1 + 1 + 1) (Nat.lt_of_lt_of_le hlt4 HX0.out.size) hne)).trans h1
      exact (Below.frozen hx1 (lt_of_cell k3)).trans h2
    have HD := Lib.hid (And.intro hown (And.intro hsays hnx))
    have HX1 := Lib.hid hx1
    have HTE := Lib.hid hTe
    have HFZ := Lib.hid hfz
    have HB1 := Lib.hid (HBW.out.ext hx1)
    clear hx1 hTe hfz hown hsays hnx k1 k2 k3 a0 a1 a2 a3 a4 a5 a6 a7 a8 a9 a10
    cases hl : nx (T : Nat) with
    | some c =>
      have hz1 : (nx (T : Nat)).getD false = c := by rw [hl]; rfl
      have hz2 : (nx (T : Nat)).isSome = true := by rw [hl]; rfl
      have HZ := Lib.hid (And.intro hz1 (And.intro hz2 (HD.out.2.2 _ _ hl)))
      clear hl hz1 hz2
      cases c with
      | true =>
        gi_wp2_with (gi_at_lookup; refine wpl_known rfl _ _ rfl b _ rfl HD.out.1 HD.out.2.1 rfl (by omega) (by omega) HZ.out.1 HZ.out.2.1 ?_)
        exact ⟨(keepsO HX1.out).from _, KeepsC.of_ext HX1.out, fun y hy => by
          rcases List.mem_append.1 hy with hy | hy
          · exact HI.out.1 y hy
          · rw [List.mem_singleton.1 hy, HTE.out]; exact HZ.out.2.2, HI.out.2.1.trans (grown_of_ext HX1.out b), HI.out.2.2.ext HX1.out⟩
      | false =>
        have hfz := HFZ.out
        gi_wp2_with (gi_at_lookup; refine wpl_known rfl _ _ rfl b _ rfl HD.out.1 HD.out.2.1 rfl (by omega) (by omega) HZ.out.1 HZ.out.2.1 ?_)
        refine ⟨((keepsO HX1.out).trans (KeepsOthers.setCell _ _ _)).from _, ⟨rfl, x, by simp, by rw [HTE.out]; exact HZ.out.2.2⟩, by go_simp, grown_later (((HWG.out.1.trans HI.out.2.1).trans (grown_of_ext HX1.out b))) (grown_set _ _ _) (fun r hr => by injection hr with hr; rw [← hr]; simp; omega), (HI.out.2.2.ext HX1.out).same ((grown_set _ _ _).block b ?_ ?_)⟩
        · have := (HI.out.2.2.ext HX1.out).lt; exact this
        · intro e; injection e with e; have := HBL.out; simp at e; omega
    | none =>
      have hz1 : (nx (T : Nat)).getD false = false := by rw [hl]; rfl
      have hz2 : (nx (T : Nat)).isSome = false := by rw [hl]; rfl
      have HZ := Lib.hid (And.intro hz1 (And.intro hz2 hl))
      have b4 := HB1.out.b4
      have b5 := HB1.out.b5
      have b6 := HB1.out.b6
      clear hl hz1 hz2
      gi_wp2_with (gi_at_lookup; refine wpl_known rfl _ _ rfl b _ rfl HD.out.1 HD.out.2.1 rfl (by omega) (by omega) HZ.out.1 HZ.out.2.1 ?_)
      have HKC1 := Lib.hid (KeepsC.trans HKC.out (KeepsC.of_ext HX1.out))
      refine ⟨trivial, (CallsIn.inRound l (callsIn_wide.2 (cRec_any s.d s.gl (T : Nat) s.gs _ w1 (Tab.keep HT.out HKC1.out) (ShAt.keep HS.out HKC1.out).gs))).mono ?_⟩
      rintro e w2 ⟨rfl, hx2⟩
      obtain ⟨cc, hcc⟩ : ∃ cc, Cd.can s.d s.gl s.gs (T : Nat) = cc := ⟨_, rfl⟩
      rw [hcc]
      have r2 := hx2.cell q2
      have r3 := hx2.cell q3
      have hfz : w2.frozen? ⟨w.heap.size + 1 + 1 + 1, 0, none⟩ = false := (Below.frozen hx2 (lt_of_cell q3)).trans HFZ.out
      have HX2 := Lib.hid (HX1.out.trans hx2)
      have hD2 := ownsMap_ext HD.out.1 hx2
      have HD2 := Lib.hid hD2
      have HCC2 := Lib.hid hcc
      have hlim : Mv.cnt (fun a => (nx a).isSome) Mv.lim < maxLen := by
        have h := Mv.cnt_le (fun a => (nx a).isSome) Mv.lim
        have h2 := Mv.lim_eq
        have h3 : (16777216 : Nat) < maxLen := by unfold maxLen; decide
        omega
      have HL := Lib.hid hlim
      have hkey := Go.Maps.keyOf_int_mk Tryd.underlying3 (a := (T : Nat)) (WalkArith.wf_i64 (by omega))
      clear hx2 hcc hD2 q1 q2 q3 b4 b5 b6 hlim
      cases cc with
      | true =>
        gi_wp2_with (gi_at_mapUpdate; refine wpListIn_mapUpdate_own _ rfl _ _ _ 58 rfl 3 4 intLaw Tryd.underlying58 _ b _ D rfl HD2.out HL.out _ _ _ rfl rfl hkey (.lit (.bool true)) [] (plainElem_bool Tryd.underlying4 true) ?_; intro w3 hown3 hgrow3; have H3 := Lib.hid (And.intro hown3 hgrow3); clear hown3 hgrow3)
        have hk3 : Known s w3 b := Known.put (HD2.out) HD.out.2.1 HD.out.2.2 HZ.out.2.1 hTl HCC2.out H3.out.1
        exact ⟨((keepsO HX2.out).from _).trans (KeepsFrom.of_grownBy H3.out.2 (fun j e => by cases e; exact HWG.out.2.1)), (KeepsC.of_ext HX2.out).trans (fun _ _ h => grown_cell HD2.out H3.out.2 h), fun y hy => by
          rcases List.mem_append.1 hy with hy | hy
          · exact HI.out.1 y hy
          · rw [List.mem_singleton.1 hy, HTE.out]; exact HCC2.out, (HI.out.2.1.trans (grown_of_ext HX2.out b)).trans H3.out.2, hk3⟩
      | false =>
        gi_wp2_with (gi_at_mapUpdate; refine wpListIn_mapUpdate_own _ rfl _ _ _ 58 rfl 3 4 intLaw Tryd.underlying58 _ b _ D rfl HD2.out HL.out _ _ _ rfl rfl hkey (.lit (.bool false)) [] (plainElem_bool Tryd.underlying4 false) ?_; intro w3 hown3 hgrow3; have H3 := Lib.hid (And.intro hown3 hgrow3); have y3 := grown_cell HD2.out hgrow3 r3; have hf3 : w3.frozen? ⟨w.heap.size + 1 + 1 + 1, 0, none⟩ = false := (World.frozen?_of_block (a := ⟨w.heap.size + 1 + 1 + 1, 0, none⟩) (hgrow3.block (w.heap.size + 1 + 1 + 1) (lt_of_cell r3) (by intro e; injection e with e; have := HBL.out; omega))).trans hfz; clear hown3 hgrow3 r2 r3 hfz)
        have hk3 : Known s w3 b := Known.put (HD2.out) HD.out.2.1 HD.out.2.2 HZ.out.2.1 hTl HCC2.out H3.out.1
        refine ⟨(((keepsO HX2.out).from _).trans (KeepsFrom.of_grownBy H3.out.2 (fun j e => by cases e; exact HWG.out.2.1))).trans ((KeepsOthers.setCell _ _ _).from _), ⟨rfl, x, by simp, by rw [HTE.out]; exact HCC2.out⟩, by go_simp, grown_later (((HWG.out.1.trans HI.out.2.1).trans (grown_of_ext HX2.out b)).trans H3.out.2) (grown_set _ _ _) (fun r hr => by injection hr with hr; rw [← hr]; simp; omega), hk3.same ((grown_set _ _ _).block b ?_ ?_)⟩
        · have := hk3.lt; exact this
        · intro e; injection e with e; have := HBL.out; simp at e; omega
  case done =>
    rintro D xs W hD hS ⟨hcan, hG, hK⟩ hDk
    have hkc := HK0.out.keeps hG
    have k3 := hkc _ _ HCC.out.2.2
    have HI := Lib.hid (And.intro hcan (And.intro hG (And.intro hK (And.intro hS hDk))))
    clear hcan hG hK hkc hS hDk
    have hfz : W.frozen? ⟨w.heap.size + 1 + 1 + 1, 0, none⟩ = false := by
      have hlt4 : w.heap.size + 1 + 1 + 1 < w4.heap.size := by have := HX4.out.2; omega
      have hne : some (w.heap.size + 1 + 1 + 1) ≠ some b := by intro e; injection e with e; have := HBL.out; omega
      have h1 : W0.frozen? ⟨w.heap.size + 1 + 1 + 1, 0, none⟩ = false := (Below.frozen HX0.out hlt4).trans HC.out.2.2.2
      exact (World.frozen?_of_block (a := ⟨w.heap.size + 1 + 1 + 1, 0, none⟩) (HI.out.2.1.block (w.heap.size + 1 + 1 + 1) (Nat.lt_of_lt_of_le hlt4 HX0.out.size) hne)).trans h1
    gi_wp2_with fail
    have hM : MarksOk W0.heap.size (D + 1) (W.setCell ⟨w.heap.size + 1 + 1 + 1, 0, none⟩ (.bool true)) [{ target := Target.collected D, args := #[] }] := MarksOk.push (ds := []) (hi := W0.heap.size) trivial (fun D' _ _ h => (KeepsOthers.setCell _ _ _).same D' _ h rfl) hD hD ((KeepsOthers.setCell _ _ _).same D _ HI.out.2.2.2.2 rfl)
    refine leaves_marks hM fun w' hw' => ?_
    have g1 : (W.setCell ⟨w.heap.size + 1 + 1 + 1, 0, none⟩ (.bool true)).cell? ⟨w.heap.size + 1 + 1 + 1, 0, none⟩ = some (.bool true) := by go_simp
    have hlt4 : w.heap.size + 1 + 1 + 1 < W0.heap.size := by have a := HX4.out.2; have c := HX0.out.size; omega
    have hr1 := (Below.cell hw' (p := ⟨w.heap.size + 1 + 1 + 1, 0, none⟩) hlt4).trans g1
    have hks : Known s (W.setCell ⟨w.heap.size + 1 + 1 + 1, 0, none⟩ (.bool true)) b := HI.out.2.2.1.same ((grown_set _ _ _).block b HI.out.2.2.1.lt (by intro e; injection e with e; have := HBL.out; simp at e; omega))
    refine ⟨.bool true, by simp [results, Tryd.f39, go_sem, hr1], ?_, grown_below (grown_later (HWG.out.1.trans HI.out.2.1) (grown_set _ _ _) (fun r hr => by injection hr with hr; rw [← hr]; simp; omega)) hw' HWG.out.2.2, hks.same (hw'.block b HWG.out.2.1)⟩
    have hall : Mv.safe (fun m => Cd.can s.d s.gl s.gs m) s ph = true := by
      unfold Mv.safe
      rw [List.all_eq_true]
      intro F hF
      have hS : xs.map (·.1) = Mv.fails us s.racks.length n 0 0 := HI.out.2.2.2.1
      have hnn : s.floor.toNat - 1 = n := by have := HN.out.1; omega
      rw [HUS.out, hnn, ← hS] at hF
      obtain ⟨x, hx, rfl⟩ := List.mem_map.1 hF
      exact HI.out.1 x hx
    rw [hall]
  case stop =>
    rintro D c pre W hD hS ⟨⟨rfl, x, hx, hcan⟩, hc3, hG, hK⟩ hDk
    have HI := Lib.hid (And.intro hcan (And.intro hG (And.intro hK (And.intro hS (And.intro hx hDk)))))
    clear hcan hG hK hS hx hDk
    gi_wp2_with fail
    have hM : MarksOk W0.heap.size (D + 1) W [{ target := Target.collected D, args := #[] }] := MarksOk.push (ds := []) (hi := W0.heap.size) trivial (fun _ _ _ h => h) hD hD HI.out.2.2.2.2.2
    refine leaves_marks hM fun w' hw' => ?_
    have hlt4 : w.heap.size + 1 + 1 + 1 < W0.heap.size := by have a := HX4.out.2; have c := HX0.out.size; omega
    have hr1 := (Below.cell hw' (p := ⟨w.heap.size + 1 + 1 + 1, 0, none⟩) hlt4).trans hc3
    refine ⟨.bool false, by simp [results, Tryd.f39, go_sem, hr1], ?_, grown_below HI.out.2.1 hw' HWG.out.2.2, HI.out.2.2.1.same (hw'.block b HWG.out.2.1)⟩
    have hall : Mv.safe (fun m => Cd.can s.d s.gl s.gs m) s ph = false := by
      unfold Mv.safe
      rw [List.all_eq_false]
      obtain ⟨q, hq⟩ := HI.out.2.2.2.1
      have hnn : s.floor.toNat - 1 = n := by have := HN.out.1; omega
      refine ⟨x.1, ?_, by dsimp only; rw [HI.out.1]; simp⟩
      rw [HUS.out, hnn, ← hq]
      exact List.mem_append_left _ (List.mem_map.2 ⟨x, HI.out.2.2.2.2.1, rfl⟩)
    rw [hall]
end Go.Proofs.YtkbiffbmjgmcaaaDoor

/- THE WALKS over Safe and Fits of package moves. -/
namespace Go.Proofs.YtkbiffbmjgmcaaaDoor
open Go.RowKit
open Go.Maps (Keyed)
open Go.WideMaps Go.ChangeMaps Go.MapKept Go.WideShapes
theorem Known.new (s : Mv.Sh) (w : World) : Known s (w.alloc (.map #[] 0)) w.heap.size :=
  ⟨fun _ => none, _, ownsMap_le (World.ownsMap_made (H := Unit) w Tryd.prog 3 (plainElem Tryd.prog 4)) (Nat.zero_le _), KSays.start, fun _ _ h => by cases h⟩
/-- What grew at a block that came later is an extension. -/
theorem ext_of_grown {w0 w w' : World} {b : Nat} (h : Ext w0 w) (hg : w.grownBy w' (some b)) (hb : w0.heap.size ≤ b) : Ext w0 w' := h.grown hg (fun k e => by injection e with e; omega)
set_option maxHeartbeats 8000000 in
set_option maxRecDepth 100000 in
theorem mSafeX_any (s : Mv.Sh) (ph : List Int) (v u : Value) (w : World) (hT : Tab w) (hv : RSh w v s) (hu : Rs RI w u ph) :
    Calls Tryd.prog 14 #[v, u] w fun e w' => e = .returned (.bool (Mv.right s ph && Mv.safe (fun m => Cd.can s.d s.gl s.gs m) s ph)) ∧ Ext w w' := by
  obtain ⟨DA, KA, HA, GA, RA, FA, TA, cD, cK, cH, cG, cR, cF, cT, rfl, hS⟩ := hv.open
  obtain ⟨PA, cP, rfl, hp64⟩ := hu.form
  have hx0 := (Ext.refl w).alloc (.cells #[.slice DA s.disks.length cD, .slice KA s.racks.length cK, .slice HA s.houses.length cH, .int .i64 s.owners, .int .i64 s.d, .slice GA s.gs.length cG, .int .i64 s.gl, .int .i64 s.floor, .slice RA s.room.length cR, .slice FA s.src.length cF, .slice TA s.dst.length cT] 30)
  have HX0 := Lib.hid hx0
  have HS := Lib.hid (hS.ext hx0)
  have HP := Lib.hid (Rs.ext RI.ext _ _ _ _ hx0 hu)
  have hB := BoxAt.new w s DA KA HA GA RA FA TA cD cK cH cG cR cF cT
  have HB := Lib.hid hB
  have a0 := hB.b0
  have a1 := hB.b1
  have a2 := hB.b2
  have a3 := hB.b3
  have a4 := hB.b4
  have a5 := hB.b5
  have a6 := hB.b6
  have a7 := hB.b7
  have a8 := hB.b8
  have a9 := hB.b9
  have a10 := hB.b10
  have HT := Lib.hid (hT.ext hx0)
  clear hv hu hS hx0 hB hT
  have hmm := @run_makeMap Tryd.prog
  go_enter Tryd.func14, Tryd.ntmps14
  go_wp2_with fail
  clear a0 a1 a2 a3 a4 a5 a6 a7 a8 a9 a10
  refine (mRight_any s ph _ _ _ HS.out.sh HP.out).mono ?_
  rintro ee w1 ⟨rfl, hx1⟩
  have HX1 := Lib.hid hx1
  clear hx1
  cases hrt : Mv.right s ph with
  | false =>
    have HRT := Lib.hid hrt
    clear hrt
    go_wp2_with fail
    go_ret
    exact ⟨ret_bool (by rw [HRT.out]; rfl), HX0.out.trans HX1.out⟩
  | true =>
    have hr := Mv.right_iff.1 hrt
    have HR := Lib.hid hr
    have HRT := Lib.hid hrt
    clear hr hrt
    have b0 := (HB.out.ext HX1.out).b0
    have b1 := (HB.out.ext HX1.out).b1
    have b2 := (HB.out.ext HX1.out).b2
    have b3 := (HB.out.ext HX1.out).b3
    have b4 := (HB.out.ext HX1.out).b4
    have b5 := (HB.out.ext HX1.out).b5
    have b6 := (HB.out.ext HX1.out).b6
    have b7 := (HB.out.ext HX1.out).b7
    have b8 := (HB.out.ext HX1.out).b8
    have b9 := (HB.out.ext HX1.out).b9
    have b10 := (HB.out.ext HX1.out).b10
    go_wp2_with fail
    clear b0 b1 b2 b3 b4 b5 b6 b7 b8 b9 b10
    have hok := Mv.ok_of HR.out.1
    have hx2 := HX0.out.trans HX1.out
    have hxa : Ext w1 (w1.alloc (.map #[] 0)) := (Ext.refl w1).alloc _
    refine (mSafe_any s ph w1.heap.size hok HR.out.2.1 _ _ (w1.alloc (.map #[] 0)) (HT.out.ext (HX1.out.trans hxa)) (HS.out.ext (HX1.out.trans hxa)).sh (Rs.ext RI.ext _ _ _ _ (HX1.out.trans hxa) HP.out) (Known.new s w1)).mono ?_
    rintro e w3 ⟨rfl, hg, _⟩
    have HX3 := Lib.hid (ext_of_grown ((HX0.out.trans HX1.out).trans hxa) hg hx2.size)
    clear hg hxa hx2 hok
    go_wp2_with fail
    go_ret
    exact ⟨ret_bool (by rw [HRT.out]; rfl), HX3.out⟩
set_option maxHeartbeats 8000000 in
set_option maxRecDepth 100000 in
theorem mFits_any (s : Mv.Sh) (ph : List Int) (v u : Value) (w : World) (hv : RSh w v s) (hu : Rs RI w u ph) :
    Calls Tryd.prog 16 #[v, u] w fun e w' => e = .returned (.bool (Mv.right s ph && Mv.fits s ph)) ∧ Ext w w' := by
  obtain ⟨DA, KA, HA, GA, RA, FA, TA, cD, cK, cH, cG, cR, cF, cT, rfl, hS⟩ := hv.open
  obtain ⟨PA, cP, rfl, hp64⟩ := hu.form
  have hx0 := (Ext.refl w).alloc (.cells #[.slice DA s.disks.length cD, .slice KA s.racks.length cK, .slice HA s.houses.length cH, .int .i64 s.owners, .int .i64 s.d, .slice GA s.gs.length cG, .int .i64 s.gl, .int .i64 s.floor, .slice RA s.room.length cR, .slice FA s.src.length cF, .slice TA s.dst.length cT] 30)
  have HX0 := Lib.hid hx0
  have HS := Lib.hid (hS.ext hx0)
  have HP := Lib.hid (Rs.ext RI.ext _ _ _ _ hx0 hu)
  have hB := BoxAt.new w s DA KA HA GA RA FA TA cD cK cH cG cR cF cT
  have HB := Lib.hid hB
  have a0 := hB.b0
  have a1 := hB.b1
  have a2 := hB.b2
  have a3 := hB.b3
  have a4 := hB.b4
  have a5 := hB.b5
  have a6 := hB.b6
  have a7 := hB.b7
  have a8 := hB.b8
  have a9 := hB.b9
  have a10 := hB.b10
  clear hv hu hS hx0 hB
  go_enter Tryd.func16, Tryd.ntmps16
  go_wp2_with fail
  clear a0 a1 a2 a3 a4 a5 a6 a7 a8 a9 a10
  refine (mRight_any s ph _ _ _ HS.out.sh HP.out).mono ?_
  rintro ee w1 ⟨rfl, hx1⟩
  have HX1 := Lib.hid hx1
  clear hx1
  cases hrt : Mv.right s ph with
  | false =>
    have HRT := Lib.hid hrt
    clear hrt
    go_wp2_with fail
    go_ret
    exact ⟨ret_bool (by rw [HRT.out]; rfl), HX0.out.trans HX1.out⟩
  | true =>
    have hr := Mv.right_iff.1 hrt
    have HR := Lib.hid hr
    have HRT := Lib.hid hrt
    clear hr hrt
    have b0 := (HB.out.ext HX1.out).b0
    have b1 := (HB.out.ext HX1.out).b1
    have b2 := (HB.out.ext HX1.out).b2
    have b3 := (HB.out.ext HX1.out).b3
    have b4 := (HB.out.ext HX1.out).b4
    have b5 := (HB.out.ext HX1.out).b5
    have b6 := (HB.out.ext HX1.out).b6
    have b7 := (HB.out.ext HX1.out).b7
    have b8 := (HB.out.ext HX1.out).b8
    have b9 := (HB.out.ext HX1.out).b9
    have b10 := (HB.out.ext HX1.out).b10
    go_wp2_with fail
    clear b0 b1 b2 b3 b4 b5 b6 b7 b8 b9 b10
    have hok := Mv.ok_of HR.out.1
    refine (mFits1_any s ph hok HR.out.2.1 _ _ w1 (HS.out.ext HX1.out).sh (Rs.ext RI.ext _ _ _ _ HX1.out HP.out)).mono ?_
    rintro e w3 ⟨rfl, hx3⟩
    have HX3 := Lib.hid ((HX0.out.trans HX1.out).trans hx3)
    clear hx3 hok
    go_wp2_with fail
    go_ret
    exact ⟨ret_bool (by rw [HRT.out]; rfl), HX3.out⟩
end Go.Proofs.YtkbiffbmjgmcaaaDoor

/- TWO LISTS ARE THE SAME: slices.Equal of ints; SameList of the specification. -/
namespace Go.Proofs.YtkbiffbmjgmcaaaDoor
open Go.RowKit
theorem list_same {a b : List Int} (hl : a.length = b.length) (h : ∀ j, j < a.length → a.getD j 0 = b.getD j 0) : a = b := by
  apply List.ext_getElem hl
  intro i h1 h2
  have := h i h1
  rwa [getD_get h1, getD_get h2] at this
set_option maxHeartbeats 8000000 in
set_option maxRecDepth 100000 in
theorem kSame_any (a b : List Int) (v u : Value) (w : World) (ha : Rs RI w v a) (hb : Rs RI w u b) :
    Calls Tryd.prog 20 #[v, u] w fun e w' => e = .returned (.bool (decide (a = b))) ∧ Ext w w' := by
  obtain ⟨PA, cP, rfl, ha64⟩ := ha.form
  obtain ⟨QA, cQ, rfl, hb64⟩ := hb.form
  have HA := Lib.hid ha
  have HB := Lib.hid hb
  clear ha hb
  go_enter Tryd.func20, Tryd.ntmps20
  by_cases hl : a.length = b.length
  case neg =>
    have e1 : decide (a = b) = false := decide_eq_false fun e => hl (by rw [e])
    have HE := Lib.hid e1
    clear e1
    go_wp2_with fail
    go_ret
    exact ⟨ret_bool HE.out.symm, Ext.refl _⟩
  case pos =>
  have HL := Lib.hid hl
  go_wp2_with fail
  go_loopw [5] (fun vi wr => ∃ k : Nat, k ≤ a.length ∧ vi = .int .i64 (k : Nat) ∧ Hid ((∀ j, j < k → a.getD j 0 = b.getD j 0) ∧ Ext w wr)) (fun vi _ => a.length - (intOf vi).toNat)
  case atStart => exact ⟨0, Nat.zero_le _, rfl, Lib.hid ⟨fun j hj => absurd hj (Nat.not_lt_zero j), Ext.refl _⟩⟩
  case round =>
    obtain ⟨k, hk, rfl, HI⟩ := hrel
    by_cases hlt : k < a.length
    · have hltb : k < b.length := by omega
      obtain ⟨a1, u1, rfl, hc1, hu1⟩ := (Rs.ext RI.ext _ _ _ _ HI.out.2 HA.out).at hlt
      obtain ⟨rfl, _, _⟩ := hu1
      obtain ⟨a2, u2, rfl, hc2, hu2⟩ := (Rs.ext RI.ext _ _ _ _ HI.out.2 HB.out).at hltb
      obtain ⟨rfl, _, _⟩ := hu2
      have g1 := getD_get (x := (0 : Int)) hlt
      have g2 := getD_get (x := (0 : Int)) hltb
      obtain ⟨x, hx⟩ : ∃ x, a[k] = x := ⟨_, rfl⟩
      obtain ⟨y, hy⟩ : ∃ y, b[k] = y := ⟨_, rfl⟩
      rw [hx] at hc1 g1
      rw [hy] at hc2 g2
      have HG := Lib.hid (And.intro g1 g2)
      clear hx hy g1 g2
      by_cases hxy : x = y
      · subst hxy
        go_wp2_with fail
        go_quiet (fail)
        go_wp2_with fail
        go_roundw
        case rel =>
          refine ⟨k + 1, by omega, by go_num, Lib.hid ⟨fun j hj => ?_, HI.out.2.drewN nq⟩⟩
          by_cases hjk : j = k
          · rw [hjk, HG.out.1, HG.out.2]
          · exact HI.out.1 j (by omega)
        case measure => simp [intOf]; omega
      · have e1 : decide (a = b) = false := decide_eq_false fun e => hxy (by rw [← HG.out.1, ← HG.out.2, e])
        have HE := Lib.hid e1
        clear e1
        go_wp2_with fail
        go_quiet (fail)
        go_wp2_with fail
        go_ret
        exact ⟨ret_bool HE.out.symm, HI.out.2.drewN nq⟩
    · obtain rfl : k = a.length := by omega
      have e1 : decide (a = b) = true := decide_eq_true (list_same HL.out HI.out.1)
      have HE := Lib.hid e1
      clear e1
      go_wp2_with fail
      go_ret
      exact ⟨ret_bool HE.out.symm, HI.out.2⟩
set_option maxHeartbeats 8000000 in
set_option maxRecDepth 100000 in
theorem sEqual_any (a b : List Int) (v u : Value) (w : World) (ha : Rs RI w v a) (hb : Rs RI w u b) :
    Calls Tryd.prog 44 #[v, u] w fun e w' => e = .returned (.bool (decide (a = b))) ∧ Ext w w' := by
  obtain ⟨PA, cP, rfl, ha64⟩ := ha.form
  obtain ⟨QA, cQ, rfl, hb64⟩ := hb.form
  have HA := Lib.hid ha
  have HB := Lib.hid hb
  clear ha hb
  go_enter Tryd.func44, Tryd.ntmps44
  by_cases hl : a.length = b.length
  case neg =>
    have e1 : decide (a = b) = false := decide_eq_false fun e => hl (by rw [e])
    have HE := Lib.hid e1
    clear e1
    go_wp2_with fail
    go_ret
    exact ⟨ret_bool HE.out.symm, Ext.refl _⟩
  case pos =>
  have HL := Lib.hid hl
  go_wp2_with fail
  go_loopw [13] (fun vi wr => ∃ k : Nat, k ≤ a.length ∧ vi = .int .i64 (k : Nat) ∧ Hid ((∀ j, j < k → a.getD j 0 = b.getD j 0) ∧ Ext w wr)) (fun vi _ => a.length - (intOf vi).toNat)
  case atStart => exact ⟨0, Nat.zero_le _, rfl, Lib.hid ⟨fun j hj => absurd hj (Nat.not_lt_zero j), Ext.refl _⟩⟩
  case round =>
    obtain ⟨k, hk, rfl, HI⟩ := hrel
    by_cases hlt : k < a.length
    · have hltb : k < b.length := by omega
      obtain ⟨a1, u1, rfl, hc1, hu1⟩ := (Rs.ext RI.ext _ _ _ _ HI.out.2 HA.out).at hlt
      obtain ⟨rfl, _, _⟩ := hu1
      obtain ⟨a2, u2, rfl, hc2, hu2⟩ := (Rs.ext RI.ext _ _ _ _ HI.out.2 HB.out).at hltb
      obtain ⟨rfl, _, _⟩ := hu2
      have g1 := getD_get (x := (0 : Int)) hlt
      have g2 := getD_get (x := (0 : Int)) hltb
      obtain ⟨x, hx⟩ : ∃ x, a[k] = x := ⟨_, rfl⟩
      obtain ⟨y, hy⟩ : ∃ y, b[k] = y := ⟨_, rfl⟩
      rw [hx] at hc1 g1
      rw [hy] at hc2 g2
      have HG := Lib.hid (And.intro g1 g2)
      clear hx hy g1 g2
      by_cases hxy : x = y
      · subst hxy
        go_wp2_with fail
        go_quiet (fail)
        go_wp2_with fail
        go_roundw
        case rel =>
          refine ⟨k + 1, by omega, by go_num, Lib.hid ⟨fun j hj => ?_, HI.out.2.drewN nq⟩⟩
          by_cases hjk : j = k
          · rw [hjk, HG.out.1, HG.out.2]
          · exact HI.out.1 j (by omega)
        case measure => simp [intOf]; omega
      · have e1 : decide (a = b) = false := decide_eq_false fun e => hxy (by rw [← HG.out.1, ← HG.out.2, e])
        have HE := Lib.hid e1
        clear e1
        go_wp2_with fail
        go_quiet (fail)
        go_wp2_with fail
        go_ret
        exact ⟨ret_bool HE.out.symm, HI.out.2.drewN nq⟩
    · obtain rfl : k = a.length := by omega
      have e1 : decide (a = b) = true := decide_eq_true (list_same HL.out HI.out.1)
      have HE := Lib.hid e1
      clear e1
      go_wp2_with fail
      go_ret
      exact ⟨ret_bool HE.out.symm, HI.out.2⟩
end Go.Proofs.YtkbiffbmjgmcaaaDoor

/- WHAT IS LOST, in package moves: a map from phases, as arrays of 24 small numbers, to whether no steps lead on. -/
namespace Mv
/-- Phases of n pieces. -/
def Ph (n : Nat) (x : List Int) : Prop := x.length = n ∧ ∀ e ∈ x, 0 ≤ e ∧ e ≤ 2
def codeP : List Int → Nat
  | [] => 0
  | e :: r => e.toNat + 3 * codeP r
theorem codeP_lt : ∀ (x : List Int), (∀ e ∈ x, 0 ≤ e ∧ e ≤ 2) → codeP x < 3 ^ x.length
  | [], _ => by decide
  | e :: r, h => by
    have h1 := h e List.mem_cons_self
    have h2 := codeP_lt r fun y hy => h y (List.mem_cons_of_mem _ hy)
    rw [codeP, List.length_cons, Nat.pow_succ]
    omega
theorem codeP_inj : ∀ (x y : List Int), x.length = y.length → (∀ e ∈ x, 0 ≤ e ∧ e ≤ 2) → (∀ e ∈ y, 0 ≤ e ∧ e ≤ 2) → codeP x = codeP y → x = y
  | [], [], _, _, _, _ => rfl
  | [], _ :: _, hl, _, _, _ => by cases hl
  | _ :: _, [], hl, _, _, _ => by cases hl
  | e :: r, f :: t, hl, hx, hy, h => by
    have h1 := hx e List.mem_cons_self
    have h2 := hy f List.mem_cons_self
    rw [codeP, codeP] at h
    have ht := codeP_inj r t (by simpa using hl) (fun z hz => hx z (List.mem_cons_of_mem _ hz)) (fun z hz => hy z (List.mem_cons_of_mem _ hz)) (by omega)
    have he : e = f := by omega
    rw [ht, he]
theorem nodup_one : ∀ (l : List Nat) (m : Nat), l.Nodup → (∀ a ∈ l, a = m) → l.length ≤ 1
  | [], _, _, _ => by simp
  | [_], _, _, _ => by simp
  | a :: b :: r, m, hn, h => by
    exfalso
    have h1 := h a List.mem_cons_self
    have h2 := h b (List.mem_cons_of_mem _ List.mem_cons_self)
    rw [List.nodup_cons] at hn
    exact hn.1 (by rw [h1, ← h2]; exact List.mem_cons_self)
theorem filter_two (p : Nat → Bool) : ∀ l : List Nat, l.length = (l.filter p).length + (l.filter fun a => !p a).length
  | [] => rfl
  | a :: r => by
    have ih := filter_two p r
    rw [List.filter_cons, List.filter_cons, List.length_cons]
    cases p a <;> simp <;> omega
theorem nodup_len : ∀ (M : Nat) (l : List Nat), l.Nodup → (∀ a ∈ l, a < M) → l.length ≤ M
  | 0, l, _, h => by
    cases l with
    | nil => exact Nat.le_refl _
    | cons a r => exact absurd (h a List.mem_cons_self) (Nat.not_lt_zero a)
  | M + 1, l, hn, h => by
    have h1 := nodup_len M (l.filter fun a => decide (a < M)) (hn.filter _) fun a ha => of_decide_eq_true (List.mem_filter.1 ha).2
    have h2 := nodup_one (l.filter fun a => !decide (a < M)) M (hn.filter _) fun a ha => by
      obtain ⟨h3, h4⟩ := List.mem_filter.1 ha
      have h5 := h a h3
      have h6 : ¬ a < M := by simpa using h4
      omega
    have h3 := filter_two (fun a => decide (a < M)) l
    omega
theorem ph_len {n : Nat} (hn : n ≤ 24) {U : List (List Int)} (hU : U.Nodup) (h : ∀ x ∈ U, Ph n x) : U.length ≤ 282429536481 := by
  have h1 : (U.map codeP).Nodup := by
    refine List.Pairwise.map _ (fun a b hab => hab) ?_
    exact List.Pairwise.imp_of_mem (fun {a b} ha hb hab e => hab (codeP_inj a b ((h a ha).1.trans (h b hb).1.symm) (h a ha).2 (h b hb).2 e)) hU
  have h2 := nodup_len (3 ^ 24) _ h1 fun a ha => by
    obtain ⟨x, hx, rfl⟩ := List.mem_map.1 ha
    have a1 := codeP_lt x (h x hx).2
    rw [(h x hx).1] at a1
    exact Nat.lt_of_lt_of_le a1 (Nat.pow_le_pow_right (by decide) hn)
  rw [List.length_map] at h2
  exact h2
/-- Phases as numbers of 24 pieces. -/
def pad (x : List Int) (i : Nat) : Int := x.getD i 0
theorem pad_small {n : Nat} {x : List Int} (h : Ph n x) (i : Nat) : 0 ≤ pad x i ∧ pad x i ≤ 2 := by
  unfold pad
  by_cases hi : i < x.length
  · rw [List.getD_eq_getElem?_getD, List.getElem?_eq_getElem hi]
    exact h.2 _ (List.getElem_mem hi)
  · rw [List.getD_eq_getElem?_getD, List.getElem?_eq_none (by omega)]
    decide
theorem pad_inj {n : Nat} (hn : n ≤ 24) {x y : List Int} (hx : Ph n x) (hy : Ph n y) (h : ∀ i, i < 24 → pad x i = pad y i) : x = y :=
  list_ext (hx.1.trans hy.1.symm) fun k hk => h k (by have := hx.1; omega)
theorem right_ph {s : Sh} {ph : List Int} (h : right s ph = true) : Ph s.src.length ph := ⟨(right_iff.1 h).2.1, fun x hx => by
  obtain ⟨k, hk, rfl⟩ := List.getElem_of_mem hx
  have := right_at h hk
  rw [List.getD_eq_getElem?_getD, List.getElem?_eq_getElem hk] at this
  simp only [Option.getD_some] at this
  omega⟩
end Mv
namespace Go.Proofs.YtkbiffbmjgmcaaaDoor
open Go.RowKit
open Go.Maps (Keyed)
open Go.WideMaps Go.ChangeMaps Go.MapKept Go.WideShapes
theorem laidOutT : laidOutB Tryd.prog = true := by kernel_rfl
theorem keyLawP : Keyed Tryd.prog 63 := Keyed.of_law (deep_law_laid laidOutT (m := 5) (by decide) (Nat.le_of_ble_eq_true (by kernel_rfl)) (by kernel_rfl) (by kernel_rfl))
/-- The key of 24 small numbers. -/
def keyK (K : Nat → Int) : Lit := .string (keyBytes [.int .i8 (K 0), .int .i8 (K 1), .int .i8 (K 2), .int .i8 (K 3), .int .i8 (K 4), .int .i8 (K 5), .int .i8 (K 6), .int .i8 (K 7), .int .i8 (K 8), .int .i8 (K 9), .int .i8 (K 10), .int .i8 (K 11), .int .i8 (K 12), .int .i8 (K 13), .int .i8 (K 14), .int .i8 (K 15), .int .i8 (K 16), .int .i8 (K 17), .int .i8 (K 18), .int .i8 (K 19), .int .i8 (K 20), .int .i8 (K 21), .int .i8 (K 22), .int .i8 (K 23)])
def aggK (K : Nat → Int) : Value := .agg #[.int .i8 (K 0), .int .i8 (K 1), .int .i8 (K 2), .int .i8 (K 3), .int .i8 (K 4), .int .i8 (K 5), .int .i8 (K 6), .int .i8 (K 7), .int .i8 (K 8), .int .i8 (K 9), .int .i8 (K 10), .int .i8 (K 11), .int .i8 (K 12), .int .i8 (K 13), .int .i8 (K 14), .int .i8 (K 15), .int .i8 (K 16), .int .i8 (K 17), .int .i8 (K 18), .int .i8 (K 19), .int .i8 (K 20), .int .i8 (K 21), .int .i8 (K 22), .int .i8 (K 23)]
theorem lits_i8 (m : Nat) {a : Int} (wa : (Lit.int .i8 a).wf = true) : Program.keyLits Tryd.prog (m + 1) 62 [.int .i8 a] = some [.int .i8 a] := by
  unfold Program.keyLits
  rw [Tryd.underlying62]
  simp [wa]
theorem cellsI8 : Tryd.prog.cellsOf 62 = 1 := by kernel_rfl
theorem cellsK : Tryd.prog.cellsOf 63 = 24 := by kernel_rfl
theorem range24 : List.range 24 = [0, 1, 2, 3, 4, 5, 6, 7, 8, 9, 10, 11, 12, 13, 14, 15, 16, 17, 18, 19, 20, 21, 22, 23] := rfl
theorem lits_K (m : Nat) (K : Nat → Int) (w : ∀ i, (Lit.int .i8 (K i)).wf = true) : Program.keyLits Tryd.prog (m + 1 + 1) 63 [.int .i8 (K 0), .int .i8 (K 1), .int .i8 (K 2), .int .i8 (K 3), .int .i8 (K 4), .int .i8 (K 5), .int .i8 (K 6), .int .i8 (K 7), .int .i8 (K 8), .int .i8 (K 9), .int .i8 (K 10), .int .i8 (K 11), .int .i8 (K 12), .int .i8 (K 13), .int .i8 (K 14), .int .i8 (K 15), .int .i8 (K 16), .int .i8 (K 17), .int .i8 (K 18), .int .i8 (K 19), .int .i8 (K 20), .int .i8 (K 21), .int .i8 (K 22), .int .i8 (K 23)] = some [.int .i8 (K 0), .int .i8 (K 1), .int .i8 (K 2), .int .i8 (K 3), .int .i8 (K 4), .int .i8 (K 5), .int .i8 (K 6), .int .i8 (K 7), .int .i8 (K 8), .int .i8 (K 9), .int .i8 (K 10), .int .i8 (K 11), .int .i8 (K 12), .int .i8 (K 13), .int .i8 (K 14), .int .i8 (K 15), .int .i8 (K 16), .int .i8 (K 17), .int .i8 (K 18), .int .i8 (K 19), .int .i8 (K 20), .int .i8 (K 21), .int .i8 (K 22), .int .i8 (K 23)] := by
  unfold Program.keyLits
  rw [Tryd.underlying63]
  simp [cellsK, cellsI8, range24, lits_i8 m (w _)]
theorem keyK_of {K : Nat → Int} (h : ∀ i, -128 ≤ K i ∧ K i ≤ 127) : keyOf Tryd.prog 63 (aggK K) = some (keyK K) := by
  have w : ∀ i, (Lit.int .i8 (K i)).wf = true := fun i => by
    have := h i
    simp [Lit.wf, IntKind.min, IntKind.max, IntKind.signed, IntKind.bits]
    omega
  obtain ⟨m, hm⟩ : ∃ m, Tryd.prog.types.size = m + 1 := ⟨Tryd.prog.types.size - 1, by kernel_rfl⟩
  have hkt : Tryd.prog.keyType 63 = true := by kernel_rfl
  have hfo : Value.formed Tryd.prog 63 (aggK K) = true := by
    unfold Value.formed aggK
    rw [Tryd.underlying63]
    simp [cellsK]
  unfold keyOf
  rw [Tryd.underlying63]
  simp only [hkt, hfo, hm]
  unfold aggK
  simp only [Value.cells, lits_K m K w, keyK]
  rfl
set_option maxRecDepth 100000 in
theorem keyK_inj {K K' : Nat → Int} (h : ∀ i, -128 ≤ K i ∧ K i ≤ 127) (h' : ∀ i, -128 ≤ K' i ∧ K' i ≤ 127) (e : keyK K = keyK K') : ∀ i, i < 24 → K i = K' i := by
  have h1 := keyK_of h
  have h2 := keyK_of h'
  rw [← e] at h2
  have := keyLawP.inj h1 h2
  unfold aggK at this
  simp only [Value.agg.injEq, Array.mk.injEq, List.cons.injEq, Value.int.injEq, true_and, and_true] at this
  intro i hi
  obtain ⟨h0, h1, h2, h3, h4, h5, h6, h7, h8, h9, h10, h11, h12, h13, h14, h15, h16, h17, h18, h19, h20, h21, h22, h23⟩ := this
  match i, hi with
  | 0, _ => exact h0
  | 1, _ => exact h1
  | 2, _ => exact h2
  | 3, _ => exact h3
  | 4, _ => exact h4
  | 5, _ => exact h5
  | 6, _ => exact h6
  | 7, _ => exact h7
  | 8, _ => exact h8
  | 9, _ => exact h9
  | 10, _ => exact h10
  | 11, _ => exact h11
  | 12, _ => exact h12
  | 13, _ => exact h13
  | 14, _ => exact h14
  | 15, _ => exact h15
  | 16, _ => exact h16
  | 17, _ => exact h17
  | 18, _ => exact h18
  | 19, _ => exact h19
  | 20, _ => exact h20
  | 21, _ => exact h21
  | 22, _ => exact h22
  | 23, _ => exact h23
  | i + 24, hi => exact absurd hi (by omega)
/-- A map says which phases are in a list. -/
def LSays (n : Nat) (D : DataW Unit) (U : List (List Int)) : Prop := ∀ x, Mv.Ph n x → Go.Maps.has D (keyK (Mv.pad x)) = decide (x ∈ U) ∧ D.atKey (keyK (Mv.pad x)) (.lit (.bool false)) = .lit (.bool (decide (x ∈ U)))
theorem LSays.start (n : Nat) : LSays n (.map []) [] := fun _ _ => ⟨rfl, rfl⟩
theorem pad_byte {n : Nat} {x : List Int} (h : Mv.Ph n x) (i : Nat) : -128 ≤ Mv.pad x i ∧ Mv.pad x i ≤ 127 := by have := Mv.pad_small h i; omega
theorem LSays.put {n : Nat} (hn : n ≤ 24) {D : DataW Unit} {U : List (List Int)} (h : LSays n D U) (hD : Go.Maps.IsMap D) {y : List Int} (hy : Mv.Ph n y) : LSays n (D.put (keyK (Mv.pad y)) (.lit (.bool true))) (y :: U) := by
  have hk : WideAt.IsKeyLit (keyK (Mv.pad y)) := keyLawP.key (keyK_of (pad_byte hy))
  intro x hx
  by_cases he : x = y
  · subst he
    have hm : decide (x ∈ x :: U) = true := by simp
    rw [hm]
    exact ⟨Go.Maps.has_put_same hD hk _, Go.Maps.atKey_put_same hD hk _ _⟩
  · have hne : keyK (Mv.pad x) ≠ keyK (Mv.pad y) := fun e => he (Mv.pad_inj hn hx hy (keyK_inj (pad_byte hx) (pad_byte hy) e))
    have hm : decide (x ∈ y :: U) = decide (x ∈ U) := by
      apply decide_eq_decide.2
      rw [List.mem_cons]
      exact ⟨fun e => e.elim (fun e => absurd e he) id, .inr⟩
    rw [hm, Go.Maps.has_put_other hne, Go.Maps.atKey_put_other hne]
    exact h x hx
/-- A map of what is lost. -/
def Lost (n : Nat) (P : List Int → Prop) (w : World) (b : Nat) (U : List (List Int)) : Prop :=
  (∃ D : DataW Unit, w.ownsMap Tryd.prog 63 (plainElem Tryd.prog 4) b U.length D ∧ LSays n D U) ∧ U.Nodup ∧ ∀ x ∈ U, Mv.Ph n x ∧ P x
theorem Lost.same {n : Nat} {P : List Int → Prop} {w w' : World} {b : Nat} {U : List (List Int)} (h : Lost n P w b U) (hx : w'.heap[b]? = w.heap[b]?) : Lost n P w' b U := by
  obtain ⟨⟨D, h1, h2⟩, h3⟩ := h
  exact ⟨⟨D, ownsMap_same h1 hx, h2⟩, h3⟩
theorem Lost.lt {n : Nat} {P : List Int → Prop} {w : World} {b : Nat} {U : List (List Int)} (h : Lost n P w b U) : b < w.heap.size := by
  obtain ⟨⟨D, h1, h2⟩, h3⟩ := h
  exact ownsMap_lt h1
set_option maxRecDepth 100000 in
theorem look_lost {w : World} {b N n : Nat} {D : DataW Unit} {U : List (List Int)} (h : w.ownsMap Tryd.prog 63 (plainElem Tryd.prog 4) b N D) (hS : LSays n D U) {x : List Int} (hx : Mv.Ph n x) :
    (Instr.lookup 61 (.map (some b)) (aggK (Mv.pad x)) false).run Tryd.prog w = .ok (.bool (decide (x ∈ U))) w := by
  obtain ⟨v, ps, hrun, hv⟩ := h.lookup keyLawP Tryd.underlying61 (boolZero w) (plainElem_bool Tryd.underlying4 false) (keyK_of (pad_byte hx))
  rw [(hS x hx).2] at hv
  obtain ⟨z, rfl, hz⟩ := plainElem_bool_inv Tryd.underlying4 hv
  injection hz with hz _
  injection hz with hz
  injection hz with hz
  rw [hrun, hz]
set_option maxRecDepth 100000 in
theorem wpl_lost {ops : Array Oper} {rest : List Oper} {o : Oper} {a : Act} {Q : Exit → Act → World → Prop} {w : World} (hg : o.guard = none) (m x : Operand) (hop : o.op = Op.lookup 61 m x false)
    (b N n : Nat) {D : DataW Unit} {U : List (List Int)} (hm : a.eval m = .map (some b)) (hown : w.ownsMap Tryd.prog 63 (plainElem Tryd.prog 4) b N D) (hS : LSays n D U) {y : List Int} (hx : a.eval x = aggK (Mv.pad y)) (hy : Mv.Ph n y) {bb : Bool} (hb : decide (y ∈ U) = bb)
    (hK : wpList Tryd.prog ops Q rest (a.put o.dst (.bool bb)) w) : wpList Tryd.prog ops Q (o :: rest) a w := by
  refine wpList_plain hg fun K hK' => ?_
  have hr : (execOp a.eval o).run Tryd.prog w = .ok (.value (.bool bb)) w := by
    have h1 := look_lost hown hS hy
    rw [hb] at h1
    unfold execOp
    simp only [hop, hm, hx, h1, Sem.run_bind, Sem.run_pure, Result.andThen_ok]
  unfold Oper.wp
  rw [hr]
  exact hK' _ _ hK
end Go.Proofs.YtkbiffbmjgmcaaaDoor

/- THE SPECIFICATION'S RANK of rows, in plain terms: it is the number of columns exactly if the rows span all. -/
namespace Cd
open Gf
/-- A row from which a multiple of another one was taken, so that it is 0 at a place. -/
def lessR (r o : List UInt8) (a : Nat) : List UInt8 := (List.range r.length).map fun k => r.getD k 0 ^^^ mul (mul (r.getD a 0) (inv (o.getD a 0))) (o.getD k 0)
theorem lessR_get {r o : List UInt8} {a k : Nat} (h : k < r.length) : (lessR r o a).getD k 0 = r.getD k 0 ^^^ mul (mul (r.getD a 0) (inv (o.getD a 0))) (o.getD k 0) := getD_map_range _ _ h
/-- The first row of the first k that is not 0 at a place. -/
def pivTo (l : List (List UInt8)) (a : Nat) : Nat → Option Nat
  | 0 => none
  | k + 1 => match pivTo l a k with
    | some p => some p
    | none => if (l.getD k []).getD a 0 = 0 then none else some k
/-- The rows but p, of the first m. -/
def restTo (l : List (List UInt8)) (p a : Nat) : Nat → List (List UInt8)
  | 0 => []
  | m + 1 => if m = p then restTo l p a m else restTo l p a m ++ [lessR (l.getD m []) (l.getD p []) a]
theorem restTo_skip (l : List (List UInt8)) (p a : Nat) : restTo l p a (p + 1) = restTo l p a p := by rw [restTo, if_pos rfl]
theorem restTo_next {l : List (List UInt8)} {p a m : Nat} (h : m ≠ p) : restTo l p a (m + 1) = restTo l p a m ++ [lessR (l.getD m []) (l.getD p []) a] := by rw [restTo, if_neg h]
theorem restTo_mem {l : List (List UInt8)} {p a : Nat} {x : List UInt8} : ∀ {m : Nat}, x ∈ restTo l p a m ↔ ∃ k, k < m ∧ k ≠ p ∧ x = lessR (l.getD k []) (l.getD p []) a
  | 0 => by simp [restTo]
  | m + 1 => by
    by_cases h : m = p
    · subst h
      rw [restTo_skip, restTo_mem]
      constructor
      · rintro ⟨k, h1, h2, h3⟩; exact ⟨k, by omega, h2, h3⟩
      · rintro ⟨k, h1, h2, h3⟩; exact ⟨k, by omega, h2, h3⟩
    · rw [restTo_next h, List.mem_append, List.mem_singleton, restTo_mem]
      constructor
      · rintro (⟨k, h1, h2, h3⟩ | h3)
        · exact ⟨k, by omega, h2, h3⟩
        · exact ⟨m, by omega, h, h3⟩
      · rintro ⟨k, h1, h2, h3⟩
        by_cases hk : k = m
        · subst hk; exact .inr h3
        · exact .inl ⟨k, by omega, h2, h3⟩
/-- The rows that are left, and the rank, after the first a columns. -/
def rankTo (l : List (List UInt8)) : Nat → List (List UInt8) × Nat
  | 0 => (l, 0)
  | a + 1 => match pivTo (rankTo l a).1 a (rankTo l a).1.length with
    | none => rankTo l a
    | some p => (restTo (rankTo l a).1 p a (rankTo l a).1.length, (rankTo l a).2 + 1)
theorem getD_mem {α : Type} {l : List α} {k : Nat} {x : α} (h : k < l.length) : l.getD k x ∈ l := by
  rw [List.getD_eq_getElem?_getD, List.getElem?_eq_getElem h]
  exact List.getElem_mem h
theorem SpanL.zero {n : Nat} {L : List (List UInt8)} {v : Nat → UInt8} (h : ∀ i, i < n → v i = 0) : SpanL n L v := InSpan.zero n _ _ h
theorem SpanL.sum {n : Nat} {L : List (List UInt8)} (c : Nat → UInt8) (us : Nat → Nat → UInt8) (k : Nat) (h : ∀ j, j < k → SpanL n L (us j)) : SpanL n L fun i => sm k fun j => mul (c j) (us j i) := InSpan.sum c us k h
theorem rest_split {n a p : Nat} {L : List (List UInt8)} (hL : ∀ r ∈ L, r.length = n) {x : List UInt8} (hx : x ∈ L) : ∃ c, SpanL n (restTo L p a L.length) fun i => vec x i ^^^ mul c ((L.getD p []).getD i 0) := by
  obtain ⟨k, hk, rfl⟩ := List.getElem_of_mem hx
  have e : L[k] = L.getD k [] := by rw [List.getD_eq_getElem?_getD, List.getElem?_eq_getElem hk]; rfl
  rw [e]
  by_cases hkp : k = p
  · subst hkp
    refine ⟨1, SpanL.zero fun i _ => ?_⟩
    rw [one_mul]
    exact UInt8.xor_self
  · refine ⟨mul ((L.getD k []).getD a 0) (inv ((L.getD p []).getD a 0)), (SpanL.mem (restTo_mem.2 ⟨k, hk, hkp, rfl⟩)).congr fun i hi => ?_⟩
    exact (lessR_get (by rw [hL _ (getD_mem hk)]; exact hi)).symm
theorem SpanL.rest {n a p : Nat} {L : List (List UInt8)} (hL : ∀ r ∈ L, r.length = n) {u : Nat → UInt8} (h : SpanL n L u) : ∃ c, SpanL n (restTo L p a L.length) fun i => u i ^^^ mul c ((L.getD p []).getD i 0) := by
  obtain ⟨c, hc⟩ := h
  have hd : ∃ d : Nat → UInt8, ∀ k, k < L.length → SpanL n (restTo L p a L.length) fun i => vec (L.getD k []) i ^^^ mul (d k) ((L.getD p []).getD i 0) := by
    refine ⟨fun k => if hk : k < L.length then (rest_split (p := p) (a := a) hL (getD_mem hk (x := []))).choose else 0, fun k hk => ?_⟩
    simp only [hk, ↓reduceDIte]
    exact (rest_split (p := p) (a := a) hL (getD_mem hk (x := []))).choose_spec
  obtain ⟨d, hd⟩ := hd
  refine ⟨sm L.length fun k => mul (c k) (d k), (SpanL.sum c _ L.length hd).congr fun i hi => ?_⟩
  show u i ^^^ mul _ _ = _
  rw [hc i hi, mul_comm (sm _ _), sm_mul, ← sm_add]
  refine sm_congr fun k _ => ?_
  rw [mul_xor]
  congr 1
  rw [mul_comm ((L.getD p []).getD i 0), mul_assoc]
attribute [irreducible] rankTo restTo pivTo lessR
end Cd

/- What the root words reach of other texts. -/
/- BITS of sets, in plain terms. -/
namespace Cd
open Gf
end Cd
/- CODES, in plain terms: what Encode and Decode compute, and that a chunk comes back. No program in sight. -/
namespace Cd
open Gf Go.Proofs.YtkbiffbmjgmcaaaDoor
section
variable {d gl : Int} {gs : List (List Int)} {n m : Int} {pieces : List (List UInt8)}
end
section
variable {d gl : Int} {gs : List (List Int)}
end
end Cd
/- THE WALKS over the strings of the field's specification. -/
namespace Go.Proofs.YtkbiffbmjgmcaaaDoor
open Go.RowKit

end Go.Proofs.YtkbiffbmjgmcaaaDoor
/- THE SPECIFICATION'S CHECK of codes, in plain terms: it is the program's. -/
namespace Cd
/-- Is a number in one of the first g groups? -/
def prevHas (gs : List (List Int)) (g : Nat) (x : Int) : Bool := (List.range g).any fun h => decide (x ∈ gs.getD h [])
def refBad (d : Int) (gs : List (List Int)) (g k : Nat) : Bool :=
  decide ((gs.getD g []).getD k 0 < 0) || decide (d ≤ (gs.getD g []).getD k 0) || (decide (0 < k) && decide ((gs.getD g []).getD k 0 ≤ (gs.getD g []).getD (k - 1) 0)) || prevHas gs g ((gs.getD g []).getD k 0)
/-- The error of one group. -/
def refGroup (d : Int) (gs : List (List Int)) (g : Nat) : Int :=
  if gs.getD g [] = [] then 8 else if (List.range (gs.getD g []).length).any (refBad d gs g) then 1 else 0
attribute [irreducible] refGroup refBad prevHas
end Cd
/- THE WALKS over the specification of codes: Has, group, Check, Pieces, Size, Bit, In, IsSet. -/
namespace Go.Proofs.YtkbiffbmjgmcaaaDoor
open Go.RowKit
end Go.Proofs.YtkbiffbmjgmcaaaDoor
/- THE WALKS over the specification of codes: Check, Pieces, Size, Bit, In, IsSet. -/
namespace Cd
end Cd
namespace Go.Proofs.YtkbiffbmjgmcaaaDoor
open Go.RowKit
end Go.Proofs.YtkbiffbmjgmcaaaDoor
/- THE WALKS over the specification of codes: row, Rows, part. -/
namespace Cd
open Gf
/-- A coefficient of a piece's row. -/
def rowAt (d : Nat) (gs : List (List Int)) (k i : Nat) : UInt8 := if k < d then unitAt k i else if k < d + gs.length then inAt (setOf 0 (gs.getD (k - d) [])) i else gloAt (k - d - gs.length) i
attribute [irreducible] rowAt
end Cd
namespace Go.Proofs.YtkbiffbmjgmcaaaDoor
open Go.RowKit
theorem Rd.range {w : World} {A : Option Addr} {d : Nat} {g : Nat → UInt8} {l : List UInt8} (h : Rd w A (((List.range d).map g).map bv)) (hl : (List.range d).map g = l) : Rd w A (l.map bv) := hl ▸ h

end Go.Proofs.YtkbiffbmjgmcaaaDoor
/- THE WALKS over the specification of codes: Rows, part, Encode, SameRows, SameTexts, Few. -/
namespace Cd
end Cd
namespace Go.Proofs.YtkbiffbmjgmcaaaDoor
open Go.RowKit
/-- A row of bytes that a call has made. -/
def byteRow (A : Option Addr) (c : Nat) (r : List UInt8) : LRow := ⟨.slice A r.length c, 5, 1, r.length, r.map bv⟩
/-- Rows of bytes that a call has made, and the list of them. -/
def RowsOwn (w0 w : World) (A : Option Addr) (n c : Nat) (rs : List (List UInt8)) : Prop :=
  ∃ L : List LRow, n = rs.length ∧ L.length = rs.length ∧ (∀ (j : Nat) (r : List UInt8), rs[j]? = some r → ∃ A2 c2, L[j]? = some (byteRow A2 c2 r)) ∧ Owns w0 w (⟨.slice A n c, 45, 1, n, L.map (·.v)⟩ :: L)
/-- The same with one row more, that is not in the list yet. -/
def RowsMore (w0 w : World) (A : Option Addr) (n c : Nat) (rs : List (List UInt8)) (A2 : Option Addr) (c2 : Nat) (r : List UInt8) : Prop :=
  ∃ L : List LRow, n = rs.length ∧ L.length = rs.length ∧ (∀ (j : Nat) (r : List UInt8), rs[j]? = some r → ∃ A2 c2, L[j]? = some (byteRow A2 c2 r)) ∧ Owns w0 w ((⟨.slice A n c, 45, 1, n, L.map (·.v)⟩ :: L) ++ [byteRow A2 c2 r])
theorem RowsOwn.nil (w : World) : RowsOwn w w none 0 0 [] := ⟨[], rfl, rfl, fun j r h => by simp at h, Owns.start w (by intro r hr; simp at hr; subst hr; exact ⟨rfl, rfl, rfl⟩)⟩
theorem RowsOwn.next {w0 w w' : World} {A : Option Addr} {n c : Nat} {rs : List (List UInt8)} (h : RowsOwn w0 w A n c rs) (hx : Ext w w') : RowsOwn w0 w' A n c rs := by
  obtain ⟨L, h1, h2, h3, h4⟩ := h
  exact ⟨L, h1, h2, h3, h4.next hx⟩
theorem RowsOwn.ext {w0 w : World} {A : Option Addr} {n c : Nat} {rs : List (List UInt8)} (h : RowsOwn w0 w A n c rs) : Ext w0 w := by
  obtain ⟨L, h1, h2, h3, h4⟩ := h
  exact h4.ext
theorem RowsOwn.more {w0 w w2 : World} {A A2 : Option Addr} {n c c2 : Nat} {rs : List (List UInt8)} {r : List UInt8} (h : RowsOwn w0 w A n c rs) (hx : Ext w w2) (ho : w2.ownsRow w.heap.size 5 1 (.slice A2 r.length c2) r.length (r.map bv)) : RowsMore w0 w2 A n c rs A2 c2 r := by
  obtain ⟨L, h1, h2, h3, h4⟩ := h
  exact ⟨L, h1, h2, h3, h4.behind hx ho⟩
theorem RowsOwn.rs {w0 w : World} {A : Option Addr} {n c : Nat} {rs : List (List UInt8)} (h : RowsOwn w0 w A n c rs) (hl : rs.length ≤ 9223372036854775807) (hw : ∀ r ∈ rs, r.length ≤ 9223372036854775807) : Rs (Rs RB) w (.slice A n c) rs := by
  obtain ⟨L, rfl, h2, h3, h4⟩ := h
  refine ⟨A, c, rfl, hl, fun i r hi => ?_⟩
  obtain ⟨A2, c2, hL⟩ := h3 i r hi
  have hv : (L.map (·.v))[i]? = some (.slice A2 r.length c2) := by rw [List.getElem?_map, hL]; rfl
  obtain ⟨ad, e1, _, e3⟩ := h4.rd 0 rfl i _ hv
  exact ⟨ad, _, e1, e3, Rs.of_rd (h4.rd (i + 1) (n := r.length) hL) (hw r (List.mem_of_getElem? hi))⟩
end Go.Proofs.YtkbiffbmjgmcaaaDoor
/- THE WALKS over the specification of codes: SameRows, SameTexts, Few. -/
namespace Cd
/-- At most n groups of at most 20 elements. -/
def few (gs : List (List Int)) (n : Nat) : Bool := decide (gs.length ≤ n) && gs.all fun g => decide (g.length ≤ 20)
theorem few_big {gs : List (List Int)} {n : Nat} (h : ¬ gs.length ≤ n) : few gs n = false := by simp [few, h]
theorem few_bad {gs : List (List Int)} {n g : Nat} (h : g < gs.length) (h2 : ¬ (gs[g]).length ≤ 20) : few gs n = false := by
  unfold few
  rw [Bool.and_eq_false_iff]
  right
  rw [List.all_eq_false]
  exact ⟨gs[g], List.getElem_mem h, by simpa using h2⟩
theorem few_ok {gs : List (List Int)} {n : Nat} (h : gs.length ≤ n) (h2 : ∀ g, g < gs.length → (gs.getD g []).length ≤ 20) : few gs n = true := by
  unfold few
  rw [Bool.and_eq_true, List.all_eq_true]
  refine ⟨by simpa using h, fun g hg => ?_⟩
  obtain ⟨i, hi, rfl⟩ := List.getElem_of_mem hg
  have := h2 i hi
  rw [Go.Proofs.YtkbiffbmjgmcaaaDoor.getD_get hi] at this
  simpa using this
end Cd
namespace Go.Proofs.YtkbiffbmjgmcaaaDoor
open Go.RowKit
theorem rFew_any (d gl : Int) (gs : List (List Int)) (n : Nat) (G : Value) (w : World) (hG : Rs (Rs RI) w G gs) (hn : n ≤ 1000) :
    Calls Tryd.prog 23 #[.agg #[.int .i64 d, G, .int .i64 gl], .int .i64 n] w fun e w' => e = .returned (.bool (Cd.few gs n)) ∧ Ext w w' := by
  have hx0 := (Ext.refl w).alloc (.cells #[.int .i64 d, G, .int .i64 gl] 28)
  have HX := Lib.hid (And.intro hx0 (Rs.ext (Rs.ext RI.ext) _ _ _ _ hx0 hG))
  obtain ⟨GA, Gc, rfl, hgl⟩ := hG.form
  clear hG hx0
  by_cases h1 : gs.length ≤ n
  · have H1 := Lib.hid h1
    go_enter Tryd.func23, Tryd.ntmps23
    go_wp2_with fail
    go_loop [5] (fun vi => ∃ i : Nat, i ≤ gs.length ∧ vi = .int .i64 i ∧ Hid (∀ j, j < i → (gs.getD j []).length ≤ 20)) (fun vi => gs.length - (intOf vi).toNat)
    case atStart => exact ⟨0, Nat.zero_le _, rfl, Lib.hid fun j hj => absurd hj (Nat.not_lt_zero j)⟩
    case round =>
      obtain ⟨i, hi, rfl, HI⟩ := hrel
      by_cases hlt : i < gs.length
      · obtain ⟨ad, u, rfl, hcell, hu⟩ := HX.out.2.at hlt
        obtain ⟨B, cB, rfl, hlB⟩ := hu.form
        have hgd := getD_get (x := ([] : List Int)) hlt
        have hbad := fun h => Cd.few_bad (n := n) hlt h
        obtain ⟨g, hg⟩ : ∃ g, gs[i] = g := ⟨_, rfl⟩
        rw [hg] at hcell hu hlB hgd hbad
        have HB := Lib.hid (And.intro hgd hbad)
        clear hgd hbad hu hg
        by_cases h2 : g.length ≤ 20
        · go_wp2_with fail
          go_round
          case rel => exact ⟨i + 1, by omega, by go_num, Lib.hid fun j hj => by
            by_cases hji : j = i
            · rw [hji, HB.out.1]; exact h2
            · exact HI.out j (by omega)⟩
          case measure => simp [intOf]; omega
        · go_wp2_with fail
          go_ret
          exact ⟨ret_bool (HB.out.2 h2).symm, HX.out.1⟩
      · obtain rfl : i = gs.length := by omega
        go_wp2_with fail
        go_ret
        exact ⟨ret_bool (Cd.few_ok H1.out HI.out).symm, HX.out.1⟩
  · go_enter Tryd.func23, Tryd.ntmps23
    go_wp2_with fail
    go_ret
    exact ⟨ret_bool (Cd.few_big h1).symm, HX.out.1⟩
end Go.Proofs.YtkbiffbmjgmcaaaDoor
/- THE WALKS over the specification of codes: drawn regions of less and Rank. -/
namespace Go.Proofs.YtkbiffbmjgmcaaaDoor
open Go.RowKit
end Go.Proofs.YtkbiffbmjgmcaaaDoor
/- THE WALK over the specification of codes: Rank. -/
namespace Go.Proofs.YtkbiffbmjgmcaaaDoor
open Go.RowKit
/-- Values that are rows of bytes of a call's own. -/
def RowsIn (vs : List Value) (L : List LRow) (rs : List (List UInt8)) : Prop := vs.length = rs.length ∧ ∀ (j : Nat) (r : List UInt8), rs[j]? = some r → ∃ A2 c2, vs[j]? = some (.slice A2 r.length c2) ∧ byteRow A2 c2 r ∈ L
theorem RowsIn.nil (L : List LRow) : RowsIn [] L [] := ⟨rfl, fun j r h => by simp at h⟩
theorem RowsIn.mono {vs : List Value} {L M : List LRow} {rs : List (List UInt8)} (h : RowsIn vs L rs) (hm : ∀ x ∈ L, x ∈ M) : RowsIn vs M rs :=
  ⟨h.1, fun j r hj => by
    obtain ⟨A2, c2, h1, h2⟩ := h.2 j r hj
    exact ⟨A2, c2, h1, hm _ h2⟩⟩
theorem RowsIn.rs {w0 w : World} {M : List LRow} (hO : Owns w0 w M) {i n c : Nat} {A : Option Addr} {vs : List Value} {rs : List (List UInt8)} (hi : M[i]? = some ⟨.slice A n c, 45, 1, n, vs⟩) (h : RowsIn vs M rs) (hl : rs.length ≤ 9223372036854775807) (hw : ∀ r ∈ rs, r.length ≤ 9223372036854775807) : Rs (Rs RB) w (.slice A n c) rs := by
  have h1 : vs.length = n * 1 := (hO.row i hi).1
  have hn : n = rs.length := by rw [← h.1]; omega
  subst hn
  refine ⟨A, c, rfl, hl, fun j r hj => ?_⟩
  obtain ⟨A2, c2, e1, e2⟩ := h.2 j r hj
  obtain ⟨ad, a1, _, a3⟩ := hO.rd i hi j _ e1
  obtain ⟨k, hk, e3⟩ := List.getElem_of_mem e2
  have e4 : M[k]? = some (byteRow A2 c2 r) := by rw [List.getElem?_eq_getElem hk, e3]
  exact ⟨ad, _, a1, a3, Rs.of_rd (hO.rd k (n := r.length) e4) (hw r (List.mem_of_getElem? hj))⟩
end Go.Proofs.YtkbiffbmjgmcaaaDoor
/- THE WALK over the specification of codes: Recoverable. -/
namespace Cd
end Cd
namespace Go.Proofs.YtkbiffbmjgmcaaaDoor
open Go.RowKit
end Go.Proofs.YtkbiffbmjgmcaaaDoor

/- THE WALKS over Moved and disks of the specification of moves. -/
namespace Go.Proofs.YtkbiffbmjgmcaaaDoor
open Go.RowKit
set_option maxHeartbeats 8000000 in
set_option maxRecDepth 100000 in
theorem kMoved_any (s : Mv.Sh) (hl : s.dst.length = s.src.length) (v : Value) (w : World) (hv : RSh w v s) :
    Calls Tryd.prog 24 #[v] w fun e w' => e = .returned (.int .i64 (Mv.movedTo s.src s.dst s.src.length : Nat)) ∧ Ext w w' := by
  obtain ⟨DA, KA, HA, GA, RA, FA, TA, cD, cK, cH, cG, cR, cF, cT, rfl, hS⟩ := hv.open
  have hx0 := (Ext.refl w).alloc (.cells #[.slice DA s.disks.length cD, .slice KA s.racks.length cK, .slice HA s.houses.length cH, .int .i64 s.owners, .int .i64 s.d, .slice GA s.gs.length cG, .int .i64 s.gl, .int .i64 s.floor, .slice RA s.room.length cR, .slice FA s.src.length cF, .slice TA s.dst.length cT] 30)
  have HX0 := Lib.hid hx0
  have HS := Lib.hid (hS.ext hx0)
  have hB := BoxAt.new w s DA KA HA GA RA FA TA cD cK cH cG cR cF cT
  have HB := Lib.hid hB
  have hl64 := hS.len.2.2.2.2.2.1
  have HLL := Lib.hid hl
  clear hl
  clear hv hS hx0 hB
  go_enter Tryd.func24, Tryd.ntmps24
  go_wp2_with fail
  go_loopw [3, 4] (fun vn vi wr => ∃ k m : Nat, k ≤ s.src.length ∧ m ≤ k ∧ vi = .int .i64 (k : Nat) ∧ vn = .int .i64 (m : Nat) ∧ Hid (Mv.movedTo s.src s.dst k = m ∧ Ext (w.alloc (.cells #[.slice DA s.disks.length cD, .slice KA s.racks.length cK, .slice HA s.houses.length cH, .int .i64 s.owners, .int .i64 s.d, .slice GA s.gs.length cG, .int .i64 s.gl, .int .i64 s.floor, .slice RA s.room.length cR, .slice FA s.src.length cF, .slice TA s.dst.length cT] 30)) wr)) (fun _ vi _ => s.src.length - (intOf vi).toNat)
  case atStart => exact ⟨0, 0, Nat.zero_le _, Nat.le_refl _, rfl, rfl, Lib.hid ⟨rfl, Ext.refl _⟩⟩
  case round =>
    obtain ⟨k, m, hk, hmk, rfl, rfl, HI⟩ := hrel
    have a9 := (HB.out.ext HI.out.2).b9
    have a10 := (HB.out.ext HI.out.2).b10
    by_cases hlt : k < s.src.length
    · have hltb : k < s.dst.length := by have := HLL.out; omega
      obtain ⟨a1, u1, eF, hc1, hu1⟩ := (Rs.ext RI.ext _ _ _ _ HI.out.2 HS.out.src).at hlt
      obtain ⟨rfl, _, _⟩ := hu1
      obtain ⟨a2, u2, eT, hc2, hu2⟩ := (Rs.ext RI.ext _ _ _ _ HI.out.2 HS.out.dst).at hltb
      obtain ⟨rfl, _, _⟩ := hu2
      subst eF eT
      have g1 := getD_get (x := (0 : Int)) hlt
      have g2 := getD_get (x := (0 : Int)) hltb
      obtain ⟨x, hx⟩ : ∃ x, s.src[k] = x := ⟨_, rfl⟩
      obtain ⟨y, hy⟩ : ∃ y, s.dst[k] = y := ⟨_, rfl⟩
      rw [hx] at hc1 g1
      rw [hy] at hc2 g2
      have HG := Lib.hid (And.intro g1 g2)
      clear hx hy g1 g2
      by_cases hxy : x = y
      · subst hxy
        go_wp2_with fail
        go_quiet (fail)
        go_wp2_with fail
        go_roundw
        case rel => exact ⟨k + 1, m, by omega, by omega, by go_num, rfl, Lib.hid ⟨by rw [Mv.movedTo_no (by rw [HG.out.1, HG.out.2])]; exact HI.out.1, HI.out.2.drewN nq⟩⟩
        case measure => simp [intOf]; omega
      · go_wp2_with fail
        go_quiet (fail)
        go_wp2_with fail
        go_roundw
        case rel => exact ⟨k + 1, m + 1, by omega, by omega, by go_num, by go_num, Lib.hid ⟨by rw [Mv.movedTo_yes (by rw [HG.out.1, HG.out.2]; exact hxy), HI.out.1], HI.out.2.drewN nq⟩⟩
        case measure => simp [intOf]; omega
    · obtain rfl : k = s.src.length := by omega
      go_wp2_with fail
      go_ret
      exact ⟨by rw [HI.out.1]; rfl, HX0.out.trans HI.out.2⟩
end Go.Proofs.YtkbiffbmjgmcaaaDoor

/- THE WALK over Few of the specification of moves. -/
namespace Mv
/-- Is a shift small enough? -/
def few (s : Sh) (R M : Nat) : Prop := Cd.few s.gs 20 = true ∧ s.src.length ≤ 24 ∧ s.dst.length = s.src.length ∧ s.room.length ≤ 70 ∧ s.disks.length ≤ 70 ∧ s.racks.length ≤ R ∧ s.houses.length ≤ 20 ∧ movedTo s.src s.dst s.src.length ≤ M
instance (s : Sh) (R M : Nat) : Decidable (few s R M) := by unfold few; infer_instance
end Mv
namespace Go.Proofs.YtkbiffbmjgmcaaaDoor
open Go.RowKit
set_option maxHeartbeats 8000000 in
set_option maxRecDepth 100000 in
theorem kFew_any (s : Mv.Sh) (R M : Nat) (v : Value) (w : World) (hv : RSh w v s) :
    Calls Tryd.prog 8 #[v, .int .i64 (R : Nat), .int .i64 (M : Nat)] w fun e w' => e = .returned (.bool (decide (Mv.few s R M))) ∧ Ext w w' := by
  obtain ⟨DA, KA, HA, GA, RA, FA, TA, cD, cK, cH, cG, cR, cF, cT, rfl, hS⟩ := hv.open
  have hx0 := (Ext.refl w).alloc (.cells #[.slice DA s.disks.length cD, .slice KA s.racks.length cK, .slice HA s.houses.length cH, .int .i64 s.owners, .int .i64 s.d, .slice GA s.gs.length cG, .int .i64 s.gl, .int .i64 s.floor, .slice RA s.room.length cR, .slice FA s.src.length cF, .slice TA s.dst.length cT] 30)
  have HX0 := Lib.hid hx0
  have HS := Lib.hid (hS.ext hx0)
  have hB := BoxAt.new w s DA KA HA GA RA FA TA cD cK cH cG cR cF cT
  have HB := Lib.hid hB
  have a4 := (hB).b4
  have a5 := (hB).b5
  have a6 := (hB).b6
  clear hv hS hx0 hB
  go_enter Tryd.func8, Tryd.ntmps8
  go_wp2_with fail
  clear a4 a5 a6
  refine (rFew_any s.d s.gl s.gs 20 _ _ HS.out.gs (by decide)).mono ?_
  rintro e w1 ⟨rfl, hx1⟩
  have HX1 := Lib.hid hx1
  clear hx1
  have a0 := (HB.out.ext HX1.out).b0
  have a1 := (HB.out.ext HX1.out).b1
  have a2 := (HB.out.ext HX1.out).b2
  have a3 := (HB.out.ext HX1.out).b3
  have a4 := (HB.out.ext HX1.out).b4
  have a5 := (HB.out.ext HX1.out).b5
  have a6 := (HB.out.ext HX1.out).b6
  have a7 := (HB.out.ext HX1.out).b7
  have a8 := (HB.out.ext HX1.out).b8
  have a9 := (HB.out.ext HX1.out).b9
  have a10 := (HB.out.ext HX1.out).b10
  cases hf : Cd.few s.gs 20 with
  | false =>
    have HE := Lib.hid (show decide (Mv.few s R M) = false from decide_eq_false fun e => by have h := e.1; rw [hf] at h; cases h)
    clear hf
    go_wp2_with fail
    go_ret
    exact ⟨ret_bool HE.out.symm, HX0.out.trans HX1.out⟩
  | true =>
  have HF := Lib.hid hf
  clear hf
  by_cases q0 : 24 < s.src.length
  · have HE := Lib.hid (show decide (Mv.few s R M) = false from decide_eq_false fun e => by unfold Mv.few at e; omega)
    go_wp2_with fail
    go_ret
    exact ⟨ret_bool HE.out.symm, HX0.out.trans HX1.out⟩
  by_cases q1 : s.dst.length ≠ s.src.length
  · have HE := Lib.hid (show decide (Mv.few s R M) = false from decide_eq_false fun e => by unfold Mv.few at e; omega)
    have er : ((s.dst.length : Int) != (s.src.length : Int)) = true := by rw [bne_iff_ne]; omega
    go_wp2_with fail
    go_ret
    exact ⟨ret_bool HE.out.symm, HX0.out.trans HX1.out⟩
  have HL := Lib.hid (Decidable.not_not.1 q1)
  have er : ((s.dst.length : Int) != (s.src.length : Int)) = false := by rw [HL.out]; simp
  clear q1
  by_cases q2 : 70 < s.room.length
  · have HE := Lib.hid (show decide (Mv.few s R M) = false from decide_eq_false fun e => by unfold Mv.few at e; omega)
    go_wp2_with fail
    go_ret
    exact ⟨ret_bool HE.out.symm, HX0.out.trans HX1.out⟩
  by_cases q3 : 70 < s.disks.length
  · have HE := Lib.hid (show decide (Mv.few s R M) = false from decide_eq_false fun e => by unfold Mv.few at e; omega)
    go_wp2_with fail
    go_ret
    exact ⟨ret_bool HE.out.symm, HX0.out.trans HX1.out⟩
  by_cases q4 : R < s.racks.length
  · have HE := Lib.hid (show decide (Mv.few s R M) = false from decide_eq_false fun e => by unfold Mv.few at e; omega)
    go_wp2_with fail
    go_ret
    exact ⟨ret_bool HE.out.symm, HX0.out.trans HX1.out⟩
  by_cases q5 : 20 < s.houses.length
  · have HE := Lib.hid (show decide (Mv.few s R M) = false from decide_eq_false fun e => by unfold Mv.few at e; omega)
    go_wp2_with fail
    go_ret
    exact ⟨ret_bool HE.out.symm, HX0.out.trans HX1.out⟩
  go_wp2_with fail
  clear a0 a1 a2 a3 a4 a5 a6 a7 a8 a9 a10
  refine (kMoved_any s HL.out _ w1 (HS.out.ext HX1.out).sh).mono ?_
  rintro e w2 ⟨rfl, hx2⟩
  have HX2 := Lib.hid (HX1.out.trans hx2)
  have hfw : decide (Mv.few s R M) = decide (Mv.movedTo s.src s.dst s.src.length ≤ M) := decide_eq_decide.2 ⟨fun e => e.2.2.2.2.2.2.2, fun e => ⟨HF.out, by omega, HL.out, by omega, by omega, by omega, by omega, e⟩⟩
  obtain ⟨m, hm⟩ : ∃ m, Mv.movedTo s.src s.dst s.src.length = m := ⟨_, rfl⟩
  rw [hm] at hfw ⊢
  have HFW := Lib.hid hfw
  clear hx2 hfw hm
  by_cases hmm : m ≤ M
  · have HE := Lib.hid (HFW.out.trans (decide_eq_true hmm))
    go_wp2_with fail
    go_ret
    exact ⟨ret_bool HE.out.symm, HX0.out.trans HX2.out⟩
  · have HE := Lib.hid (HFW.out.trans (decide_eq_false hmm))
    go_wp2_with fail
    go_ret
    exact ⟨ret_bool HE.out.symm, HX0.out.trans HX2.out⟩
end Go.Proofs.YtkbiffbmjgmcaaaDoor

/- COPIES; THE WALKS over with and end of the specification of moves. -/
namespace Mv
theorem endTo_small (s : Sh) : ∀ n, ∀ x ∈ endTo s n, 0 ≤ x ∧ x ≤ 2
  | 0, x, hx => by cases hx
  | n + 1, x, hx => by
    rw [endTo_succ, List.mem_append, List.mem_singleton] at hx
    rcases hx with hx | rfl
    · exact endTo_small s n x hx
    · split <;> omega
end Mv
/- 'append([]T{}, xs...)': a copy of a slice, of whatever length. -/
namespace Go.Proofs.YtkbiffbmjgmcaaaDoor
open Go.RowKit
theorem run_append_zero {P : Program} {t ty e : TypeId} {z : Value} {bytes : Nat} (ht : P.underlying t = some (.slice e)) (hi : (P.info? e).map (fun i => (i.zero, i.size, i.bytes)) = some (some z, 1, bytes)) (w : World) (b : Nat) (B : Option Addr) (c : Nat) :
    (Builtin.append_ #[t, t] ty #[.slice (some ⟨b, 0, none⟩) 0 0, .slice B 0 c]).run P w = .ok (.slice (some ⟨b, 0, none⟩) 0 0) w := by
  obtain ⟨i0, hi0, hiz, hi1, hi2⟩ := info_parts hi
  cases B <;> simp [Builtin.append_, run_underlying ht, sizeOf, typeInfo, hi0, hi1, Builtin.lenOf, Builtin.firstCells, loadCells, loadCellsFrom, storeCells, Result.andThen]
/-- A copy of a slice. -/
theorem wpl_append_copy {P : Program} {w0 w : World} {L : List LRow} {ops : Array Oper} {rest : List Oper} {o : Oper} {a : Act} {Q : Exit → Act → World → Prop} (t e : TypeId) (hgd : o.guard = none) (s x : Operand)
    (ho : o.op = .call { callee := .builtin .append, args := #[s, x], argTypes := #[t, t] })
    {z : Value} {bytes : Nat} (ht : P.underlying t = some (.slice e)) (hi : (P.info? e).map (fun i => (i.zero, i.size, i.bytes)) = some (some z, 1, bytes)) (hzs : z.cells.size = 1)
    (h : Owns w0 w L) (i : Nat) {b : Nat} (hL : L[i]? = some ⟨.slice (some ⟨b, 0, none⟩) 0 0, e, 1, 0, []⟩) (hs : a.eval s = .slice (some ⟨b, 0, none⟩) 0 0) {B : Option Addr} {m c : Nat} {news : List Value}
    (hx : a.eval x = .slice B m c) (hl : news.length = m) (hrd : Rd w B news) (h1 : ∀ u ∈ news, u.oneCell' = true) (hm : m < 100000000000) (hb : bytes ≤ 100)
    (hK : ∀ g cap w', Owns w0 w' (L.set i ⟨.slice (some ⟨g, 0, none⟩) m cap, e, 1, m, news⟩) → wpList P ops Q rest (a.put o.dst (.slice (some ⟨g, 0, none⟩) m cap)) w') :
    wpList P ops Q (o :: rest) a w := by
  by_cases h0 : m = 0
  · subst h0
    have hn : news = [] := List.length_eq_zero_iff.1 hl
    subst hn
    refine wpList_plain hgd fun K hK' => ?_
    have hr := run_append_zero (P := P) (ty := o.type) ht hi w b B c
    unfold Oper.wp execOp
    simp only [ho, resolve, invoke, builtin, Sem.run_bind, Sem.run_pure, Result.andThen_ok, List.map_toArray, List.map_cons, List.map_nil, hs, hx, hr]
    refine hK' _ _ (hK b 0 w ?_)
    have e : L.set i ⟨.slice (some ⟨b, 0, none⟩) 0 0, e, 1, 0, []⟩ = L := by
      apply List.ext_getElem?
      intro j
      rw [List.getElem?_set]
      split
      · rename_i hij
        subst hij
        split
        · rw [hL]
        · rename_i hlt; rw [List.getElem?_eq_none (by omega)]
      · rfl
    rw [e]
    exact h
  · obtain ⟨ad, rfl, _, _⟩ := hrd.at (k := 0) (by omega)
    refine wpl_append_all t e hgd s x ho ht hi hzs h i hL hs hx hl (fun j u hj => ?_) h1 (by omega) (by omega) hb ?_
    · exact (hrd.all (List.getElem?_eq_some_iff.1 hj).1).trans (by rw [(List.getElem?_eq_some_iff.1 hj).2])
    · intro g cap w' hO _
      have := hK g cap w' (by simpa using hO)
      simpa using this
end Go.Proofs.YtkbiffbmjgmcaaaDoor


namespace Go.Proofs.YtkbiffbmjgmcaaaDoor
open Go.RowKit
def small (l : List Int) : Prop := ∀ x ∈ l, -1000 ≤ x ∧ x ≤ 1000
theorem Rs.small {w : World} {A : Option Addr} {n c : Nat} {l : List Int} (h : Rd w A (l.map (.int .i64))) (hn : n = l.length) (hl : l.length ≤ 100000000000) (hb : small l) : Rs RI w (.slice A n c) l :=
  Rs.of_rdI h hn (by omega) fun x hx => by have := hb x hx; omega
end Go.Proofs.YtkbiffbmjgmcaaaDoor

/- THE WALKS over survives and Safe of the specification of moves. -/
namespace Mv
def ints (T : List Nat) : List Int := T.map (Nat.cast : Nat → Int)
theorem ints_len (T : List Nat) : (ints T).length = T.length := List.length_map _
theorem ints_snoc (T : List Nat) (k : Nat) : ints (T ++ [k]) = ints T ++ [(k : Int)] := by simp [ints]
end Mv
namespace Go.Proofs.YtkbiffbmjgmcaaaDoor
open Go.RowKit
end Go.Proofs.YtkbiffbmjgmcaaaDoor

/- THE WALK over search of the specification of moves. -/
namespace Mv
theorem restTo_self (E : List Int) : ∀ n, restTo E E n = 0
  | 0 => rfl
  | n + 1 => by rw [restTo, restTo_self E n]; omega
theorem right_small {s : Sh} {ph : List Int} (h : right s ph = true) : ∀ x ∈ ph, 0 ≤ x ∧ x ≤ 2 := fun x hx => by
  obtain ⟨k, hk, rfl⟩ := List.getElem_of_mem hx
  have := right_at h hk
  rw [List.getD_eq_getElem?_getD, List.getElem?_eq_getElem hk] at this
  simp only [Option.getD_some] at this
  omega
/-- What a plan has are places of pieces. -/
theorem plan_small {ok : List Int → Bool} {E : List Int} : ∀ (l : List Nat) (now : List Int), Under E now → plan ok E now = some l → l.length = rest E now ∧ ∀ x ∈ l, x < E.length
  | [], now, hu, hp => by
    rcases (plan_iff hu).1 hp with ⟨h, _⟩ | ⟨k', l', e, _⟩
    · subst h; exact ⟨(restTo_self _ _).symm, by simp⟩
    · cases e
  | k :: l, now, hu, hp => by
    rcases (plan_iff hu).1 hp with ⟨_, h⟩ | ⟨k', l', e, h1, h2, h3, h4, _⟩
    · cases h
    · injection e with e1 e2
      subst e1
      subst e2
      have hr := rest_step hu h1 h2
      obtain ⟨a, b⟩ := plan_small l _ hr.2 h4
      refine ⟨by rw [List.length_cons, a]; exact hr.1, fun x hx => ?_⟩
      rcases List.mem_cons.1 hx with rfl | hx
      · rw [← hu.1]; exact h1
      · exact b x hx
theorem restTo_le {s : Sh} {ph : List Int} (h : right s ph = true) : ∀ n, n ≤ s.src.length → restTo (theEnd s) ph n ≤ 2 * n
  | 0, _ => Nat.le_refl _
  | n + 1, hn => by
    have ih := restTo_le h n (by omega)
    have h1 := right_at h (k := n) (by have := (right_iff.1 h).2.1; omega)
    have h2 := theEnd_get (s := s) (k := n) (by omega)
    rw [restTo, h2]
    split <;> omega
theorem rest_le {s : Sh} {ph : List Int} (h : right s ph = true) : rest (theEnd s) ph ≤ 48 := by
  have h1 := restTo_le h _ (Nat.le_refl _)
  have h2 := (ok_of (right_iff.1 h).1).few
  unfold rest
  rw [theEnd_len]
  omega
end Mv
namespace Go.Proofs.YtkbiffbmjgmcaaaDoor
open Go.RowKit
theorem Owns.elder {w w2 wr : World} {L : List LRow} (h : Owns w2 wr L) (hx : Ext w w2) : Owns w wr L where
  ext := hx.trans h.ext
  ok i r hr := by
    have h1 := h.ok i r hr
    refine ⟨h1.1, ?_⟩
    rcases h1.2 with h2 | ⟨g, cap, cur, hv, hB, rest⟩
    · exact .inl h2
    · exact .inr ⟨g, cap, cur, hv, Nat.le_trans hx.size hB, rest⟩
  far := h.far
/-- A list of pieces, as a row. -/
def lrow (A : Option Addr) (c : Nat) (l : List Nat) : LRow := ⟨.slice A l.length c, 3, 1, l.length, (Mv.ints l).map (.int .i64)⟩
theorem lrow_nil {w w' : World} (h : Ext w w') : Owns w w' [lrow none 0 []] := (Owns.start w (by intro r hr; rw [List.mem_singleton.1 hr]; exact ⟨rfl, rfl, rfl⟩)).next h
/-- What a search returns. -/
def PlanOut (o : Option (List Nat)) (w : World) (e : Ending) (w' : World) : Prop := ∃ A c, e = .returned (.agg #[.slice A (o.getD []).length c, .int .i64 (if o.isSome = true then 0 else 8)]) ∧ Owns w w' [lrow A c (o.getD [])]
theorem PlanOut.none {w w' : World} (h : Ext w w') : PlanOut Option.none w (.returned (.agg #[.slice Option.none 0 0, .int .i64 8])) w' := ⟨_, _, rfl, lrow_nil h⟩
theorem PlanOut.some {w w' : World} {l : List Nat} {A : Option Addr} {c n : Nat} {xs : List Value} (h : Owns w w' [⟨.slice A n c, 3, 1, n, xs⟩]) (hn : n = l.length) (hx : xs = (Mv.ints l).map (.int .i64)) : PlanOut (Option.some l) w (.returned (.agg #[.slice A n c, .int .i64 0])) w' := by
  subst hn
  subst hx
  exact ⟨A, c, rfl, h⟩
end Go.Proofs.YtkbiffbmjgmcaaaDoor
