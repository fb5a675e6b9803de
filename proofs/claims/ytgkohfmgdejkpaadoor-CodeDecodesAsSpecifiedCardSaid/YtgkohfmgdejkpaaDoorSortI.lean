/- THE WALK over sorted: its drawn region. -/
import Derived.Test.YtgkohfmgdejkpaaDoorSolW
import Derived.Test.YtgkohfmgdejkpaaDoorInv
import Derived.Deep.CutRange
import Derived.Deep.CutBlock
import Derived.Deep.RegionLaw
import Derived.Deep.RegionHeld3
namespace Go.Proofs.YtgkohfmgdejkpaaDoor
open Go.RowKit
/-- Stairs that are put in order: what is there so far. -/
def SortOut (w0 w : World) (B : Nat) (S Ps : List (List UInt8)) (o : List Nat) (n : Nat) : Prop :=
  ∃ (X Y : Option Addr) (cX cY : Nat) (vs : List Value), vs.length = o.length ∧ (∀ i, i < o.length → Rs RB w0 (vs.getD i undef) (S.getD (o.getD i 0) [])) ∧
    Owns w0 w [⟨.slice (some ⟨B, 0, none⟩) 1 1, 82, 3, 1, [.slice X o.length cX, .slice Y o.length cY, .int .i64 n]⟩, ⟨.slice X o.length cX, 57, 1, o.length, vs⟩, ⟨.slice Y o.length cY, 9, 1, o.length, (Cd.byOrd Ps o).map sv⟩]
theorem SortOut.ext {w0 w : World} {B n : Nat} {S Ps : List (List UInt8)} {o : List Nat} (h : SortOut w0 w B S Ps o n) : Ext w0 w := by
  obtain ⟨X, Y, cX, cY, vs, _, _, h⟩ := h
  exact h.ext
theorem SortOut.start {w : World} {n : Nat} {S Ps : List (List UInt8)} : SortOut w (w.alloc (.cells #[.slice none 0 0, .slice none 0 0, .int .i64 n] 82)) w.heap.size S Ps [] n := by
  refine ⟨none, none, 0, 0, [], rfl, (fun i hi => absurd hi (by simp)), ?_⟩
  have h1 := (Owns.start w (L := [no, nilRow 57, nilRow 9]) (by intro r hr; simp [no, nilRow] at hr; rcases hr with rfl | rfl | rfl <;> simp)).new 0 #[.slice none 0 0, .slice none 0 0, .int .i64 n] 82 (by simp [maxLen])
  exact h1.one3
theorem SortOut.push {w0 w : World} {B n k cX cY : Nat} {X Y : Option Addr} {S Ps : List (List UInt8)} {o : List Nat} {vs : List Value} {v : Value} {Z Z' : LRow} (hl : vs.length = o.length) (hv : ∀ i, i < o.length → Rs RB w0 (vs.getD i undef) (S.getD (o.getD i 0) [])) (hk : Rs RB w0 v (S.getD k []))
    (h : Owns w0 w [⟨.slice (some ⟨B, 0, none⟩) 1 1, 82, 3, 1, [.slice X (o.length + 1) cX, .slice Y (o.length + 1) cY, .int .i64 n]⟩, ⟨.slice X (o.length + 1) cX, 57, 1, o.length + 1, vs ++ [v]⟩, ⟨.slice Y (o.length + 1) cY, 9, 1, o.length + 1, (Cd.byOrd Ps o).map sv ++ [sv (Ps.getD k [])]⟩, Z, Z']) : SortOut w0 w B S Ps (o ++ [k]) n := by
  refine ⟨X, Y, cX, cY, vs ++ [v], by simp [hl], fun i hi => ?_, ?_⟩
  · rw [Cd.getD_app, Cd.getD_app, hl]
    by_cases hik : i = o.length
    · rw [if_pos hik, if_pos hik]; exact hk
    · rw [if_neg hik, if_neg hik]; exact hv i (by simp at hi; omega)
  · have h2 := h.sublist (L' := [_, _, _]) (List.sublist_append_left [_, _, _] [Z, Z'])
    have e : (Cd.byOrd Ps (o ++ [k])).map sv = (Cd.byOrd Ps o).map sv ++ [sv (Ps.getD k [])] := by simp [Cd.byOrd]
    rw [List.length_append, e]
    exact h2
theorem SortOut.look {w0 w : World} {B n : Nat} {S Ps : List (List UInt8)} {o : List Nat} (h : SortOut w0 w B S Ps o n) : StairsRd w B (Cd.byOrd S o) (Cd.byOrd Ps o) n := by
  obtain ⟨X, Y, cX, cY, vs, hl, hv, hO⟩ := h
  have e1 : (Cd.byOrd S o).length = o.length := Cd.byOrd_len _ _
  have e2 : (Cd.byOrd Ps o).length = o.length := Cd.byOrd_len _ _
  have hlen : o.length ≤ 9223372036854775807 := by
    have h1 := (hO.row 1 rfl)
    rcases h1.2 with ⟨_, h0⟩ | ⟨g, cap, cur, _, _, _, hc, hm, _, _⟩
    · omega
    · unfold maxLen at hm; omega
  refine ⟨X, Y, cX, cY, ?_, ?_, hO.cell 0 rfl 2 rfl, ?_, ?_⟩
  · rw [e1]; exact hO.cell 0 rfl 0 rfl
  · rw [e2]; exact hO.cell 0 rfl 1 rfl
  · refine ⟨X, cX, rfl, by rw [e1]; exact hlen, fun i x hx => ?_⟩
    have hi : i < o.length := by rw [← e1]; exact (List.getElem?_eq_some_iff.1 hx).1
    have hg : x = S.getD (o.getD i 0) [] := by
      have := Cd.byOrd_get (S := S) hi
      rw [List.getD_eq_getElem?_getD, hx] at this
      exact this
    obtain ⟨ad, h1, h2, h3⟩ := hO.rd 1 rfl i (vs.getD i undef) (by rw [List.getD_eq_getElem?_getD, List.getElem?_eq_getElem (by omega)]; rfl)
    exact ⟨ad, _, h1, h3, by rw [hg]; exact Rs.ext RB.ext _ _ _ _ hO.ext (hv i hi)⟩
  · have h1 := Rs.of_rdS (c := cY) (hO.rd 2 rfl) (by rw [e2]; exact hlen)
    rw [e2] at h1 ⊢
    exact h1
noncomputable def sorted_region_code : Code := ((Tryd.f40.body.bind (regionOf 9)).getD .skip)
def sorted_region_dsts : List (Option Nat) := [some 34, some 35, some 36, some 37, some 38, some 39, some 40, some 41, some 42, some 43, some 44, some 45, some 46, some 47, some 48, some 49, some 50, some 51, some 52, some 53, some 54, some 55, some 56, some 57, none, some 58, some 59, none]
theorem sorted_region_apart : apartD sorted_region_dsts = true := by decide +kernel
set_option maxRecDepth 1000000 in
set_option maxHeartbeats 16000000 in
theorem sorted_region (w wr : World) (P n k cRB cX cY cB : Nat) (RB X Y : Option Addr) (bd : Addr) (p : List UInt8) (S Ps : List (List UInt8)) (o : List Nat) (vs : List Value) (HC : Hid (w.cell? ⟨P, 1, none⟩ = some (.slice (some bd) n cB) ∧ w.cell? (bd.add k) = some (sv p))) (HOO : Hid (Owns w wr.drew [⟨.slice (some ⟨w.heap.size, 0, none⟩) 1 1, 82, 3, 1, [.slice X o.length cX, .slice Y o.length cY, .int .i64 n]⟩, ⟨.slice X o.length cX, 57, 1, o.length, vs⟩, ⟨.slice Y o.length cY, 9, 1, o.length, (Cd.byOrd Ps o).map sv⟩, no, no])) (hol : o.length ≤ 32) (hkn : k < n) (HVL : Hid (vs.length = o.length ∧ ∀ i, i < o.length → Rs Go.Proofs.YtgkohfmgdejkpaaDoor.RB w (vs.getD i undef) (S.getD (o.getD i 0) []))) (HU : Hid (Rs Go.Proofs.YtgkohfmgdejkpaaDoor.RB w (.slice RB n cRB) (S.getD k []))) (HGP : Hid (Ps.getD k [] = p)) (c1 c2 c4 c7 c8 c9 c10 c11 c12 c13 c14 c15 c16 c17 c18 c19 c20 c21 c22 c23 c24 c25 c26 c27 c28 c29 c30 c31 c32 c33 c34 c35 c36 c37 c38 c39 c40 c41 c42 c43 c44 c45 c46 c47 c48 c49 c50 c51 c52 c53 c54 c55 c56 c57 c58 c59 c60 c61 c62 c63 : Value) (df : List Deferred) (K : Act → World → Prop)
    (hK : ∀ (u34 u35 u36 u37 u38 u39 u40 u41 u42 u43 u44 u45 u46 u47 u48 u49 u50 u51 u52 u53 u54 u55 u56 u57 u58 u59 : Value) (wx : World), Hid (SortOut w wx w.heap.size S Ps (o ++ [k]) n) → K ⟨#[.pointer (some ⟨P, 0, none⟩), c1, c2, .pointer (some ⟨w.heap.size, 0, none⟩), c4, .int .i64 k, .slice RB n cRB, c7, c8, c9, c10, c11, c12, c13, c14, c15, c16, c17, c18, c19, c20, c21, c22, c23, c24, c25, c26, c27, c28, c29, c30, c31, c32, c33, u34, u35, u36, u37, u38, u39, u40, u41, u42, u43, u44, u45, u46, u47, u48, u49, u50, u51, u52, u53, u54, u55, u56, u57, u58, u59, c60, c61, c62, c63], df⟩ wx) :
    Code.wp Tryd.prog sorted_region_code (AtEnd K) ⟨#[.pointer (some ⟨P, 0, none⟩), c1, c2, .pointer (some ⟨w.heap.size, 0, none⟩), c4, .int .i64 k, .slice RB n cRB, c7, c8, c9, c10, c11, c12, c13, c14, c15, c16, c17, c18, c19, c20, c21, c22, c23, c24, c25, c26, c27, c28, c29, c30, c31, c32, c33, c34, c35, c36, c37, c38, c39, c40, c41, c42, c43, c44, c45, c46, c47, c48, c49, c50, c51, c52, c53, c54, c55, c56, c57, c58, c59, c60, c61, c62, c63], df⟩ wr := by
  conv => arg 2; whnf
  refine region_inv (by kernel_rfl) [[], [], [], [2], [3], [4], [], [6], [5, 7], [], [9], [10], [11], [], [13], [14], [15], [], [16, 17], [18], [19], [12, 20, 8], [0, 0, 2, 3, 4, 5, 6, 7, 8, 12, 16, 19, 21], [22, 0, 2, 3, 4, 5, 6, 7, 8, 12, 16, 19, 21], [23, 8, 21, 0, 2, 3, 4, 5, 6, 7, 8, 12, 16, 19, 21], [1, 0, 1, 2, 3, 4, 5, 6, 7, 8, 9, 10, 11, 12, 13, 14, 15, 16, 17, 18, 19, 20, 21, 22, 23, 24], [25, 0, 1, 2, 3, 4, 5, 6, 7, 8, 9, 10, 11, 12, 13, 14, 15, 16, 17, 18, 19, 20, 21, 22, 23, 24], [26, 21, 24, 0, 1, 2, 3, 4, 5, 6, 7, 8, 9, 10, 11, 12, 13, 14, 15, 16, 17, 18, 19, 20, 21, 22, 23, 24]] (by kernel_rfl) [0, 1, 2, 3, 4, 5, 6, 7, 8, 9, 10, 11, 12, 13, 14, 15, 16, 17, 18, 19, 20, 21, 22, 23, 24, 25, 26, 27] (by decide +kernel) (by decide +kernel) (by decide +kernel) (fun L a wc => ∃ g7 g8 k8 g20 g21 k21 : Nat, Inv sorted_region_dsts [.pointer (some ⟨w.heap.size, 0, none⟩), .pointer (some ⟨w.heap.size, 0, none⟩), .pointer (some ⟨w.heap.size, 0, none⟩), .pointer (some ⟨w.heap.size, 0, none⟩), .pointer (some ⟨w.heap.size, 0, none⟩), .slice X o.length cX, .slice RB n cRB, .slice (some ⟨g7, 0, none⟩) 1 1, .slice (some ⟨g8, 0, none⟩) (o.length + 1) k8, .pointer (some ⟨w.heap.size, 0, none⟩), .pointer (some ⟨w.heap.size, 0, none⟩), .pointer (some ⟨w.heap.size, 1, none⟩), .slice Y o.length cY, .pointer (some ⟨P, 0, none⟩), .pointer (some ⟨P, 0, none⟩), .pointer (some ⟨P, 1, none⟩), .slice (some bd) n cB, .int .i64 k, .pointer (some (bd.add k)), sv p, .slice (some ⟨g20, 0, none⟩) 1 1, .slice (some ⟨g21, 0, none⟩) (o.length + 1) k21, .pointer (some ⟨w.heap.size, 0, none⟩), .pointer (some ⟨w.heap.size, 0, none⟩), undef, .pointer (some ⟨w.heap.size, 0, none⟩), .pointer (some ⟨w.heap.size, 1, none⟩), undef] ⟨#[.pointer (some ⟨P, 0, none⟩), c1, c2, .pointer (some ⟨w.heap.size, 0, none⟩), c4, .int .i64 k, .slice RB n cRB, c7, c8, c9, c10, c11, c12, c13, c14, c15, c16, c17, c18, c19, c20, c21, c22, c23, c24, c25, c26, c27, c28, c29, c30, c31, c32, c33, c34, c35, c36, c37, c38, c39, c40, c41, c42, c43, c44, c45, c46, c47, c48, c49, c50, c51, c52, c53, c54, c55, c56, c57, c58, c59, c60, c61, c62, c63], df⟩ L a ∧ Hid (Owns w wc [⟨.slice (some ⟨w.heap.size, 0, none⟩) 1 1, 82, 3, 1, [if L 24 = true then .slice (some ⟨g8, 0, none⟩) (o.length + 1) k8 else .slice X o.length cX, if L 27 = true then .slice (some ⟨g21, 0, none⟩) (o.length + 1) k21 else .slice Y o.length cY, .int .i64 n]⟩, (if L 8 = true then ⟨.slice (some ⟨g8, 0, none⟩) (o.length + 1) k8, 57, 1, o.length + 1, vs ++ [.slice RB n cRB]⟩ else ⟨.slice X o.length cX, 57, 1, o.length, vs⟩), (if L 21 = true then ⟨.slice (some ⟨g21, 0, none⟩) (o.length + 1) k21, 9, 1, o.length + 1, (Cd.byOrd Ps o).map sv ++ [sv p]⟩ else ⟨.slice Y o.length cY, 9, 1, o.length, (Cd.byOrd Ps o).map sv⟩), (if L 7 = true then ⟨.slice (some ⟨g7, 0, none⟩) 1 1, 57, 1, 1, [.slice RB n cRB]⟩ else no), (if L 20 = true then ⟨.slice (some ⟨g20, 0, none⟩) 1 1, 9, 1, 1, [sv p]⟩ else no)])) ⟨0, 0, 0, 0, 0, 0, Inv.start, HOO⟩ ?_ ?_
  · refine ⟨?_, ?_, ?_, ?_, ?_, ?_, ?_, ?_, ?_, ?_, ?_, ?_, ?_, ?_, ?_, ?_, ?_, ?_, ?_, ?_, ?_, ?_, ?_, ?_, ?_, ?_, ?_, ?_, trivial⟩
    · -- 0 move
      rintro L a wc ⟨g7, g8, k8, g20, g21, k21, hv, HO⟩ hL hc hd
      exact wpOp_value rfl rfl (ex_move rfl ((hv.fixed 3 (by decide)).trans rfl)) ⟨g7, g8, k8, g20, g21, k21, hv.put sorted_region_apart 0 rfl (Nat.le_of_ble_eq_true rfl) (Nat.le_of_ble_eq_true rfl) rfl, HO⟩
    · -- 1 move
      rintro L a wc ⟨g7, g8, k8, g20, g21, k21, hv, HO⟩ hL hc hd
      exact wpOp_value rfl rfl (ex_move rfl ((hv.fixed 3 (by decide)).trans rfl)) ⟨g7, g8, k8, g20, g21, k21, hv.put sorted_region_apart 1 rfl (Nat.le_of_ble_eq_true rfl) (Nat.le_of_ble_eq_true rfl) rfl, HO⟩
    · -- 2 move
      rintro L a wc ⟨g7, g8, k8, g20, g21, k21, hv, HO⟩ hL hc hd
      exact wpOp_value rfl rfl (ex_move rfl ((hv.fixed 3 (by decide)).trans rfl)) ⟨g7, g8, k8, g20, g21, k21, hv.put sorted_region_apart 2 rfl (Nat.le_of_ble_eq_true rfl) (Nat.le_of_ble_eq_true rfl) rfl, HO⟩
    · -- 3 nil
      rintro L a wc ⟨g7, g8, k8, g20, g21, k21, hv, HO⟩ hL hc hd
      exact wpOp_value rfl rfl (ex_nil rfl (hv.get 2 rfl rfl (hd 2 (by decide)))) ⟨g7, g8, k8, g20, g21, k21, hv.put sorted_region_apart 3 rfl (Nat.le_of_ble_eq_true rfl) (Nat.le_of_ble_eq_true rfl) rfl, HO⟩
    · -- 4 field
      rintro L a wc ⟨g7, g8, k8, g20, g21, k21, hv, HO⟩ hL hc hd
      exact wpOp_value rfl rfl (ex_field rfl (hv.get 3 rfl rfl (hd 3 (by decide))) (by go_simp)) ⟨g7, g8, k8, g20, g21, k21, hv.put sorted_region_apart 4 rfl (Nat.le_of_ble_eq_true rfl) (Nat.le_of_ble_eq_true rfl) rfl, HO⟩
    · -- 5 load
      rintro L a wc ⟨g7, g8, k8, g20, g21, k21, hv, HO⟩ hL hc hd
      have n24 : L 24 = false := Bool.eq_false_iff.2 fun h => Bool.false_ne_true (hL.symm.trans (hc 24 h 5 (by decide)))
      have e0 : wc.cell? ⟨w.heap.size, 0, none⟩ = some (.slice X o.length cX) := by have h := HO.out.cell 0 rfl 0 rfl; rw [if_neg (by simp [n24])] at h; exact h
      exact wpOp_value rfl rfl (ex_load rfl (hv.get 4 rfl rfl (hd 4 (by decide))) (by go_simp)) ⟨g7, g8, k8, g20, g21, k21, hv.put sorted_region_apart 5 rfl (Nat.le_of_ble_eq_true rfl) (Nat.le_of_ble_eq_true rfl) rfl, HO⟩
    · -- 6 move
      rintro L a wc ⟨g7, g8, k8, g20, g21, k21, hv, HO⟩ hL hc hd
      exact wpOp_value rfl rfl (ex_move rfl ((hv.fixed 6 (by decide)).trans rfl)) ⟨g7, g8, k8, g20, g21, k21, hv.put sorted_region_apart 6 rfl (Nat.le_of_ble_eq_true rfl) (Nat.le_of_ble_eq_true rfl) rfl, HO⟩
    · -- 7 build
      rintro L a wc ⟨g7, g8, k8, g20, g21, k21, hv, HO⟩ hL hc hd
      have n7 := hL
      have hn := HO.out.new 3 #[.slice RB n cRB] 57 (by simp [maxLen])
      exact wpOp_value rfl rfl (ex_build rfl Tryd.underlying29 info_bytes (hv.get 6 rfl rfl (hd 6 (by decide))) rfl) ⟨wc.heap.size, g8, k8, g20, g21, k21, hv.put sorted_region_apart 7 rfl (Nat.le_of_ble_eq_true rfl) (Nat.le_of_ble_eq_true rfl) rfl, Lib.hid hn⟩
    · -- 8 append
      rintro L a wc ⟨g7, g8, k8, g20, g21, k21, hv, HO⟩ hL hc hd
      refine wpOp_append rfl rfl 29 57 rfl Tryd.underlying29 info_bytes rfl HO.out 1 (congrArg some (if_neg (by simp [hL]))) (hv.get 5 rfl rfl (hd 5 (by decide))) (hv.get 7 rfl rfl (hd 7 (by decide))) (HO.out.cell 3 (congrArg some (if_pos (hd 7 (by decide)))) 0 rfl) rfl (by omega) (by decide) ?_
      intro gg cc w2 hO2
      have n24 : L 24 = false := Bool.eq_false_iff.2 fun h => Bool.false_ne_true (hL.symm.trans (hc 24 h 8 (by decide)))
      have e24 : (if L 24 = true then (.slice (some ⟨g8, 0, none⟩) (o.length + 1) k8 : Value) else .slice X o.length cX) = (if L 24 = true then .slice (some ⟨gg, 0, none⟩) (o.length + 1) cc else .slice X o.length cX) := by rw [if_neg (by simp [n24]), if_neg (by simp [n24])]
      rw [e24] at hO2
      exact ⟨g7, gg, cc, g20, g21, k21, hv.put sorted_region_apart 8 rfl (Nat.le_of_ble_eq_true rfl) (Nat.le_of_ble_eq_true rfl) rfl, Lib.hid hO2⟩
    · -- 9 move
      rintro L a wc ⟨g7, g8, k8, g20, g21, k21, hv, HO⟩ hL hc hd
      exact wpOp_value rfl rfl (ex_move rfl ((hv.fixed 3 (by decide)).trans rfl)) ⟨g7, g8, k8, g20, g21, k21, hv.put sorted_region_apart 9 rfl (Nat.le_of_ble_eq_true rfl) (Nat.le_of_ble_eq_true rfl) rfl, HO⟩
    · -- 10 nil
      rintro L a wc ⟨g7, g8, k8, g20, g21, k21, hv, HO⟩ hL hc hd
      exact wpOp_value rfl rfl (ex_nil rfl (hv.get 9 rfl rfl (hd 9 (by decide)))) ⟨g7, g8, k8, g20, g21, k21, hv.put sorted_region_apart 10 rfl (Nat.le_of_ble_eq_true rfl) (Nat.le_of_ble_eq_true rfl) rfl, HO⟩
    · -- 11 field
      rintro L a wc ⟨g7, g8, k8, g20, g21, k21, hv, HO⟩ hL hc hd
      exact wpOp_value rfl rfl (ex_field rfl (hv.get 10 rfl rfl (hd 10 (by decide))) (by go_simp)) ⟨g7, g8, k8, g20, g21, k21, hv.put sorted_region_apart 11 rfl (Nat.le_of_ble_eq_true rfl) (Nat.le_of_ble_eq_true rfl) rfl, HO⟩
    · -- 12 load
      rintro L a wc ⟨g7, g8, k8, g20, g21, k21, hv, HO⟩ hL hc hd
      have n27 : L 27 = false := Bool.eq_false_iff.2 fun h => Bool.false_ne_true (hL.symm.trans (hc 27 h 12 (by decide)))
      have e1 : wc.cell? ⟨w.heap.size, 1, none⟩ = some (.slice Y o.length cY) := by have h := HO.out.cell 0 rfl 1 rfl; rw [if_neg (by simp [n27])] at h; exact h
      exact wpOp_value rfl rfl (ex_load rfl (hv.get 11 rfl rfl (hd 11 (by decide))) (by go_simp)) ⟨g7, g8, k8, g20, g21, k21, hv.put sorted_region_apart 12 rfl (Nat.le_of_ble_eq_true rfl) (Nat.le_of_ble_eq_true rfl) rfl, HO⟩
    · -- 13 move
      rintro L a wc ⟨g7, g8, k8, g20, g21, k21, hv, HO⟩ hL hc hd
      exact wpOp_value rfl rfl (ex_move rfl ((hv.fixed 0 (by decide)).trans rfl)) ⟨g7, g8, k8, g20, g21, k21, hv.put sorted_region_apart 13 rfl (Nat.le_of_ble_eq_true rfl) (Nat.le_of_ble_eq_true rfl) rfl, HO⟩
    · -- 14 nil
      rintro L a wc ⟨g7, g8, k8, g20, g21, k21, hv, HO⟩ hL hc hd
      exact wpOp_value rfl rfl (ex_nil rfl (hv.get 13 rfl rfl (hd 13 (by decide)))) ⟨g7, g8, k8, g20, g21, k21, hv.put sorted_region_apart 14 rfl (Nat.le_of_ble_eq_true rfl) (Nat.le_of_ble_eq_true rfl) rfl, HO⟩
    · -- 15 field
      rintro L a wc ⟨g7, g8, k8, g20, g21, k21, hv, HO⟩ hL hc hd
      exact wpOp_value rfl rfl (ex_field rfl (hv.get 14 rfl rfl (hd 14 (by decide))) (by go_simp)) ⟨g7, g8, k8, g20, g21, k21, hv.put sorted_region_apart 15 rfl (Nat.le_of_ble_eq_true rfl) (Nat.le_of_ble_eq_true rfl) rfl, HO⟩
    · -- 16 load
      rintro L a wc ⟨g7, g8, k8, g20, g21, k21, hv, HO⟩ hL hc hd
      have cP : wc.cell? ⟨P, 1, none⟩ = some (.slice (some bd) n cB) := HO.out.ext.cell HC.out.1
      exact wpOp_value rfl rfl (ex_load rfl (hv.get 15 rfl rfl (hd 15 (by decide))) (by go_simp)) ⟨g7, g8, k8, g20, g21, k21, hv.put sorted_region_apart 16 rfl (Nat.le_of_ble_eq_true rfl) (Nat.le_of_ble_eq_true rfl) rfl, HO⟩
    · -- 17 move
      rintro L a wc ⟨g7, g8, k8, g20, g21, k21, hv, HO⟩ hL hc hd
      exact wpOp_value rfl rfl (ex_move rfl ((hv.fixed 5 (by decide)).trans rfl)) ⟨g7, g8, k8, g20, g21, k21, hv.put sorted_region_apart 17 rfl (Nat.le_of_ble_eq_true rfl) (Nat.le_of_ble_eq_true rfl) rfl, HO⟩
    · -- 18 index
      rintro L a wc ⟨g7, g8, k8, g20, g21, k21, hv, HO⟩ hL hc hd
      have b1 : (0 : Int) ≤ (k : Int) := by omega
      have b2 : (k : Int) < (n : Int) := by omega
      exact wpOp_value rfl rfl (ex_index rfl (hv.get 16 rfl rfl (hd 16 (by decide))) (hv.get 17 rfl rfl (hd 17 (by decide))) (by go_simp)) ⟨g7, g8, k8, g20, g21, k21, hv.put sorted_region_apart 18 rfl (Nat.le_of_ble_eq_true rfl) (Nat.le_of_ble_eq_true rfl) rfl, HO⟩
    · -- 19 load
      rintro L a wc ⟨g7, g8, k8, g20, g21, k21, hv, HO⟩ hL hc hd
      have cQ : wc.cell? (bd.add k) = some (sv p) := HO.out.ext.cell HC.out.2
      exact wpOp_value rfl rfl (ex_load rfl (hv.get 18 rfl rfl (hd 18 (by decide))) (by go_simp)) ⟨g7, g8, k8, g20, g21, k21, hv.put sorted_region_apart 19 rfl (Nat.le_of_ble_eq_true rfl) (Nat.le_of_ble_eq_true rfl) rfl, HO⟩
    · -- 20 build
      rintro L a wc ⟨g7, g8, k8, g20, g21, k21, hv, HO⟩ hL hc hd
      have n20 := hL
      have hn := HO.out.new 4 #[sv p] 9 (by simp [maxLen])
      exact wpOp_value rfl rfl (ex_build rfl Tryd.underlying32 info_str (hv.get 19 rfl rfl (hd 19 (by decide))) rfl) ⟨g7, g8, k8, wc.heap.size, g21, k21, hv.put sorted_region_apart 20 rfl (Nat.le_of_ble_eq_true rfl) (Nat.le_of_ble_eq_true rfl) rfl, Lib.hid hn⟩
    · -- 21 append
      rintro L a wc ⟨g7, g8, k8, g20, g21, k21, hv, HO⟩ hL hc hd
      refine wpOp_append rfl rfl 32 9 rfl Tryd.underlying32 info_str rfl HO.out 2 (congrArg some (if_neg (by simp [hL]))) (hv.get 12 rfl rfl (hd 12 (by decide))) (hv.get 20 rfl rfl (hd 20 (by decide))) (HO.out.cell 4 (congrArg some (if_pos (hd 20 (by decide)))) 0 rfl) rfl (by omega) (by decide) ?_
      intro gg cc w2 hO2
      have n27 : L 27 = false := Bool.eq_false_iff.2 fun h => Bool.false_ne_true (hL.symm.trans (hc 27 h 21 (by decide)))
      have e27 : (if L 27 = true then (.slice (some ⟨g21, 0, none⟩) (o.length + 1) k21 : Value) else .slice Y o.length cY) = (if L 27 = true then .slice (some ⟨gg, 0, none⟩) (o.length + 1) cc else .slice Y o.length cY) := by rw [if_neg (by simp [n27]), if_neg (by simp [n27])]
      rw [e27] at hO2
      exact ⟨g7, g8, k8, g20, gg, cc, hv.put sorted_region_apart 21 rfl (Nat.le_of_ble_eq_true rfl) (Nat.le_of_ble_eq_true rfl) rfl, Lib.hid hO2⟩
    · -- 22 nil
      rintro L a wc ⟨g7, g8, k8, g20, g21, k21, hv, HO⟩ hL hc hd
      exact wpOp_value rfl rfl (ex_nil rfl (hv.get 0 rfl rfl (hd 0 (by decide)))) ⟨g7, g8, k8, g20, g21, k21, hv.put sorted_region_apart 22 rfl (Nat.le_of_ble_eq_true rfl) (Nat.le_of_ble_eq_true rfl) rfl, HO⟩
    · -- 23 field
      rintro L a wc ⟨g7, g8, k8, g20, g21, k21, hv, HO⟩ hL hc hd
      exact wpOp_value rfl rfl (ex_field rfl (hv.get 22 rfl rfl (hd 22 (by decide))) (by go_simp)) ⟨g7, g8, k8, g20, g21, k21, hv.put sorted_region_apart 23 rfl (Nat.le_of_ble_eq_true rfl) (Nat.le_of_ble_eq_true rfl) rfl, HO⟩
    · -- 24 store
      rintro L a wc ⟨g7, g8, k8, g20, g21, k21, hv, HO⟩ hL hc hd
      have f0 : wc.frozen? ⟨w.heap.size, 0, none⟩ = false := HO.out.frozen 0 rfl 0
      have n27 : L 27 = false := Bool.eq_false_iff.2 fun h => Bool.false_ne_true (hL.symm.trans (hc 27 h 24 (by decide)))
      have e0 : wc.cell? ⟨w.heap.size, 0, none⟩ = some (if L 24 = true then .slice (some ⟨g8, 0, none⟩) (o.length + 1) k8 else .slice X o.length cX) := HO.out.cell 0 rfl 0 rfl
      have hst := HO.out.store 0 rfl 0 (.slice (some ⟨g8, 0, none⟩) (o.length + 1) k8)
      exact wpOp_skip rfl rfl rfl (ex_store rfl (hv.get 23 rfl rfl (hd 23 (by decide))) (hv.get 8 rfl rfl (hd 8 (by decide))) (by go_simp)) ⟨g7, g8, k8, g20, g21, k21, hv.skip 24 rfl, Lib.hid hst⟩
    · -- 25 nil
      rintro L a wc ⟨g7, g8, k8, g20, g21, k21, hv, HO⟩ hL hc hd
      exact wpOp_value rfl rfl (ex_nil rfl (hv.get 1 rfl rfl (hd 1 (by decide)))) ⟨g7, g8, k8, g20, g21, k21, hv.put sorted_region_apart 25 rfl (Nat.le_of_ble_eq_true rfl) (Nat.le_of_ble_eq_true rfl) rfl, HO⟩
    · -- 26 field
      rintro L a wc ⟨g7, g8, k8, g20, g21, k21, hv, HO⟩ hL hc hd
      exact wpOp_value rfl rfl (ex_field rfl (hv.get 25 rfl rfl (hd 25 (by decide))) (by go_simp)) ⟨g7, g8, k8, g20, g21, k21, hv.put sorted_region_apart 26 rfl (Nat.le_of_ble_eq_true rfl) (Nat.le_of_ble_eq_true rfl) rfl, HO⟩
    · -- 27 store
      rintro L a wc ⟨g7, g8, k8, g20, g21, k21, hv, HO⟩ hL hc hd
      have f1 : wc.frozen? ⟨w.heap.size, 1, none⟩ = false := HO.out.frozen 0 rfl 1
      have e1 : wc.cell? ⟨w.heap.size, 1, none⟩ = some (if L 27 = true then .slice (some ⟨g21, 0, none⟩) (o.length + 1) k21 else .slice Y o.length cY) := HO.out.cell 0 rfl 1 rfl
      have hst := HO.out.store 0 rfl 1 (.slice (some ⟨g21, 0, none⟩) (o.length + 1) k21)
      exact wpOp_skip rfl rfl rfl (ex_store rfl (hv.get 26 rfl rfl (hd 26 (by decide))) (hv.get 21 rfl rfl (hd 21 (by decide))) (by go_simp)) ⟨g7, g8, k8, g20, g21, k21, hv.skip 27 rfl, Lib.hid hst⟩
  · rintro L a wc ⟨g7, g8, k8, g20, g21, k21, hv, HO⟩ hall
    show K a wc
    have ha := act_lit a
    rw [hv.size, hv.defers] at ha
    have hl : ∀ f : Nat → Value, ((List.range (⟨#[.pointer (some ⟨P, 0, none⟩), c1, c2, .pointer (some ⟨w.heap.size, 0, none⟩), c4, .int .i64 k, .slice RB n cRB, c7, c8, c9, c10, c11, c12, c13, c14, c15, c16, c17, c18, c19, c20, c21, c22, c23, c24, c25, c26, c27, c28, c29, c30, c31, c32, c33, c34, c35, c36, c37, c38, c39, c40, c41, c42, c43, c44, c45, c46, c47, c48, c49, c50, c51, c52, c53, c54, c55, c56, c57, c58, c59, c60, c61, c62, c63], df⟩ : Act).tmps.size).map f).toArray = #[f 0, f 1, f 2, f 3, f 4, f 5, f 6, f 7, f 8, f 9, f 10, f 11, f 12, f 13, f 14, f 15, f 16, f 17, f 18, f 19, f 20, f 21, f 22, f 23, f 24, f 25, f 26, f 27, f 28, f 29, f 30, f 31, f 32, f 33, f 34, f 35, f 36, f 37, f 38, f 39, f 40, f 41, f 42, f 43, f 44, f 45, f 46, f 47, f 48, f 49, f 50, f 51, f 52, f 53, f 54, f 55, f 56, f 57, f 58, f 59, f 60, f 61, f 62, f 63] := fun _ => rfl
    rw [hl] at ha
    simp only [hv.fixed 0 (by decide), hv.fixed 1 (by decide), hv.fixed 2 (by decide), hv.fixed 3 (by decide), hv.fixed 4 (by decide), hv.fixed 5 (by decide), hv.fixed 6 (by decide), hv.fixed 7 (by decide), hv.fixed 8 (by decide), hv.fixed 9 (by decide), hv.fixed 10 (by decide), hv.fixed 11 (by decide), hv.fixed 12 (by decide), hv.fixed 13 (by decide), hv.fixed 14 (by decide), hv.fixed 15 (by decide), hv.fixed 16 (by decide), hv.fixed 17 (by decide), hv.fixed 18 (by decide), hv.fixed 19 (by decide), hv.fixed 20 (by decide), hv.fixed 21 (by decide), hv.fixed 22 (by decide), hv.fixed 23 (by decide), hv.fixed 24 (by decide), hv.fixed 25 (by decide), hv.fixed 26 (by decide), hv.fixed 27 (by decide), hv.fixed 28 (by decide), hv.fixed 29 (by decide), hv.fixed 30 (by decide), hv.fixed 31 (by decide), hv.fixed 32 (by decide), hv.fixed 33 (by decide), hv.fixed 60 (by decide), hv.fixed 61 (by decide), hv.fixed 62 (by decide), hv.fixed 63 (by decide)] at ha
    rw [ha]
    have hO := HO.out
    simp only [hall 7 (by decide), hall 8 (by decide), hall 20 (by decide), hall 21 (by decide), hall 24 (by decide), hall 27 (by decide), if_true] at hO
    exact hK _ _ _ _ _ _ _ _ _ _ _ _ _ _ _ _ _ _ _ _ _ _ _ _ _ _ _ (Lib.hid (SortOut.push (S := S) (Ps := Ps) (k := k) HVL.out.1 HVL.out.2 HU.out (by rw [HGP.out]; exact hO)))
end Go.Proofs.YtgkohfmgdejkpaaDoor
