/- What the program's functions do, step by step: part E of the texts for this claim; no condition beyond what each theorem states. -/
import Derived.Deep.RegionHeld3
import Derived.Test.YtdmljilcbndmfaaDoorRbAplBunA
import Derived.Test.YtdmljilcbndmfaaDoorRbAplBunB
import Derived.Test.YtdmljilcbndmfaaDoorRbAplBunC
import Derived.Test.YtdmljilcbndmfaaDoorRbAplBunD
/- THE WALK over Check of the specification of rebuild. -/
namespace Rb
/-- What the specification asks of one place. -/
def spot (r : Rec) (k : Nat) : Prop := 0 ≤ r.src.getD k 0 ∧ r.src.getD k 0 < 24 ∧ r.src.getD k 0 ≠ r.piece ∧ r.coef.getD k 0 ≠ 0 ∧ (0 < k → r.src.getD (k - 1) 0 < r.src.getD k 0)
theorem ok_spots {r : Rec} : Ok r ↔ 0 ≤ r.piece ∧ r.piece < 24 ∧ r.src.length ≠ 0 ∧ r.coef.length = r.src.length ∧ ∀ k, k < r.src.length → spot r k := by
  have hget : ∀ {k : Nat}, k < r.coef.length → r.coef.getD k 0 ∈ r.coef := fun {k} hk => by rw [List.getD_eq_getElem?_getD, List.getElem?_eq_getElem hk]; exact List.getElem_mem hk
  constructor
  · rintro ⟨h1, h2, h3, h4, h5, h6, h7⟩
    have hne : r.src.length ≠ 0 := by
      intro e; unfold ahead at h4; rw [if_pos e] at h4; exact absurd h4 (by decide)
    have hup : ∀ k, k < r.src.length → 0 ≤ r.src.getD k 0 := fun k => by
      induction k with
      | zero => intro hk; have := (h1 0 hk).1; rw [ahead_zero] at this; omega
      | succ k ih => intro hk; have h := (h1 (k + 1) hk).1; rw [ahead_succ] at h; have := ih (by omega); omega
    have hlast : ∀ m k, k + m + 1 = r.src.length → r.src.getD k 0 < 24 := fun m => by
      induction m with
      | zero => intro k hk; have h := h5; unfold ahead at h; rw [if_neg hne] at h; rw [show r.src.length - 1 = k by omega] at h; exact h
      | succ m ih => intro k hk; have h := (h1 (k + 1) (by omega)).1; rw [ahead_succ] at h; have := ih (k + 1) (by omega); omega
    refine ⟨h2, h3, hne, h6, fun k hk => ⟨hup k hk, hlast (r.src.length - k - 1) k (by omega), (h1 k hk).2, fun e => h7 (by rw [← e]; exact hget (by omega)), fun hk0 => ?_⟩⟩
    have h := (h1 k hk).1
    unfold ahead at h
    rw [if_neg (by omega)] at h
    exact h
  · rintro ⟨h2, h3, hne, h6, h⟩
    refine ⟨fun k hk => ⟨?_, (h k hk).2.2.1⟩, h2, h3, ?_, ?_, h6, fun hz => ?_⟩
    · unfold ahead
      split
      · have := (h k hk).1; omega
      · exact (h k hk).2.2.2.2 (by omega)
    · unfold ahead; rw [if_neg hne]; exact (h _ (by omega)).1
    · unfold ahead; rw [if_neg hne]; exact (h _ (by omega)).2.1
    · obtain ⟨k, hk, e⟩ := List.getElem_of_mem hz
      have := (h k (by omega)).2.2.2.1
      rw [List.getD_eq_getElem?_getD, List.getElem?_eq_getElem hk] at this
      exact this e
end Rb
namespace Go.Proofs.YtdmljilcbndmfaaDoor
open Go.RowKit Go.Shelf
theorem wanted_undef {ops : Array Oper} {o : Oper} {a : Act} {g t : Nat} {want : Bool} (hg : o.guard = some (g, want)) (hd : (ops[g]?).bind (·.dst) = some t) (he : a.eval (.tmp t) = undef) : Region.wanted o (yielded ops a.tmps) = false := by
  have ht : yielded ops a.tmps g = none := by
    unfold yielded
    rw [hd]
    simp only [Act.eval, Array.getD_eq_getD_getElem?] at he
    cases h : a.tmps[t]? with
    | none => simp [h]
    | some v => rw [h] at he; simp at he; simp [h, he, undef]
  unfold Region.wanted
  rw [hg]
  simp [ht]
noncomputable def ck_neg_code : Code := ((Tryd.f26.body.bind (regionOf 6)).getD .skip)
def ck_neg_dsts : List (Option Nat) := [some 34, some 35, some 36, some 37, some 38, some 39, some 40, some 41, some 42, some 43, some 44, some 45, some 46, some 47, some 48, some 49, some 50, some 51, some 52, some 53, some 54, some 55, some 56, some 57, some 58, some 59, some 60, some 61, some 62, some 63, some 64, some 65, some 66, some 67, some 68, some 69, some 70, some 71, some 72, some 73, some 74, some 75, some 76, some 77, some 78, some 79, some 80, some 81, some 82, some 83]
theorem ck_neg_apart : apartD ck_neg_dsts = true := by decide +kernel
set_option maxRecDepth 1000000 in
set_option maxHeartbeats 16000000 in
theorem ck_neg (wr : World) (B k nf fc cc : Nat) (p x : Int) (fd cd : Addr) (HB : Hid (Cells wr B [.int .i64 p, .slice (some fd) nf fc, .slice (some cd) nf cc])) (hk : k < nf) (hx : wr.cell? (fd.add k) = some (.int .i64 x)) (H1 : Hid (x < 0)) (c0 c2 c4 c5 c6 c7 c8 c9 c10 c11 c12 c13 c14 c15 c16 c17 c18 c19 c20 c21 c22 c23 c24 c25 c26 c27 c28 c29 c30 c31 c32 c33 c34 c35 c36 c37 c38 c39 c40 c41 c42 c43 c44 c45 c46 c47 c48 c49 c50 c51 c52 c53 c54 c55 c56 c57 c58 c59 c60 c61 c62 c63 c64 c65 c66 c67 c68 c69 c70 c71 c72 c73 c74 c75 c76 c77 c78 c79 c80 c81 c82 c83 : Value) (df : List Deferred) (K : Act → World → Prop)
    (hK : ∀  (u34 u35 u36 u37 u38 u39 u40 u41 u42 u43 u44 u45 u46 u47 u48 u49 u50 u51 u52 u53 u54 u55 u56 u57 u58 u59 u60 u61 u62 u63 u64 u65 u66 u67 u68 u69 u70 u71 u72 u73 u74 u75 u76 u77 u78 u79 u80 u81 u82 : Value) (wx : World), Ext wr wx → K ⟨#[c0, .pointer (some ⟨B, 0, none⟩), c2, .int .i64 (k : Nat), c4, c5, c6, c7, c8, c9, c10, c11, c12, c13, c14, c15, c16, c17, c18, c19, c20, c21, c22, c23, c24, c25, c26, c27, c28, c29, c30, c31, c32, c33, u34, u35, u36, u37, u38, u39, u40, u41, u42, u43, u44, u45, u46, u47, u48, u49, u50, u51, u52, u53, u54, u55, u56, u57, u58, u59, u60, u61, u62, u63, u64, u65, u66, u67, u68, u69, u70, u71, u72, u73, u74, u75, u76, u77, u78, u79, u80, u81, u82, .bool true], df⟩ wx) :
    Code.wp Tryd.prog ck_neg_code (AtEnd K) ⟨#[c0, .pointer (some ⟨B, 0, none⟩), c2, .int .i64 (k : Nat), c4, c5, c6, c7, c8, c9, c10, c11, c12, c13, c14, c15, c16, c17, c18, c19, c20, c21, c22, c23, c24, c25, c26, c27, c28, c29, c30, c31, c32, c33, c34, c35, c36, c37, c38, c39, c40, c41, c42, c43, c44, c45, c46, c47, c48, c49, c50, c51, c52, c53, c54, c55, c56, c57, c58, c59, c60, c61, c62, c63, c64, c65, c66, c67, c68, c69, c70, c71, c72, c73, c74, c75, c76, c77, c78, c79, c80, c81, c82, c83], df⟩ wr := by
  conv => arg 2; whnf
  refine region_inv (by kernel_rfl) [[], [0], [], [1, 2], [3], [4], [5], [6], [7, 6], [6], [8, 9, 6], [10, 6], [11, 6], [6, 12], [13, 6], [14], [15, 14], [14], [16, 17, 14], [18, 14], [14], [20, 14], [19, 21, 14], [14, 22], [23, 14], [24], [25, 24], [24], [26, 27, 24], [28, 24], [29, 24], [24, 30], [31, 24], [32], [33, 32], [34, 32, 32], [35], [36, 35], [35], [37, 38, 35], [39, 35], [35], [41, 35], [35], [43, 35], [42, 44, 35], [45, 35], [40, 46, 35], [35, 47, 32], [32, 48]] (by kernel_rfl) [0, 1, 2, 3, 4, 5, 6, 7, 8, 9, 10, 11, 12, 13, 14, 15, 16, 17, 18, 19, 20, 21, 22, 23, 24, 25, 26, 27, 28, 29, 30, 31, 32, 33, 34, 35, 36, 37, 38, 39, 40, 41, 42, 43, 44, 45, 46, 47, 48, 49] (by decide +kernel) (by decide +kernel) (by decide +kernel) (fun L a wc => Inv ck_neg_dsts [.pointer (some ⟨B, 1, none⟩), .slice (some fd) nf fc, .int .i64 (k : Nat), .pointer (some (fd.add k)), .int .i64 x, .bool true, .bool true, undef, undef, undef, undef, undef, undef, .bool true, .bool true, undef, undef, undef, undef, undef, undef, undef, undef, .bool true, .bool true, undef, undef, undef, undef, undef, undef, .bool true, .bool true, undef, undef, undef, undef, undef, undef, undef, undef, undef, undef, undef, undef, undef, undef, undef, undef, .bool true] ⟨#[c0, .pointer (some ⟨B, 0, none⟩), c2, .int .i64 (k : Nat), c4, c5, c6, c7, c8, c9, c10, c11, c12, c13, c14, c15, c16, c17, c18, c19, c20, c21, c22, c23, c24, c25, c26, c27, c28, c29, c30, c31, c32, c33, c34, c35, c36, c37, c38, c39, c40, c41, c42, c43, c44, c45, c46, c47, c48, c49, c50, c51, c52, c53, c54, c55, c56, c57, c58, c59, c60, c61, c62, c63, c64, c65, c66, c67, c68, c69, c70, c71, c72, c73, c74, c75, c76, c77, c78, c79, c80, c81, c82, c83], df⟩ L a ∧ Hid (Ext wr wc)) ⟨Inv.start, Lib.hid ((Ext.refl wr).drew)⟩ ?_ ?_
  · refine ⟨?_, ?_, ?_, ?_, ?_, ?_, ?_, ?_, ?_, ?_, ?_, ?_, ?_, ?_, ?_, ?_, ?_, ?_, ?_, ?_, ?_, ?_, ?_, ?_, ?_, ?_, ?_, ?_, ?_, ?_, ?_, ?_, ?_, ?_, ?_, ?_, ?_, ?_, ?_, ?_, ?_, ?_, ?_, ?_, ?_, ?_, ?_, ?_, ?_, ?_, trivial⟩
    ·
      rintro L a wc ⟨hv, HO⟩ hL hc hd
      exact wpOp_val rfl rfl (ex_field rfl ((hv.fixed 1 (by decide)).trans rfl) (by go_simp)) ⟨hv.put ck_neg_apart 0 rfl (lb rfl) (lb rfl) rfl, HO⟩
    ·
      rintro L a wc ⟨hv, HO⟩ hL hc hd
      have h0 : wc.cell? ⟨B, 1, none⟩ = some (.slice (some fd) nf fc) := HO.out.cell (HB.out 1 _ rfl)
      exact wpOp_val rfl rfl (ex_load rfl (hv.get 0 rfl rfl (hd 0 (by decide))) (by go_simp)) ⟨hv.put ck_neg_apart 1 rfl (lb rfl) (lb rfl) rfl, HO⟩
    ·
      rintro L a wc ⟨hv, HO⟩ hL hc hd
      exact wpOp_val rfl rfl (ex_move rfl ((hv.fixed 3 (by decide)).trans rfl)) ⟨hv.put ck_neg_apart 2 rfl (lb rfl) (lb rfl) rfl, HO⟩
    ·
      rintro L a wc ⟨hv, HO⟩ hL hc hd
      have u1 : (0 : Int) ≤ (k : Int) := by omega
      have u2 : (k : Int) < (nf : Int) := by omega
      exact wpOp_val rfl rfl (ex_index rfl (hv.get 1 rfl rfl (hd 1 (by decide))) (hv.get 2 rfl rfl (hd 2 (by decide))) (by go_simp)) ⟨hv.put ck_neg_apart 3 rfl (lb rfl) (lb rfl) rfl, HO⟩
    ·
      rintro L a wc ⟨hv, HO⟩ hL hc hd
      have h0 : wc.cell? (fd.add k) = some (.int .i64 x) := HO.out.cell hx
      exact wpOp_val rfl rfl (ex_load rfl (hv.get 3 rfl rfl (hd 3 (by decide))) (by go_simp)) ⟨hv.put ck_neg_apart 4 rfl (lb rfl) (lb rfl) rfl, HO⟩
    ·
      rintro L a wc ⟨hv, HO⟩ hL hc hd
      have u := H1.out
      exact wpOp_val rfl rfl (ex_bin rfl (hv.get 4 rfl rfl (hd 4 (by decide))) rfl (by go_simp)) ⟨hv.put ck_neg_apart 5 rfl (lb rfl) (lb rfl) rfl, HO⟩
    ·
      rintro L a wc ⟨hv, HO⟩ hL hc hd
      exact wpOp_val rfl rfl (ex_move rfl (hv.get 5 rfl rfl (hd 5 (by decide)))) ⟨hv.put ck_neg_apart 6 rfl (lb rfl) (lb rfl) rfl, HO⟩
    ·
      rintro L a wc ⟨hv, HO⟩ hL hc hd
      exact wpOp_off rfl ((wanted_at rfl rfl (hv.get 6 rfl rfl (hd 6 (by decide)))).trans rfl) ⟨hv.put ck_neg_apart 7 rfl (lb rfl) (lb rfl) rfl, HO⟩
    ·
      rintro L a wc ⟨hv, HO⟩ hL hc hd
      exact wpOp_off rfl ((wanted_at rfl rfl (hv.get 6 rfl rfl (hd 6 (by decide)))).trans rfl) ⟨hv.put ck_neg_apart 8 rfl (lb rfl) (lb rfl) rfl, HO⟩
    ·
      rintro L a wc ⟨hv, HO⟩ hL hc hd
      exact wpOp_off rfl ((wanted_at rfl rfl (hv.get 6 rfl rfl (hd 6 (by decide)))).trans rfl) ⟨hv.put ck_neg_apart 9 rfl (lb rfl) (lb rfl) rfl, HO⟩
    ·
      rintro L a wc ⟨hv, HO⟩ hL hc hd
      exact wpOp_off rfl ((wanted_at rfl rfl (hv.get 6 rfl rfl (hd 6 (by decide)))).trans rfl) ⟨hv.put ck_neg_apart 10 rfl (lb rfl) (lb rfl) rfl, HO⟩
    ·
      rintro L a wc ⟨hv, HO⟩ hL hc hd
      exact wpOp_off rfl ((wanted_at rfl rfl (hv.get 6 rfl rfl (hd 6 (by decide)))).trans rfl) ⟨hv.put ck_neg_apart 11 rfl (lb rfl) (lb rfl) rfl, HO⟩
    ·
      rintro L a wc ⟨hv, HO⟩ hL hc hd
      exact wpOp_off rfl ((wanted_at rfl rfl (hv.get 6 rfl rfl (hd 6 (by decide)))).trans rfl) ⟨hv.put ck_neg_apart 12 rfl (lb rfl) (lb rfl) rfl, HO⟩
    ·
      rintro L a wc ⟨hv, HO⟩ hL hc hd
      exact wpOp_val rfl rfl (ex_pick rfl (hv.get 6 rfl rfl (hd 6 (by decide))) rfl) ⟨hv.put ck_neg_apart 13 rfl (lb rfl) (lb rfl) rfl, HO⟩
    ·
      rintro L a wc ⟨hv, HO⟩ hL hc hd
      exact wpOp_val rfl rfl (ex_move rfl (hv.get 13 rfl rfl (hd 13 (by decide)))) ⟨hv.put ck_neg_apart 14 rfl (lb rfl) (lb rfl) rfl, HO⟩
    ·
      rintro L a wc ⟨hv, HO⟩ hL hc hd
      exact wpOp_off rfl ((wanted_at rfl rfl (hv.get 14 rfl rfl (hd 14 (by decide)))).trans rfl) ⟨hv.put ck_neg_apart 15 rfl (lb rfl) (lb rfl) rfl, HO⟩
    ·
      rintro L a wc ⟨hv, HO⟩ hL hc hd
      exact wpOp_off rfl ((wanted_at rfl rfl (hv.get 14 rfl rfl (hd 14 (by decide)))).trans rfl) ⟨hv.put ck_neg_apart 16 rfl (lb rfl) (lb rfl) rfl, HO⟩
    ·
      rintro L a wc ⟨hv, HO⟩ hL hc hd
      exact wpOp_off rfl ((wanted_at rfl rfl (hv.get 14 rfl rfl (hd 14 (by decide)))).trans rfl) ⟨hv.put ck_neg_apart 17 rfl (lb rfl) (lb rfl) rfl, HO⟩
    ·
      rintro L a wc ⟨hv, HO⟩ hL hc hd
      exact wpOp_off rfl ((wanted_at rfl rfl (hv.get 14 rfl rfl (hd 14 (by decide)))).trans rfl) ⟨hv.put ck_neg_apart 18 rfl (lb rfl) (lb rfl) rfl, HO⟩
    ·
      rintro L a wc ⟨hv, HO⟩ hL hc hd
      exact wpOp_off rfl ((wanted_at rfl rfl (hv.get 14 rfl rfl (hd 14 (by decide)))).trans rfl) ⟨hv.put ck_neg_apart 19 rfl (lb rfl) (lb rfl) rfl, HO⟩
    ·
      rintro L a wc ⟨hv, HO⟩ hL hc hd
      exact wpOp_off rfl ((wanted_at rfl rfl (hv.get 14 rfl rfl (hd 14 (by decide)))).trans rfl) ⟨hv.put ck_neg_apart 20 rfl (lb rfl) (lb rfl) rfl, HO⟩
    ·
      rintro L a wc ⟨hv, HO⟩ hL hc hd
      exact wpOp_off rfl ((wanted_at rfl rfl (hv.get 14 rfl rfl (hd 14 (by decide)))).trans rfl) ⟨hv.put ck_neg_apart 21 rfl (lb rfl) (lb rfl) rfl, HO⟩
    ·
      rintro L a wc ⟨hv, HO⟩ hL hc hd
      exact wpOp_off rfl ((wanted_at rfl rfl (hv.get 14 rfl rfl (hd 14 (by decide)))).trans rfl) ⟨hv.put ck_neg_apart 22 rfl (lb rfl) (lb rfl) rfl, HO⟩
    ·
      rintro L a wc ⟨hv, HO⟩ hL hc hd
      exact wpOp_val rfl rfl (ex_pick rfl (hv.get 14 rfl rfl (hd 14 (by decide))) rfl) ⟨hv.put ck_neg_apart 23 rfl (lb rfl) (lb rfl) rfl, HO⟩
    ·
      rintro L a wc ⟨hv, HO⟩ hL hc hd
      exact wpOp_val rfl rfl (ex_move rfl (hv.get 23 rfl rfl (hd 23 (by decide)))) ⟨hv.put ck_neg_apart 24 rfl (lb rfl) (lb rfl) rfl, HO⟩
    ·
      rintro L a wc ⟨hv, HO⟩ hL hc hd
      exact wpOp_off rfl ((wanted_at rfl rfl (hv.get 24 rfl rfl (hd 24 (by decide)))).trans rfl) ⟨hv.put ck_neg_apart 25 rfl (lb rfl) (lb rfl) rfl, HO⟩
    ·
      rintro L a wc ⟨hv, HO⟩ hL hc hd
      exact wpOp_off rfl ((wanted_at rfl rfl (hv.get 24 rfl rfl (hd 24 (by decide)))).trans rfl) ⟨hv.put ck_neg_apart 26 rfl (lb rfl) (lb rfl) rfl, HO⟩
    ·
      rintro L a wc ⟨hv, HO⟩ hL hc hd
      exact wpOp_off rfl ((wanted_at rfl rfl (hv.get 24 rfl rfl (hd 24 (by decide)))).trans rfl) ⟨hv.put ck_neg_apart 27 rfl (lb rfl) (lb rfl) rfl, HO⟩
    ·
      rintro L a wc ⟨hv, HO⟩ hL hc hd
      exact wpOp_off rfl ((wanted_at rfl rfl (hv.get 24 rfl rfl (hd 24 (by decide)))).trans rfl) ⟨hv.put ck_neg_apart 28 rfl (lb rfl) (lb rfl) rfl, HO⟩
    ·
      rintro L a wc ⟨hv, HO⟩ hL hc hd
      exact wpOp_off rfl ((wanted_at rfl rfl (hv.get 24 rfl rfl (hd 24 (by decide)))).trans rfl) ⟨hv.put ck_neg_apart 29 rfl (lb rfl) (lb rfl) rfl, HO⟩
    ·
      rintro L a wc ⟨hv, HO⟩ hL hc hd
      exact wpOp_off rfl ((wanted_at rfl rfl (hv.get 24 rfl rfl (hd 24 (by decide)))).trans rfl) ⟨hv.put ck_neg_apart 30 rfl (lb rfl) (lb rfl) rfl, HO⟩
    ·
      rintro L a wc ⟨hv, HO⟩ hL hc hd
      exact wpOp_val rfl rfl (ex_pick rfl (hv.get 24 rfl rfl (hd 24 (by decide))) rfl) ⟨hv.put ck_neg_apart 31 rfl (lb rfl) (lb rfl) rfl, HO⟩
    ·
      rintro L a wc ⟨hv, HO⟩ hL hc hd
      exact wpOp_val rfl rfl (ex_move rfl (hv.get 31 rfl rfl (hd 31 (by decide)))) ⟨hv.put ck_neg_apart 32 rfl (lb rfl) (lb rfl) rfl, HO⟩
    ·
      rintro L a wc ⟨hv, HO⟩ hL hc hd
      exact wpOp_off rfl ((wanted_at rfl rfl (hv.get 32 rfl rfl (hd 32 (by decide)))).trans rfl) ⟨hv.put ck_neg_apart 33 rfl (lb rfl) (lb rfl) rfl, HO⟩
    ·
      rintro L a wc ⟨hv, HO⟩ hL hc hd
      exact wpOp_off rfl ((wanted_at rfl rfl (hv.get 32 rfl rfl (hd 32 (by decide)))).trans rfl) ⟨hv.put ck_neg_apart 34 rfl (lb rfl) (lb rfl) rfl, HO⟩
    ·
      rintro L a wc ⟨hv, HO⟩ hL hc hd
      exact wpOp_off rfl ((wanted_at rfl rfl (hv.get 32 rfl rfl (hd 32 (by decide)))).trans rfl) ⟨hv.put ck_neg_apart 35 rfl (lb rfl) (lb rfl) rfl, HO⟩
    ·
      rintro L a wc ⟨hv, HO⟩ hL hc hd
      exact wpOp_off rfl (wanted_undef rfl rfl (hv.get 35 rfl rfl (hd 35 (by decide)))) ⟨hv.put ck_neg_apart 36 rfl (lb rfl) (lb rfl) rfl, HO⟩
    ·
      rintro L a wc ⟨hv, HO⟩ hL hc hd
      exact wpOp_off rfl (wanted_undef rfl rfl (hv.get 35 rfl rfl (hd 35 (by decide)))) ⟨hv.put ck_neg_apart 37 rfl (lb rfl) (lb rfl) rfl, HO⟩
    ·
      rintro L a wc ⟨hv, HO⟩ hL hc hd
      exact wpOp_off rfl (wanted_undef rfl rfl (hv.get 35 rfl rfl (hd 35 (by decide)))) ⟨hv.put ck_neg_apart 38 rfl (lb rfl) (lb rfl) rfl, HO⟩
    ·
      rintro L a wc ⟨hv, HO⟩ hL hc hd
      exact wpOp_off rfl (wanted_undef rfl rfl (hv.get 35 rfl rfl (hd 35 (by decide)))) ⟨hv.put ck_neg_apart 39 rfl (lb rfl) (lb rfl) rfl, HO⟩
    ·
      rintro L a wc ⟨hv, HO⟩ hL hc hd
      exact wpOp_off rfl (wanted_undef rfl rfl (hv.get 35 rfl rfl (hd 35 (by decide)))) ⟨hv.put ck_neg_apart 40 rfl (lb rfl) (lb rfl) rfl, HO⟩
    ·
      rintro L a wc ⟨hv, HO⟩ hL hc hd
      exact wpOp_off rfl (wanted_undef rfl rfl (hv.get 35 rfl rfl (hd 35 (by decide)))) ⟨hv.put ck_neg_apart 41 rfl (lb rfl) (lb rfl) rfl, HO⟩
    ·
      rintro L a wc ⟨hv, HO⟩ hL hc hd
      exact wpOp_off rfl (wanted_undef rfl rfl (hv.get 35 rfl rfl (hd 35 (by decide)))) ⟨hv.put ck_neg_apart 42 rfl (lb rfl) (lb rfl) rfl, HO⟩
    ·
      rintro L a wc ⟨hv, HO⟩ hL hc hd
      exact wpOp_off rfl (wanted_undef rfl rfl (hv.get 35 rfl rfl (hd 35 (by decide)))) ⟨hv.put ck_neg_apart 43 rfl (lb rfl) (lb rfl) rfl, HO⟩
    ·
      rintro L a wc ⟨hv, HO⟩ hL hc hd
      exact wpOp_off rfl (wanted_undef rfl rfl (hv.get 35 rfl rfl (hd 35 (by decide)))) ⟨hv.put ck_neg_apart 44 rfl (lb rfl) (lb rfl) rfl, HO⟩
    ·
      rintro L a wc ⟨hv, HO⟩ hL hc hd
      exact wpOp_off rfl (wanted_undef rfl rfl (hv.get 35 rfl rfl (hd 35 (by decide)))) ⟨hv.put ck_neg_apart 45 rfl (lb rfl) (lb rfl) rfl, HO⟩
    ·
      rintro L a wc ⟨hv, HO⟩ hL hc hd
      exact wpOp_off rfl (wanted_undef rfl rfl (hv.get 35 rfl rfl (hd 35 (by decide)))) ⟨hv.put ck_neg_apart 46 rfl (lb rfl) (lb rfl) rfl, HO⟩
    ·
      rintro L a wc ⟨hv, HO⟩ hL hc hd
      exact wpOp_off rfl (wanted_undef rfl rfl (hv.get 35 rfl rfl (hd 35 (by decide)))) ⟨hv.put ck_neg_apart 47 rfl (lb rfl) (lb rfl) rfl, HO⟩
    ·
      rintro L a wc ⟨hv, HO⟩ hL hc hd
      exact wpOp_off rfl ((wanted_at rfl rfl (hv.get 32 rfl rfl (hd 32 (by decide)))).trans rfl) ⟨hv.put ck_neg_apart 48 rfl (lb rfl) (lb rfl) rfl, HO⟩
    ·
      rintro L a wc ⟨hv, HO⟩ hL hc hd
      exact wpOp_val rfl rfl (ex_pick rfl (hv.get 32 rfl rfl (hd 32 (by decide))) rfl) ⟨hv.put ck_neg_apart 49 rfl (lb rfl) (lb rfl) rfl, HO⟩
  · rintro L a wc ⟨hv, HO⟩ hall
    show K a wc
    have ha := act_lit a
    rw [hv.size, hv.defers] at ha
    have hl : ∀ f : Nat → Value, ((List.range (⟨#[c0, .pointer (some ⟨B, 0, none⟩), c2, .int .i64 (k : Nat), c4, c5, c6, c7, c8, c9, c10, c11, c12, c13, c14, c15, c16, c17, c18, c19, c20, c21, c22, c23, c24, c25, c26, c27, c28, c29, c30, c31, c32, c33, c34, c35, c36, c37, c38, c39, c40, c41, c42, c43, c44, c45, c46, c47, c48, c49, c50, c51, c52, c53, c54, c55, c56, c57, c58, c59, c60, c61, c62, c63, c64, c65, c66, c67, c68, c69, c70, c71, c72, c73, c74, c75, c76, c77, c78, c79, c80, c81, c82, c83], df⟩ : Act).tmps.size).map f).toArray = #[f 0, f 1, f 2, f 3, f 4, f 5, f 6, f 7, f 8, f 9, f 10, f 11, f 12, f 13, f 14, f 15, f 16, f 17, f 18, f 19, f 20, f 21, f 22, f 23, f 24, f 25, f 26, f 27, f 28, f 29, f 30, f 31, f 32, f 33, f 34, f 35, f 36, f 37, f 38, f 39, f 40, f 41, f 42, f 43, f 44, f 45, f 46, f 47, f 48, f 49, f 50, f 51, f 52, f 53, f 54, f 55, f 56, f 57, f 58, f 59, f 60, f 61, f 62, f 63, f 64, f 65, f 66, f 67, f 68, f 69, f 70, f 71, f 72, f 73, f 74, f 75, f 76, f 77, f 78, f 79, f 80, f 81, f 82, f 83] := fun _ => rfl
    rw [hl] at ha
    simp only [hv.fixed 0 (by decide), hv.fixed 1 (by decide), hv.fixed 2 (by decide), hv.fixed 3 (by decide), hv.fixed 4 (by decide), hv.fixed 5 (by decide), hv.fixed 6 (by decide), hv.fixed 7 (by decide), hv.fixed 8 (by decide), hv.fixed 9 (by decide), hv.fixed 10 (by decide), hv.fixed 11 (by decide), hv.fixed 12 (by decide), hv.fixed 13 (by decide), hv.fixed 14 (by decide), hv.fixed 15 (by decide), hv.fixed 16 (by decide), hv.fixed 17 (by decide), hv.fixed 18 (by decide), hv.fixed 19 (by decide), hv.fixed 20 (by decide), hv.fixed 21 (by decide), hv.fixed 22 (by decide), hv.fixed 23 (by decide), hv.fixed 24 (by decide), hv.fixed 25 (by decide), hv.fixed 26 (by decide), hv.fixed 27 (by decide), hv.fixed 28 (by decide), hv.fixed 29 (by decide), hv.fixed 30 (by decide), hv.fixed 31 (by decide), hv.fixed 32 (by decide), hv.fixed 33 (by decide), hv.get 49 (d := 83) rfl rfl (hall 49 (by decide))] at ha
    rw [ha]
    exact hK _ _ _ _ _ _ _ _ _ _ _ _ _ _ _ _ _ _ _ _ _ _ _ _ _ _ _ _ _ _ _ _ _ _ _ _ _ _ _ _ _ _ _ _ _ _ _ _ _ wc HO.out
noncomputable def ck_big_code : Code := ((Tryd.f26.body.bind (regionOf 6)).getD .skip)
def ck_big_dsts : List (Option Nat) := [some 34, some 35, some 36, some 37, some 38, some 39, some 40, some 41, some 42, some 43, some 44, some 45, some 46, some 47, some 48, some 49, some 50, some 51, some 52, some 53, some 54, some 55, some 56, some 57, some 58, some 59, some 60, some 61, some 62, some 63, some 64, some 65, some 66, some 67, some 68, some 69, some 70, some 71, some 72, some 73, some 74, some 75, some 76, some 77, some 78, some 79, some 80, some 81, some 82, some 83]
theorem ck_big_apart : apartD ck_big_dsts = true := by decide +kernel
set_option maxRecDepth 1000000 in
set_option maxHeartbeats 16000000 in
theorem ck_big (wr : World) (B k nf fc cc : Nat) (p x : Int) (fd cd : Addr) (HB : Hid (Cells wr B [.int .i64 p, .slice (some fd) nf fc, .slice (some cd) nf cc])) (hk : k < nf) (hx : wr.cell? (fd.add k) = some (.int .i64 x)) (H1 : Hid (¬ x < 0)) (H2 : Hid (24 ≤ x)) (c0 c2 c4 c5 c6 c7 c8 c9 c10 c11 c12 c13 c14 c15 c16 c17 c18 c19 c20 c21 c22 c23 c24 c25 c26 c27 c28 c29 c30 c31 c32 c33 c34 c35 c36 c37 c38 c39 c40 c41 c42 c43 c44 c45 c46 c47 c48 c49 c50 c51 c52 c53 c54 c55 c56 c57 c58 c59 c60 c61 c62 c63 c64 c65 c66 c67 c68 c69 c70 c71 c72 c73 c74 c75 c76 c77 c78 c79 c80 c81 c82 c83 : Value) (df : List Deferred) (K : Act → World → Prop)
    (hK : ∀  (u34 u35 u36 u37 u38 u39 u40 u41 u42 u43 u44 u45 u46 u47 u48 u49 u50 u51 u52 u53 u54 u55 u56 u57 u58 u59 u60 u61 u62 u63 u64 u65 u66 u67 u68 u69 u70 u71 u72 u73 u74 u75 u76 u77 u78 u79 u80 u81 u82 : Value) (wx : World), Ext wr wx → K ⟨#[c0, .pointer (some ⟨B, 0, none⟩), c2, .int .i64 (k : Nat), c4, c5, c6, c7, c8, c9, c10, c11, c12, c13, c14, c15, c16, c17, c18, c19, c20, c21, c22, c23, c24, c25, c26, c27, c28, c29, c30, c31, c32, c33, u34, u35, u36, u37, u38, u39, u40, u41, u42, u43, u44, u45, u46, u47, u48, u49, u50, u51, u52, u53, u54, u55, u56, u57, u58, u59, u60, u61, u62, u63, u64, u65, u66, u67, u68, u69, u70, u71, u72, u73, u74, u75, u76, u77, u78, u79, u80, u81, u82, .bool true], df⟩ wx) :
    Code.wp Tryd.prog ck_big_code (AtEnd K) ⟨#[c0, .pointer (some ⟨B, 0, none⟩), c2, .int .i64 (k : Nat), c4, c5, c6, c7, c8, c9, c10, c11, c12, c13, c14, c15, c16, c17, c18, c19, c20, c21, c22, c23, c24, c25, c26, c27, c28, c29, c30, c31, c32, c33, c34, c35, c36, c37, c38, c39, c40, c41, c42, c43, c44, c45, c46, c47, c48, c49, c50, c51, c52, c53, c54, c55, c56, c57, c58, c59, c60, c61, c62, c63, c64, c65, c66, c67, c68, c69, c70, c71, c72, c73, c74, c75, c76, c77, c78, c79, c80, c81, c82, c83], df⟩ wr := by
  conv => arg 2; whnf
  refine region_inv (by kernel_rfl) [[], [0], [], [1, 2], [3], [4], [5], [6], [7, 6], [6], [8, 9, 6], [10, 6], [11, 6], [6, 12], [13, 6], [14], [15, 14], [14], [16, 17, 14], [18, 14], [14], [20, 14], [19, 21, 14], [14, 22], [23, 14], [24], [25, 24], [24], [26, 27, 24], [28, 24], [29, 24], [24, 30], [31, 24], [32], [33, 32], [34, 32, 32], [35], [36, 35], [35], [37, 38, 35], [39, 35], [35], [41, 35], [35], [43, 35], [42, 44, 35], [45, 35], [40, 46, 35], [35, 47, 32], [32, 48]] (by kernel_rfl) [0, 1, 2, 3, 4, 5, 6, 7, 8, 9, 10, 11, 12, 13, 14, 15, 16, 17, 18, 19, 20, 21, 22, 23, 24, 25, 26, 27, 28, 29, 30, 31, 32, 33, 34, 35, 36, 37, 38, 39, 40, 41, 42, 43, 44, 45, 46, 47, 48, 49] (by decide +kernel) (by decide +kernel) (by decide +kernel) (fun L a wc => Inv ck_big_dsts [.pointer (some ⟨B, 1, none⟩), .slice (some fd) nf fc, .int .i64 (k : Nat), .pointer (some (fd.add k)), .int .i64 x, .bool false, .bool false, .pointer (some ⟨B, 1, none⟩), .slice (some fd) nf fc, .int .i64 (k : Nat), .pointer (some (fd.add k)), .int .i64 x, .bool true, .bool true, .bool true, undef, undef, undef, undef, undef, undef, undef, undef, .bool true, .bool true, undef, undef, undef, undef, undef, undef, .bool true, .bool true, undef, undef, undef, undef, undef, undef, undef, undef, undef, undef, undef, undef, undef, undef, undef, undef, .bool true] ⟨#[c0, .pointer (some ⟨B, 0, none⟩), c2, .int .i64 (k : Nat), c4, c5, c6, c7, c8, c9, c10, c11, c12, c13, c14, c15, c16, c17, c18, c19, c20, c21, c22, c23, c24, c25, c26, c27, c28, c29, c30, c31, c32, c33, c34, c35, c36, c37, c38, c39, c40, c41, c42, c43, c44, c45, c46, c47, c48, c49, c50, c51, c52, c53, c54, c55, c56, c57, c58, c59, c60, c61, c62, c63, c64, c65, c66, c67, c68, c69, c70, c71, c72, c73, c74, c75, c76, c77, c78, c79, c80, c81, c82, c83], df⟩ L a ∧ Hid (Ext wr wc)) ⟨Inv.start, Lib.hid ((Ext.refl wr).drew)⟩ ?_ ?_
  · refine ⟨?_, ?_, ?_, ?_, ?_, ?_, ?_, ?_, ?_, ?_, ?_, ?_, ?_, ?_, ?_, ?_, ?_, ?_, ?_, ?_, ?_, ?_, ?_, ?_, ?_, ?_, ?_, ?_, ?_, ?_, ?_, ?_, ?_, ?_, ?_, ?_, ?_, ?_, ?_, ?_, ?_, ?_, ?_, ?_, ?_, ?_, ?_, ?_, ?_, ?_, trivial⟩
    ·
      rintro L a wc ⟨hv, HO⟩ hL hc hd
      exact wpOp_val rfl rfl (ex_field rfl ((hv.fixed 1 (by decide)).trans rfl) (by go_simp)) ⟨hv.put ck_big_apart 0 rfl (lb rfl) (lb rfl) rfl, HO⟩
    ·
      rintro L a wc ⟨hv, HO⟩ hL hc hd
      have h0 : wc.cell? ⟨B, 1, none⟩ = some (.slice (some fd) nf fc) := HO.out.cell (HB.out 1 _ rfl)
      exact wpOp_val rfl rfl (ex_load rfl (hv.get 0 rfl rfl (hd 0 (by decide))) (by go_simp)) ⟨hv.put ck_big_apart 1 rfl (lb rfl) (lb rfl) rfl, HO⟩
    ·
      rintro L a wc ⟨hv, HO⟩ hL hc hd
      exact wpOp_val rfl rfl (ex_move rfl ((hv.fixed 3 (by decide)).trans rfl)) ⟨hv.put ck_big_apart 2 rfl (lb rfl) (lb rfl) rfl, HO⟩
    ·
      rintro L a wc ⟨hv, HO⟩ hL hc hd
      have u1 : (0 : Int) ≤ (k : Int) := by omega
      have u2 : (k : Int) < (nf : Int) := by omega
      exact wpOp_val rfl rfl (ex_index rfl (hv.get 1 rfl rfl (hd 1 (by decide))) (hv.get 2 rfl rfl (hd 2 (by decide))) (by go_simp)) ⟨hv.put ck_big_apart 3 rfl (lb rfl) (lb rfl) rfl, HO⟩
    ·
      rintro L a wc ⟨hv, HO⟩ hL hc hd
      have h0 : wc.cell? (fd.add k) = some (.int .i64 x) := HO.out.cell hx
      exact wpOp_val rfl rfl (ex_load rfl (hv.get 3 rfl rfl (hd 3 (by decide))) (by go_simp)) ⟨hv.put ck_big_apart 4 rfl (lb rfl) (lb rfl) rfl, HO⟩
    ·
      rintro L a wc ⟨hv, HO⟩ hL hc hd
      have u := H1.out
      exact wpOp_val rfl rfl (ex_bin rfl (hv.get 4 rfl rfl (hd 4 (by decide))) rfl (by go_simp)) ⟨hv.put ck_big_apart 5 rfl (lb rfl) (lb rfl) rfl, HO⟩
    ·
      rintro L a wc ⟨hv, HO⟩ hL hc hd
      exact wpOp_val rfl rfl (ex_move rfl (hv.get 5 rfl rfl (hd 5 (by decide)))) ⟨hv.put ck_big_apart 6 rfl (lb rfl) (lb rfl) rfl, HO⟩
    ·
      rintro L a wc ⟨hv, HO⟩ hL hc hd
      exact wpOp_val rfl ((wanted_at rfl rfl (hv.get 6 rfl rfl (hd 6 (by decide)))).trans rfl) (ex_field rfl ((hv.fixed 1 (by decide)).trans rfl) (by go_simp)) ⟨hv.put ck_big_apart 7 rfl (lb rfl) (lb rfl) rfl, HO⟩
    ·
      rintro L a wc ⟨hv, HO⟩ hL hc hd
      have h0 : wc.cell? ⟨B, 1, none⟩ = some (.slice (some fd) nf fc) := HO.out.cell (HB.out 1 _ rfl)
      exact wpOp_val rfl ((wanted_at rfl rfl (hv.get 6 rfl rfl (hd 6 (by decide)))).trans rfl) (ex_load rfl (hv.get 7 rfl rfl (hd 7 (by decide))) (by go_simp)) ⟨hv.put ck_big_apart 8 rfl (lb rfl) (lb rfl) rfl, HO⟩
    ·
      rintro L a wc ⟨hv, HO⟩ hL hc hd
      exact wpOp_val rfl ((wanted_at rfl rfl (hv.get 6 rfl rfl (hd 6 (by decide)))).trans rfl) (ex_move rfl ((hv.fixed 3 (by decide)).trans rfl)) ⟨hv.put ck_big_apart 9 rfl (lb rfl) (lb rfl) rfl, HO⟩
    ·
      rintro L a wc ⟨hv, HO⟩ hL hc hd
      have u1 : (0 : Int) ≤ (k : Int) := by omega
      have u2 : (k : Int) < (nf : Int) := by omega
      exact wpOp_val rfl ((wanted_at rfl rfl (hv.get 6 rfl rfl (hd 6 (by decide)))).trans rfl) (ex_index rfl (hv.get 8 rfl rfl (hd 8 (by decide))) (hv.get 9 rfl rfl (hd 9 (by decide))) (by go_simp)) ⟨hv.put ck_big_apart 10 rfl (lb rfl) (lb rfl) rfl, HO⟩
    ·
      rintro L a wc ⟨hv, HO⟩ hL hc hd
      have h0 : wc.cell? (fd.add k) = some (.int .i64 x) := HO.out.cell hx
      exact wpOp_val rfl ((wanted_at rfl rfl (hv.get 6 rfl rfl (hd 6 (by decide)))).trans rfl) (ex_load rfl (hv.get 10 rfl rfl (hd 10 (by decide))) (by go_simp)) ⟨hv.put ck_big_apart 11 rfl (lb rfl) (lb rfl) rfl, HO⟩
    ·
      rintro L a wc ⟨hv, HO⟩ hL hc hd
      have u := H2.out
      exact wpOp_val rfl ((wanted_at rfl rfl (hv.get 6 rfl rfl (hd 6 (by decide)))).trans rfl) (ex_bin rfl (hv.get 11 rfl rfl (hd 11 (by decide))) rfl (by go_simp)) ⟨hv.put ck_big_apart 12 rfl (lb rfl) (lb rfl) rfl, HO⟩
    ·
      rintro L a wc ⟨hv, HO⟩ hL hc hd
      exact wpOp_val rfl rfl (ex_pick rfl (hv.get 6 rfl rfl (hd 6 (by decide))) (hv.get 12 rfl rfl (hd 12 (by decide)))) ⟨hv.put ck_big_apart 13 rfl (lb rfl) (lb rfl) rfl, HO⟩
    ·
      rintro L a wc ⟨hv, HO⟩ hL hc hd
      exact wpOp_val rfl rfl (ex_move rfl (hv.get 13 rfl rfl (hd 13 (by decide)))) ⟨hv.put ck_big_apart 14 rfl (lb rfl) (lb rfl) rfl, HO⟩
    ·
      rintro L a wc ⟨hv, HO⟩ hL hc hd
      exact wpOp_off rfl ((wanted_at rfl rfl (hv.get 14 rfl rfl (hd 14 (by decide)))).trans rfl) ⟨hv.put ck_big_apart 15 rfl (lb rfl) (lb rfl) rfl, HO⟩
    ·
      rintro L a wc ⟨hv, HO⟩ hL hc hd
      exact wpOp_off rfl ((wanted_at rfl rfl (hv.get 14 rfl rfl (hd 14 (by decide)))).trans rfl) ⟨hv.put ck_big_apart 16 rfl (lb rfl) (lb rfl) rfl, HO⟩
    ·
      rintro L a wc ⟨hv, HO⟩ hL hc hd
      exact wpOp_off rfl ((wanted_at rfl rfl (hv.get 14 rfl rfl (hd 14 (by decide)))).trans rfl) ⟨hv.put ck_big_apart 17 rfl (lb rfl) (lb rfl) rfl, HO⟩
    ·
      rintro L a wc ⟨hv, HO⟩ hL hc hd
      exact wpOp_off rfl ((wanted_at rfl rfl (hv.get 14 rfl rfl (hd 14 (by decide)))).trans rfl) ⟨hv.put ck_big_apart 18 rfl (lb rfl) (lb rfl) rfl, HO⟩
    ·
      rintro L a wc ⟨hv, HO⟩ hL hc hd
      exact wpOp_off rfl ((wanted_at rfl rfl (hv.get 14 rfl rfl (hd 14 (by decide)))).trans rfl) ⟨hv.put ck_big_apart 19 rfl (lb rfl) (lb rfl) rfl, HO⟩
    ·
      rintro L a wc ⟨hv, HO⟩ hL hc hd
      exact wpOp_off rfl ((wanted_at rfl rfl (hv.get 14 rfl rfl (hd 14 (by decide)))).trans rfl) ⟨hv.put ck_big_apart 20 rfl (lb rfl) (lb rfl) rfl, HO⟩
    ·
      rintro L a wc ⟨hv, HO⟩ hL hc hd
      exact wpOp_off rfl ((wanted_at rfl rfl (hv.get 14 rfl rfl (hd 14 (by decide)))).trans rfl) ⟨hv.put ck_big_apart 21 rfl (lb rfl) (lb rfl) rfl, HO⟩
    ·
      rintro L a wc ⟨hv, HO⟩ hL hc hd
      exact wpOp_off rfl ((wanted_at rfl rfl (hv.get 14 rfl rfl (hd 14 (by decide)))).trans rfl) ⟨hv.put ck_big_apart 22 rfl (lb rfl) (lb rfl) rfl, HO⟩
    ·
      rintro L a wc ⟨hv, HO⟩ hL hc hd
      exact wpOp_val rfl rfl (ex_pick rfl (hv.get 14 rfl rfl (hd 14 (by decide))) rfl) ⟨hv.put ck_big_apart 23 rfl (lb rfl) (lb rfl) rfl, HO⟩
    ·
      rintro L a wc ⟨hv, HO⟩ hL hc hd
      exact wpOp_val rfl rfl (ex_move rfl (hv.get 23 rfl rfl (hd 23 (by decide)))) ⟨hv.put ck_big_apart 24 rfl (lb rfl) (lb rfl) rfl, HO⟩
    ·
      rintro L a wc ⟨hv, HO⟩ hL hc hd
      exact wpOp_off rfl ((wanted_at rfl rfl (hv.get 24 rfl rfl (hd 24 (by decide)))).trans rfl) ⟨hv.put ck_big_apart 25 rfl (lb rfl) (lb rfl) rfl, HO⟩
    ·
      rintro L a wc ⟨hv, HO⟩ hL hc hd
      exact wpOp_off rfl ((wanted_at rfl rfl (hv.get 24 rfl rfl (hd 24 (by decide)))).trans rfl) ⟨hv.put ck_big_apart 26 rfl (lb rfl) (lb rfl) rfl, HO⟩
    ·
      rintro L a wc ⟨hv, HO⟩ hL hc hd
      exact wpOp_off rfl ((wanted_at rfl rfl (hv.get 24 rfl rfl (hd 24 (by decide)))).trans rfl) ⟨hv.put ck_big_apart 27 rfl (lb rfl) (lb rfl) rfl, HO⟩
    ·
      rintro L a wc ⟨hv, HO⟩ hL hc hd
      exact wpOp_off rfl ((wanted_at rfl rfl (hv.get 24 rfl rfl (hd 24 (by decide)))).trans rfl) ⟨hv.put ck_big_apart 28 rfl (lb rfl) (lb rfl) rfl, HO⟩
    ·
      rintro L a wc ⟨hv, HO⟩ hL hc hd
      exact wpOp_off rfl ((wanted_at rfl rfl (hv.get 24 rfl rfl (hd 24 (by decide)))).trans rfl) ⟨hv.put ck_big_apart 29 rfl (lb rfl) (lb rfl) rfl, HO⟩
    ·
      rintro L a wc ⟨hv, HO⟩ hL hc hd
      exact wpOp_off rfl ((wanted_at rfl rfl (hv.get 24 rfl rfl (hd 24 (by decide)))).trans rfl) ⟨hv.put ck_big_apart 30 rfl (lb rfl) (lb rfl) rfl, HO⟩
    ·
      rintro L a wc ⟨hv, HO⟩ hL hc hd
      exact wpOp_val rfl rfl (ex_pick rfl (hv.get 24 rfl rfl (hd 24 (by decide))) rfl) ⟨hv.put ck_big_apart 31 rfl (lb rfl) (lb rfl) rfl, HO⟩
    ·
      rintro L a wc ⟨hv, HO⟩ hL hc hd
      exact wpOp_val rfl rfl (ex_move rfl (hv.get 31 rfl rfl (hd 31 (by decide)))) ⟨hv.put ck_big_apart 32 rfl (lb rfl) (lb rfl) rfl, HO⟩
    ·
      rintro L a wc ⟨hv, HO⟩ hL hc hd
      exact wpOp_off rfl ((wanted_at rfl rfl (hv.get 32 rfl rfl (hd 32 (by decide)))).trans rfl) ⟨hv.put ck_big_apart 33 rfl (lb rfl) (lb rfl) rfl, HO⟩
    ·
      rintro L a wc ⟨hv, HO⟩ hL hc hd
      exact wpOp_off rfl ((wanted_at rfl rfl (hv.get 32 rfl rfl (hd 32 (by decide)))).trans rfl) ⟨hv.put ck_big_apart 34 rfl (lb rfl) (lb rfl) rfl, HO⟩
    ·
      rintro L a wc ⟨hv, HO⟩ hL hc hd
      exact wpOp_off rfl ((wanted_at rfl rfl (hv.get 32 rfl rfl (hd 32 (by decide)))).trans rfl) ⟨hv.put ck_big_apart 35 rfl (lb rfl) (lb rfl) rfl, HO⟩
    ·
      rintro L a wc ⟨hv, HO⟩ hL hc hd
      exact wpOp_off rfl (wanted_undef rfl rfl (hv.get 35 rfl rfl (hd 35 (by decide)))) ⟨hv.put ck_big_apart 36 rfl (lb rfl) (lb rfl) rfl, HO⟩
    ·
      rintro L a wc ⟨hv, HO⟩ hL hc hd
      exact wpOp_off rfl (wanted_undef rfl rfl (hv.get 35 rfl rfl (hd 35 (by decide)))) ⟨hv.put ck_big_apart 37 rfl (lb rfl) (lb rfl) rfl, HO⟩
    ·
      rintro L a wc ⟨hv, HO⟩ hL hc hd
      exact wpOp_off rfl (wanted_undef rfl rfl (hv.get 35 rfl rfl (hd 35 (by decide)))) ⟨hv.put ck_big_apart 38 rfl (lb rfl) (lb rfl) rfl, HO⟩
    ·
      rintro L a wc ⟨hv, HO⟩ hL hc hd
      exact wpOp_off rfl (wanted_undef rfl rfl (hv.get 35 rfl rfl (hd 35 (by decide)))) ⟨hv.put ck_big_apart 39 rfl (lb rfl) (lb rfl) rfl, HO⟩
    ·
      rintro L a wc ⟨hv, HO⟩ hL hc hd
      exact wpOp_off rfl (wanted_undef rfl rfl (hv.get 35 rfl rfl (hd 35 (by decide)))) ⟨hv.put ck_big_apart 40 rfl (lb rfl) (lb rfl) rfl, HO⟩
    ·
      rintro L a wc ⟨hv, HO⟩ hL hc hd
      exact wpOp_off rfl (wanted_undef rfl rfl (hv.get 35 rfl rfl (hd 35 (by decide)))) ⟨hv.put ck_big_apart 41 rfl (lb rfl) (lb rfl) rfl, HO⟩
    ·
      rintro L a wc ⟨hv, HO⟩ hL hc hd
      exact wpOp_off rfl (wanted_undef rfl rfl (hv.get 35 rfl rfl (hd 35 (by decide)))) ⟨hv.put ck_big_apart 42 rfl (lb rfl) (lb rfl) rfl, HO⟩
    ·
      rintro L a wc ⟨hv, HO⟩ hL hc hd
      exact wpOp_off rfl (wanted_undef rfl rfl (hv.get 35 rfl rfl (hd 35 (by decide)))) ⟨hv.put ck_big_apart 43 rfl (lb rfl) (lb rfl) rfl, HO⟩
    ·
      rintro L a wc ⟨hv, HO⟩ hL hc hd
      exact wpOp_off rfl (wanted_undef rfl rfl (hv.get 35 rfl rfl (hd 35 (by decide)))) ⟨hv.put ck_big_apart 44 rfl (lb rfl) (lb rfl) rfl, HO⟩
    ·
      rintro L a wc ⟨hv, HO⟩ hL hc hd
      exact wpOp_off rfl (wanted_undef rfl rfl (hv.get 35 rfl rfl (hd 35 (by decide)))) ⟨hv.put ck_big_apart 45 rfl (lb rfl) (lb rfl) rfl, HO⟩
    ·
      rintro L a wc ⟨hv, HO⟩ hL hc hd
      exact wpOp_off rfl (wanted_undef rfl rfl (hv.get 35 rfl rfl (hd 35 (by decide)))) ⟨hv.put ck_big_apart 46 rfl (lb rfl) (lb rfl) rfl, HO⟩
    ·
      rintro L a wc ⟨hv, HO⟩ hL hc hd
      exact wpOp_off rfl (wanted_undef rfl rfl (hv.get 35 rfl rfl (hd 35 (by decide)))) ⟨hv.put ck_big_apart 47 rfl (lb rfl) (lb rfl) rfl, HO⟩
    ·
      rintro L a wc ⟨hv, HO⟩ hL hc hd
      exact wpOp_off rfl ((wanted_at rfl rfl (hv.get 32 rfl rfl (hd 32 (by decide)))).trans rfl) ⟨hv.put ck_big_apart 48 rfl (lb rfl) (lb rfl) rfl, HO⟩
    ·
      rintro L a wc ⟨hv, HO⟩ hL hc hd
      exact wpOp_val rfl rfl (ex_pick rfl (hv.get 32 rfl rfl (hd 32 (by decide))) rfl) ⟨hv.put ck_big_apart 49 rfl (lb rfl) (lb rfl) rfl, HO⟩
  · rintro L a wc ⟨hv, HO⟩ hall
    show K a wc
    have ha := act_lit a
    rw [hv.size, hv.defers] at ha
    have hl : ∀ f : Nat → Value, ((List.range (⟨#[c0, .pointer (some ⟨B, 0, none⟩), c2, .int .i64 (k : Nat), c4, c5, c6, c7, c8, c9, c10, c11, c12, c13, c14, c15, c16, c17, c18, c19, c20, c21, c22, c23, c24, c25, c26, c27, c28, c29, c30, c31, c32, c33, c34, c35, c36, c37, c38, c39, c40, c41, c42, c43, c44, c45, c46, c47, c48, c49, c50, c51, c52, c53, c54, c55, c56, c57, c58, c59, c60, c61, c62, c63, c64, c65, c66, c67, c68, c69, c70, c71, c72, c73, c74, c75, c76, c77, c78, c79, c80, c81, c82, c83], df⟩ : Act).tmps.size).map f).toArray = #[f 0, f 1, f 2, f 3, f 4, f 5, f 6, f 7, f 8, f 9, f 10, f 11, f 12, f 13, f 14, f 15, f 16, f 17, f 18, f 19, f 20, f 21, f 22, f 23, f 24, f 25, f 26, f 27, f 28, f 29, f 30, f 31, f 32, f 33, f 34, f 35, f 36, f 37, f 38, f 39, f 40, f 41, f 42, f 43, f 44, f 45, f 46, f 47, f 48, f 49, f 50, f 51, f 52, f 53, f 54, f 55, f 56, f 57, f 58, f 59, f 60, f 61, f 62, f 63, f 64, f 65, f 66, f 67, f 68, f 69, f 70, f 71, f 72, f 73, f 74, f 75, f 76, f 77, f 78, f 79, f 80, f 81, f 82, f 83] := fun _ => rfl
    rw [hl] at ha
    simp only [hv.fixed 0 (by decide), hv.fixed 1 (by decide), hv.fixed 2 (by decide), hv.fixed 3 (by decide), hv.fixed 4 (by decide), hv.fixed 5 (by decide), hv.fixed 6 (by decide), hv.fixed 7 (by decide), hv.fixed 8 (by decide), hv.fixed 9 (by decide), hv.fixed 10 (by decide), hv.fixed 11 (by decide), hv.fixed 12 (by decide), hv.fixed 13 (by decide), hv.fixed 14 (by decide), hv.fixed 15 (by decide), hv.fixed 16 (by decide), hv.fixed 17 (by decide), hv.fixed 18 (by decide), hv.fixed 19 (by decide), hv.fixed 20 (by decide), hv.fixed 21 (by decide), hv.fixed 22 (by decide), hv.fixed 23 (by decide), hv.fixed 24 (by decide), hv.fixed 25 (by decide), hv.fixed 26 (by decide), hv.fixed 27 (by decide), hv.fixed 28 (by decide), hv.fixed 29 (by decide), hv.fixed 30 (by decide), hv.fixed 31 (by decide), hv.fixed 32 (by decide), hv.fixed 33 (by decide), hv.get 49 (d := 83) rfl rfl (hall 49 (by decide))] at ha
    rw [ha]
    exact hK _ _ _ _ _ _ _ _ _ _ _ _ _ _ _ _ _ _ _ _ _ _ _ _ _ _ _ _ _ _ _ _ _ _ _ _ _ _ _ _ _ _ _ _ _ _ _ _ _ wc HO.out
noncomputable def ck_eq_code : Code := ((Tryd.f26.body.bind (regionOf 6)).getD .skip)
def ck_eq_dsts : List (Option Nat) := [some 34, some 35, some 36, some 37, some 38, some 39, some 40, some 41, some 42, some 43, some 44, some 45, some 46, some 47, some 48, some 49, some 50, some 51, some 52, some 53, some 54, some 55, some 56, some 57, some 58, some 59, some 60, some 61, some 62, some 63, some 64, some 65, some 66, some 67, some 68, some 69, some 70, some 71, some 72, some 73, some 74, some 75, some 76, some 77, some 78, some 79, some 80, some 81, some 82, some 83]
theorem ck_eq_apart : apartD ck_eq_dsts = true := by decide +kernel
set_option maxRecDepth 1000000 in
set_option maxHeartbeats 16000000 in
theorem ck_eq (wr : World) (B k nf fc cc : Nat) (p x : Int) (fd cd : Addr) (HB : Hid (Cells wr B [.int .i64 p, .slice (some fd) nf fc, .slice (some cd) nf cc])) (hk : k < nf) (hx : wr.cell? (fd.add k) = some (.int .i64 x)) (H1 : Hid (¬ x < 0)) (H2 : Hid (¬ 24 ≤ x)) (H3 : Hid ((x == p) = true)) (c0 c2 c4 c5 c6 c7 c8 c9 c10 c11 c12 c13 c14 c15 c16 c17 c18 c19 c20 c21 c22 c23 c24 c25 c26 c27 c28 c29 c30 c31 c32 c33 c34 c35 c36 c37 c38 c39 c40 c41 c42 c43 c44 c45 c46 c47 c48 c49 c50 c51 c52 c53 c54 c55 c56 c57 c58 c59 c60 c61 c62 c63 c64 c65 c66 c67 c68 c69 c70 c71 c72 c73 c74 c75 c76 c77 c78 c79 c80 c81 c82 c83 : Value) (df : List Deferred) (K : Act → World → Prop)
    (hK : ∀  (u34 u35 u36 u37 u38 u39 u40 u41 u42 u43 u44 u45 u46 u47 u48 u49 u50 u51 u52 u53 u54 u55 u56 u57 u58 u59 u60 u61 u62 u63 u64 u65 u66 u67 u68 u69 u70 u71 u72 u73 u74 u75 u76 u77 u78 u79 u80 u81 u82 : Value) (wx : World), Ext wr wx → K ⟨#[c0, .pointer (some ⟨B, 0, none⟩), c2, .int .i64 (k : Nat), c4, c5, c6, c7, c8, c9, c10, c11, c12, c13, c14, c15, c16, c17, c18, c19, c20, c21, c22, c23, c24, c25, c26, c27, c28, c29, c30, c31, c32, c33, u34, u35, u36, u37, u38, u39, u40, u41, u42, u43, u44, u45, u46, u47, u48, u49, u50, u51, u52, u53, u54, u55, u56, u57, u58, u59, u60, u61, u62, u63, u64, u65, u66, u67, u68, u69, u70, u71, u72, u73, u74, u75, u76, u77, u78, u79, u80, u81, u82, .bool true], df⟩ wx) :
    Code.wp Tryd.prog ck_eq_code (AtEnd K) ⟨#[c0, .pointer (some ⟨B, 0, none⟩), c2, .int .i64 (k : Nat), c4, c5, c6, c7, c8, c9, c10, c11, c12, c13, c14, c15, c16, c17, c18, c19, c20, c21, c22, c23, c24, c25, c26, c27, c28, c29, c30, c31, c32, c33, c34, c35, c36, c37, c38, c39, c40, c41, c42, c43, c44, c45, c46, c47, c48, c49, c50, c51, c52, c53, c54, c55, c56, c57, c58, c59, c60, c61, c62, c63, c64, c65, c66, c67, c68, c69, c70, c71, c72, c73, c74, c75, c76, c77, c78, c79, c80, c81, c82, c83], df⟩ wr := by
  conv => arg 2; whnf
  refine region_inv (by kernel_rfl) [[], [0], [], [1, 2], [3], [4], [5], [6], [7, 6], [6], [8, 9, 6], [10, 6], [11, 6], [6, 12], [13, 6], [14], [15, 14], [14], [16, 17, 14], [18, 14], [14], [20, 14], [19, 21, 14], [14, 22], [23, 14], [24], [25, 24], [24], [26, 27, 24], [28, 24], [29, 24], [24, 30], [31, 24], [32], [33, 32], [34, 32, 32], [35], [36, 35], [35], [37, 38, 35], [39, 35], [35], [41, 35], [35], [43, 35], [42, 44, 35], [45, 35], [40, 46, 35], [35, 47, 32], [32, 48]] (by kernel_rfl) [0, 1, 2, 3, 4, 5, 6, 7, 8, 9, 10, 11, 12, 13, 14, 15, 16, 17, 18, 19, 20, 21, 22, 23, 24, 25, 26, 27, 28, 29, 30, 31, 32, 33, 34, 35, 36, 37, 38, 39, 40, 41, 42, 43, 44, 45, 46, 47, 48, 49] (by decide +kernel) (by decide +kernel) (by decide +kernel) (fun L a wc => Inv ck_eq_dsts [.pointer (some ⟨B, 1, none⟩), .slice (some fd) nf fc, .int .i64 (k : Nat), .pointer (some (fd.add k)), .int .i64 x, .bool false, .bool false, .pointer (some ⟨B, 1, none⟩), .slice (some fd) nf fc, .int .i64 (k : Nat), .pointer (some (fd.add k)), .int .i64 x, .bool false, .bool false, .bool false, .pointer (some ⟨B, 1, none⟩), .slice (some fd) nf fc, .int .i64 (k : Nat), .pointer (some (fd.add k)), .int .i64 x, .pointer (some ⟨B, 0, none⟩), .int .i64 p, .bool true, .bool true, .bool true, undef, undef, undef, undef, undef, undef, .bool true, .bool true, undef, undef, undef, undef, undef, undef, undef, undef, undef, undef, undef, undef, undef, undef, undef, undef, .bool true] ⟨#[c0, .pointer (some ⟨B, 0, none⟩), c2, .int .i64 (k : Nat), c4, c5, c6, c7, c8, c9, c10, c11, c12, c13, c14, c15, c16, c17, c18, c19, c20, c21, c22, c23, c24, c25, c26, c27, c28, c29, c30, c31, c32, c33, c34, c35, c36, c37, c38, c39, c40, c41, c42, c43, c44, c45, c46, c47, c48, c49, c50, c51, c52, c53, c54, c55, c56, c57, c58, c59, c60, c61, c62, c63, c64, c65, c66, c67, c68, c69, c70, c71, c72, c73, c74, c75, c76, c77, c78, c79, c80, c81, c82, c83], df⟩ L a ∧ Hid (Ext wr wc)) ⟨Inv.start, Lib.hid ((Ext.refl wr).drew)⟩ ?_ ?_
  · refine ⟨?_, ?_, ?_, ?_, ?_, ?_, ?_, ?_, ?_, ?_, ?_, ?_, ?_, ?_, ?_, ?_, ?_, ?_, ?_, ?_, ?_, ?_, ?_, ?_, ?_, ?_, ?_, ?_, ?_, ?_, ?_, ?_, ?_, ?_, ?_, ?_, ?_, ?_, ?_, ?_, ?_, ?_, ?_, ?_, ?_, ?_, ?_, ?_, ?_, ?_, trivial⟩
    ·
      rintro L a wc ⟨hv, HO⟩ hL hc hd
      exact wpOp_val rfl rfl (ex_field rfl ((hv.fixed 1 (by decide)).trans rfl) (by go_simp)) ⟨hv.put ck_eq_apart 0 rfl (lb rfl) (lb rfl) rfl, HO⟩
    ·
      rintro L a wc ⟨hv, HO⟩ hL hc hd
      have h0 : wc.cell? ⟨B, 1, none⟩ = some (.slice (some fd) nf fc) := HO.out.cell (HB.out 1 _ rfl)
      exact wpOp_val rfl rfl (ex_load rfl (hv.get 0 rfl rfl (hd 0 (by decide))) (by go_simp)) ⟨hv.put ck_eq_apart 1 rfl (lb rfl) (lb rfl) rfl, HO⟩
    ·
      rintro L a wc ⟨hv, HO⟩ hL hc hd
      exact wpOp_val rfl rfl (ex_move rfl ((hv.fixed 3 (by decide)).trans rfl)) ⟨hv.put ck_eq_apart 2 rfl (lb rfl) (lb rfl) rfl, HO⟩
    ·
      rintro L a wc ⟨hv, HO⟩ hL hc hd
      have u1 : (0 : Int) ≤ (k : Int) := by omega
      have u2 : (k : Int) < (nf : Int) := by omega
      exact wpOp_val rfl rfl (ex_index rfl (hv.get 1 rfl rfl (hd 1 (by decide))) (hv.get 2 rfl rfl (hd 2 (by decide))) (by go_simp)) ⟨hv.put ck_eq_apart 3 rfl (lb rfl) (lb rfl) rfl, HO⟩
    ·
      rintro L a wc ⟨hv, HO⟩ hL hc hd
      have h0 : wc.cell? (fd.add k) = some (.int .i64 x) := HO.out.cell hx
      exact wpOp_val rfl rfl (ex_load rfl (hv.get 3 rfl rfl (hd 3 (by decide))) (by go_simp)) ⟨hv.put ck_eq_apart 4 rfl (lb rfl) (lb rfl) rfl, HO⟩
    ·
      rintro L a wc ⟨hv, HO⟩ hL hc hd
      have u := H1.out
      exact wpOp_val rfl rfl (ex_bin rfl (hv.get 4 rfl rfl (hd 4 (by decide))) rfl (by go_simp)) ⟨hv.put ck_eq_apart 5 rfl (lb rfl) (lb rfl) rfl, HO⟩
    ·
      rintro L a wc ⟨hv, HO⟩ hL hc hd
      exact wpOp_val rfl rfl (ex_move rfl (hv.get 5 rfl rfl (hd 5 (by decide)))) ⟨hv.put ck_eq_apart 6 rfl (lb rfl) (lb rfl) rfl, HO⟩
    ·
      rintro L a wc ⟨hv, HO⟩ hL hc hd
      exact wpOp_val rfl ((wanted_at rfl rfl (hv.get 6 rfl rfl (hd 6 (by decide)))).trans rfl) (ex_field rfl ((hv.fixed 1 (by decide)).trans rfl) (by go_simp)) ⟨hv.put ck_eq_apart 7 rfl (lb rfl) (lb rfl) rfl, HO⟩
    ·
      rintro L a wc ⟨hv, HO⟩ hL hc hd
      have h0 : wc.cell? ⟨B, 1, none⟩ = some (.slice (some fd) nf fc) := HO.out.cell (HB.out 1 _ rfl)
      exact wpOp_val rfl ((wanted_at rfl rfl (hv.get 6 rfl rfl (hd 6 (by decide)))).trans rfl) (ex_load rfl (hv.get 7 rfl rfl (hd 7 (by decide))) (by go_simp)) ⟨hv.put ck_eq_apart 8 rfl (lb rfl) (lb rfl) rfl, HO⟩
    ·
      rintro L a wc ⟨hv, HO⟩ hL hc hd
      exact wpOp_val rfl ((wanted_at rfl rfl (hv.get 6 rfl rfl (hd 6 (by decide)))).trans rfl) (ex_move rfl ((hv.fixed 3 (by decide)).trans rfl)) ⟨hv.put ck_eq_apart 9 rfl (lb rfl) (lb rfl) rfl, HO⟩
    ·
      rintro L a wc ⟨hv, HO⟩ hL hc hd
      have u1 : (0 : Int) ≤ (k : Int) := by omega
      have u2 : (k : Int) < (nf : Int) := by omega
      exact wpOp_val rfl ((wanted_at rfl rfl (hv.get 6 rfl rfl (hd 6 (by decide)))).trans rfl) (ex_index rfl (hv.get 8 rfl rfl (hd 8 (by decide))) (hv.get 9 rfl rfl (hd 9 (by decide))) (by go_simp)) ⟨hv.put ck_eq_apart 10 rfl (lb rfl) (lb rfl) rfl, HO⟩
    ·
      rintro L a wc ⟨hv, HO⟩ hL hc hd
      have h0 : wc.cell? (fd.add k) = some (.int .i64 x) := HO.out.cell hx
      exact wpOp_val rfl ((wanted_at rfl rfl (hv.get 6 rfl rfl (hd 6 (by decide)))).trans rfl) (ex_load rfl (hv.get 10 rfl rfl (hd 10 (by decide))) (by go_simp)) ⟨hv.put ck_eq_apart 11 rfl (lb rfl) (lb rfl) rfl, HO⟩
    ·
      rintro L a wc ⟨hv, HO⟩ hL hc hd
      have u := H2.out
      exact wpOp_val rfl ((wanted_at rfl rfl (hv.get 6 rfl rfl (hd 6 (by decide)))).trans rfl) (ex_bin rfl (hv.get 11 rfl rfl (hd 11 (by decide))) rfl (by go_simp)) ⟨hv.put ck_eq_apart 12 rfl (lb rfl) (lb rfl) rfl, HO⟩
    ·
      rintro L a wc ⟨hv, HO⟩ hL hc hd
      exact wpOp_val rfl rfl (ex_pick rfl (hv.get 6 rfl rfl (hd 6 (by decide))) (hv.get 12 rfl rfl (hd 12 (by decide)))) ⟨hv.put ck_eq_apart 13 rfl (lb rfl) (lb rfl) rfl, HO⟩
    ·
      rintro L a wc ⟨hv, HO⟩ hL hc hd
      exact wpOp_val rfl rfl (ex_move rfl (hv.get 13 rfl rfl (hd 13 (by decide)))) ⟨hv.put ck_eq_apart 14 rfl (lb rfl) (lb rfl) rfl, HO⟩
    ·
      rintro L a wc ⟨hv, HO⟩ hL hc hd
      exact wpOp_val rfl ((wanted_at rfl rfl (hv.get 14 rfl rfl (hd 14 (by decide)))).trans rfl) (ex_field rfl ((hv.fixed 1 (by decide)).trans rfl) (by go_simp)) ⟨hv.put ck_eq_apart 15 rfl (lb rfl) (lb rfl) rfl, HO⟩
    ·
      rintro L a wc ⟨hv, HO⟩ hL hc hd
      have h0 : wc.cell? ⟨B, 1, none⟩ = some (.slice (some fd) nf fc) := HO.out.cell (HB.out 1 _ rfl)
      exact wpOp_val rfl ((wanted_at rfl rfl (hv.get 14 rfl rfl (hd 14 (by decide)))).trans rfl) (ex_load rfl (hv.get 15 rfl rfl (hd 15 (by decide))) (by go_simp)) ⟨hv.put ck_eq_apart 16 rfl (lb rfl) (lb rfl) rfl, HO⟩
    ·
      rintro L a wc ⟨hv, HO⟩ hL hc hd
      exact wpOp_val rfl ((wanted_at rfl rfl (hv.get 14 rfl rfl (hd 14 (by decide)))).trans rfl) (ex_move rfl ((hv.fixed 3 (by decide)).trans rfl)) ⟨hv.put ck_eq_apart 17 rfl (lb rfl) (lb rfl) rfl, HO⟩
    ·
      rintro L a wc ⟨hv, HO⟩ hL hc hd
      have u1 : (0 : Int) ≤ (k : Int) := by omega
      have u2 : (k : Int) < (nf : Int) := by omega
      exact wpOp_val rfl ((wanted_at rfl rfl (hv.get 14 rfl rfl (hd 14 (by decide)))).trans rfl) (ex_index rfl (hv.get 16 rfl rfl (hd 16 (by decide))) (hv.get 17 rfl rfl (hd 17 (by decide))) (by go_simp)) ⟨hv.put ck_eq_apart 18 rfl (lb rfl) (lb rfl) rfl, HO⟩
    ·
      rintro L a wc ⟨hv, HO⟩ hL hc hd
      have h0 : wc.cell? (fd.add k) = some (.int .i64 x) := HO.out.cell hx
      exact wpOp_val rfl ((wanted_at rfl rfl (hv.get 14 rfl rfl (hd 14 (by decide)))).trans rfl) (ex_load rfl (hv.get 18 rfl rfl (hd 18 (by decide))) (by go_simp)) ⟨hv.put ck_eq_apart 19 rfl (lb rfl) (lb rfl) rfl, HO⟩
    ·
      rintro L a wc ⟨hv, HO⟩ hL hc hd
      exact wpOp_val rfl ((wanted_at rfl rfl (hv.get 14 rfl rfl (hd 14 (by decide)))).trans rfl) (ex_field rfl ((hv.fixed 1 (by decide)).trans rfl) (by go_simp)) ⟨hv.put ck_eq_apart 20 rfl (lb rfl) (lb rfl) rfl, HO⟩
    ·
      rintro L a wc ⟨hv, HO⟩ hL hc hd
      have h0 : wc.cell? ⟨B, 0, none⟩ = some (.int .i64 p) := HO.out.cell (HB.out 0 _ rfl)
      exact wpOp_val rfl ((wanted_at rfl rfl (hv.get 14 rfl rfl (hd 14 (by decide)))).trans rfl) (ex_load rfl (hv.get 20 rfl rfl (hd 20 (by decide))) (by go_simp)) ⟨hv.put ck_eq_apart 21 rfl (lb rfl) (lb rfl) rfl, HO⟩
    ·
      rintro L a wc ⟨hv, HO⟩ hL hc hd
      have u := H3.out
      exact wpOp_val rfl ((wanted_at rfl rfl (hv.get 14 rfl rfl (hd 14 (by decide)))).trans rfl) (ex_bin rfl (hv.get 19 rfl rfl (hd 19 (by decide))) (hv.get 21 rfl rfl (hd 21 (by decide))) (by go_simp)) ⟨hv.put ck_eq_apart 22 rfl (lb rfl) (lb rfl) rfl, HO⟩
    ·
      rintro L a wc ⟨hv, HO⟩ hL hc hd
      exact wpOp_val rfl rfl (ex_pick rfl (hv.get 14 rfl rfl (hd 14 (by decide))) (hv.get 22 rfl rfl (hd 22 (by decide)))) ⟨hv.put ck_eq_apart 23 rfl (lb rfl) (lb rfl) rfl, HO⟩
    ·
      rintro L a wc ⟨hv, HO⟩ hL hc hd
      exact wpOp_val rfl rfl (ex_move rfl (hv.get 23 rfl rfl (hd 23 (by decide)))) ⟨hv.put ck_eq_apart 24 rfl (lb rfl) (lb rfl) rfl, HO⟩
    ·
      rintro L a wc ⟨hv, HO⟩ hL hc hd
      exact wpOp_off rfl ((wanted_at rfl rfl (hv.get 24 rfl rfl (hd 24 (by decide)))).trans rfl) ⟨hv.put ck_eq_apart 25 rfl (lb rfl) (lb rfl) rfl, HO⟩
    ·
      rintro L a wc ⟨hv, HO⟩ hL hc hd
      exact wpOp_off rfl ((wanted_at rfl rfl (hv.get 24 rfl rfl (hd 24 (by decide)))).trans rfl) ⟨hv.put ck_eq_apart 26 rfl (lb rfl) (lb rfl) rfl, HO⟩
    ·
      rintro L a wc ⟨hv, HO⟩ hL hc hd
      exact wpOp_off rfl ((wanted_at rfl rfl (hv.get 24 rfl rfl (hd 24 (by decide)))).trans rfl) ⟨hv.put ck_eq_apart 27 rfl (lb rfl) (lb rfl) rfl, HO⟩
    ·
      rintro L a wc ⟨hv, HO⟩ hL hc hd
      exact wpOp_off rfl ((wanted_at rfl rfl (hv.get 24 rfl rfl (hd 24 (by decide)))).trans rfl) ⟨hv.put ck_eq_apart 28 rfl (lb rfl) (lb rfl) rfl, HO⟩
    ·
      rintro L a wc ⟨hv, HO⟩ hL hc hd
      exact wpOp_off rfl ((wanted_at rfl rfl (hv.get 24 rfl rfl (hd 24 (by decide)))).trans rfl) ⟨hv.put ck_eq_apart 29 rfl (lb rfl) (lb rfl) rfl, HO⟩
    ·
      rintro L a wc ⟨hv, HO⟩ hL hc hd
      exact wpOp_off rfl ((wanted_at rfl rfl (hv.get 24 rfl rfl (hd 24 (by decide)))).trans rfl) ⟨hv.put ck_eq_apart 30 rfl (lb rfl) (lb rfl) rfl, HO⟩
    ·
      rintro L a wc ⟨hv, HO⟩ hL hc hd
      exact wpOp_val rfl rfl (ex_pick rfl (hv.get 24 rfl rfl (hd 24 (by decide))) rfl) ⟨hv.put ck_eq_apart 31 rfl (lb rfl) (lb rfl) rfl, HO⟩
    ·
      rintro L a wc ⟨hv, HO⟩ hL hc hd
      exact wpOp_val rfl rfl (ex_move rfl (hv.get 31 rfl rfl (hd 31 (by decide)))) ⟨hv.put ck_eq_apart 32 rfl (lb rfl) (lb rfl) rfl, HO⟩
    ·
      rintro L a wc ⟨hv, HO⟩ hL hc hd
      exact wpOp_off rfl ((wanted_at rfl rfl (hv.get 32 rfl rfl (hd 32 (by decide)))).trans rfl) ⟨hv.put ck_eq_apart 33 rfl (lb rfl) (lb rfl) rfl, HO⟩
    ·
      rintro L a wc ⟨hv, HO⟩ hL hc hd
      exact wpOp_off rfl ((wanted_at rfl rfl (hv.get 32 rfl rfl (hd 32 (by decide)))).trans rfl) ⟨hv.put ck_eq_apart 34 rfl (lb rfl) (lb rfl) rfl, HO⟩
    ·
      rintro L a wc ⟨hv, HO⟩ hL hc hd
      exact wpOp_off rfl ((wanted_at rfl rfl (hv.get 32 rfl rfl (hd 32 (by decide)))).trans rfl) ⟨hv.put ck_eq_apart 35 rfl (lb rfl) (lb rfl) rfl, HO⟩
    ·
      rintro L a wc ⟨hv, HO⟩ hL hc hd
      exact wpOp_off rfl (wanted_undef rfl rfl (hv.get 35 rfl rfl (hd 35 (by decide)))) ⟨hv.put ck_eq_apart 36 rfl (lb rfl) (lb rfl) rfl, HO⟩
    ·
      rintro L a wc ⟨hv, HO⟩ hL hc hd
      exact wpOp_off rfl (wanted_undef rfl rfl (hv.get 35 rfl rfl (hd 35 (by decide)))) ⟨hv.put ck_eq_apart 37 rfl (lb rfl) (lb rfl) rfl, HO⟩
    ·
      rintro L a wc ⟨hv, HO⟩ hL hc hd
      exact wpOp_off rfl (wanted_undef rfl rfl (hv.get 35 rfl rfl (hd 35 (by decide)))) ⟨hv.put ck_eq_apart 38 rfl (lb rfl) (lb rfl) rfl, HO⟩
    ·
      rintro L a wc ⟨hv, HO⟩ hL hc hd
      exact wpOp_off rfl (wanted_undef rfl rfl (hv.get 35 rfl rfl (hd 35 (by decide)))) ⟨hv.put ck_eq_apart 39 rfl (lb rfl) (lb rfl) rfl, HO⟩
    ·
      rintro L a wc ⟨hv, HO⟩ hL hc hd
      exact wpOp_off rfl (wanted_undef rfl rfl (hv.get 35 rfl rfl (hd 35 (by decide)))) ⟨hv.put ck_eq_apart 40 rfl (lb rfl) (lb rfl) rfl, HO⟩
    ·
      rintro L a wc ⟨hv, HO⟩ hL hc hd
      exact wpOp_off rfl (wanted_undef rfl rfl (hv.get 35 rfl rfl (hd 35 (by decide)))) ⟨hv.put ck_eq_apart 41 rfl (lb rfl) (lb rfl) rfl, HO⟩
    ·
      rintro L a wc ⟨hv, HO⟩ hL hc hd
      exact wpOp_off rfl (wanted_undef rfl rfl (hv.get 35 rfl rfl (hd 35 (by decide)))) ⟨hv.put ck_eq_apart 42 rfl (lb rfl) (lb rfl) rfl, HO⟩
    ·
      rintro L a wc ⟨hv, HO⟩ hL hc hd
      exact wpOp_off rfl (wanted_undef rfl rfl (hv.get 35 rfl rfl (hd 35 (by decide)))) ⟨hv.put ck_eq_apart 43 rfl (lb rfl) (lb rfl) rfl, HO⟩
    ·
      rintro L a wc ⟨hv, HO⟩ hL hc hd
      exact wpOp_off rfl (wanted_undef rfl rfl (hv.get 35 rfl rfl (hd 35 (by decide)))) ⟨hv.put ck_eq_apart 44 rfl (lb rfl) (lb rfl) rfl, HO⟩
    ·
      rintro L a wc ⟨hv, HO⟩ hL hc hd
      exact wpOp_off rfl (wanted_undef rfl rfl (hv.get 35 rfl rfl (hd 35 (by decide)))) ⟨hv.put ck_eq_apart 45 rfl (lb rfl) (lb rfl) rfl, HO⟩
    ·
      rintro L a wc ⟨hv, HO⟩ hL hc hd
      exact wpOp_off rfl (wanted_undef rfl rfl (hv.get 35 rfl rfl (hd 35 (by decide)))) ⟨hv.put ck_eq_apart 46 rfl (lb rfl) (lb rfl) rfl, HO⟩
    ·
      rintro L a wc ⟨hv, HO⟩ hL hc hd
      exact wpOp_off rfl (wanted_undef rfl rfl (hv.get 35 rfl rfl (hd 35 (by decide)))) ⟨hv.put ck_eq_apart 47 rfl (lb rfl) (lb rfl) rfl, HO⟩
    ·
      rintro L a wc ⟨hv, HO⟩ hL hc hd
      exact wpOp_off rfl ((wanted_at rfl rfl (hv.get 32 rfl rfl (hd 32 (by decide)))).trans rfl) ⟨hv.put ck_eq_apart 48 rfl (lb rfl) (lb rfl) rfl, HO⟩
    ·
      rintro L a wc ⟨hv, HO⟩ hL hc hd
      exact wpOp_val rfl rfl (ex_pick rfl (hv.get 32 rfl rfl (hd 32 (by decide))) rfl) ⟨hv.put ck_eq_apart 49 rfl (lb rfl) (lb rfl) rfl, HO⟩
  · rintro L a wc ⟨hv, HO⟩ hall
    show K a wc
    have ha := act_lit a
    rw [hv.size, hv.defers] at ha
    have hl : ∀ f : Nat → Value, ((List.range (⟨#[c0, .pointer (some ⟨B, 0, none⟩), c2, .int .i64 (k : Nat), c4, c5, c6, c7, c8, c9, c10, c11, c12, c13, c14, c15, c16, c17, c18, c19, c20, c21, c22, c23, c24, c25, c26, c27, c28, c29, c30, c31, c32, c33, c34, c35, c36, c37, c38, c39, c40, c41, c42, c43, c44, c45, c46, c47, c48, c49, c50, c51, c52, c53, c54, c55, c56, c57, c58, c59, c60, c61, c62, c63, c64, c65, c66, c67, c68, c69, c70, c71, c72, c73, c74, c75, c76, c77, c78, c79, c80, c81, c82, c83], df⟩ : Act).tmps.size).map f).toArray = #[f 0, f 1, f 2, f 3, f 4, f 5, f 6, f 7, f 8, f 9, f 10, f 11, f 12, f 13, f 14, f 15, f 16, f 17, f 18, f 19, f 20, f 21, f 22, f 23, f 24, f 25, f 26, f 27, f 28, f 29, f 30, f 31, f 32, f 33, f 34, f 35, f 36, f 37, f 38, f 39, f 40, f 41, f 42, f 43, f 44, f 45, f 46, f 47, f 48, f 49, f 50, f 51, f 52, f 53, f 54, f 55, f 56, f 57, f 58, f 59, f 60, f 61, f 62, f 63, f 64, f 65, f 66, f 67, f 68, f 69, f 70, f 71, f 72, f 73, f 74, f 75, f 76, f 77, f 78, f 79, f 80, f 81, f 82, f 83] := fun _ => rfl
    rw [hl] at ha
    simp only [hv.fixed 0 (by decide), hv.fixed 1 (by decide), hv.fixed 2 (by decide), hv.fixed 3 (by decide), hv.fixed 4 (by decide), hv.fixed 5 (by decide), hv.fixed 6 (by decide), hv.fixed 7 (by decide), hv.fixed 8 (by decide), hv.fixed 9 (by decide), hv.fixed 10 (by decide), hv.fixed 11 (by decide), hv.fixed 12 (by decide), hv.fixed 13 (by decide), hv.fixed 14 (by decide), hv.fixed 15 (by decide), hv.fixed 16 (by decide), hv.fixed 17 (by decide), hv.fixed 18 (by decide), hv.fixed 19 (by decide), hv.fixed 20 (by decide), hv.fixed 21 (by decide), hv.fixed 22 (by decide), hv.fixed 23 (by decide), hv.fixed 24 (by decide), hv.fixed 25 (by decide), hv.fixed 26 (by decide), hv.fixed 27 (by decide), hv.fixed 28 (by decide), hv.fixed 29 (by decide), hv.fixed 30 (by decide), hv.fixed 31 (by decide), hv.fixed 32 (by decide), hv.fixed 33 (by decide), hv.get 49 (d := 83) rfl rfl (hall 49 (by decide))] at ha
    rw [ha]
    exact hK _ _ _ _ _ _ _ _ _ _ _ _ _ _ _ _ _ _ _ _ _ _ _ _ _ _ _ _ _ _ _ _ _ _ _ _ _ _ _ _ _ _ _ _ _ _ _ _ _ wc HO.out
noncomputable def ck_zero_code : Code := ((Tryd.f26.body.bind (regionOf 6)).getD .skip)
def ck_zero_dsts : List (Option Nat) := [some 34, some 35, some 36, some 37, some 38, some 39, some 40, some 41, some 42, some 43, some 44, some 45, some 46, some 47, some 48, some 49, some 50, some 51, some 52, some 53, some 54, some 55, some 56, some 57, some 58, some 59, some 60, some 61, some 62, some 63, some 64, some 65, some 66, some 67, some 68, some 69, some 70, some 71, some 72, some 73, some 74, some 75, some 76, some 77, some 78, some 79, some 80, some 81, some 82, some 83]
theorem ck_zero_apart : apartD ck_zero_dsts = true := by decide +kernel
set_option maxRecDepth 1000000 in
set_option maxHeartbeats 16000000 in
theorem ck_zero (wr : World) (B k nf fc cc : Nat) (p x : Int) (fd cd : Addr) (HB : Hid (Cells wr B [.int .i64 p, .slice (some fd) nf fc, .slice (some cd) nf cc])) (hk : k < nf) (hx : wr.cell? (fd.add k) = some (.int .i64 x)) (H1 : Hid (¬ x < 0)) (H2 : Hid (¬ 24 ≤ x)) (H3 : Hid ((x == p) = false)) (q : UInt8) (hq : wr.cell? (cd.add k) = some (bv q)) (H4 : Hid (((q.toNat : Int) == 0) = true)) (c0 c2 c4 c5 c6 c7 c8 c9 c10 c11 c12 c13 c14 c15 c16 c17 c18 c19 c20 c21 c22 c23 c24 c25 c26 c27 c28 c29 c30 c31 c32 c33 c34 c35 c36 c37 c38 c39 c40 c41 c42 c43 c44 c45 c46 c47 c48 c49 c50 c51 c52 c53 c54 c55 c56 c57 c58 c59 c60 c61 c62 c63 c64 c65 c66 c67 c68 c69 c70 c71 c72 c73 c74 c75 c76 c77 c78 c79 c80 c81 c82 c83 : Value) (df : List Deferred) (K : Act → World → Prop)
    (hK : ∀  (u34 u35 u36 u37 u38 u39 u40 u41 u42 u43 u44 u45 u46 u47 u48 u49 u50 u51 u52 u53 u54 u55 u56 u57 u58 u59 u60 u61 u62 u63 u64 u65 u66 u67 u68 u69 u70 u71 u72 u73 u74 u75 u76 u77 u78 u79 u80 u81 u82 : Value) (wx : World), Ext wr wx → K ⟨#[c0, .pointer (some ⟨B, 0, none⟩), c2, .int .i64 (k : Nat), c4, c5, c6, c7, c8, c9, c10, c11, c12, c13, c14, c15, c16, c17, c18, c19, c20, c21, c22, c23, c24, c25, c26, c27, c28, c29, c30, c31, c32, c33, u34, u35, u36, u37, u38, u39, u40, u41, u42, u43, u44, u45, u46, u47, u48, u49, u50, u51, u52, u53, u54, u55, u56, u57, u58, u59, u60, u61, u62, u63, u64, u65, u66, u67, u68, u69, u70, u71, u72, u73, u74, u75, u76, u77, u78, u79, u80, u81, u82, .bool true], df⟩ wx) :
    Code.wp Tryd.prog ck_zero_code (AtEnd K) ⟨#[c0, .pointer (some ⟨B, 0, none⟩), c2, .int .i64 (k : Nat), c4, c5, c6, c7, c8, c9, c10, c11, c12, c13, c14, c15, c16, c17, c18, c19, c20, c21, c22, c23, c24, c25, c26, c27, c28, c29, c30, c31, c32, c33, c34, c35, c36, c37, c38, c39, c40, c41, c42, c43, c44, c45, c46, c47, c48, c49, c50, c51, c52, c53, c54, c55, c56, c57, c58, c59, c60, c61, c62, c63, c64, c65, c66, c67, c68, c69, c70, c71, c72, c73, c74, c75, c76, c77, c78, c79, c80, c81, c82, c83], df⟩ wr := by
  conv => arg 2; whnf
  refine region_inv (by kernel_rfl) [[], [0], [], [1, 2], [3], [4], [5], [6], [7, 6], [6], [8, 9, 6], [10, 6], [11, 6], [6, 12], [13, 6], [14], [15, 14], [14], [16, 17, 14], [18, 14], [14], [20, 14], [19, 21, 14], [14, 22], [23, 14], [24], [25, 24], [24], [26, 27, 24], [28, 24], [29, 24], [24, 30], [31, 24], [32], [33, 32], [34, 32, 32], [35], [36, 35], [35], [37, 38, 35], [39, 35], [35], [41, 35], [35], [43, 35], [42, 44, 35], [45, 35], [40, 46, 35], [35, 47, 32], [32, 48]] (by kernel_rfl) [0, 1, 2, 3, 4, 5, 6, 7, 8, 9, 10, 11, 12, 13, 14, 15, 16, 17, 18, 19, 20, 21, 22, 23, 24, 25, 26, 27, 28, 29, 30, 31, 32, 33, 34, 35, 36, 37, 38, 39, 40, 41, 42, 43, 44, 45, 46, 47, 48, 49] (by decide +kernel) (by decide +kernel) (by decide +kernel) (fun L a wc => Inv ck_zero_dsts [.pointer (some ⟨B, 1, none⟩), .slice (some fd) nf fc, .int .i64 (k : Nat), .pointer (some (fd.add k)), .int .i64 x, .bool false, .bool false, .pointer (some ⟨B, 1, none⟩), .slice (some fd) nf fc, .int .i64 (k : Nat), .pointer (some (fd.add k)), .int .i64 x, .bool false, .bool false, .bool false, .pointer (some ⟨B, 1, none⟩), .slice (some fd) nf fc, .int .i64 (k : Nat), .pointer (some (fd.add k)), .int .i64 x, .pointer (some ⟨B, 0, none⟩), .int .i64 p, .bool false, .bool false, .bool false, .pointer (some ⟨B, 2, none⟩), .slice (some cd) nf cc, .int .i64 (k : Nat), .pointer (some (cd.add k)), bv q, .bool true, .bool true, .bool true, undef, undef, undef, undef, undef, undef, undef, undef, undef, undef, undef, undef, undef, undef, undef, undef, .bool true] ⟨#[c0, .pointer (some ⟨B, 0, none⟩), c2, .int .i64 (k : Nat), c4, c5, c6, c7, c8, c9, c10, c11, c12, c13, c14, c15, c16, c17, c18, c19, c20, c21, c22, c23, c24, c25, c26, c27, c28, c29, c30, c31, c32, c33, c34, c35, c36, c37, c38, c39, c40, c41, c42, c43, c44, c45, c46, c47, c48, c49, c50, c51, c52, c53, c54, c55, c56, c57, c58, c59, c60, c61, c62, c63, c64, c65, c66, c67, c68, c69, c70, c71, c72, c73, c74, c75, c76, c77, c78, c79, c80, c81, c82, c83], df⟩ L a ∧ Hid (Ext wr wc)) ⟨Inv.start, Lib.hid ((Ext.refl wr).drew)⟩ ?_ ?_
  · refine ⟨?_, ?_, ?_, ?_, ?_, ?_, ?_, ?_, ?_, ?_, ?_, ?_, ?_, ?_, ?_, ?_, ?_, ?_, ?_, ?_, ?_, ?_, ?_, ?_, ?_, ?_, ?_, ?_, ?_, ?_, ?_, ?_, ?_, ?_, ?_, ?_, ?_, ?_, ?_, ?_, ?_, ?_, ?_, ?_, ?_, ?_, ?_, ?_, ?_, ?_, trivial⟩
    ·
      rintro L a wc ⟨hv, HO⟩ hL hc hd
      exact wpOp_val rfl rfl (ex_field rfl ((hv.fixed 1 (by decide)).trans rfl) (by go_simp)) ⟨hv.put ck_zero_apart 0 rfl (lb rfl) (lb rfl) rfl, HO⟩
    ·
      rintro L a wc ⟨hv, HO⟩ hL hc hd
      have h0 : wc.cell? ⟨B, 1, none⟩ = some (.slice (some fd) nf fc) := HO.out.cell (HB.out 1 _ rfl)
      exact wpOp_val rfl rfl (ex_load rfl (hv.get 0 rfl rfl (hd 0 (by decide))) (by go_simp)) ⟨hv.put ck_zero_apart 1 rfl (lb rfl) (lb rfl) rfl, HO⟩
    ·
      rintro L a wc ⟨hv, HO⟩ hL hc hd
      exact wpOp_val rfl rfl (ex_move rfl ((hv.fixed 3 (by decide)).trans rfl)) ⟨hv.put ck_zero_apart 2 rfl (lb rfl) (lb rfl) rfl, HO⟩
    ·
      rintro L a wc ⟨hv, HO⟩ hL hc hd
      have u1 : (0 : Int) ≤ (k : Int) := by omega
      have u2 : (k : Int) < (nf : Int) := by omega
      exact wpOp_val rfl rfl (ex_index rfl (hv.get 1 rfl rfl (hd 1 (by decide))) (hv.get 2 rfl rfl (hd 2 (by decide))) (by go_simp)) ⟨hv.put ck_zero_apart 3 rfl (lb rfl) (lb rfl) rfl, HO⟩
    ·
      rintro L a wc ⟨hv, HO⟩ hL hc hd
      have h0 : wc.cell? (fd.add k) = some (.int .i64 x) := HO.out.cell hx
      exact wpOp_val rfl rfl (ex_load rfl (hv.get 3 rfl rfl (hd 3 (by decide))) (by go_simp)) ⟨hv.put ck_zero_apart 4 rfl (lb rfl) (lb rfl) rfl, HO⟩
    ·
      rintro L a wc ⟨hv, HO⟩ hL hc hd
      have u := H1.out
      exact wpOp_val rfl rfl (ex_bin rfl (hv.get 4 rfl rfl (hd 4 (by decide))) rfl (by go_simp)) ⟨hv.put ck_zero_apart 5 rfl (lb rfl) (lb rfl) rfl, HO⟩
    ·
      rintro L a wc ⟨hv, HO⟩ hL hc hd
      exact wpOp_val rfl rfl (ex_move rfl (hv.get 5 rfl rfl (hd 5 (by decide)))) ⟨hv.put ck_zero_apart 6 rfl (lb rfl) (lb rfl) rfl, HO⟩
    ·
      rintro L a wc ⟨hv, HO⟩ hL hc hd
      exact wpOp_val rfl ((wanted_at rfl rfl (hv.get 6 rfl rfl (hd 6 (by decide)))).trans rfl) (ex_field rfl ((hv.fixed 1 (by decide)).trans rfl) (by go_simp)) ⟨hv.put ck_zero_apart 7 rfl (lb rfl) (lb rfl) rfl, HO⟩
    ·
      rintro L a wc ⟨hv, HO⟩ hL hc hd
      have h0 : wc.cell? ⟨B, 1, none⟩ = some (.slice (some fd) nf fc) := HO.out.cell (HB.out 1 _ rfl)
      exact wpOp_val rfl ((wanted_at rfl rfl (hv.get 6 rfl rfl (hd 6 (by decide)))).trans rfl) (ex_load rfl (hv.get 7 rfl rfl (hd 7 (by decide))) (by go_simp)) ⟨hv.put ck_zero_apart 8 rfl (lb rfl) (lb rfl) rfl, HO⟩
    ·
      rintro L a wc ⟨hv, HO⟩ hL hc hd
      exact wpOp_val rfl ((wanted_at rfl rfl (hv.get 6 rfl rfl (hd 6 (by decide)))).trans rfl) (ex_move rfl ((hv.fixed 3 (by decide)).trans rfl)) ⟨hv.put ck_zero_apart 9 rfl (lb rfl) (lb rfl) rfl, HO⟩
    ·
      rintro L a wc ⟨hv, HO⟩ hL hc hd
      have u1 : (0 : Int) ≤ (k : Int) := by omega
      have u2 : (k : Int) < (nf : Int) := by omega
      exact wpOp_val rfl ((wanted_at rfl rfl (hv.get 6 rfl rfl (hd 6 (by decide)))).trans rfl) (ex_index rfl (hv.get 8 rfl rfl (hd 8 (by decide))) (hv.get 9 rfl rfl (hd 9 (by decide))) (by go_simp)) ⟨hv.put ck_zero_apart 10 rfl (lb rfl) (lb rfl) rfl, HO⟩
    ·
      rintro L a wc ⟨hv, HO⟩ hL hc hd
      have h0 : wc.cell? (fd.add k) = some (.int .i64 x) := HO.out.cell hx
      exact wpOp_val rfl ((wanted_at rfl rfl (hv.get 6 rfl rfl (hd 6 (by decide)))).trans rfl) (ex_load rfl (hv.get 10 rfl rfl (hd 10 (by decide))) (by go_simp)) ⟨hv.put ck_zero_apart 11 rfl (lb rfl) (lb rfl) rfl, HO⟩
    ·
      rintro L a wc ⟨hv, HO⟩ hL hc hd
      have u := H2.out
      exact wpOp_val rfl ((wanted_at rfl rfl (hv.get 6 rfl rfl (hd 6 (by decide)))).trans rfl) (ex_bin rfl (hv.get 11 rfl rfl (hd 11 (by decide))) rfl (by go_simp)) ⟨hv.put ck_zero_apart 12 rfl (lb rfl) (lb rfl) rfl, HO⟩
    ·
      rintro L a wc ⟨hv, HO⟩ hL hc hd
      exact wpOp_val rfl rfl (ex_pick rfl (hv.get 6 rfl rfl (hd 6 (by decide))) (hv.get 12 rfl rfl (hd 12 (by decide)))) ⟨hv.put ck_zero_apart 13 rfl (lb rfl) (lb rfl) rfl, HO⟩
    ·
      rintro L a wc ⟨hv, HO⟩ hL hc hd
      exact wpOp_val rfl rfl (ex_move rfl (hv.get 13 rfl rfl (hd 13 (by decide)))) ⟨hv.put ck_zero_apart 14 rfl (lb rfl) (lb rfl) rfl, HO⟩
    ·
      rintro L a wc ⟨hv, HO⟩ hL hc hd
      exact wpOp_val rfl ((wanted_at rfl rfl (hv.get 14 rfl rfl (hd 14 (by decide)))).trans rfl) (ex_field rfl ((hv.fixed 1 (by decide)).trans rfl) (by go_simp)) ⟨hv.put ck_zero_apart 15 rfl (lb rfl) (lb rfl) rfl, HO⟩
    ·
      rintro L a wc ⟨hv, HO⟩ hL hc hd
      have h0 : wc.cell? ⟨B, 1, none⟩ = some (.slice (some fd) nf fc) := HO.out.cell (HB.out 1 _ rfl)
      exact wpOp_val rfl ((wanted_at rfl rfl (hv.get 14 rfl rfl (hd 14 (by decide)))).trans rfl) (ex_load rfl (hv.get 15 rfl rfl (hd 15 (by decide))) (by go_simp)) ⟨hv.put ck_zero_apart 16 rfl (lb rfl) (lb rfl) rfl, HO⟩
    ·
      rintro L a wc ⟨hv, HO⟩ hL hc hd
      exact wpOp_val rfl ((wanted_at rfl rfl (hv.get 14 rfl rfl (hd 14 (by decide)))).trans rfl) (ex_move rfl ((hv.fixed 3 (by decide)).trans rfl)) ⟨hv.put ck_zero_apart 17 rfl (lb rfl) (lb rfl) rfl, HO⟩
    ·
      rintro L a wc ⟨hv, HO⟩ hL hc hd
      have u1 : (0 : Int) ≤ (k : Int) := by omega
      have u2 : (k : Int) < (nf : Int) := by omega
      exact wpOp_val rfl ((wanted_at rfl rfl (hv.get 14 rfl rfl (hd 14 (by decide)))).trans rfl) (ex_index rfl (hv.get 16 rfl rfl (hd 16 (by decide))) (hv.get 17 rfl rfl (hd 17 (by decide))) (by go_simp)) ⟨hv.put ck_zero_apart 18 rfl (lb rfl) (lb rfl) rfl, HO⟩
    ·
      rintro L a wc ⟨hv, HO⟩ hL hc hd
      have h0 : wc.cell? (fd.add k) = some (.int .i64 x) := HO.out.cell hx
      exact wpOp_val rfl ((wanted_at rfl rfl (hv.get 14 rfl rfl (hd 14 (by decide)))).trans rfl) (ex_load rfl (hv.get 18 rfl rfl (hd 18 (by decide))) (by go_simp)) ⟨hv.put ck_zero_apart 19 rfl (lb rfl) (lb rfl) rfl, HO⟩
    ·
      rintro L a wc ⟨hv, HO⟩ hL hc hd
      exact wpOp_val rfl ((wanted_at rfl rfl (hv.get 14 rfl rfl (hd 14 (by decide)))).trans rfl) (ex_field rfl ((hv.fixed 1 (by decide)).trans rfl) (by go_simp)) ⟨hv.put ck_zero_apart 20 rfl (lb rfl) (lb rfl) rfl, HO⟩
    ·
      rintro L a wc ⟨hv, HO⟩ hL hc hd
      have h0 : wc.cell? ⟨B, 0, none⟩ = some (.int .i64 p) := HO.out.cell (HB.out 0 _ rfl)
      exact wpOp_val rfl ((wanted_at rfl rfl (hv.get 14 rfl rfl (hd 14 (by decide)))).trans rfl) (ex_load rfl (hv.get 20 rfl rfl (hd 20 (by decide))) (by go_simp)) ⟨hv.put ck_zero_apart 21 rfl (lb rfl) (lb rfl) rfl, HO⟩
    ·
      rintro L a wc ⟨hv, HO⟩ hL hc hd
      have u := H3.out
      exact wpOp_val rfl ((wanted_at rfl rfl (hv.get 14 rfl rfl (hd 14 (by decide)))).trans rfl) (ex_bin rfl (hv.get 19 rfl rfl (hd 19 (by decide))) (hv.get 21 rfl rfl (hd 21 (by decide))) (by go_simp)) ⟨hv.put ck_zero_apart 22 rfl (lb rfl) (lb rfl) rfl, HO⟩
    ·
      rintro L a wc ⟨hv, HO⟩ hL hc hd
      exact wpOp_val rfl rfl (ex_pick rfl (hv.get 14 rfl rfl (hd 14 (by decide))) (hv.get 22 rfl rfl (hd 22 (by decide)))) ⟨hv.put ck_zero_apart 23 rfl (lb rfl) (lb rfl) rfl, HO⟩
    ·
      rintro L a wc ⟨hv, HO⟩ hL hc hd
      exact wpOp_val rfl rfl (ex_move rfl (hv.get 23 rfl rfl (hd 23 (by decide)))) ⟨hv.put ck_zero_apart 24 rfl (lb rfl) (lb rfl) rfl, HO⟩
    ·
      rintro L a wc ⟨hv, HO⟩ hL hc hd
      exact wpOp_val rfl ((wanted_at rfl rfl (hv.get 24 rfl rfl (hd 24 (by decide)))).trans rfl) (ex_field rfl ((hv.fixed 1 (by decide)).trans rfl) (by go_simp)) ⟨hv.put ck_zero_apart 25 rfl (lb rfl) (lb rfl) rfl, HO⟩
    ·
      rintro L a wc ⟨hv, HO⟩ hL hc hd
      have h0 : wc.cell? ⟨B, 2, none⟩ = some (.slice (some cd) nf cc) := HO.out.cell (HB.out 2 _ rfl)
      exact wpOp_val rfl ((wanted_at rfl rfl (hv.get 24 rfl rfl (hd 24 (by decide)))).trans rfl) (ex_load rfl (hv.get 25 rfl rfl (hd 25 (by decide))) (by go_simp)) ⟨hv.put ck_zero_apart 26 rfl (lb rfl) (lb rfl) rfl, HO⟩
    ·
      rintro L a wc ⟨hv, HO⟩ hL hc hd
      exact wpOp_val rfl ((wanted_at rfl rfl (hv.get 24 rfl rfl (hd 24 (by decide)))).trans rfl) (ex_move rfl ((hv.fixed 3 (by decide)).trans rfl)) ⟨hv.put ck_zero_apart 27 rfl (lb rfl) (lb rfl) rfl, HO⟩
    ·
      rintro L a wc ⟨hv, HO⟩ hL hc hd
      have u1 : (0 : Int) ≤ (k : Int) := by omega
      have u2 : (k : Int) < (nf : Int) := by omega
      exact wpOp_val rfl ((wanted_at rfl rfl (hv.get 24 rfl rfl (hd 24 (by decide)))).trans rfl) (ex_index rfl (hv.get 26 rfl rfl (hd 26 (by decide))) (hv.get 27 rfl rfl (hd 27 (by decide))) (by go_simp)) ⟨hv.put ck_zero_apart 28 rfl (lb rfl) (lb rfl) rfl, HO⟩
    ·
      rintro L a wc ⟨hv, HO⟩ hL hc hd
      have h0 : wc.cell? (cd.add k) = some (bv q) := HO.out.cell hq
      exact wpOp_val rfl ((wanted_at rfl rfl (hv.get 24 rfl rfl (hd 24 (by decide)))).trans rfl) (ex_load rfl (hv.get 28 rfl rfl (hd 28 (by decide))) (by go_simp)) ⟨hv.put ck_zero_apart 29 rfl (lb rfl) (lb rfl) rfl, HO⟩
    ·
      rintro L a wc ⟨hv, HO⟩ hL hc hd
      have u := H4.out
      exact wpOp_val rfl ((wanted_at rfl rfl (hv.get 24 rfl rfl (hd 24 (by decide)))).trans rfl) (ex_bin rfl (hv.get 29 rfl rfl (hd 29 (by decide))) rfl (by go_simp)) ⟨hv.put ck_zero_apart 30 rfl (lb rfl) (lb rfl) rfl, HO⟩
    ·
      rintro L a wc ⟨hv, HO⟩ hL hc hd
      exact wpOp_val rfl rfl (ex_pick rfl (hv.get 24 rfl rfl (hd 24 (by decide))) (hv.get 30 rfl rfl (hd 30 (by decide)))) ⟨hv.put ck_zero_apart 31 rfl (lb rfl) (lb rfl) rfl, HO⟩
    ·
      rintro L a wc ⟨hv, HO⟩ hL hc hd
      exact wpOp_val rfl rfl (ex_move rfl (hv.get 31 rfl rfl (hd 31 (by decide)))) ⟨hv.put ck_zero_apart 32 rfl (lb rfl) (lb rfl) rfl, HO⟩
    ·
      rintro L a wc ⟨hv, HO⟩ hL hc hd
      exact wpOp_off rfl ((wanted_at rfl rfl (hv.get 32 rfl rfl (hd 32 (by decide)))).trans rfl) ⟨hv.put ck_zero_apart 33 rfl (lb rfl) (lb rfl) rfl, HO⟩
    ·
      rintro L a wc ⟨hv, HO⟩ hL hc hd
      exact wpOp_off rfl ((wanted_at rfl rfl (hv.get 32 rfl rfl (hd 32 (by decide)))).trans rfl) ⟨hv.put ck_zero_apart 34 rfl (lb rfl) (lb rfl) rfl, HO⟩
    ·
      rintro L a wc ⟨hv, HO⟩ hL hc hd
      exact wpOp_off rfl ((wanted_at rfl rfl (hv.get 32 rfl rfl (hd 32 (by decide)))).trans rfl) ⟨hv.put ck_zero_apart 35 rfl (lb rfl) (lb rfl) rfl, HO⟩
    ·
      rintro L a wc ⟨hv, HO⟩ hL hc hd
      exact wpOp_off rfl (wanted_undef rfl rfl (hv.get 35 rfl rfl (hd 35 (by decide)))) ⟨hv.put ck_zero_apart 36 rfl (lb rfl) (lb rfl) rfl, HO⟩
    ·
      rintro L a wc ⟨hv, HO⟩ hL hc hd
      exact wpOp_off rfl (wanted_undef rfl rfl (hv.get 35 rfl rfl (hd 35 (by decide)))) ⟨hv.put ck_zero_apart 37 rfl (lb rfl) (lb rfl) rfl, HO⟩
    ·
      rintro L a wc ⟨hv, HO⟩ hL hc hd
      exact wpOp_off rfl (wanted_undef rfl rfl (hv.get 35 rfl rfl (hd 35 (by decide)))) ⟨hv.put ck_zero_apart 38 rfl (lb rfl) (lb rfl) rfl, HO⟩
    ·
      rintro L a wc ⟨hv, HO⟩ hL hc hd
      exact wpOp_off rfl (wanted_undef rfl rfl (hv.get 35 rfl rfl (hd 35 (by decide)))) ⟨hv.put ck_zero_apart 39 rfl (lb rfl) (lb rfl) rfl, HO⟩
    ·
      rintro L a wc ⟨hv, HO⟩ hL hc hd
      exact wpOp_off rfl (wanted_undef rfl rfl (hv.get 35 rfl rfl (hd 35 (by decide)))) ⟨hv.put ck_zero_apart 40 rfl (lb rfl) (lb rfl) rfl, HO⟩
    ·
      rintro L a wc ⟨hv, HO⟩ hL hc hd
      exact wpOp_off rfl (wanted_undef rfl rfl (hv.get 35 rfl rfl (hd 35 (by decide)))) ⟨hv.put ck_zero_apart 41 rfl (lb rfl) (lb rfl) rfl, HO⟩
    ·
      rintro L a wc ⟨hv, HO⟩ hL hc hd
      exact wpOp_off rfl (wanted_undef rfl rfl (hv.get 35 rfl rfl (hd 35 (by decide)))) ⟨hv.put ck_zero_apart 42 rfl (lb rfl) (lb rfl) rfl, HO⟩
    ·
      rintro L a wc ⟨hv, HO⟩ hL hc hd
      exact wpOp_off rfl (wanted_undef rfl rfl (hv.get 35 rfl rfl (hd 35 (by decide)))) ⟨hv.put ck_zero_apart 43 rfl (lb rfl) (lb rfl) rfl, HO⟩
    ·
      rintro L a wc ⟨hv, HO⟩ hL hc hd
      exact wpOp_off rfl (wanted_undef rfl rfl (hv.get 35 rfl rfl (hd 35 (by decide)))) ⟨hv.put ck_zero_apart 44 rfl (lb rfl) (lb rfl) rfl, HO⟩
    ·
      rintro L a wc ⟨hv, HO⟩ hL hc hd
      exact wpOp_off rfl (wanted_undef rfl rfl (hv.get 35 rfl rfl (hd 35 (by decide)))) ⟨hv.put ck_zero_apart 45 rfl (lb rfl) (lb rfl) rfl, HO⟩
    ·
      rintro L a wc ⟨hv, HO⟩ hL hc hd
      exact wpOp_off rfl (wanted_undef rfl rfl (hv.get 35 rfl rfl (hd 35 (by decide)))) ⟨hv.put ck_zero_apart 46 rfl (lb rfl) (lb rfl) rfl, HO⟩
    ·
      rintro L a wc ⟨hv, HO⟩ hL hc hd
      exact wpOp_off rfl (wanted_undef rfl rfl (hv.get 35 rfl rfl (hd 35 (by decide)))) ⟨hv.put ck_zero_apart 47 rfl (lb rfl) (lb rfl) rfl, HO⟩
    ·
      rintro L a wc ⟨hv, HO⟩ hL hc hd
      exact wpOp_off rfl ((wanted_at rfl rfl (hv.get 32 rfl rfl (hd 32 (by decide)))).trans rfl) ⟨hv.put ck_zero_apart 48 rfl (lb rfl) (lb rfl) rfl, HO⟩
    ·
      rintro L a wc ⟨hv, HO⟩ hL hc hd
      exact wpOp_val rfl rfl (ex_pick rfl (hv.get 32 rfl rfl (hd 32 (by decide))) rfl) ⟨hv.put ck_zero_apart 49 rfl (lb rfl) (lb rfl) rfl, HO⟩
  · rintro L a wc ⟨hv, HO⟩ hall
    show K a wc
    have ha := act_lit a
    rw [hv.size, hv.defers] at ha
    have hl : ∀ f : Nat → Value, ((List.range (⟨#[c0, .pointer (some ⟨B, 0, none⟩), c2, .int .i64 (k : Nat), c4, c5, c6, c7, c8, c9, c10, c11, c12, c13, c14, c15, c16, c17, c18, c19, c20, c21, c22, c23, c24, c25, c26, c27, c28, c29, c30, c31, c32, c33, c34, c35, c36, c37, c38, c39, c40, c41, c42, c43, c44, c45, c46, c47, c48, c49, c50, c51, c52, c53, c54, c55, c56, c57, c58, c59, c60, c61, c62, c63, c64, c65, c66, c67, c68, c69, c70, c71, c72, c73, c74, c75, c76, c77, c78, c79, c80, c81, c82, c83], df⟩ : Act).tmps.size).map f).toArray = #[f 0, f 1, f 2, f 3, f 4, f 5, f 6, f 7, f 8, f 9, f 10, f 11, f 12, f 13, f 14, f 15, f 16, f 17, f 18, f 19, f 20, f 21, f 22, f 23, f 24, f 25, f 26, f 27, f 28, f 29, f 30, f 31, f 32, f 33, f 34, f 35, f 36, f 37, f 38, f 39, f 40, f 41, f 42, f 43, f 44, f 45, f 46, f 47, f 48, f 49, f 50, f 51, f 52, f 53, f 54, f 55, f 56, f 57, f 58, f 59, f 60, f 61, f 62, f 63, f 64, f 65, f 66, f 67, f 68, f 69, f 70, f 71, f 72, f 73, f 74, f 75, f 76, f 77, f 78, f 79, f 80, f 81, f 82, f 83] := fun _ => rfl
    rw [hl] at ha
    simp only [hv.fixed 0 (by decide), hv.fixed 1 (by decide), hv.fixed 2 (by decide), hv.fixed 3 (by decide), hv.fixed 4 (by decide), hv.fixed 5 (by decide), hv.fixed 6 (by decide), hv.fixed 7 (by decide), hv.fixed 8 (by decide), hv.fixed 9 (by decide), hv.fixed 10 (by decide), hv.fixed 11 (by decide), hv.fixed 12 (by decide), hv.fixed 13 (by decide), hv.fixed 14 (by decide), hv.fixed 15 (by decide), hv.fixed 16 (by decide), hv.fixed 17 (by decide), hv.fixed 18 (by decide), hv.fixed 19 (by decide), hv.fixed 20 (by decide), hv.fixed 21 (by decide), hv.fixed 22 (by decide), hv.fixed 23 (by decide), hv.fixed 24 (by decide), hv.fixed 25 (by decide), hv.fixed 26 (by decide), hv.fixed 27 (by decide), hv.fixed 28 (by decide), hv.fixed 29 (by decide), hv.fixed 30 (by decide), hv.fixed 31 (by decide), hv.fixed 32 (by decide), hv.fixed 33 (by decide), hv.get 49 (d := 83) rfl rfl (hall 49 (by decide))] at ha
    rw [ha]
    exact hK _ _ _ _ _ _ _ _ _ _ _ _ _ _ _ _ _ _ _ _ _ _ _ _ _ _ _ _ _ _ _ _ _ _ _ _ _ _ _ _ _ _ _ _ _ _ _ _ _ wc HO.out
noncomputable def ck_first_code : Code := ((Tryd.f26.body.bind (regionOf 6)).getD .skip)
def ck_first_dsts : List (Option Nat) := [some 34, some 35, some 36, some 37, some 38, some 39, some 40, some 41, some 42, some 43, some 44, some 45, some 46, some 47, some 48, some 49, some 50, some 51, some 52, some 53, some 54, some 55, some 56, some 57, some 58, some 59, some 60, some 61, some 62, some 63, some 64, some 65, some 66, some 67, some 68, some 69, some 70, some 71, some 72, some 73, some 74, some 75, some 76, some 77, some 78, some 79, some 80, some 81, some 82, some 83]
theorem ck_first_apart : apartD ck_first_dsts = true := by decide +kernel
set_option maxRecDepth 1000000 in
set_option maxHeartbeats 16000000 in
theorem ck_first (wr : World) (B k nf fc cc : Nat) (p x : Int) (fd cd : Addr) (HB : Hid (Cells wr B [.int .i64 p, .slice (some fd) nf fc, .slice (some cd) nf cc])) (hk : k < nf) (hx : wr.cell? (fd.add k) = some (.int .i64 x)) (H1 : Hid (¬ x < 0)) (H2 : Hid (¬ 24 ≤ x)) (H3 : Hid ((x == p) = false)) (q : UInt8) (hq : wr.cell? (cd.add k) = some (bv q)) (H4 : Hid (((q.toNat : Int) == 0) = false)) (H5 : Hid (k = 0)) (c0 c2 c4 c5 c6 c7 c8 c9 c10 c11 c12 c13 c14 c15 c16 c17 c18 c19 c20 c21 c22 c23 c24 c25 c26 c27 c28 c29 c30 c31 c32 c33 c34 c35 c36 c37 c38 c39 c40 c41 c42 c43 c44 c45 c46 c47 c48 c49 c50 c51 c52 c53 c54 c55 c56 c57 c58 c59 c60 c61 c62 c63 c64 c65 c66 c67 c68 c69 c70 c71 c72 c73 c74 c75 c76 c77 c78 c79 c80 c81 c82 c83 : Value) (df : List Deferred) (K : Act → World → Prop)
    (hK : ∀  (u34 u35 u36 u37 u38 u39 u40 u41 u42 u43 u44 u45 u46 u47 u48 u49 u50 u51 u52 u53 u54 u55 u56 u57 u58 u59 u60 u61 u62 u63 u64 u65 u66 u67 u68 u69 u70 u71 u72 u73 u74 u75 u76 u77 u78 u79 u80 u81 u82 : Value) (wx : World), Ext wr wx → K ⟨#[c0, .pointer (some ⟨B, 0, none⟩), c2, .int .i64 (k : Nat), c4, c5, c6, c7, c8, c9, c10, c11, c12, c13, c14, c15, c16, c17, c18, c19, c20, c21, c22, c23, c24, c25, c26, c27, c28, c29, c30, c31, c32, c33, u34, u35, u36, u37, u38, u39, u40, u41, u42, u43, u44, u45, u46, u47, u48, u49, u50, u51, u52, u53, u54, u55, u56, u57, u58, u59, u60, u61, u62, u63, u64, u65, u66, u67, u68, u69, u70, u71, u72, u73, u74, u75, u76, u77, u78, u79, u80, u81, u82, .bool false], df⟩ wx) :
    Code.wp Tryd.prog ck_first_code (AtEnd K) ⟨#[c0, .pointer (some ⟨B, 0, none⟩), c2, .int .i64 (k : Nat), c4, c5, c6, c7, c8, c9, c10, c11, c12, c13, c14, c15, c16, c17, c18, c19, c20, c21, c22, c23, c24, c25, c26, c27, c28, c29, c30, c31, c32, c33, c34, c35, c36, c37, c38, c39, c40, c41, c42, c43, c44, c45, c46, c47, c48, c49, c50, c51, c52, c53, c54, c55, c56, c57, c58, c59, c60, c61, c62, c63, c64, c65, c66, c67, c68, c69, c70, c71, c72, c73, c74, c75, c76, c77, c78, c79, c80, c81, c82, c83], df⟩ wr := by
  conv => arg 2; whnf
  refine region_inv (by kernel_rfl) [[], [0], [], [1, 2], [3], [4], [5], [6], [7, 6], [6], [8, 9, 6], [10, 6], [11, 6], [6, 12], [13, 6], [14], [15, 14], [14], [16, 17, 14], [18, 14], [14], [20, 14], [19, 21, 14], [14, 22], [23, 14], [24], [25, 24], [24], [26, 27, 24], [28, 24], [29, 24], [24, 30], [31, 24], [32], [33, 32], [34, 32, 32], [35], [36, 35], [35], [37, 38, 35], [39, 35], [35], [41, 35], [35], [43, 35], [42, 44, 35], [45, 35], [40, 46, 35], [35, 47, 32], [32, 48]] (by kernel_rfl) [0, 1, 2, 3, 4, 5, 6, 7, 8, 9, 10, 11, 12, 13, 14, 15, 16, 17, 18, 19, 20, 21, 22, 23, 24, 25, 26, 27, 28, 29, 30, 31, 32, 33, 34, 35, 36, 37, 38, 39, 40, 41, 42, 43, 44, 45, 46, 47, 48, 49] (by decide +kernel) (by decide +kernel) (by decide +kernel) (fun L a wc => Inv ck_first_dsts [.pointer (some ⟨B, 1, none⟩), .slice (some fd) nf fc, .int .i64 (k : Nat), .pointer (some (fd.add k)), .int .i64 x, .bool false, .bool false, .pointer (some ⟨B, 1, none⟩), .slice (some fd) nf fc, .int .i64 (k : Nat), .pointer (some (fd.add k)), .int .i64 x, .bool false, .bool false, .bool false, .pointer (some ⟨B, 1, none⟩), .slice (some fd) nf fc, .int .i64 (k : Nat), .pointer (some (fd.add k)), .int .i64 x, .pointer (some ⟨B, 0, none⟩), .int .i64 p, .bool false, .bool false, .bool false, .pointer (some ⟨B, 2, none⟩), .slice (some cd) nf cc, .int .i64 (k : Nat), .pointer (some (cd.add k)), bv q, .bool false, .bool false, .bool false, .int .i64 (k : Nat), .bool false, .bool false, undef, undef, undef, undef, undef, undef, undef, undef, undef, undef, undef, undef, .bool false, .bool false] ⟨#[c0, .pointer (some ⟨B, 0, none⟩), c2, .int .i64 (k : Nat), c4, c5, c6, c7, c8, c9, c10, c11, c12, c13, c14, c15, c16, c17, c18, c19, c20, c21, c22, c23, c24, c25, c26, c27, c28, c29, c30, c31, c32, c33, c34, c35, c36, c37, c38, c39, c40, c41, c42, c43, c44, c45, c46, c47, c48, c49, c50, c51, c52, c53, c54, c55, c56, c57, c58, c59, c60, c61, c62, c63, c64, c65, c66, c67, c68, c69, c70, c71, c72, c73, c74, c75, c76, c77, c78, c79, c80, c81, c82, c83], df⟩ L a ∧ Hid (Ext wr wc)) ⟨Inv.start, Lib.hid ((Ext.refl wr).drew)⟩ ?_ ?_
  · refine ⟨?_, ?_, ?_, ?_, ?_, ?_, ?_, ?_, ?_, ?_, ?_, ?_, ?_, ?_, ?_, ?_, ?_, ?_, ?_, ?_, ?_, ?_, ?_, ?_, ?_, ?_, ?_, ?_, ?_, ?_, ?_, ?_, ?_, ?_, ?_, ?_, ?_, ?_, ?_, ?_, ?_, ?_, ?_, ?_, ?_, ?_, ?_, ?_, ?_, ?_, trivial⟩
    ·
      rintro L a wc ⟨hv, HO⟩ hL hc hd
      exact wpOp_val rfl rfl (ex_field rfl ((hv.fixed 1 (by decide)).trans rfl) (by go_simp)) ⟨hv.put ck_first_apart 0 rfl (lb rfl) (lb rfl) rfl, HO⟩
    ·
      rintro L a wc ⟨hv, HO⟩ hL hc hd
      have h0 : wc.cell? ⟨B, 1, none⟩ = some (.slice (some fd) nf fc) := HO.out.cell (HB.out 1 _ rfl)
      exact wpOp_val rfl rfl (ex_load rfl (hv.get 0 rfl rfl (hd 0 (by decide))) (by go_simp)) ⟨hv.put ck_first_apart 1 rfl (lb rfl) (lb rfl) rfl, HO⟩
    ·
      rintro L a wc ⟨hv, HO⟩ hL hc hd
      exact wpOp_val rfl rfl (ex_move rfl ((hv.fixed 3 (by decide)).trans rfl)) ⟨hv.put ck_first_apart 2 rfl (lb rfl) (lb rfl) rfl, HO⟩
    ·
      rintro L a wc ⟨hv, HO⟩ hL hc hd
      have u1 : (0 : Int) ≤ (k : Int) := by omega
      have u2 : (k : Int) < (nf : Int) := by omega
      exact wpOp_val rfl rfl (ex_index rfl (hv.get 1 rfl rfl (hd 1 (by decide))) (hv.get 2 rfl rfl (hd 2 (by decide))) (by go_simp)) ⟨hv.put ck_first_apart 3 rfl (lb rfl) (lb rfl) rfl, HO⟩
    ·
      rintro L a wc ⟨hv, HO⟩ hL hc hd
      have h0 : wc.cell? (fd.add k) = some (.int .i64 x) := HO.out.cell hx
      exact wpOp_val rfl rfl (ex_load rfl (hv.get 3 rfl rfl (hd 3 (by decide))) (by go_simp)) ⟨hv.put ck_first_apart 4 rfl (lb rfl) (lb rfl) rfl, HO⟩
    ·
      rintro L a wc ⟨hv, HO⟩ hL hc hd
      have u := H1.out
      exact wpOp_val rfl rfl (ex_bin rfl (hv.get 4 rfl rfl (hd 4 (by decide))) rfl (by go_simp)) ⟨hv.put ck_first_apart 5 rfl (lb rfl) (lb rfl) rfl, HO⟩
    ·
      rintro L a wc ⟨hv, HO⟩ hL hc hd
      exact wpOp_val rfl rfl (ex_move rfl (hv.get 5 rfl rfl (hd 5 (by decide)))) ⟨hv.put ck_first_apart 6 rfl (lb rfl) (lb rfl) rfl, HO⟩
    ·
      rintro L a wc ⟨hv, HO⟩ hL hc hd
      exact wpOp_val rfl ((wanted_at rfl rfl (hv.get 6 rfl rfl (hd 6 (by decide)))).trans rfl) (ex_field rfl ((hv.fixed 1 (by decide)).trans rfl) (by go_simp)) ⟨hv.put ck_first_apart 7 rfl (lb rfl) (lb rfl) rfl, HO⟩
    ·
      rintro L a wc ⟨hv, HO⟩ hL hc hd
      have h0 : wc.cell? ⟨B, 1, none⟩ = some (.slice (some fd) nf fc) := HO.out.cell (HB.out 1 _ rfl)
      exact wpOp_val rfl ((wanted_at rfl rfl (hv.get 6 rfl rfl (hd 6 (by decide)))).trans rfl) (ex_load rfl (hv.get 7 rfl rfl (hd 7 (by decide))) (by go_simp)) ⟨hv.put ck_first_apart 8 rfl (lb rfl) (lb rfl) rfl, HO⟩
    ·
      rintro L a wc ⟨hv, HO⟩ hL hc hd
      exact wpOp_val rfl ((wanted_at rfl rfl (hv.get 6 rfl rfl (hd 6 (by decide)))).trans rfl) (ex_move rfl ((hv.fixed 3 (by decide)).trans rfl)) ⟨hv.put ck_first_apart 9 rfl (lb rfl) (lb rfl) rfl, HO⟩
    ·
      rintro L a wc ⟨hv, HO⟩ hL hc hd
      have u1 : (0 : Int) ≤ (k : Int) := by omega
      have u2 : (k : Int) < (nf : Int) := by omega
      exact wpOp_val rfl ((wanted_at rfl rfl (hv.get 6 rfl rfl (hd 6 (by decide)))).trans rfl) (ex_index rfl (hv.get 8 rfl rfl (hd 8 (by decide))) (hv.get 9 rfl rfl (hd 9 (by decide))) (by go_simp)) ⟨hv.put ck_first_apart 10 rfl (lb rfl) (lb rfl) rfl, HO⟩
    ·
      rintro L a wc ⟨hv, HO⟩ hL hc hd
      have h0 : wc.cell? (fd.add k) = some (.int .i64 x) := HO.out.cell hx
      exact wpOp_val rfl ((wanted_at rfl rfl (hv.get 6 rfl rfl (hd 6 (by decide)))).trans rfl) (ex_load rfl (hv.get 10 rfl rfl (hd 10 (by decide))) (by go_simp)) ⟨hv.put ck_first_apart 11 rfl (lb rfl) (lb rfl) rfl, HO⟩
    ·
      rintro L a wc ⟨hv, HO⟩ hL hc hd
      have u := H2.out
      exact wpOp_val rfl ((wanted_at rfl rfl (hv.get 6 rfl rfl (hd 6 (by decide)))).trans rfl) (ex_bin rfl (hv.get 11 rfl rfl (hd 11 (by decide))) rfl (by go_simp)) ⟨hv.put ck_first_apart 12 rfl (lb rfl) (lb rfl) rfl, HO⟩
    ·
      rintro L a wc ⟨hv, HO⟩ hL hc hd
      exact wpOp_val rfl rfl (ex_pick rfl (hv.get 6 rfl rfl (hd 6 (by decide))) (hv.get 12 rfl rfl (hd 12 (by decide)))) ⟨hv.put ck_first_apart 13 rfl (lb rfl) (lb rfl) rfl, HO⟩
    ·
      rintro L a wc ⟨hv, HO⟩ hL hc hd
      exact wpOp_val rfl rfl (ex_move rfl (hv.get 13 rfl rfl (hd 13 (by decide)))) ⟨hv.put ck_first_apart 14 rfl (lb rfl) (lb rfl) rfl, HO⟩
    ·
      rintro L a wc ⟨hv, HO⟩ hL hc hd
      exact wpOp_val rfl ((wanted_at rfl rfl (hv.get 14 rfl rfl (hd 14 (by decide)))).trans rfl) (ex_field rfl ((hv.fixed 1 (by decide)).trans rfl) (by go_simp)) ⟨hv.put ck_first_apart 15 rfl (lb rfl) (lb rfl) rfl, HO⟩
    ·
      rintro L a wc ⟨hv, HO⟩ hL hc hd
      have h0 : wc.cell? ⟨B, 1, none⟩ = some (.slice (some fd) nf fc) := HO.out.cell (HB.out 1 _ rfl)
      exact wpOp_val rfl ((wanted_at rfl rfl (hv.get 14 rfl rfl (hd 14 (by decide)))).trans rfl) (ex_load rfl (hv.get 15 rfl rfl (hd 15 (by decide))) (by go_simp)) ⟨hv.put ck_first_apart 16 rfl (lb rfl) (lb rfl) rfl, HO⟩
    ·
      rintro L a wc ⟨hv, HO⟩ hL hc hd
      exact wpOp_val rfl ((wanted_at rfl rfl (hv.get 14 rfl rfl (hd 14 (by decide)))).trans rfl) (ex_move rfl ((hv.fixed 3 (by decide)).trans rfl)) ⟨hv.put ck_first_apart 17 rfl (lb rfl) (lb rfl) rfl, HO⟩
    ·
      rintro L a wc ⟨hv, HO⟩ hL hc hd
      have u1 : (0 : Int) ≤ (k : Int) := by omega
      have u2 : (k : Int) < (nf : Int) := by omega
      exact wpOp_val rfl ((wanted_at rfl rfl (hv.get 14 rfl rfl (hd 14 (by decide)))).trans rfl) (ex_index rfl (hv.get 16 rfl rfl (hd 16 (by decide))) (hv.get 17 rfl rfl (hd 17 (by decide))) (by go_simp)) ⟨hv.put ck_first_apart 18 rfl (lb rfl) (lb rfl) rfl, HO⟩
    ·
      rintro L a wc ⟨hv, HO⟩ hL hc hd
      have h0 : wc.cell? (fd.add k) = some (.int .i64 x) := HO.out.cell hx
      exact wpOp_val rfl ((wanted_at rfl rfl (hv.get 14 rfl rfl (hd 14 (by decide)))).trans rfl) (ex_load rfl (hv.get 18 rfl rfl (hd 18 (by decide))) (by go_simp)) ⟨hv.put ck_first_apart 19 rfl (lb rfl) (lb rfl) rfl, HO⟩
    ·
      rintro L a wc ⟨hv, HO⟩ hL hc hd
      exact wpOp_val rfl ((wanted_at rfl rfl (hv.get 14 rfl rfl (hd 14 (by decide)))).trans rfl) (ex_field rfl ((hv.fixed 1 (by decide)).trans rfl) (by go_simp)) ⟨hv.put ck_first_apart 20 rfl (lb rfl) (lb rfl) rfl, HO⟩
    ·
      rintro L a wc ⟨hv, HO⟩ hL hc hd
      have h0 : wc.cell? ⟨B, 0, none⟩ = some (.int .i64 p) := HO.out.cell (HB.out 0 _ rfl)
      exact wpOp_val rfl ((wanted_at rfl rfl (hv.get 14 rfl rfl (hd 14 (by decide)))).trans rfl) (ex_load rfl (hv.get 20 rfl rfl (hd 20 (by decide))) (by go_simp)) ⟨hv.put ck_first_apart 21 rfl (lb rfl) (lb rfl) rfl, HO⟩
    ·
      rintro L a wc ⟨hv, HO⟩ hL hc hd
      have u := H3.out
      exact wpOp_val rfl ((wanted_at rfl rfl (hv.get 14 rfl rfl (hd 14 (by decide)))).trans rfl) (ex_bin rfl (hv.get 19 rfl rfl (hd 19 (by decide))) (hv.get 21 rfl rfl (hd 21 (by decide))) (by go_simp)) ⟨hv.put ck_first_apart 22 rfl (lb rfl) (lb rfl) rfl, HO⟩
    ·
      rintro L a wc ⟨hv, HO⟩ hL hc hd
      exact wpOp_val rfl rfl (ex_pick rfl (hv.get 14 rfl rfl (hd 14 (by decide))) (hv.get 22 rfl rfl (hd 22 (by decide)))) ⟨hv.put ck_first_apart 23 rfl (lb rfl) (lb rfl) rfl, HO⟩
    ·
      rintro L a wc ⟨hv, HO⟩ hL hc hd
      exact wpOp_val rfl rfl (ex_move rfl (hv.get 23 rfl rfl (hd 23 (by decide)))) ⟨hv.put ck_first_apart 24 rfl (lb rfl) (lb rfl) rfl, HO⟩
    ·
      rintro L a wc ⟨hv, HO⟩ hL hc hd
      exact wpOp_val rfl ((wanted_at rfl rfl (hv.get 24 rfl rfl (hd 24 (by decide)))).trans rfl) (ex_field rfl ((hv.fixed 1 (by decide)).trans rfl) (by go_simp)) ⟨hv.put ck_first_apart 25 rfl (lb rfl) (lb rfl) rfl, HO⟩
    ·
      rintro L a wc ⟨hv, HO⟩ hL hc hd
      have h0 : wc.cell? ⟨B, 2, none⟩ = some (.slice (some cd) nf cc) := HO.out.cell (HB.out 2 _ rfl)
      exact wpOp_val rfl ((wanted_at rfl rfl (hv.get 24 rfl rfl (hd 24 (by decide)))).trans rfl) (ex_load rfl (hv.get 25 rfl rfl (hd 25 (by decide))) (by go_simp)) ⟨hv.put ck_first_apart 26 rfl (lb rfl) (lb rfl) rfl, HO⟩
    ·
      rintro L a wc ⟨hv, HO⟩ hL hc hd
      exact wpOp_val rfl ((wanted_at rfl rfl (hv.get 24 rfl rfl (hd 24 (by decide)))).trans rfl) (ex_move rfl ((hv.fixed 3 (by decide)).trans rfl)) ⟨hv.put ck_first_apart 27 rfl (lb rfl) (lb rfl) rfl, HO⟩
    ·
      rintro L a wc ⟨hv, HO⟩ hL hc hd
      have u1 : (0 : Int) ≤ (k : Int) := by omega
      have u2 : (k : Int) < (nf : Int) := by omega
      exact wpOp_val rfl ((wanted_at rfl rfl (hv.get 24 rfl rfl (hd 24 (by decide)))).trans rfl) (ex_index rfl (hv.get 26 rfl rfl (hd 26 (by decide))) (hv.get 27 rfl rfl (hd 27 (by decide))) (by go_simp)) ⟨hv.put ck_first_apart 28 rfl (lb rfl) (lb rfl) rfl, HO⟩
    ·
      rintro L a wc ⟨hv, HO⟩ hL hc hd
      have h0 : wc.cell? (cd.add k) = some (bv q) := HO.out.cell hq
      exact wpOp_val rfl ((wanted_at rfl rfl (hv.get 24 rfl rfl (hd 24 (by decide)))).trans rfl) (ex_load rfl (hv.get 28 rfl rfl (hd 28 (by decide))) (by go_simp)) ⟨hv.put ck_first_apart 29 rfl (lb rfl) (lb rfl) rfl, HO⟩
    ·
      rintro L a wc ⟨hv, HO⟩ hL hc hd
      have u := H4.out
      exact wpOp_val rfl ((wanted_at rfl rfl (hv.get 24 rfl rfl (hd 24 (by decide)))).trans rfl) (ex_bin rfl (hv.get 29 rfl rfl (hd 29 (by decide))) rfl (by go_simp)) ⟨hv.put ck_first_apart 30 rfl (lb rfl) (lb rfl) rfl, HO⟩
    ·
      rintro L a wc ⟨hv, HO⟩ hL hc hd
      exact wpOp_val rfl rfl (ex_pick rfl (hv.get 24 rfl rfl (hd 24 (by decide))) (hv.get 30 rfl rfl (hd 30 (by decide)))) ⟨hv.put ck_first_apart 31 rfl (lb rfl) (lb rfl) rfl, HO⟩
    ·
      rintro L a wc ⟨hv, HO⟩ hL hc hd
      exact wpOp_val rfl rfl (ex_move rfl (hv.get 31 rfl rfl (hd 31 (by decide)))) ⟨hv.put ck_first_apart 32 rfl (lb rfl) (lb rfl) rfl, HO⟩
    ·
      rintro L a wc ⟨hv, HO⟩ hL hc hd
      exact wpOp_val rfl ((wanted_at rfl rfl (hv.get 32 rfl rfl (hd 32 (by decide)))).trans rfl) (ex_move rfl ((hv.fixed 3 (by decide)).trans rfl)) ⟨hv.put ck_first_apart 33 rfl (lb rfl) (lb rfl) rfl, HO⟩
    ·
      rintro L a wc ⟨hv, HO⟩ hL hc hd
      have u := H5.out
      exact wpOp_val rfl ((wanted_at rfl rfl (hv.get 32 rfl rfl (hd 32 (by decide)))).trans rfl) (ex_bin rfl (hv.get 33 rfl rfl (hd 33 (by decide))) rfl (by go_simp)) ⟨hv.put ck_first_apart 34 rfl (lb rfl) (lb rfl) rfl, HO⟩
    ·
      rintro L a wc ⟨hv, HO⟩ hL hc hd
      exact wpOp_val rfl ((wanted_at rfl rfl (hv.get 32 rfl rfl (hd 32 (by decide)))).trans rfl) (ex_move rfl (hv.get 34 rfl rfl (hd 34 (by decide)))) ⟨hv.put ck_first_apart 35 rfl (lb rfl) (lb rfl) rfl, HO⟩
    ·
      rintro L a wc ⟨hv, HO⟩ hL hc hd
      exact wpOp_off rfl ((wanted_at rfl rfl (hv.get 35 rfl rfl (hd 35 (by decide)))).trans rfl) ⟨hv.put ck_first_apart 36 rfl (lb rfl) (lb rfl) rfl, HO⟩
    ·
      rintro L a wc ⟨hv, HO⟩ hL hc hd
      exact wpOp_off rfl ((wanted_at rfl rfl (hv.get 35 rfl rfl (hd 35 (by decide)))).trans rfl) ⟨hv.put ck_first_apart 37 rfl (lb rfl) (lb rfl) rfl, HO⟩
    ·
      rintro L a wc ⟨hv, HO⟩ hL hc hd
      exact wpOp_off rfl ((wanted_at rfl rfl (hv.get 35 rfl rfl (hd 35 (by decide)))).trans rfl) ⟨hv.put ck_first_apart 38 rfl (lb rfl) (lb rfl) rfl, HO⟩
    ·
      rintro L a wc ⟨hv, HO⟩ hL hc hd
      exact wpOp_off rfl ((wanted_at rfl rfl (hv.get 35 rfl rfl (hd 35 (by decide)))).trans rfl) ⟨hv.put ck_first_apart 39 rfl (lb rfl) (lb rfl) rfl, HO⟩
    ·
      rintro L a wc ⟨hv, HO⟩ hL hc hd
      exact wpOp_off rfl ((wanted_at rfl rfl (hv.get 35 rfl rfl (hd 35 (by decide)))).trans rfl) ⟨hv.put ck_first_apart 40 rfl (lb rfl) (lb rfl) rfl, HO⟩
    ·
      rintro L a wc ⟨hv, HO⟩ hL hc hd
      exact wpOp_off rfl ((wanted_at rfl rfl (hv.get 35 rfl rfl (hd 35 (by decide)))).trans rfl) ⟨hv.put ck_first_apart 41 rfl (lb rfl) (lb rfl) rfl, HO⟩
    ·
      rintro L a wc ⟨hv, HO⟩ hL hc hd
      exact wpOp_off rfl ((wanted_at rfl rfl (hv.get 35 rfl rfl (hd 35 (by decide)))).trans rfl) ⟨hv.put ck_first_apart 42 rfl (lb rfl) (lb rfl) rfl, HO⟩
    ·
      rintro L a wc ⟨hv, HO⟩ hL hc hd
      exact wpOp_off rfl ((wanted_at rfl rfl (hv.get 35 rfl rfl (hd 35 (by decide)))).trans rfl) ⟨hv.put ck_first_apart 43 rfl (lb rfl) (lb rfl) rfl, HO⟩
    ·
      rintro L a wc ⟨hv, HO⟩ hL hc hd
      exact wpOp_off rfl ((wanted_at rfl rfl (hv.get 35 rfl rfl (hd 35 (by decide)))).trans rfl) ⟨hv.put ck_first_apart 44 rfl (lb rfl) (lb rfl) rfl, HO⟩
    ·
      rintro L a wc ⟨hv, HO⟩ hL hc hd
      exact wpOp_off rfl ((wanted_at rfl rfl (hv.get 35 rfl rfl (hd 35 (by decide)))).trans rfl) ⟨hv.put ck_first_apart 45 rfl (lb rfl) (lb rfl) rfl, HO⟩
    ·
      rintro L a wc ⟨hv, HO⟩ hL hc hd
      exact wpOp_off rfl ((wanted_at rfl rfl (hv.get 35 rfl rfl (hd 35 (by decide)))).trans rfl) ⟨hv.put ck_first_apart 46 rfl (lb rfl) (lb rfl) rfl, HO⟩
    ·
      rintro L a wc ⟨hv, HO⟩ hL hc hd
      exact wpOp_off rfl ((wanted_at rfl rfl (hv.get 35 rfl rfl (hd 35 (by decide)))).trans rfl) ⟨hv.put ck_first_apart 47 rfl (lb rfl) (lb rfl) rfl, HO⟩
    ·
      rintro L a wc ⟨hv, HO⟩ hL hc hd
      exact wpOp_val rfl ((wanted_at rfl rfl (hv.get 32 rfl rfl (hd 32 (by decide)))).trans rfl) (ex_pick rfl (hv.get 35 rfl rfl (hd 35 (by decide))) rfl) ⟨hv.put ck_first_apart 48 rfl (lb rfl) (lb rfl) rfl, HO⟩
    ·
      rintro L a wc ⟨hv, HO⟩ hL hc hd
      exact wpOp_val rfl rfl (ex_pick rfl (hv.get 32 rfl rfl (hd 32 (by decide))) (hv.get 48 rfl rfl (hd 48 (by decide)))) ⟨hv.put ck_first_apart 49 rfl (lb rfl) (lb rfl) rfl, HO⟩
  · rintro L a wc ⟨hv, HO⟩ hall
    show K a wc
    have ha := act_lit a
    rw [hv.size, hv.defers] at ha
    have hl : ∀ f : Nat → Value, ((List.range (⟨#[c0, .pointer (some ⟨B, 0, none⟩), c2, .int .i64 (k : Nat), c4, c5, c6, c7, c8, c9, c10, c11, c12, c13, c14, c15, c16, c17, c18, c19, c20, c21, c22, c23, c24, c25, c26, c27, c28, c29, c30, c31, c32, c33, c34, c35, c36, c37, c38, c39, c40, c41, c42, c43, c44, c45, c46, c47, c48, c49, c50, c51, c52, c53, c54, c55, c56, c57, c58, c59, c60, c61, c62, c63, c64, c65, c66, c67, c68, c69, c70, c71, c72, c73, c74, c75, c76, c77, c78, c79, c80, c81, c82, c83], df⟩ : Act).tmps.size).map f).toArray = #[f 0, f 1, f 2, f 3, f 4, f 5, f 6, f 7, f 8, f 9, f 10, f 11, f 12, f 13, f 14, f 15, f 16, f 17, f 18, f 19, f 20, f 21, f 22, f 23, f 24, f 25, f 26, f 27, f 28, f 29, f 30, f 31, f 32, f 33, f 34, f 35, f 36, f 37, f 38, f 39, f 40, f 41, f 42, f 43, f 44, f 45, f 46, f 47, f 48, f 49, f 50, f 51, f 52, f 53, f 54, f 55, f 56, f 57, f 58, f 59, f 60, f 61, f 62, f 63, f 64, f 65, f 66, f 67, f 68, f 69, f 70, f 71, f 72, f 73, f 74, f 75, f 76, f 77, f 78, f 79, f 80, f 81, f 82, f 83] := fun _ => rfl
    rw [hl] at ha
    simp only [hv.fixed 0 (by decide), hv.fixed 1 (by decide), hv.fixed 2 (by decide), hv.fixed 3 (by decide), hv.fixed 4 (by decide), hv.fixed 5 (by decide), hv.fixed 6 (by decide), hv.fixed 7 (by decide), hv.fixed 8 (by decide), hv.fixed 9 (by decide), hv.fixed 10 (by decide), hv.fixed 11 (by decide), hv.fixed 12 (by decide), hv.fixed 13 (by decide), hv.fixed 14 (by decide), hv.fixed 15 (by decide), hv.fixed 16 (by decide), hv.fixed 17 (by decide), hv.fixed 18 (by decide), hv.fixed 19 (by decide), hv.fixed 20 (by decide), hv.fixed 21 (by decide), hv.fixed 22 (by decide), hv.fixed 23 (by decide), hv.fixed 24 (by decide), hv.fixed 25 (by decide), hv.fixed 26 (by decide), hv.fixed 27 (by decide), hv.fixed 28 (by decide), hv.fixed 29 (by decide), hv.fixed 30 (by decide), hv.fixed 31 (by decide), hv.fixed 32 (by decide), hv.fixed 33 (by decide), hv.get 49 (d := 83) rfl rfl (hall 49 (by decide))] at ha
    rw [ha]
    exact hK _ _ _ _ _ _ _ _ _ _ _ _ _ _ _ _ _ _ _ _ _ _ _ _ _ _ _ _ _ _ _ _ _ _ _ _ _ _ _ _ _ _ _ _ _ _ _ _ _ wc HO.out
noncomputable def ck_le_code : Code := ((Tryd.f26.body.bind (regionOf 6)).getD .skip)
def ck_le_dsts : List (Option Nat) := [some 34, some 35, some 36, some 37, some 38, some 39, some 40, some 41, some 42, some 43, some 44, some 45, some 46, some 47, some 48, some 49, some 50, some 51, some 52, some 53, some 54, some 55, some 56, some 57, some 58, some 59, some 60, some 61, some 62, some 63, some 64, some 65, some 66, some 67, some 68, some 69, some 70, some 71, some 72, some 73, some 74, some 75, some 76, some 77, some 78, some 79, some 80, some 81, some 82, some 83]
theorem ck_le_apart : apartD ck_le_dsts = true := by decide +kernel
set_option maxRecDepth 1000000 in
set_option maxHeartbeats 16000000 in
theorem ck_le (wr : World) (B k nf fc cc : Nat) (p x : Int) (fd cd : Addr) (HB : Hid (Cells wr B [.int .i64 p, .slice (some fd) nf fc, .slice (some cd) nf cc])) (hk : k < nf) (hx : wr.cell? (fd.add k) = some (.int .i64 x)) (H1 : Hid (¬ x < 0)) (H2 : Hid (¬ 24 ≤ x)) (H3 : Hid ((x == p) = false)) (q : UInt8) (hq : wr.cell? (cd.add k) = some (bv q)) (H4 : Hid (((q.toNat : Int) == 0) = false)) (j : Nat) (y : Int) (H5 : Hid (k = j + 1)) (hkb : k ≤ 9223372036854775807) (hy : wr.cell? (fd.add j) = some (.int .i64 y)) (H6 : Hid (x ≤ y)) (c0 c2 c4 c5 c6 c7 c8 c9 c10 c11 c12 c13 c14 c15 c16 c17 c18 c19 c20 c21 c22 c23 c24 c25 c26 c27 c28 c29 c30 c31 c32 c33 c34 c35 c36 c37 c38 c39 c40 c41 c42 c43 c44 c45 c46 c47 c48 c49 c50 c51 c52 c53 c54 c55 c56 c57 c58 c59 c60 c61 c62 c63 c64 c65 c66 c67 c68 c69 c70 c71 c72 c73 c74 c75 c76 c77 c78 c79 c80 c81 c82 c83 : Value) (df : List Deferred) (K : Act → World → Prop)
    (hK : ∀  (u34 u35 u36 u37 u38 u39 u40 u41 u42 u43 u44 u45 u46 u47 u48 u49 u50 u51 u52 u53 u54 u55 u56 u57 u58 u59 u60 u61 u62 u63 u64 u65 u66 u67 u68 u69 u70 u71 u72 u73 u74 u75 u76 u77 u78 u79 u80 u81 u82 : Value) (wx : World), Ext wr wx → K ⟨#[c0, .pointer (some ⟨B, 0, none⟩), c2, .int .i64 (k : Nat), c4, c5, c6, c7, c8, c9, c10, c11, c12, c13, c14, c15, c16, c17, c18, c19, c20, c21, c22, c23, c24, c25, c26, c27, c28, c29, c30, c31, c32, c33, u34, u35, u36, u37, u38, u39, u40, u41, u42, u43, u44, u45, u46, u47, u48, u49, u50, u51, u52, u53, u54, u55, u56, u57, u58, u59, u60, u61, u62, u63, u64, u65, u66, u67, u68, u69, u70, u71, u72, u73, u74, u75, u76, u77, u78, u79, u80, u81, u82, .bool true], df⟩ wx) :
    Code.wp Tryd.prog ck_le_code (AtEnd K) ⟨#[c0, .pointer (some ⟨B, 0, none⟩), c2, .int .i64 (k : Nat), c4, c5, c6, c7, c8, c9, c10, c11, c12, c13, c14, c15, c16, c17, c18, c19, c20, c21, c22, c23, c24, c25, c26, c27, c28, c29, c30, c31, c32, c33, c34, c35, c36, c37, c38, c39, c40, c41, c42, c43, c44, c45, c46, c47, c48, c49, c50, c51, c52, c53, c54, c55, c56, c57, c58, c59, c60, c61, c62, c63, c64, c65, c66, c67, c68, c69, c70, c71, c72, c73, c74, c75, c76, c77, c78, c79, c80, c81, c82, c83], df⟩ wr := by
  conv => arg 2; whnf
  refine region_inv (by kernel_rfl) [[], [0], [], [1, 2], [3], [4], [5], [6], [7, 6], [6], [8, 9, 6], [10, 6], [11, 6], [6, 12], [13, 6], [14], [15, 14], [14], [16, 17, 14], [18, 14], [14], [20, 14], [19, 21, 14], [14, 22], [23, 14], [24], [25, 24], [24], [26, 27, 24], [28, 24], [29, 24], [24, 30], [31, 24], [32], [33, 32], [34, 32, 32], [35], [36, 35], [35], [37, 38, 35], [39, 35], [35], [41, 35], [35], [43, 35], [42, 44, 35], [45, 35], [40, 46, 35], [35, 47, 32], [32, 48]] (by kernel_rfl) [0, 1, 2, 3, 4, 5, 6, 7, 8, 9, 10, 11, 12, 13, 14, 15, 16, 17, 18, 19, 20, 21, 22, 23, 24, 25, 26, 27, 28, 29, 30, 31, 32, 33, 34, 35, 36, 37, 38, 39, 40, 41, 42, 43, 44, 45, 46, 47, 48, 49] (by decide +kernel) (by decide +kernel) (by decide +kernel) (fun L a wc => Inv ck_le_dsts [.pointer (some ⟨B, 1, none⟩), .slice (some fd) nf fc, .int .i64 (k : Nat), .pointer (some (fd.add k)), .int .i64 x, .bool false, .bool false, .pointer (some ⟨B, 1, none⟩), .slice (some fd) nf fc, .int .i64 (k : Nat), .pointer (some (fd.add k)), .int .i64 x, .bool false, .bool false, .bool false, .pointer (some ⟨B, 1, none⟩), .slice (some fd) nf fc, .int .i64 (k : Nat), .pointer (some (fd.add k)), .int .i64 x, .pointer (some ⟨B, 0, none⟩), .int .i64 p, .bool false, .bool false, .bool false, .pointer (some ⟨B, 2, none⟩), .slice (some cd) nf cc, .int .i64 (k : Nat), .pointer (some (cd.add k)), bv q, .bool false, .bool false, .bool false, .int .i64 (k : Nat), .bool true, .bool true, .pointer (some ⟨B, 1, none⟩), .slice (some fd) nf fc, .int .i64 (k : Nat), .pointer (some (fd.add k)), .int .i64 x, .pointer (some ⟨B, 1, none⟩), .slice (some fd) nf fc, .int .i64 (k : Nat), .int .i64 (j : Nat), .pointer (some (fd.add j)), .int .i64 y, .bool true, .bool true, .bool true] ⟨#[c0, .pointer (some ⟨B, 0, none⟩), c2, .int .i64 (k : Nat), c4, c5, c6, c7, c8, c9, c10, c11, c12, c13, c14, c15, c16, c17, c18, c19, c20, c21, c22, c23, c24, c25, c26, c27, c28, c29, c30, c31, c32, c33, c34, c35, c36, c37, c38, c39, c40, c41, c42, c43, c44, c45, c46, c47, c48, c49, c50, c51, c52, c53, c54, c55, c56, c57, c58, c59, c60, c61, c62, c63, c64, c65, c66, c67, c68, c69, c70, c71, c72, c73, c74, c75, c76, c77, c78, c79, c80, c81, c82, c83], df⟩ L a ∧ Hid (Ext wr wc)) ⟨Inv.start, Lib.hid ((Ext.refl wr).drew)⟩ ?_ ?_
  · refine ⟨?_, ?_, ?_, ?_, ?_, ?_, ?_, ?_, ?_, ?_, ?_, ?_, ?_, ?_, ?_, ?_, ?_, ?_, ?_, ?_, ?_, ?_, ?_, ?_, ?_, ?_, ?_, ?_, ?_, ?_, ?_, ?_, ?_, ?_, ?_, ?_, ?_, ?_, ?_, ?_, ?_, ?_, ?_, ?_, ?_, ?_, ?_, ?_, ?_, ?_, trivial⟩
    ·
      rintro L a wc ⟨hv, HO⟩ hL hc hd
      exact wpOp_val rfl rfl (ex_field rfl ((hv.fixed 1 (by decide)).trans rfl) (by go_simp)) ⟨hv.put ck_le_apart 0 rfl (lb rfl) (lb rfl) rfl, HO⟩
    ·
      rintro L a wc ⟨hv, HO⟩ hL hc hd
      have h0 : wc.cell? ⟨B, 1, none⟩ = some (.slice (some fd) nf fc) := HO.out.cell (HB.out 1 _ rfl)
      exact wpOp_val rfl rfl (ex_load rfl (hv.get 0 rfl rfl (hd 0 (by decide))) (by go_simp)) ⟨hv.put ck_le_apart 1 rfl (lb rfl) (lb rfl) rfl, HO⟩
    ·
      rintro L a wc ⟨hv, HO⟩ hL hc hd
      exact wpOp_val rfl rfl (ex_move rfl ((hv.fixed 3 (by decide)).trans rfl)) ⟨hv.put ck_le_apart 2 rfl (lb rfl) (lb rfl) rfl, HO⟩
    ·
      rintro L a wc ⟨hv, HO⟩ hL hc hd
      have u1 : (0 : Int) ≤ (k : Int) := by omega
      have u2 : (k : Int) < (nf : Int) := by omega
      exact wpOp_val rfl rfl (ex_index rfl (hv.get 1 rfl rfl (hd 1 (by decide))) (hv.get 2 rfl rfl (hd 2 (by decide))) (by go_simp)) ⟨hv.put ck_le_apart 3 rfl (lb rfl) (lb rfl) rfl, HO⟩
    ·
      rintro L a wc ⟨hv, HO⟩ hL hc hd
      have h0 : wc.cell? (fd.add k) = some (.int .i64 x) := HO.out.cell hx
      exact wpOp_val rfl rfl (ex_load rfl (hv.get 3 rfl rfl (hd 3 (by decide))) (by go_simp)) ⟨hv.put ck_le_apart 4 rfl (lb rfl) (lb rfl) rfl, HO⟩
    ·
      rintro L a wc ⟨hv, HO⟩ hL hc hd
      have u := H1.out
      exact wpOp_val rfl rfl (ex_bin rfl (hv.get 4 rfl rfl (hd 4 (by decide))) rfl (by go_simp)) ⟨hv.put ck_le_apart 5 rfl (lb rfl) (lb rfl) rfl, HO⟩
    ·
      rintro L a wc ⟨hv, HO⟩ hL hc hd
      exact wpOp_val rfl rfl (ex_move rfl (hv.get 5 rfl rfl (hd 5 (by decide)))) ⟨hv.put ck_le_apart 6 rfl (lb rfl) (lb rfl) rfl, HO⟩
    ·
      rintro L a wc ⟨hv, HO⟩ hL hc hd
      exact wpOp_val rfl ((wanted_at rfl rfl (hv.get 6 rfl rfl (hd 6 (by decide)))).trans rfl) (ex_field rfl ((hv.fixed 1 (by decide)).trans rfl) (by go_simp)) ⟨hv.put ck_le_apart 7 rfl (lb rfl) (lb rfl) rfl, HO⟩
    ·
      rintro L a wc ⟨hv, HO⟩ hL hc hd
      have h0 : wc.cell? ⟨B, 1, none⟩ = some (.slice (some fd) nf fc) := HO.out.cell (HB.out 1 _ rfl)
      exact wpOp_val rfl ((wanted_at rfl rfl (hv.get 6 rfl rfl (hd 6 (by decide)))).trans rfl) (ex_load rfl (hv.get 7 rfl rfl (hd 7 (by decide))) (by go_simp)) ⟨hv.put ck_le_apart 8 rfl (lb rfl) (lb rfl) rfl, HO⟩
    ·
      rintro L a wc ⟨hv, HO⟩ hL hc hd
      exact wpOp_val rfl ((wanted_at rfl rfl (hv.get 6 rfl rfl (hd 6 (by decide)))).trans rfl) (ex_move rfl ((hv.fixed 3 (by decide)).trans rfl)) ⟨hv.put ck_le_apart 9 rfl (lb rfl) (lb rfl) rfl, HO⟩
    ·
      rintro L a wc ⟨hv, HO⟩ hL hc hd
      have u1 : (0 : Int) ≤ (k : Int) := by omega
      have u2 : (k : Int) < (nf : Int) := by omega
      exact wpOp_val rfl ((wanted_at rfl rfl (hv.get 6 rfl rfl (hd 6 (by decide)))).trans rfl) (ex_index rfl (hv.get 8 rfl rfl (hd 8 (by decide))) (hv.get 9 rfl rfl (hd 9 (by decide))) (by go_simp)) ⟨hv.put ck_le_apart 10 rfl (lb rfl) (lb rfl) rfl, HO⟩
    ·
      rintro L a wc ⟨hv, HO⟩ hL hc hd
      have h0 : wc.cell? (fd.add k) = some (.int .i64 x) := HO.out.cell hx
      exact wpOp_val rfl ((wanted_at rfl rfl (hv.get 6 rfl rfl (hd 6 (by decide)))).trans rfl) (ex_load rfl (hv.get 10 rfl rfl (hd 10 (by decide))) (by go_simp)) ⟨hv.put ck_le_apart 11 rfl (lb rfl) (lb rfl) rfl, HO⟩
    ·
      rintro L a wc ⟨hv, HO⟩ hL hc hd
      have u := H2.out
      exact wpOp_val rfl ((wanted_at rfl rfl (hv.get 6 rfl rfl (hd 6 (by decide)))).trans rfl) (ex_bin rfl (hv.get 11 rfl rfl (hd 11 (by decide))) rfl (by go_simp)) ⟨hv.put ck_le_apart 12 rfl (lb rfl) (lb rfl) rfl, HO⟩
    ·
      rintro L a wc ⟨hv, HO⟩ hL hc hd
      exact wpOp_val rfl rfl (ex_pick rfl (hv.get 6 rfl rfl (hd 6 (by decide))) (hv.get 12 rfl rfl (hd 12 (by decide)))) ⟨hv.put ck_le_apart 13 rfl (lb rfl) (lb rfl) rfl, HO⟩
    ·
      rintro L a wc ⟨hv, HO⟩ hL hc hd
      exact wpOp_val rfl rfl (ex_move rfl (hv.get 13 rfl rfl (hd 13 (by decide)))) ⟨hv.put ck_le_apart 14 rfl (lb rfl) (lb rfl) rfl, HO⟩
    ·
      rintro L a wc ⟨hv, HO⟩ hL hc hd
      exact wpOp_val rfl ((wanted_at rfl rfl (hv.get 14 rfl rfl (hd 14 (by decide)))).trans rfl) (ex_field rfl ((hv.fixed 1 (by decide)).trans rfl) (by go_simp)) ⟨hv.put ck_le_apart 15 rfl (lb rfl) (lb rfl) rfl, HO⟩
    ·
      rintro L a wc ⟨hv, HO⟩ hL hc hd
      have h0 : wc.cell? ⟨B, 1, none⟩ = some (.slice (some fd) nf fc) := HO.out.cell (HB.out 1 _ rfl)
      exact wpOp_val rfl ((wanted_at rfl rfl (hv.get 14 rfl rfl (hd 14 (by decide)))).trans rfl) (ex_load rfl (hv.get 15 rfl rfl (hd 15 (by decide))) (by go_simp)) ⟨hv.put ck_le_apart 16 rfl (lb rfl) (lb rfl) rfl, HO⟩
    ·
      rintro L a wc ⟨hv, HO⟩ hL hc hd
      exact wpOp_val rfl ((wanted_at rfl rfl (hv.get 14 rfl rfl (hd 14 (by decide)))).trans rfl) (ex_move rfl ((hv.fixed 3 (by decide)).trans rfl)) ⟨hv.put ck_le_apart 17 rfl (lb rfl) (lb rfl) rfl, HO⟩
    ·
      rintro L a wc ⟨hv, HO⟩ hL hc hd
      have u1 : (0 : Int) ≤ (k : Int) := by omega
      have u2 : (k : Int) < (nf : Int) := by omega
      exact wpOp_val rfl ((wanted_at rfl rfl (hv.get 14 rfl rfl (hd 14 (by decide)))).trans rfl) (ex_index rfl (hv.get 16 rfl rfl (hd 16 (by decide))) (hv.get 17 rfl rfl (hd 17 (by decide))) (by go_simp)) ⟨hv.put ck_le_apart 18 rfl (lb rfl) (lb rfl) rfl, HO⟩
    ·
      rintro L a wc ⟨hv, HO⟩ hL hc hd
      have h0 : wc.cell? (fd.add k) = some (.int .i64 x) := HO.out.cell hx
      exact wpOp_val rfl ((wanted_at rfl rfl (hv.get 14 rfl rfl (hd 14 (by decide)))).trans rfl) (ex_load rfl (hv.get 18 rfl rfl (hd 18 (by decide))) (by go_simp)) ⟨hv.put ck_le_apart 19 rfl (lb rfl) (lb rfl) rfl, HO⟩
    ·
      rintro L a wc ⟨hv, HO⟩ hL hc hd
      exact wpOp_val rfl ((wanted_at rfl rfl (hv.get 14 rfl rfl (hd 14 (by decide)))).trans rfl) (ex_field rfl ((hv.fixed 1 (by decide)).trans rfl) (by go_simp)) ⟨hv.put ck_le_apart 20 rfl (lb rfl) (lb rfl) rfl, HO⟩
    ·
      rintro L a wc ⟨hv, HO⟩ hL hc hd
      have h0 : wc.cell? ⟨B, 0, none⟩ = some (.int .i64 p) := HO.out.cell (HB.out 0 _ rfl)
      exact wpOp_val rfl ((wanted_at rfl rfl (hv.get 14 rfl rfl (hd 14 (by decide)))).trans rfl) (ex_load rfl (hv.get 20 rfl rfl (hd 20 (by decide))) (by go_simp)) ⟨hv.put ck_le_apart 21 rfl (lb rfl) (lb rfl) rfl, HO⟩
    ·
      rintro L a wc ⟨hv, HO⟩ hL hc hd
      have u := H3.out
      exact wpOp_val rfl ((wanted_at rfl rfl (hv.get 14 rfl rfl (hd 14 (by decide)))).trans rfl) (ex_bin rfl (hv.get 19 rfl rfl (hd 19 (by decide))) (hv.get 21 rfl rfl (hd 21 (by decide))) (by go_simp)) ⟨hv.put ck_le_apart 22 rfl (lb rfl) (lb rfl) rfl, HO⟩
    ·
      rintro L a wc ⟨hv, HO⟩ hL hc hd
      exact wpOp_val rfl rfl (ex_pick rfl (hv.get 14 rfl rfl (hd 14 (by decide))) (hv.get 22 rfl rfl (hd 22 (by decide)))) ⟨hv.put ck_le_apart 23 rfl (lb rfl) (lb rfl) rfl, HO⟩
    ·
      rintro L a wc ⟨hv, HO⟩ hL hc hd
      exact wpOp_val rfl rfl (ex_move rfl (hv.get 23 rfl rfl (hd 23 (by decide)))) ⟨hv.put ck_le_apart 24 rfl (lb rfl) (lb rfl) rfl, HO⟩
    ·
      rintro L a wc ⟨hv, HO⟩ hL hc hd
      exact wpOp_val rfl ((wanted_at rfl rfl (hv.get 24 rfl rfl (hd 24 (by decide)))).trans rfl) (ex_field rfl ((hv.fixed 1 (by decide)).trans rfl) (by go_simp)) ⟨hv.put ck_le_apart 25 rfl (lb rfl) (lb rfl) rfl, HO⟩
    ·
      rintro L a wc ⟨hv, HO⟩ hL hc hd
      have h0 : wc.cell? ⟨B, 2, none⟩ = some (.slice (some cd) nf cc) := HO.out.cell (HB.out 2 _ rfl)
      exact wpOp_val rfl ((wanted_at rfl rfl (hv.get 24 rfl rfl (hd 24 (by decide)))).trans rfl) (ex_load rfl (hv.get 25 rfl rfl (hd 25 (by decide))) (by go_simp)) ⟨hv.put ck_le_apart 26 rfl (lb rfl) (lb rfl) rfl, HO⟩
    ·
      rintro L a wc ⟨hv, HO⟩ hL hc hd
      exact wpOp_val rfl ((wanted_at rfl rfl (hv.get 24 rfl rfl (hd 24 (by decide)))).trans rfl) (ex_move rfl ((hv.fixed 3 (by decide)).trans rfl)) ⟨hv.put ck_le_apart 27 rfl (lb rfl) (lb rfl) rfl, HO⟩
    ·
      rintro L a wc ⟨hv, HO⟩ hL hc hd
      have u1 : (0 : Int) ≤ (k : Int) := by omega
      have u2 : (k : Int) < (nf : Int) := by omega
      exact wpOp_val rfl ((wanted_at rfl rfl (hv.get 24 rfl rfl (hd 24 (by decide)))).trans rfl) (ex_index rfl (hv.get 26 rfl rfl (hd 26 (by decide))) (hv.get 27 rfl rfl (hd 27 (by decide))) (by go_simp)) ⟨hv.put ck_le_apart 28 rfl (lb rfl) (lb rfl) rfl, HO⟩
    ·
      rintro L a wc ⟨hv, HO⟩ hL hc hd
      have h0 : wc.cell? (cd.add k) = some (bv q) := HO.out.cell hq
      exact wpOp_val rfl ((wanted_at rfl rfl (hv.get 24 rfl rfl (hd 24 (by decide)))).trans rfl) (ex_load rfl (hv.get 28 rfl rfl (hd 28 (by decide))) (by go_simp)) ⟨hv.put ck_le_apart 29 rfl (lb rfl) (lb rfl) rfl, HO⟩
    ·
      rintro L a wc ⟨hv, HO⟩ hL hc hd
      have u := H4.out
      exact wpOp_val rfl ((wanted_at rfl rfl (hv.get 24 rfl rfl (hd 24 (by decide)))).trans rfl) (ex_bin rfl (hv.get 29 rfl rfl (hd 29 (by decide))) rfl (by go_simp)) ⟨hv.put ck_le_apart 30 rfl (lb rfl) (lb rfl) rfl, HO⟩
    ·
      rintro L a wc ⟨hv, HO⟩ hL hc hd
      exact wpOp_val rfl rfl (ex_pick rfl (hv.get 24 rfl rfl (hd 24 (by decide))) (hv.get 30 rfl rfl (hd 30 (by decide)))) ⟨hv.put ck_le_apart 31 rfl (lb rfl) (lb rfl) rfl, HO⟩
    ·
      rintro L a wc ⟨hv, HO⟩ hL hc hd
      exact wpOp_val rfl rfl (ex_move rfl (hv.get 31 rfl rfl (hd 31 (by decide)))) ⟨hv.put ck_le_apart 32 rfl (lb rfl) (lb rfl) rfl, HO⟩
    ·
      rintro L a wc ⟨hv, HO⟩ hL hc hd
      exact wpOp_val rfl ((wanted_at rfl rfl (hv.get 32 rfl rfl (hd 32 (by decide)))).trans rfl) (ex_move rfl ((hv.fixed 3 (by decide)).trans rfl)) ⟨hv.put ck_le_apart 33 rfl (lb rfl) (lb rfl) rfl, HO⟩
    ·
      rintro L a wc ⟨hv, HO⟩ hL hc hd
      have u9 := H5.out
      have u : 0 < k := by omega
      have u2 : (0 : Int) < (k : Int) := by omega
      clear u9
      exact wpOp_val rfl ((wanted_at rfl rfl (hv.get 32 rfl rfl (hd 32 (by decide)))).trans rfl) (ex_bin rfl (hv.get 33 rfl rfl (hd 33 (by decide))) rfl (by go_simp)) ⟨hv.put ck_le_apart 34 rfl (lb rfl) (lb rfl) rfl, HO⟩
    ·
      rintro L a wc ⟨hv, HO⟩ hL hc hd
      exact wpOp_val rfl ((wanted_at rfl rfl (hv.get 32 rfl rfl (hd 32 (by decide)))).trans rfl) (ex_move rfl (hv.get 34 rfl rfl (hd 34 (by decide)))) ⟨hv.put ck_le_apart 35 rfl (lb rfl) (lb rfl) rfl, HO⟩
    ·
      rintro L a wc ⟨hv, HO⟩ hL hc hd
      exact wpOp_val rfl ((wanted_at rfl rfl (hv.get 35 rfl rfl (hd 35 (by decide)))).trans rfl) (ex_field rfl ((hv.fixed 1 (by decide)).trans rfl) (by go_simp)) ⟨hv.put ck_le_apart 36 rfl (lb rfl) (lb rfl) rfl, HO⟩
    ·
      rintro L a wc ⟨hv, HO⟩ hL hc hd
      have h0 : wc.cell? ⟨B, 1, none⟩ = some (.slice (some fd) nf fc) := HO.out.cell (HB.out 1 _ rfl)
      exact wpOp_val rfl ((wanted_at rfl rfl (hv.get 35 rfl rfl (hd 35 (by decide)))).trans rfl) (ex_load rfl (hv.get 36 rfl rfl (hd 36 (by decide))) (by go_simp)) ⟨hv.put ck_le_apart 37 rfl (lb rfl) (lb rfl) rfl, HO⟩
    ·
      rintro L a wc ⟨hv, HO⟩ hL hc hd
      exact wpOp_val rfl ((wanted_at rfl rfl (hv.get 35 rfl rfl (hd 35 (by decide)))).trans rfl) (ex_move rfl ((hv.fixed 3 (by decide)).trans rfl)) ⟨hv.put ck_le_apart 38 rfl (lb rfl) (lb rfl) rfl, HO⟩
    ·
      rintro L a wc ⟨hv, HO⟩ hL hc hd
      have u1 : (0 : Int) ≤ (k : Int) := by omega
      have u2 : (k : Int) < (nf : Int) := by omega
      exact wpOp_val rfl ((wanted_at rfl rfl (hv.get 35 rfl rfl (hd 35 (by decide)))).trans rfl) (ex_index rfl (hv.get 37 rfl rfl (hd 37 (by decide))) (hv.get 38 rfl rfl (hd 38 (by decide))) (by go_simp)) ⟨hv.put ck_le_apart 39 rfl (lb rfl) (lb rfl) rfl, HO⟩
    ·
      rintro L a wc ⟨hv, HO⟩ hL hc hd
      have h0 : wc.cell? (fd.add k) = some (.int .i64 x) := HO.out.cell hx
      exact wpOp_val rfl ((wanted_at rfl rfl (hv.get 35 rfl rfl (hd 35 (by decide)))).trans rfl) (ex_load rfl (hv.get 39 rfl rfl (hd 39 (by decide))) (by go_simp)) ⟨hv.put ck_le_apart 40 rfl (lb rfl) (lb rfl) rfl, HO⟩
    ·
      rintro L a wc ⟨hv, HO⟩ hL hc hd
      exact wpOp_val rfl ((wanted_at rfl rfl (hv.get 35 rfl rfl (hd 35 (by decide)))).trans rfl) (ex_field rfl ((hv.fixed 1 (by decide)).trans rfl) (by go_simp)) ⟨hv.put ck_le_apart 41 rfl (lb rfl) (lb rfl) rfl, HO⟩
    ·
      rintro L a wc ⟨hv, HO⟩ hL hc hd
      have h0 : wc.cell? ⟨B, 1, none⟩ = some (.slice (some fd) nf fc) := HO.out.cell (HB.out 1 _ rfl)
      exact wpOp_val rfl ((wanted_at rfl rfl (hv.get 35 rfl rfl (hd 35 (by decide)))).trans rfl) (ex_load rfl (hv.get 41 rfl rfl (hd 41 (by decide))) (by go_simp)) ⟨hv.put ck_le_apart 42 rfl (lb rfl) (lb rfl) rfl, HO⟩
    ·
      rintro L a wc ⟨hv, HO⟩ hL hc hd
      exact wpOp_val rfl ((wanted_at rfl rfl (hv.get 35 rfl rfl (hd 35 (by decide)))).trans rfl) (ex_move rfl ((hv.fixed 3 (by decide)).trans rfl)) ⟨hv.put ck_le_apart 43 rfl (lb rfl) (lb rfl) rfl, HO⟩
    ·
      rintro L a wc ⟨hv, HO⟩ hL hc hd
      have u9 := H5.out
      have u : wrap64 ((k : Int) - 1) = (j : Int) := by unfold wrap64; omega
      have u2 : IntKind.i64.wrap ((k : Int) - 1) = (j : Int) := by rw [IntKind.wrap_i64]; omega
      clear u9
      exact wpOp_val rfl ((wanted_at rfl rfl (hv.get 35 rfl rfl (hd 35 (by decide)))).trans rfl) (ex_bin rfl (hv.get 43 rfl rfl (hd 43 (by decide))) rfl (by go_simp)) ⟨hv.put ck_le_apart 44 rfl (lb rfl) (lb rfl) rfl, HO⟩
    ·
      rintro L a wc ⟨hv, HO⟩ hL hc hd
      have u9 := H5.out
      have u1 : (0 : Int) ≤ (j : Int) := by omega
      have u2 : (j : Int) < (nf : Int) := by omega
      clear u9
      exact wpOp_val rfl ((wanted_at rfl rfl (hv.get 35 rfl rfl (hd 35 (by decide)))).trans rfl) (ex_index rfl (hv.get 42 rfl rfl (hd 42 (by decide))) (hv.get 44 rfl rfl (hd 44 (by decide))) (by go_simp)) ⟨hv.put ck_le_apart 45 rfl (lb rfl) (lb rfl) rfl, HO⟩
    ·
      rintro L a wc ⟨hv, HO⟩ hL hc hd
      have h0 : wc.cell? (fd.add j) = some (.int .i64 y) := HO.out.cell hy
      exact wpOp_val rfl ((wanted_at rfl rfl (hv.get 35 rfl rfl (hd 35 (by decide)))).trans rfl) (ex_load rfl (hv.get 45 rfl rfl (hd 45 (by decide))) (by go_simp)) ⟨hv.put ck_le_apart 46 rfl (lb rfl) (lb rfl) rfl, HO⟩
    ·
      rintro L a wc ⟨hv, HO⟩ hL hc hd
      have u := H6.out
      exact wpOp_val rfl ((wanted_at rfl rfl (hv.get 35 rfl rfl (hd 35 (by decide)))).trans rfl) (ex_bin rfl (hv.get 40 rfl rfl (hd 40 (by decide))) (hv.get 46 rfl rfl (hd 46 (by decide))) (by go_simp)) ⟨hv.put ck_le_apart 47 rfl (lb rfl) (lb rfl) rfl, HO⟩
    ·
      rintro L a wc ⟨hv, HO⟩ hL hc hd
      exact wpOp_val rfl ((wanted_at rfl rfl (hv.get 32 rfl rfl (hd 32 (by decide)))).trans rfl) (ex_pick rfl (hv.get 35 rfl rfl (hd 35 (by decide))) (hv.get 47 rfl rfl (hd 47 (by decide)))) ⟨hv.put ck_le_apart 48 rfl (lb rfl) (lb rfl) rfl, HO⟩
    ·
      rintro L a wc ⟨hv, HO⟩ hL hc hd
      exact wpOp_val rfl rfl (ex_pick rfl (hv.get 32 rfl rfl (hd 32 (by decide))) (hv.get 48 rfl rfl (hd 48 (by decide)))) ⟨hv.put ck_le_apart 49 rfl (lb rfl) (lb rfl) rfl, HO⟩
  · rintro L a wc ⟨hv, HO⟩ hall
    show K a wc
    have ha := act_lit a
    rw [hv.size, hv.defers] at ha
    have hl : ∀ f : Nat → Value, ((List.range (⟨#[c0, .pointer (some ⟨B, 0, none⟩), c2, .int .i64 (k : Nat), c4, c5, c6, c7, c8, c9, c10, c11, c12, c13, c14, c15, c16, c17, c18, c19, c20, c21, c22, c23, c24, c25, c26, c27, c28, c29, c30, c31, c32, c33, c34, c35, c36, c37, c38, c39, c40, c41, c42, c43, c44, c45, c46, c47, c48, c49, c50, c51, c52, c53, c54, c55, c56, c57, c58, c59, c60, c61, c62, c63, c64, c65, c66, c67, c68, c69, c70, c71, c72, c73, c74, c75, c76, c77, c78, c79, c80, c81, c82, c83], df⟩ : Act).tmps.size).map f).toArray = #[f 0, f 1, f 2, f 3, f 4, f 5, f 6, f 7, f 8, f 9, f 10, f 11, f 12, f 13, f 14, f 15, f 16, f 17, f 18, f 19, f 20, f 21, f 22, f 23, f 24, f 25, f 26, f 27, f 28, f 29, f 30, f 31, f 32, f 33, f 34, f 35, f 36, f 37, f 38, f 39, f 40, f 41, f 42, f 43, f 44, f 45, f 46, f 47, f 48, f 49, f 50, f 51, f 52, f 53, f 54, f 55, f 56, f 57, f 58, f 59, f 60, f 61, f 62, f 63, f 64, f 65, f 66, f 67, f 68, f 69, f 70, f 71, f 72, f 73, f 74, f 75, f 76, f 77, f 78, f 79, f 80, f 81, f 82, f 83] := fun _ => rfl
    rw [hl] at ha
    simp only [hv.fixed 0 (by decide), hv.fixed 1 (by decide), hv.fixed 2 (by decide), hv.fixed 3 (by decide), hv.fixed 4 (by decide), hv.fixed 5 (by decide), hv.fixed 6 (by decide), hv.fixed 7 (by decide), hv.fixed 8 (by decide), hv.fixed 9 (by decide), hv.fixed 10 (by decide), hv.fixed 11 (by decide), hv.fixed 12 (by decide), hv.fixed 13 (by decide), hv.fixed 14 (by decide), hv.fixed 15 (by decide), hv.fixed 16 (by decide), hv.fixed 17 (by decide), hv.fixed 18 (by decide), hv.fixed 19 (by decide), hv.fixed 20 (by decide), hv.fixed 21 (by decide), hv.fixed 22 (by decide), hv.fixed 23 (by decide), hv.fixed 24 (by decide), hv.fixed 25 (by decide), hv.fixed 26 (by decide), hv.fixed 27 (by decide), hv.fixed 28 (by decide), hv.fixed 29 (by decide), hv.fixed 30 (by decide), hv.fixed 31 (by decide), hv.fixed 32 (by decide), hv.fixed 33 (by decide), hv.get 49 (d := 83) rfl rfl (hall 49 (by decide))] at ha
    rw [ha]
    exact hK _ _ _ _ _ _ _ _ _ _ _ _ _ _ _ _ _ _ _ _ _ _ _ _ _ _ _ _ _ _ _ _ _ _ _ _ _ _ _ _ _ _ _ _ _ _ _ _ _ wc HO.out
noncomputable def ck_ok_code : Code := ((Tryd.f26.body.bind (regionOf 6)).getD .skip)
def ck_ok_dsts : List (Option Nat) := [some 34, some 35, some 36, some 37, some 38, some 39, some 40, some 41, some 42, some 43, some 44, some 45, some 46, some 47, some 48, some 49, some 50, some 51, some 52, some 53, some 54, some 55, some 56, some 57, some 58, some 59, some 60, some 61, some 62, some 63, some 64, some 65, some 66, some 67, some 68, some 69, some 70, some 71, some 72, some 73, some 74, some 75, some 76, some 77, some 78, some 79, some 80, some 81, some 82, some 83]
theorem ck_ok_apart : apartD ck_ok_dsts = true := by decide +kernel
set_option maxRecDepth 1000000 in
set_option maxHeartbeats 16000000 in
theorem ck_ok (wr : World) (B k nf fc cc : Nat) (p x : Int) (fd cd : Addr) (HB : Hid (Cells wr B [.int .i64 p, .slice (some fd) nf fc, .slice (some cd) nf cc])) (hk : k < nf) (hx : wr.cell? (fd.add k) = some (.int .i64 x)) (H1 : Hid (¬ x < 0)) (H2 : Hid (¬ 24 ≤ x)) (H3 : Hid ((x == p) = false)) (q : UInt8) (hq : wr.cell? (cd.add k) = some (bv q)) (H4 : Hid (((q.toNat : Int) == 0) = false)) (j : Nat) (y : Int) (H5 : Hid (k = j + 1)) (hkb : k ≤ 9223372036854775807) (hy : wr.cell? (fd.add j) = some (.int .i64 y)) (H6 : Hid (¬ x ≤ y)) (c0 c2 c4 c5 c6 c7 c8 c9 c10 c11 c12 c13 c14 c15 c16 c17 c18 c19 c20 c21 c22 c23 c24 c25 c26 c27 c28 c29 c30 c31 c32 c33 c34 c35 c36 c37 c38 c39 c40 c41 c42 c43 c44 c45 c46 c47 c48 c49 c50 c51 c52 c53 c54 c55 c56 c57 c58 c59 c60 c61 c62 c63 c64 c65 c66 c67 c68 c69 c70 c71 c72 c73 c74 c75 c76 c77 c78 c79 c80 c81 c82 c83 : Value) (df : List Deferred) (K : Act → World → Prop)
    (hK : ∀  (u34 u35 u36 u37 u38 u39 u40 u41 u42 u43 u44 u45 u46 u47 u48 u49 u50 u51 u52 u53 u54 u55 u56 u57 u58 u59 u60 u61 u62 u63 u64 u65 u66 u67 u68 u69 u70 u71 u72 u73 u74 u75 u76 u77 u78 u79 u80 u81 u82 : Value) (wx : World), Ext wr wx → K ⟨#[c0, .pointer (some ⟨B, 0, none⟩), c2, .int .i64 (k : Nat), c4, c5, c6, c7, c8, c9, c10, c11, c12, c13, c14, c15, c16, c17, c18, c19, c20, c21, c22, c23, c24, c25, c26, c27, c28, c29, c30, c31, c32, c33, u34, u35, u36, u37, u38, u39, u40, u41, u42, u43, u44, u45, u46, u47, u48, u49, u50, u51, u52, u53, u54, u55, u56, u57, u58, u59, u60, u61, u62, u63, u64, u65, u66, u67, u68, u69, u70, u71, u72, u73, u74, u75, u76, u77, u78, u79, u80, u81, u82, .bool false], df⟩ wx) :
    Code.wp Tryd.prog ck_ok_code (AtEnd K) ⟨#[c0, .pointer (some ⟨B, 0, none⟩), c2, .int .i64 (k : Nat), c4, c5, c6, c7, c8, c9, c10, c11, c12, c13, c14, c15, c16, c17, c18, c19, c20, c21, c22, c23, c24, c25, c26, c27, c28, c29, c30, c31, c32, c33, c34, c35, c36, c37, c38, c39, c40, c41, c42, c43, c44, c45, c46, c47, c48, c49, c50, c51, c52, c53, c54, c55, c56, c57, c58, c59, c60, c61, c62, c63, c64, c65, c66, c67, c68, c69, c70, c71, c72, c73, c74, c75, c76, c77, c78, c79, c80, c81, c82, c83], df⟩ wr := by
  conv => arg 2; whnf
  refine region_inv (by kernel_rfl) [[], [0], [], [1, 2], [3], [4], [5], [6], [7, 6], [6], [8, 9, 6], [10, 6], [11, 6], [6, 12], [13, 6], [14], [15, 14], [14], [16, 17, 14], [18, 14], [14], [20, 14], [19, 21, 14], [14, 22], [23, 14], [24], [25, 24], [24], [26, 27, 24], [28, 24], [29, 24], [24, 30], [31, 24], [32], [33, 32], [34, 32, 32], [35], [36, 35], [35], [37, 38, 35], [39, 35], [35], [41, 35], [35], [43, 35], [42, 44, 35], [45, 35], [40, 46, 35], [35, 47, 32], [32, 48]] (by kernel_rfl) [0, 1, 2, 3, 4, 5, 6, 7, 8, 9, 10, 11, 12, 13, 14, 15, 16, 17, 18, 19, 20, 21, 22, 23, 24, 25, 26, 27, 28, 29, 30, 31, 32, 33, 34, 35, 36, 37, 38, 39, 40, 41, 42, 43, 44, 45, 46, 47, 48, 49] (by decide +kernel) (by decide +kernel) (by decide +kernel) (fun L a wc => Inv ck_ok_dsts [.pointer (some ⟨B, 1, none⟩), .slice (some fd) nf fc, .int .i64 (k : Nat), .pointer (some (fd.add k)), .int .i64 x, .bool false, .bool false, .pointer (some ⟨B, 1, none⟩), .slice (some fd) nf fc, .int .i64 (k : Nat), .pointer (some (fd.add k)), .int .i64 x, .bool false, .bool false, .bool false, .pointer (some ⟨B, 1, none⟩), .slice (some fd) nf fc, .int .i64 (k : Nat), .pointer (some (fd.add k)), .int .i64 x, .pointer (some ⟨B, 0, none⟩), .int .i64 p, .bool false, .bool false, .bool false, .pointer (some ⟨B, 2, none⟩), .slice (some cd) nf cc, .int .i64 (k : Nat), .pointer (some (cd.add k)), bv q, .bool false, .bool false, .bool false, .int .i64 (k : Nat), .bool true, .bool true, .pointer (some ⟨B, 1, none⟩), .slice (some fd) nf fc, .int .i64 (k : Nat), .pointer (some (fd.add k)), .int .i64 x, .pointer (some ⟨B, 1, none⟩), .slice (some fd) nf fc, .int .i64 (k : Nat), .int .i64 (j : Nat), .pointer (some (fd.add j)), .int .i64 y, .bool false, .bool false, .bool false] ⟨#[c0, .pointer (some ⟨B, 0, none⟩), c2, .int .i64 (k : Nat), c4, c5, c6, c7, c8, c9, c10, c11, c12, c13, c14, c15, c16, c17, c18, c19, c20, c21, c22, c23, c24, c25, c26, c27, c28, c29, c30, c31, c32, c33, c34, c35, c36, c37, c38, c39, c40, c41, c42, c43, c44, c45, c46, c47, c48, c49, c50, c51, c52, c53, c54, c55, c56, c57, c58, c59, c60, c61, c62, c63, c64, c65, c66, c67, c68, c69, c70, c71, c72, c73, c74, c75, c76, c77, c78, c79, c80, c81, c82, c83], df⟩ L a ∧ Hid (Ext wr wc)) ⟨Inv.start, Lib.hid ((Ext.refl wr).drew)⟩ ?_ ?_
  · refine ⟨?_, ?_, ?_, ?_, ?_, ?_, ?_, ?_, ?_, ?_, ?_, ?_, ?_, ?_, ?_, ?_, ?_, ?_, ?_, ?_, ?_, ?_, ?_, ?_, ?_, ?_, ?_, ?_, ?_, ?_, ?_, ?_, ?_, ?_, ?_, ?_, ?_, ?_, ?_, ?_, ?_, ?_, ?_, ?_, ?_, ?_, ?_, ?_, ?_, ?_, trivial⟩
    ·
      rintro L a wc ⟨hv, HO⟩ hL hc hd
      exact wpOp_val rfl rfl (ex_field rfl ((hv.fixed 1 (by decide)).trans rfl) (by go_simp)) ⟨hv.put ck_ok_apart 0 rfl (lb rfl) (lb rfl) rfl, HO⟩
    ·
      rintro L a wc ⟨hv, HO⟩ hL hc hd
      have h0 : wc.cell? ⟨B, 1, none⟩ = some (.slice (some fd) nf fc) := HO.out.cell (HB.out 1 _ rfl)
      exact wpOp_val rfl rfl (ex_load rfl (hv.get 0 rfl rfl (hd 0 (by decide))) (by go_simp)) ⟨hv.put ck_ok_apart 1 rfl (lb rfl) (lb rfl) rfl, HO⟩
    ·
      rintro L a wc ⟨hv, HO⟩ hL hc hd
      exact wpOp_val rfl rfl (ex_move rfl ((hv.fixed 3 (by decide)).trans rfl)) ⟨hv.put ck_ok_apart 2 rfl (lb rfl) (lb rfl) rfl, HO⟩
    ·
      rintro L a wc ⟨hv, HO⟩ hL hc hd
      have u1 : (0 : Int) ≤ (k : Int) := by omega
      have u2 : (k : Int) < (nf : Int) := by omega
      exact wpOp_val rfl rfl (ex_index rfl (hv.get 1 rfl rfl (hd 1 (by decide))) (hv.get 2 rfl rfl (hd 2 (by decide))) (by go_simp)) ⟨hv.put ck_ok_apart 3 rfl (lb rfl) (lb rfl) rfl, HO⟩
    ·
      rintro L a wc ⟨hv, HO⟩ hL hc hd
      have h0 : wc.cell? (fd.add k) = some (.int .i64 x) := HO.out.cell hx
      exact wpOp_val rfl rfl (ex_load rfl (hv.get 3 rfl rfl (hd 3 (by decide))) (by go_simp)) ⟨hv.put ck_ok_apart 4 rfl (lb rfl) (lb rfl) rfl, HO⟩
    ·
      rintro L a wc ⟨hv, HO⟩ hL hc hd
      have u := H1.out
      exact wpOp_val rfl rfl (ex_bin rfl (hv.get 4 rfl rfl (hd 4 (by decide))) rfl (by go_simp)) ⟨hv.put ck_ok_apart 5 rfl (lb rfl) (lb rfl) rfl, HO⟩
    ·
      rintro L a wc ⟨hv, HO⟩ hL hc hd
      exact wpOp_val rfl rfl (ex_move rfl (hv.get 5 rfl rfl (hd 5 (by decide)))) ⟨hv.put ck_ok_apart 6 rfl (lb rfl) (lb rfl) rfl, HO⟩
    ·
      rintro L a wc ⟨hv, HO⟩ hL hc hd
      exact wpOp_val rfl ((wanted_at rfl rfl (hv.get 6 rfl rfl (hd 6 (by decide)))).trans rfl) (ex_field rfl ((hv.fixed 1 (by decide)).trans rfl) (by go_simp)) ⟨hv.put ck_ok_apart 7 rfl (lb rfl) (lb rfl) rfl, HO⟩
    ·
      rintro L a wc ⟨hv, HO⟩ hL hc hd
      have h0 : wc.cell? ⟨B, 1, none⟩ = some (.slice (some fd) nf fc) := HO.out.cell (HB.out 1 _ rfl)
      exact wpOp_val rfl ((wanted_at rfl rfl (hv.get 6 rfl rfl (hd 6 (by decide)))).trans rfl) (ex_load rfl (hv.get 7 rfl rfl (hd 7 (by decide))) (by go_simp)) ⟨hv.put ck_ok_apart 8 rfl (lb rfl) (lb rfl) rfl, HO⟩
    ·
      rintro L a wc ⟨hv, HO⟩ hL hc hd
      exact wpOp_val rfl ((wanted_at rfl rfl (hv.get 6 rfl rfl (hd 6 (by decide)))).trans rfl) (ex_move rfl ((hv.fixed 3 (by decide)).trans rfl)) ⟨hv.put ck_ok_apart 9 rfl (lb rfl) (lb rfl) rfl, HO⟩
    ·
      rintro L a wc ⟨hv, HO⟩ hL hc hd
      have u1 : (0 : Int) ≤ (k : Int) := by omega
      have u2 : (k : Int) < (nf : Int) := by omega
      exact wpOp_val rfl ((wanted_at rfl rfl (hv.get 6 rfl rfl (hd 6 (by decide)))).trans rfl) (ex_index rfl (hv.get 8 rfl rfl (hd 8 (by decide))) (hv.get 9 rfl rfl (hd 9 (by decide))) (by go_simp)) ⟨hv.put ck_ok_apart 10 rfl (lb rfl) (lb rfl) rfl, HO⟩
    ·
      rintro L a wc ⟨hv, HO⟩ hL hc hd
      have h0 : wc.cell? (fd.add k) = some (.int .i64 x) := HO.out.cell hx
      exact wpOp_val rfl ((wanted_at rfl rfl (hv.get 6 rfl rfl (hd 6 (by decide)))).trans rfl) (ex_load rfl (hv.get 10 rfl rfl (hd 10 (by decide))) (by go_simp)) ⟨hv.put ck_ok_apart 11 rfl (lb rfl) (lb rfl) rfl, HO⟩
    ·
      rintro L a wc ⟨hv, HO⟩ hL hc hd
      have u := H2.out
      exact wpOp_val rfl ((wanted_at rfl rfl (hv.get 6 rfl rfl (hd 6 (by decide)))).trans rfl) (ex_bin rfl (hv.get 11 rfl rfl (hd 11 (by decide))) rfl (by go_simp)) ⟨hv.put ck_ok_apart 12 rfl (lb rfl) (lb rfl) rfl, HO⟩
    ·
      rintro L a wc ⟨hv, HO⟩ hL hc hd
      exact wpOp_val rfl rfl (ex_pick rfl (hv.get 6 rfl rfl (hd 6 (by decide))) (hv.get 12 rfl rfl (hd 12 (by decide)))) ⟨hv.put ck_ok_apart 13 rfl (lb rfl) (lb rfl) rfl, HO⟩
    ·
      rintro L a wc ⟨hv, HO⟩ hL hc hd
      exact wpOp_val rfl rfl (ex_move rfl (hv.get 13 rfl rfl (hd 13 (by decide)))) ⟨hv.put ck_ok_apart 14 rfl (lb rfl) (lb rfl) rfl, HO⟩
    ·
      rintro L a wc ⟨hv, HO⟩ hL hc hd
      exact wpOp_val rfl ((wanted_at rfl rfl (hv.get 14 rfl rfl (hd 14 (by decide)))).trans rfl) (ex_field rfl ((hv.fixed 1 (by decide)).trans rfl) (by go_simp)) ⟨hv.put ck_ok_apart 15 rfl (lb rfl) (lb rfl) rfl, HO⟩
    ·
      rintro L a wc ⟨hv, HO⟩ hL hc hd
      have h0 : wc.cell? ⟨B, 1, none⟩ = some (.slice (some fd) nf fc) := HO.out.cell (HB.out 1 _ rfl)
      exact wpOp_val rfl ((wanted_at rfl rfl (hv.get 14 rfl rfl (hd 14 (by decide)))).trans rfl) (ex_load rfl (hv.get 15 rfl rfl (hd 15 (by decide))) (by go_simp)) ⟨hv.put ck_ok_apart 16 rfl (lb rfl) (lb rfl) rfl, HO⟩
    ·
      rintro L a wc ⟨hv, HO⟩ hL hc hd
      exact wpOp_val rfl ((wanted_at rfl rfl (hv.get 14 rfl rfl (hd 14 (by decide)))).trans rfl) (ex_move rfl ((hv.fixed 3 (by decide)).trans rfl)) ⟨hv.put ck_ok_apart 17 rfl (lb rfl) (lb rfl) rfl, HO⟩
    ·
      rintro L a wc ⟨hv, HO⟩ hL hc hd
      have u1 : (0 : Int) ≤ (k : Int) := by omega
      have u2 : (k : Int) < (nf : Int) := by omega
      exact wpOp_val rfl ((wanted_at rfl rfl (hv.get 14 rfl rfl (hd 14 (by decide)))).trans rfl) (ex_index rfl (hv.get 16 rfl rfl (hd 16 (by decide))) (hv.get 17 rfl rfl (hd 17 (by decide))) (by go_simp)) ⟨hv.put ck_ok_apart 18 rfl (lb rfl) (lb rfl) rfl, HO⟩
    ·
      rintro L a wc ⟨hv, HO⟩ hL hc hd
      have h0 : wc.cell? (fd.add k) = some (.int .i64 x) := HO.out.cell hx
      exact wpOp_val rfl ((wanted_at rfl rfl (hv.get 14 rfl rfl (hd 14 (by decide)))).trans rfl) (ex_load rfl (hv.get 18 rfl rfl (hd 18 (by decide))) (by go_simp)) ⟨hv.put ck_ok_apart 19 rfl (lb rfl) (lb rfl) rfl, HO⟩
    ·
      rintro L a wc ⟨hv, HO⟩ hL hc hd
      exact wpOp_val rfl ((wanted_at rfl rfl (hv.get 14 rfl rfl (hd 14 (by decide)))).trans rfl) (ex_field rfl ((hv.fixed 1 (by decide)).trans rfl) (by go_simp)) ⟨hv.put ck_ok_apart 20 rfl (lb rfl) (lb rfl) rfl, HO⟩
    ·
      rintro L a wc ⟨hv, HO⟩ hL hc hd
      have h0 : wc.cell? ⟨B, 0, none⟩ = some (.int .i64 p) := HO.out.cell (HB.out 0 _ rfl)
      exact wpOp_val rfl ((wanted_at rfl rfl (hv.get 14 rfl rfl (hd 14 (by decide)))).trans rfl) (ex_load rfl (hv.get 20 rfl rfl (hd 20 (by decide))) (by go_simp)) ⟨hv.put ck_ok_apart 21 rfl (lb rfl) (lb rfl) rfl, HO⟩
    ·
      rintro L a wc ⟨hv, HO⟩ hL hc hd
      have u := H3.out
      exact wpOp_val rfl ((wanted_at rfl rfl (hv.get 14 rfl rfl (hd 14 (by decide)))).trans rfl) (ex_bin rfl (hv.get 19 rfl rfl (hd 19 (by decide))) (hv.get 21 rfl rfl (hd 21 (by decide))) (by go_simp)) ⟨hv.put ck_ok_apart 22 rfl (lb rfl) (lb rfl) rfl, HO⟩
    ·
      rintro L a wc ⟨hv, HO⟩ hL hc hd
      exact wpOp_val rfl rfl (ex_pick rfl (hv.get 14 rfl rfl (hd 14 (by decide))) (hv.get 22 rfl rfl (hd 22 (by decide)))) ⟨hv.put ck_ok_apart 23 rfl (lb rfl) (lb rfl) rfl, HO⟩
    ·
      rintro L a wc ⟨hv, HO⟩ hL hc hd
      exact wpOp_val rfl rfl (ex_move rfl (hv.get 23 rfl rfl (hd 23 (by decide)))) ⟨hv.put ck_ok_apart 24 rfl (lb rfl) (lb rfl) rfl, HO⟩
    ·
      rintro L a wc ⟨hv, HO⟩ hL hc hd
      exact wpOp_val rfl ((wanted_at rfl rfl (hv.get 24 rfl rfl (hd 24 (by decide)))).trans rfl) (ex_field rfl ((hv.fixed 1 (by decide)).trans rfl) (by go_simp)) ⟨hv.put ck_ok_apart 25 rfl (lb rfl) (lb rfl) rfl, HO⟩
    ·
      rintro L a wc ⟨hv, HO⟩ hL hc hd
      have h0 : wc.cell? ⟨B, 2, none⟩ = some (.slice (some cd) nf cc) := HO.out.cell (HB.out 2 _ rfl)
      exact wpOp_val rfl ((wanted_at rfl rfl (hv.get 24 rfl rfl (hd 24 (by decide)))).trans rfl) (ex_load rfl (hv.get 25 rfl rfl (hd 25 (by decide))) (by go_simp)) ⟨hv.put ck_ok_apart 26 rfl (lb rfl) (lb rfl) rfl, HO⟩
    ·
      rintro L a wc ⟨hv, HO⟩ hL hc hd
      exact wpOp_val rfl ((wanted_at rfl rfl (hv.get 24 rfl rfl (hd 24 (by decide)))).trans rfl) (ex_move rfl ((hv.fixed 3 (by decide)).trans rfl)) ⟨hv.put ck_ok_apart 27 rfl (lb rfl) (lb rfl) rfl, HO⟩
    ·
      rintro L a wc ⟨hv, HO⟩ hL hc hd
      have u1 : (0 : Int) ≤ (k : Int) := by omega
      have u2 : (k : Int) < (nf : Int) := by omega
      exact wpOp_val rfl ((wanted_at rfl rfl (hv.get 24 rfl rfl (hd 24 (by decide)))).trans rfl) (ex_index rfl (hv.get 26 rfl rfl (hd 26 (by decide))) (hv.get 27 rfl rfl (hd 27 (by decide))) (by go_simp)) ⟨hv.put ck_ok_apart 28 rfl (lb rfl) (lb rfl) rfl, HO⟩
    ·
      rintro L a wc ⟨hv, HO⟩ hL hc hd
      have h0 : wc.cell? (cd.add k) = some (bv q) := HO.out.cell hq
      exact wpOp_val rfl ((wanted_at rfl rfl (hv.get 24 rfl rfl (hd 24 (by decide)))).trans rfl) (ex_load rfl (hv.get 28 rfl rfl (hd 28 (by decide))) (by go_simp)) ⟨hv.put ck_ok_apart 29 rfl (lb rfl) (lb rfl) rfl, HO⟩
    ·
      rintro L a wc ⟨hv, HO⟩ hL hc hd
      have u := H4.out
      exact wpOp_val rfl ((wanted_at rfl rfl (hv.get 24 rfl rfl (hd 24 (by decide)))).trans rfl) (ex_bin rfl (hv.get 29 rfl rfl (hd 29 (by decide))) rfl (by go_simp)) ⟨hv.put ck_ok_apart 30 rfl (lb rfl) (lb rfl) rfl, HO⟩
    ·
      rintro L a wc ⟨hv, HO⟩ hL hc hd
      exact wpOp_val rfl rfl (ex_pick rfl (hv.get 24 rfl rfl (hd 24 (by decide))) (hv.get 30 rfl rfl (hd 30 (by decide)))) ⟨hv.put ck_ok_apart 31 rfl (lb rfl) (lb rfl) rfl, HO⟩
    ·
      rintro L a wc ⟨hv, HO⟩ hL hc hd
      exact wpOp_val rfl rfl (ex_move rfl (hv.get 31 rfl rfl (hd 31 (by decide)))) ⟨hv.put ck_ok_apart 32 rfl (lb rfl) (lb rfl) rfl, HO⟩
    ·
      rintro L a wc ⟨hv, HO⟩ hL hc hd
      exact wpOp_val rfl ((wanted_at rfl rfl (hv.get 32 rfl rfl (hd 32 (by decide)))).trans rfl) (ex_move rfl ((hv.fixed 3 (by decide)).trans rfl)) ⟨hv.put ck_ok_apart 33 rfl (lb rfl) (lb rfl) rfl, HO⟩
    ·
      rintro L a wc ⟨hv, HO⟩ hL hc hd
      have u9 := H5.out
      have u : 0 < k := by omega
      have u2 : (0 : Int) < (k : Int) := by omega
      clear u9
      exact wpOp_val rfl ((wanted_at rfl rfl (hv.get 32 rfl rfl (hd 32 (by decide)))).trans rfl) (ex_bin rfl (hv.get 33 rfl rfl (hd 33 (by decide))) rfl (by go_simp)) ⟨hv.put ck_ok_apart 34 rfl (lb rfl) (lb rfl) rfl, HO⟩
    ·
      rintro L a wc ⟨hv, HO⟩ hL hc hd
      exact wpOp_val rfl ((wanted_at rfl rfl (hv.get 32 rfl rfl (hd 32 (by decide)))).trans rfl) (ex_move rfl (hv.get 34 rfl rfl (hd 34 (by decide)))) ⟨hv.put ck_ok_apart 35 rfl (lb rfl) (lb rfl) rfl, HO⟩
    ·
      rintro L a wc ⟨hv, HO⟩ hL hc hd
      exact wpOp_val rfl ((wanted_at rfl rfl (hv.get 35 rfl rfl (hd 35 (by decide)))).trans rfl) (ex_field rfl ((hv.fixed 1 (by decide)).trans rfl) (by go_simp)) ⟨hv.put ck_ok_apart 36 rfl (lb rfl) (lb rfl) rfl, HO⟩
    ·
      rintro L a wc ⟨hv, HO⟩ hL hc hd
      have h0 : wc.cell? ⟨B, 1, none⟩ = some (.slice (some fd) nf fc) := HO.out.cell (HB.out 1 _ rfl)
      exact wpOp_val rfl ((wanted_at rfl rfl (hv.get 35 rfl rfl (hd 35 (by decide)))).trans rfl) (ex_load rfl (hv.get 36 rfl rfl (hd 36 (by decide))) (by go_simp)) ⟨hv.put ck_ok_apart 37 rfl (lb rfl) (lb rfl) rfl, HO⟩
    ·
      rintro L a wc ⟨hv, HO⟩ hL hc hd
      exact wpOp_val rfl ((wanted_at rfl rfl (hv.get 35 rfl rfl (hd 35 (by decide)))).trans rfl) (ex_move rfl ((hv.fixed 3 (by decide)).trans rfl)) ⟨hv.put ck_ok_apart 38 rfl (lb rfl) (lb rfl) rfl, HO⟩
    ·
      rintro L a wc ⟨hv, HO⟩ hL hc hd
      have u1 : (0 : Int) ≤ (k : Int) := by omega
      have u2 : (k : Int) < (nf : Int) := by omega
      exact wpOp_val rfl ((wanted_at rfl rfl (hv.get 35 rfl rfl (hd 35 (by decide)))).trans rfl) (ex_index rfl (hv.get 37 rfl rfl (hd 37 (by decide))) (hv.get 38 rfl rfl (hd 38 (by decide))) (by go_simp)) ⟨hv.put ck_ok_apart 39 rfl (lb rfl) (lb rfl) rfl, HO⟩
    ·
      rintro L a wc ⟨hv, HO⟩ hL hc hd
      have h0 : wc.cell? (fd.add k) = some (.int .i64 x) := HO.out.cell hx
      exact wpOp_val rfl ((wanted_at rfl rfl (hv.get 35 rfl rfl (hd 35 (by decide)))).trans rfl) (ex_load rfl (hv.get 39 rfl rfl (hd 39 (by decide))) (by go_simp)) ⟨hv.put ck_ok_apart 40 rfl (lb rfl) (lb rfl) rfl, HO⟩
    ·
      rintro L a wc ⟨hv, HO⟩ hL hc hd
      exact wpOp_val rfl ((wanted_at rfl rfl (hv.get 35 rfl rfl (hd 35 (by decide)))).trans rfl) (ex_field rfl ((hv.fixed 1 (by decide)).trans rfl) (by go_simp)) ⟨hv.put ck_ok_apart 41 rfl (lb rfl) (lb rfl) rfl, HO⟩
    ·
      rintro L a wc ⟨hv, HO⟩ hL hc hd
      have h0 : wc.cell? ⟨B, 1, none⟩ = some (.slice (some fd) nf fc) := HO.out.cell (HB.out 1 _ rfl)
      exact wpOp_val rfl ((wanted_at rfl rfl (hv.get 35 rfl rfl (hd 35 (by decide)))).trans rfl) (ex_load rfl (hv.get 41 rfl rfl (hd 41 (by decide))) (by go_simp)) ⟨hv.put ck_ok_apart 42 rfl (lb rfl) (lb rfl) rfl, HO⟩
    ·
      rintro L a wc ⟨hv, HO⟩ hL hc hd
      exact wpOp_val rfl ((wanted_at rfl rfl (hv.get 35 rfl rfl (hd 35 (by decide)))).trans rfl) (ex_move rfl ((hv.fixed 3 (by decide)).trans rfl)) ⟨hv.put ck_ok_apart 43 rfl (lb rfl) (lb rfl) rfl, HO⟩
    ·
      rintro L a wc ⟨hv, HO⟩ hL hc hd
      have u9 := H5.out
      have u : wrap64 ((k : Int) - 1) = (j : Int) := by unfold wrap64; omega
      have u2 : IntKind.i64.wrap ((k : Int) - 1) = (j : Int) := by rw [IntKind.wrap_i64]; omega
      clear u9
      exact wpOp_val rfl ((wanted_at rfl rfl (hv.get 35 rfl rfl (hd 35 (by decide)))).trans rfl) (ex_bin rfl (hv.get 43 rfl rfl (hd 43 (by decide))) rfl (by go_simp)) ⟨hv.put ck_ok_apart 44 rfl (lb rfl) (lb rfl) rfl, HO⟩
    ·
      rintro L a wc ⟨hv, HO⟩ hL hc hd
      have u9 := H5.out
      have u1 : (0 : Int) ≤ (j : Int) := by omega
      have u2 : (j : Int) < (nf : Int) := by omega
      clear u9
      exact wpOp_val rfl ((wanted_at rfl rfl (hv.get 35 rfl rfl (hd 35 (by decide)))).trans rfl) (ex_index rfl (hv.get 42 rfl rfl (hd 42 (by decide))) (hv.get 44 rfl rfl (hd 44 (by decide))) (by go_simp)) ⟨hv.put ck_ok_apart 45 rfl (lb rfl) (lb rfl) rfl, HO⟩
    ·
      rintro L a wc ⟨hv, HO⟩ hL hc hd
      have h0 : wc.cell? (fd.add j) = some (.int .i64 y) := HO.out.cell hy
      exact wpOp_val rfl ((wanted_at rfl rfl (hv.get 35 rfl rfl (hd 35 (by decide)))).trans rfl) (ex_load rfl (hv.get 45 rfl rfl (hd 45 (by decide))) (by go_simp)) ⟨hv.put ck_ok_apart 46 rfl (lb rfl) (lb rfl) rfl, HO⟩
    ·
      rintro L a wc ⟨hv, HO⟩ hL hc hd
      have u := H6.out
      exact wpOp_val rfl ((wanted_at rfl rfl (hv.get 35 rfl rfl (hd 35 (by decide)))).trans rfl) (ex_bin rfl (hv.get 40 rfl rfl (hd 40 (by decide))) (hv.get 46 rfl rfl (hd 46 (by decide))) (by go_simp)) ⟨hv.put ck_ok_apart 47 rfl (lb rfl) (lb rfl) rfl, HO⟩
    ·
      rintro L a wc ⟨hv, HO⟩ hL hc hd
      exact wpOp_val rfl ((wanted_at rfl rfl (hv.get 32 rfl rfl (hd 32 (by decide)))).trans rfl) (ex_pick rfl (hv.get 35 rfl rfl (hd 35 (by decide))) (hv.get 47 rfl rfl (hd 47 (by decide)))) ⟨hv.put ck_ok_apart 48 rfl (lb rfl) (lb rfl) rfl, HO⟩
    ·
      rintro L a wc ⟨hv, HO⟩ hL hc hd
      exact wpOp_val rfl rfl (ex_pick rfl (hv.get 32 rfl rfl (hd 32 (by decide))) (hv.get 48 rfl rfl (hd 48 (by decide)))) ⟨hv.put ck_ok_apart 49 rfl (lb rfl) (lb rfl) rfl, HO⟩
  · rintro L a wc ⟨hv, HO⟩ hall
    show K a wc
    have ha := act_lit a
    rw [hv.size, hv.defers] at ha
    have hl : ∀ f : Nat → Value, ((List.range (⟨#[c0, .pointer (some ⟨B, 0, none⟩), c2, .int .i64 (k : Nat), c4, c5, c6, c7, c8, c9, c10, c11, c12, c13, c14, c15, c16, c17, c18, c19, c20, c21, c22, c23, c24, c25, c26, c27, c28, c29, c30, c31, c32, c33, c34, c35, c36, c37, c38, c39, c40, c41, c42, c43, c44, c45, c46, c47, c48, c49, c50, c51, c52, c53, c54, c55, c56, c57, c58, c59, c60, c61, c62, c63, c64, c65, c66, c67, c68, c69, c70, c71, c72, c73, c74, c75, c76, c77, c78, c79, c80, c81, c82, c83], df⟩ : Act).tmps.size).map f).toArray = #[f 0, f 1, f 2, f 3, f 4, f 5, f 6, f 7, f 8, f 9, f 10, f 11, f 12, f 13, f 14, f 15, f 16, f 17, f 18, f 19, f 20, f 21, f 22, f 23, f 24, f 25, f 26, f 27, f 28, f 29, f 30, f 31, f 32, f 33, f 34, f 35, f 36, f 37, f 38, f 39, f 40, f 41, f 42, f 43, f 44, f 45, f 46, f 47, f 48, f 49, f 50, f 51, f 52, f 53, f 54, f 55, f 56, f 57, f 58, f 59, f 60, f 61, f 62, f 63, f 64, f 65, f 66, f 67, f 68, f 69, f 70, f 71, f 72, f 73, f 74, f 75, f 76, f 77, f 78, f 79, f 80, f 81, f 82, f 83] := fun _ => rfl
    rw [hl] at ha
    simp only [hv.fixed 0 (by decide), hv.fixed 1 (by decide), hv.fixed 2 (by decide), hv.fixed 3 (by decide), hv.fixed 4 (by decide), hv.fixed 5 (by decide), hv.fixed 6 (by decide), hv.fixed 7 (by decide), hv.fixed 8 (by decide), hv.fixed 9 (by decide), hv.fixed 10 (by decide), hv.fixed 11 (by decide), hv.fixed 12 (by decide), hv.fixed 13 (by decide), hv.fixed 14 (by decide), hv.fixed 15 (by decide), hv.fixed 16 (by decide), hv.fixed 17 (by decide), hv.fixed 18 (by decide), hv.fixed 19 (by decide), hv.fixed 20 (by decide), hv.fixed 21 (by decide), hv.fixed 22 (by decide), hv.fixed 23 (by decide), hv.fixed 24 (by decide), hv.fixed 25 (by decide), hv.fixed 26 (by decide), hv.fixed 27 (by decide), hv.fixed 28 (by decide), hv.fixed 29 (by decide), hv.fixed 30 (by decide), hv.fixed 31 (by decide), hv.fixed 32 (by decide), hv.fixed 33 (by decide), hv.get 49 (d := 83) rfl rfl (hall 49 (by decide))] at ha
    rw [ha]
    exact hK _ _ _ _ _ _ _ _ _ _ _ _ _ _ _ _ _ _ _ _ _ _ _ _ _ _ _ _ _ _ _ _ _ _ _ _ _ _ _ _ _ _ _ _ _ _ _ _ _ wc HO.out
set_option maxHeartbeats 8000000 in
set_option maxRecDepth 100000 in
theorem kCheck8_any (r : Rb.Rec) (v : Value) (w : World) (hv : RRec w v r) (hp : -9223372036854775808 ≤ r.piece ∧ r.piece ≤ 9223372036854775807) :
    Calls Tryd.prog 26 #[v] w fun e w' => e = .returned (.int .i64 (Rb.recE r)) ∧ Ext w w' := by
  obtain ⟨F, C, rfl, hF, hC⟩ := hv
  obtain ⟨A, fc, rfl, hl1⟩ := hF.form
  obtain ⟨B, cc, rfl, hl2⟩ := hC.form
  obtain ⟨p, hpp⟩ : ∃ p, r.piece = p := ⟨_, rfl⟩
  obtain ⟨nf, hnf⟩ : ∃ n, r.src.length = n := ⟨_, rfl⟩
  obtain ⟨mf, hmf⟩ : ∃ n, r.coef.length = n := ⟨_, rfl⟩
  rw [hnf] at hF hl1
  rw [hmf] at hC hl2
  have hx0 := (Ext.refl w).alloc (.cells #[.int .i64 p, .slice A nf fc, .slice B mf cc] 30)
  have HR : Hid (Rb.recE r = 0 ↔ 0 ≤ p ∧ p < 24 ∧ nf ≠ 0 ∧ mf = nf ∧ ∀ k, k < nf → Rb.spot r k) := Lib.hid (by
    have h := Rb.ok_spots (r := r)
    rw [hpp, hnf, hmf] at h
    rw [← h]
    constructor
    · intro e
      by_cases ho : Rb.Ok r
      · exact ho
      · rw [Rb.recE_bad ho] at e; exact absurd e (by decide)
    · exact Rb.recE_ok)
  have HR1 : Hid (Rb.recE r = 0 ∨ Rb.recE r = 1) := Lib.hid (by
    by_cases ho : Rb.Ok r
    · exact Or.inl (Rb.recE_ok ho)
    · exact Or.inr (Rb.recE_bad ho))
  have HN : Hid (∀ h : ¬ (0 ≤ p ∧ p < 24 ∧ nf ≠ 0 ∧ mf = nf ∧ ∀ k, k < nf → Rb.spot r k), Rb.recE r = 1) := Lib.hid fun h => by
    rcases HR1.out with h1 | h1
    · exact absurd (HR.out.1 h1) h
    · exact h1
  rw [hpp] at hp ⊢
  rw [hnf, hmf]
  obtain ⟨E, hE⟩ : ∃ E, Rb.recE r = E := ⟨_, rfl⟩
  rw [hE] at HR HN ⊢
  have HX := Lib.hid hx0
  have HF := Lib.hid (Rs.ext RI.ext _ _ _ _ hx0 hF)
  have HC := Lib.hid (Rs.ext RB.ext _ _ _ _ hx0 hC)
  have HB := Lib.hid (cells_new w #[.int .i64 p, .slice A nf fc, .slice B mf cc] 30)
  have HPN := Lib.hid (And.intro hpp (And.intro hnf hmf))
  clear hF hC hx0 hE HR1 hpp hnf hmf
  by_cases q1 : p < 0
  · have HE := Lib.hid (HN.out fun h => by omega)
    go_enter Tryd.func26, Tryd.ntmps26
    go_wp2_with fail
    go_ret
    exact ⟨ret_int HE.out.symm, HX.out⟩
  by_cases q2 : 24 ≤ p
  · have HE := Lib.hid (HN.out fun h => by omega)
    go_enter Tryd.func26, Tryd.ntmps26
    go_wp2_with fail
    go_ret
    exact ⟨ret_int HE.out.symm, HX.out⟩
  by_cases q3 : nf = 0
  · have HE := Lib.hid (HN.out fun h => h.2.2.1 q3)
    have e3 : ((nf : Int) == 0) = true := by rw [q3]; rfl
    clear q3
    go_enter Tryd.func26, Tryd.ntmps26
    go_wp2_with fail
    go_ret
    exact ⟨ret_int HE.out.symm, HX.out⟩
  have e3 : ((nf : Int) == 0) = false := by rw [beq_eq_false_iff_ne]; omega
  by_cases q4 : mf = nf
  case neg =>
    have HE := Lib.hid (HN.out fun h => q4 h.2.2.2.1)
    have e4 : ((mf : Int) != (nf : Int)) = true := by rw [bne_iff_ne]; omega
    clear q4
    go_enter Tryd.func26, Tryd.ntmps26
    go_wp2_with fail
    go_ret
    exact ⟨ret_int HE.out.symm, HX.out⟩
  case pos =>
  subst q4
  have hnf0 : 0 < r.src.length := by have := HPN.out.2.1; omega
  have hmf0 : 0 < r.coef.length := by have := HPN.out.2.2; omega
  obtain ⟨fd, _, hA, _, _⟩ := HF.out.at hnf0
  obtain ⟨cd, _, hB, _, _⟩ := HC.out.at hmf0
  subst hA hB
  have e4 : ((mf : Int) != (mf : Int)) = false := by simp
  go_enter Tryd.func26, Tryd.ntmps26
  go_wp2_with fail
  obtain ⟨BB, hBB⟩ : ∃ x, w.heap.size = x := ⟨_, rfl⟩
  rw [hBB] at HB ⊢
  obtain ⟨w1, hw1⟩ : ∃ x, w.alloc (.cells #[.int .i64 p, .slice (some fd) mf fc, .slice (some cd) mf cc] 30) = x := ⟨_, rfl⟩
  rw [hw1] at HX HF HC HB ⊢
  clear hw1 hBB e3 e4
  go_loopw [3] (fun vk wr => ∃ k : Nat, k ≤ mf ∧ vk = .int .i64 (k : Nat) ∧ Hid (Ext w1 wr ∧ ∀ j, j < k → Rb.spot r j)) (fun vk _ => mf - (intOf vk).toNat)
  case atStart => exact ⟨0, Nat.zero_le _, rfl, Lib.hid ⟨Ext.refl _, fun j hj => absurd hj (by omega)⟩⟩
  case round =>
    obtain ⟨k, hk, rfl, HI⟩ := hrel
    have hxr := HI.out.1
    have HBR := Lib.hid (HB.out.ext hxr)
    have HFR := Lib.hid (Rs.ext RI.ext _ _ _ _ hxr HF.out)
    have HCR := Lib.hid (Rs.ext RB.ext _ _ _ _ hxr HC.out)
    have HXR := Lib.hid (HX.out.trans hxr)
    clear hxr
    have b1 : wr.cell? ⟨BB, 1, none⟩ = some (.slice (some fd) mf fc) := HBR.out 1 _ rfl
    by_cases hlt : k < mf
    case pos =>
      have hkf : k < r.src.length := by have := HPN.out.2.1; omega
      have hkc : k < r.coef.length := by have := HPN.out.2.2; omega
      obtain ⟨fd', x, hA, hx, hxx⟩ := HFR.out.at hkf
      injection hA with hA
      subst hA
      obtain ⟨rfl, hx1, hx2⟩ := hxx
      obtain ⟨cd', y, hB, hq, hyy⟩ := HCR.out.at hkc
      injection hB with hB
      subst hB
      have hyy' : y = bv r.coef[k] := hyy
      subst hyy'
      have gs : r.src.getD k 0 = r.src[k] := by rw [List.getD_eq_getElem?_getD, List.getElem?_eq_getElem hkf]; rfl
      have gc : r.coef.getD k 0 = r.coef[k] := by rw [List.getD_eq_getElem?_getD, List.getElem?_eq_getElem hkc]; rfl
      obtain ⟨x, hxe⟩ : ∃ x, r.src[k] = x := ⟨_, rfl⟩
      obtain ⟨q, hqe⟩ : ∃ x, r.coef[k] = x := ⟨_, rfl⟩
      rw [hxe] at hx gs
      rw [hqe] at hq gc
      have HSP : Hid (Rb.spot r k ↔ 0 ≤ x ∧ x < 24 ∧ x ≠ p ∧ q ≠ 0 ∧ (0 < k → r.src.getD (k - 1) 0 < x)) := Lib.hid (by unfold Rb.spot; rw [gs, gc, HPN.out.1])
      clear hxe hqe gs gc hyy
      go_upto_region 6 with fail
      clear b1
      by_cases p1 : x < 0
      case pos =>
        have HE := Lib.hid (HN.out fun h => by have h2 := HSP.out.1 (h.2.2.2.2 k hlt); omega)
        refine wp_atEnd' (ck_neg wr BB k mf fc cc p x fd cd HBR hlt hx (Lib.hid p1) _ _ _ _ _ _ _ _ _ _ _ _ _ _ _ _ _ _ _ _ _ _ _ _ _ _ _ _ _ _ _ _ _ _ _ _ _ _ _ _ _ _ _ _ _ _ _ _ _ _ _ _ _ _ _ _ _ _ _ _ _ _ _ _ _ _ _ _ _ _ _ _ _ _ _ _ _ _ _ _ _ _ _ _ ?_)
        intro u34 u35 u36 u37 u38 u39 u40 u41 u42 u43 u44 u45 u46 u47 u48 u49 u50 u51 u52 u53 u54 u55 u56 u57 u58 u59 u60 u61 u62 u63 u64 u65 u66 u67 u68 u69 u70 u71 u72 u73 u74 u75 u76 u77 u78 u79 u80 u81 u82 w2 hx2
        have HX2 := Lib.hid (HXR.out.trans hx2)
        clear hx2
        go_wp2_with fail
        go_ret
        exact ⟨ret_int HE.out.symm, HX2.out⟩
      case neg =>
      by_cases p2 : 24 ≤ x
      case pos =>
        have HE := Lib.hid (HN.out fun h => by have h2 := HSP.out.1 (h.2.2.2.2 k hlt); omega)
        refine wp_atEnd' (ck_big wr BB k mf fc cc p x fd cd HBR hlt hx (Lib.hid p1) (Lib.hid p2) _ _ _ _ _ _ _ _ _ _ _ _ _ _ _ _ _ _ _ _ _ _ _ _ _ _ _ _ _ _ _ _ _ _ _ _ _ _ _ _ _ _ _ _ _ _ _ _ _ _ _ _ _ _ _ _ _ _ _ _ _ _ _ _ _ _ _ _ _ _ _ _ _ _ _ _ _ _ _ _ _ _ _ _ ?_)
        intro u34 u35 u36 u37 u38 u39 u40 u41 u42 u43 u44 u45 u46 u47 u48 u49 u50 u51 u52 u53 u54 u55 u56 u57 u58 u59 u60 u61 u62 u63 u64 u65 u66 u67 u68 u69 u70 u71 u72 u73 u74 u75 u76 u77 u78 u79 u80 u81 u82 w2 hx2
        have HX2 := Lib.hid (HXR.out.trans hx2)
        clear hx2
        go_wp2_with fail
        go_ret
        exact ⟨ret_int HE.out.symm, HX2.out⟩
      case neg =>
      by_cases p3 : x = p
      case pos =>
        have HE := Lib.hid (HN.out fun h => by have h2 := HSP.out.1 (h.2.2.2.2 k hlt); exact h2.2.2.1 p3)
        have f3 : (x == p) = true := by rw [beq_iff_eq]; exact p3
        refine wp_atEnd' (ck_eq wr BB k mf fc cc p x fd cd HBR hlt hx (Lib.hid p1) (Lib.hid p2) (Lib.hid f3) _ _ _ _ _ _ _ _ _ _ _ _ _ _ _ _ _ _ _ _ _ _ _ _ _ _ _ _ _ _ _ _ _ _ _ _ _ _ _ _ _ _ _ _ _ _ _ _ _ _ _ _ _ _ _ _ _ _ _ _ _ _ _ _ _ _ _ _ _ _ _ _ _ _ _ _ _ _ _ _ _ _ _ _ ?_)
        intro u34 u35 u36 u37 u38 u39 u40 u41 u42 u43 u44 u45 u46 u47 u48 u49 u50 u51 u52 u53 u54 u55 u56 u57 u58 u59 u60 u61 u62 u63 u64 u65 u66 u67 u68 u69 u70 u71 u72 u73 u74 u75 u76 u77 u78 u79 u80 u81 u82 w2 hx2
        have HX2 := Lib.hid (HXR.out.trans hx2)
        clear hx2
        go_wp2_with fail
        go_ret
        exact ⟨ret_int HE.out.symm, HX2.out⟩
      case neg =>
      have f3 : (x == p) = false := by rw [beq_eq_false_iff_ne]; exact p3
      by_cases p4 : q = 0
      case pos =>
        have HE := Lib.hid (HN.out fun h => by have h2 := HSP.out.1 (h.2.2.2.2 k hlt); exact h2.2.2.2.1 p4)
        have f4 : ((q.toNat : Int) == 0) = true := by rw [p4]; rfl
        refine wp_atEnd' (ck_zero wr BB k mf fc cc p x fd cd HBR hlt hx (Lib.hid p1) (Lib.hid p2) (Lib.hid f3) q hq (Lib.hid f4) _ _ _ _ _ _ _ _ _ _ _ _ _ _ _ _ _ _ _ _ _ _ _ _ _ _ _ _ _ _ _ _ _ _ _ _ _ _ _ _ _ _ _ _ _ _ _ _ _ _ _ _ _ _ _ _ _ _ _ _ _ _ _ _ _ _ _ _ _ _ _ _ _ _ _ _ _ _ _ _ _ _ _ _ ?_)
        intro u34 u35 u36 u37 u38 u39 u40 u41 u42 u43 u44 u45 u46 u47 u48 u49 u50 u51 u52 u53 u54 u55 u56 u57 u58 u59 u60 u61 u62 u63 u64 u65 u66 u67 u68 u69 u70 u71 u72 u73 u74 u75 u76 u77 u78 u79 u80 u81 u82 w2 hx2
        have HX2 := Lib.hid (HXR.out.trans hx2)
        clear hx2
        go_wp2_with fail
        go_ret
        exact ⟨ret_int HE.out.symm, HX2.out⟩
      case neg =>
      have f4 : ((q.toNat : Int) == 0) = false := by
        rw [beq_eq_false_iff_ne]
        intro e
        apply p4
        have hq0 : q.toNat = 0 := by omega
        exact UInt8.toNat_inj.mp hq0
      by_cases p5 : k = 0
      case pos =>
        have HOK := Lib.hid (HSP.out.2 ⟨by omega, by omega, p3, p4, fun h => by omega⟩)
        refine wp_atEnd' (ck_first wr BB k mf fc cc p x fd cd HBR hlt hx (Lib.hid p1) (Lib.hid p2) (Lib.hid f3) q hq (Lib.hid f4) (Lib.hid p5) _ _ _ _ _ _ _ _ _ _ _ _ _ _ _ _ _ _ _ _ _ _ _ _ _ _ _ _ _ _ _ _ _ _ _ _ _ _ _ _ _ _ _ _ _ _ _ _ _ _ _ _ _ _ _ _ _ _ _ _ _ _ _ _ _ _ _ _ _ _ _ _ _ _ _ _ _ _ _ _ _ _ _ _ ?_)
        intro u34 u35 u36 u37 u38 u39 u40 u41 u42 u43 u44 u45 u46 u47 u48 u49 u50 u51 u52 u53 u54 u55 u56 u57 u58 u59 u60 u61 u62 u63 u64 u65 u66 u67 u68 u69 u70 u71 u72 u73 u74 u75 u76 u77 u78 u79 u80 u81 u82 w2 hx2
        have HX2 := Lib.hid (HXR.out.trans hx2)
        have HX3 := Lib.hid (HI.out.1.trans hx2)
        clear hx2
        go_wp2_with fail
        go_roundw
        case rel => exact ⟨k + 1, by omega, by go_num, Lib.hid ⟨HX3.out, fun j hj => if hjk : j = k then hjk ▸ HOK.out else HI.out.2 j (by omega)⟩⟩
        case measure => simp [intOf]; omega
      case neg =>
      obtain ⟨j, hj⟩ : ∃ j, k = j + 1 := ⟨k - 1, by omega⟩
      have hjf : j < r.src.length := by omega
      obtain ⟨fd', y, hA, hy, hyy⟩ := HFR.out.at hjf
      injection hA with hA
      subst hA
      obtain ⟨rfl, hy1, hy2⟩ := hyy
      have gj : r.src.getD (k - 1) 0 = r.src[j] := by rw [hj, Nat.add_sub_cancel, List.getD_eq_getElem?_getD, List.getElem?_eq_getElem hjf]; rfl
      obtain ⟨y, hye⟩ : ∃ x, r.src[j] = x := ⟨_, rfl⟩
      rw [hye] at hy gj
      by_cases p6 : x ≤ y
      case pos =>
        have HE := Lib.hid (HN.out fun h => by have h2 := HSP.out.1 (h.2.2.2.2 k hlt); have h3 := h2.2.2.2.2 (by omega); rw [gj] at h3; omega)
        refine wp_atEnd' (ck_le wr BB k mf fc cc p x fd cd HBR hlt hx (Lib.hid p1) (Lib.hid p2) (Lib.hid f3) q hq (Lib.hid f4) j y (Lib.hid hj) (by omega) hy (Lib.hid p6) _ _ _ _ _ _ _ _ _ _ _ _ _ _ _ _ _ _ _ _ _ _ _ _ _ _ _ _ _ _ _ _ _ _ _ _ _ _ _ _ _ _ _ _ _ _ _ _ _ _ _ _ _ _ _ _ _ _ _ _ _ _ _ _ _ _ _ _ _ _ _ _ _ _ _ _ _ _ _ _ _ _ _ _ ?_)
        intro u34 u35 u36 u37 u38 u39 u40 u41 u42 u43 u44 u45 u46 u47 u48 u49 u50 u51 u52 u53 u54 u55 u56 u57 u58 u59 u60 u61 u62 u63 u64 u65 u66 u67 u68 u69 u70 u71 u72 u73 u74 u75 u76 u77 u78 u79 u80 u81 u82 w2 hx2
        have HX2 := Lib.hid (HXR.out.trans hx2)
        clear hx2
        go_wp2_with fail
        go_ret
        exact ⟨ret_int HE.out.symm, HX2.out⟩
      case neg =>
      have HOK := Lib.hid (HSP.out.2 ⟨by omega, by omega, p3, p4, fun h => by rw [gj]; omega⟩)
      refine wp_atEnd' (ck_ok wr BB k mf fc cc p x fd cd HBR hlt hx (Lib.hid p1) (Lib.hid p2) (Lib.hid f3) q hq (Lib.hid f4) j y (Lib.hid hj) (by omega) hy (Lib.hid p6) _ _ _ _ _ _ _ _ _ _ _ _ _ _ _ _ _ _ _ _ _ _ _ _ _ _ _ _ _ _ _ _ _ _ _ _ _ _ _ _ _ _ _ _ _ _ _ _ _ _ _ _ _ _ _ _ _ _ _ _ _ _ _ _ _ _ _ _ _ _ _ _ _ _ _ _ _ _ _ _ _ _ _ _ ?_)
      intro u34 u35 u36 u37 u38 u39 u40 u41 u42 u43 u44 u45 u46 u47 u48 u49 u50 u51 u52 u53 u54 u55 u56 u57 u58 u59 u60 u61 u62 u63 u64 u65 u66 u67 u68 u69 u70 u71 u72 u73 u74 u75 u76 u77 u78 u79 u80 u81 u82 w2 hx2
      have HX2 := Lib.hid (HXR.out.trans hx2)
      have HX3 := Lib.hid (HI.out.1.trans hx2)
      clear hx2
      go_wp2_with fail
      go_roundw
      case rel => exact ⟨k + 1, by omega, by go_num, Lib.hid ⟨HX3.out, fun j hj => if hjk : j = k then hjk ▸ HOK.out else HI.out.2 j (by omega)⟩⟩
      case measure => simp [intOf]; omega
    case neg =>
      obtain rfl : mf = k := by omega
      have HE := Lib.hid (HR.out.2 ⟨by omega, by omega, by omega, (by first | trivial | rfl), HI.out.2⟩)
      go_wp2_with fail
      go_ret
      exact ⟨ret_int HE.out.symm, HXR.out⟩
end Go.Proofs.YtdmljilcbndmfaaDoor

/- THE WALKS over the specification of the field: Mul, Inv, Exp. -/
namespace Go.Proofs.YtdmljilcbndmfaaDoor
open Go.RowKit
theorem rmul_nat (a b : Nat) (ha : a < 256) (hb : b < 256) (w : World) :
    Calls Tryd.prog 83 #[.int .u8 a, .int .u8 b] w fun e w' => e = .returned (.int .u8 (Gf.mulN a b : Nat)) ∧ w = w' := by
  go_enter Tryd.func83, Tryd.ntmps83
  go_wp2_with fail
  go_loop [5, 6, 7] (fun vx vy vs => ∃ X Y S j : Nat, X < 256 ∧ Y < 256 ∧ Y < 2 ^ j ∧ S < 256 ∧ vx = .int .i64 X ∧ vy = .int .i64 Y ∧ vs = .int .i64 S ∧ Hid (S ^^^ Gf.mulK j X Y = Gf.mulN a b)) (fun _ vy _ => (intOf vy).toNat)
  case atStart => exact ⟨a, b, 0, 8, ha, hb, hb, by omega, rfl, rfl, rfl, by simp [Hid, Gf.mulN_def]⟩
  case round =>
    obtain ⟨X, Y, S, j, hX, hY, hj, hS, rfl, rfl, rfl, HM⟩ := hrel
    by_cases hp : 0 < Y
    · obtain ⟨j, rfl⟩ : ∃ i, j = i + 1 := ⟨j - 1, by
        rcases Nat.eq_zero_or_pos j with rfl | h
        · simp at hj; omega
        · omega⟩
      have hj' : Y / 2 < 2 ^ j := by rw [Nat.pow_succ] at hj; omega
      have HJ := Lib.hid hj'
      have hsx := Gf.xor_lt hS hX
      have hxt := Gf.xt_lt hX
      have e4 : bits .xor .i64 (S : Int) (X : Int) = ((S ^^^ X : Nat) : Int) := xor64 S X (by omega) (by omega)
      have e5 : 255 < 2 * X → bits .xor .i64 (2 * (X : Int)) 285 = ((Gf.xt X : Nat) : Int) := fun h => by
        have := xor64 (2 * X) 285 (by omega) (by omega)
        rw [Gf.xt, show X / 128 = 1 from by omega]
        simpa using this
      have e6 : ¬ 255 < 2 * X → 2 * (X : Int) = ((Gf.xt X : Nat) : Int) := fun h => by
        rw [Gf.xt, show X / 128 = 0 from by omega]
        simp
      have E4 := Lib.hid e4
      have E6 := Lib.hid e6
      clear e4 e6 hj hj'
      have e1 : Y % 2 = 1 → Hid ((S ^^^ X) ^^^ Gf.mulK j (Gf.xt X) (Y / 2) = Gf.mulN a b) := fun h => by
        have := HM.out
        rw [Gf.mulK, h, Nat.one_mul, ← Nat.xor_assoc] at this
        exact this
      have e2 : Y % 2 = 0 → Hid (S ^^^ Gf.mulK j (Gf.xt X) (Y / 2) = Gf.mulN a b) := fun h => by
        have := HM.out
        rw [Gf.mulK, h, Nat.zero_mul, Nat.zero_xor] at this
        exact this
      have E1 := Lib.hid e1
      have E2 := Lib.hid e2
      clear e1 e2
      by_cases hbit : Y % 2 = 1
      · have HB := Lib.hid hbit
        have e0 : (((Y : Int) % 2) == 1) = true := by
          have : ((Y : Int) % 2) = 1 := by omega
          rw [this]; rfl
        clear hbit
        by_cases hbig : 255 < 2 * X
        · have E5 := Lib.hid (e5 hbig)
          clear e5
          go_wp2_with fail
          go_round
          case rel => exact ⟨Gf.xt X, Y / 2, S ^^^ X, j, hxt, by omega, HJ.out, hsx, by rw [E5.out], by go_num, by rw [E4.out], E1.out HB.out⟩
          case measure => simp [intOf]; omega
        · have E5 := Lib.hid (E6.out hbig)
          clear e5
          go_wp2_with fail
          go_round
          case rel => exact ⟨Gf.xt X, Y / 2, S ^^^ X, j, hxt, by omega, HJ.out, hsx, by rw [E5.out], by go_num, by rw [E4.out], E1.out HB.out⟩
          case measure => simp [intOf]; omega
      · have HB := Lib.hid (show Y % 2 = 0 by omega)
        have e0 : (((Y : Int) % 2) == 1) = false := by
          have : ((Y : Int) % 2) = 0 := by omega
          rw [this]; rfl
        clear hbit
        by_cases hbig : 255 < 2 * X
        · have E5 := Lib.hid (e5 hbig)
          clear e5
          go_wp2_with fail
          go_round
          case rel => exact ⟨Gf.xt X, Y / 2, S, j, hxt, by omega, HJ.out, hS, by rw [E5.out], by go_num, rfl, E2.out HB.out⟩
          case measure => simp [intOf]; omega
        · have E5 := Lib.hid (E6.out hbig)
          clear e5
          go_wp2_with fail
          go_round
          case rel => exact ⟨Gf.xt X, Y / 2, S, j, hxt, by omega, HJ.out, hS, by rw [E5.out], by go_num, rfl, E2.out HB.out⟩
          case measure => simp [intOf]; omega
    · obtain rfl : Y = 0 := by omega
      have hz : ∀ j X, Gf.mulK j X 0 = 0 := by
        intro j
        induction j with
        | zero => intro X; rfl
        | succ j ih => intro X; rw [Gf.mulK, show 0 / 2 = 0 from rfl, ih]; simp
      have hfin : S = Gf.mulN a b := by have := HM.out; rw [hz, Nat.xor_zero] at this; exact this
      have HF := Lib.hid hfin
      clear hfin hz hj
      go_wp2_with fail
      go_ret
      exact ⟨ret_int (by rw [← HF.out]), rfl⟩
theorem rmul_any (a b : Int) (w : World) (ha : 0 ≤ a) (ha' : a < 256) (hb : 0 ≤ b) (hb' : b < 256) :
    Calls Tryd.prog 83 #[.int .u8 a, .int .u8 b] w fun e w' => e = .returned (.int .u8 (Gf.mulI a b)) ∧ w = w' := by
  obtain ⟨a, rfl⟩ := Int.eq_ofNat_of_zero_le ha
  obtain ⟨b, rfl⟩ := Int.eq_ofNat_of_zero_le hb
  rw [Gf.mulI_nat]
  exact rmul_nat a b (by omega) (by omega) w
end Go.Proofs.YtdmljilcbndmfaaDoor

/- THE WALKS over the strings of the field's specification. -/
namespace Go.Proofs.YtdmljilcbndmfaaDoor
open Go.RowKit

set_option maxRecDepth 100000 in
theorem rat_any (s : ByteArray) (k : Nat) (w : World) :
    Calls Tryd.prog 84 #[.string s, .int .i64 k] w fun e w' => e = .returned (bv ((bl s).getD k 0)) ∧ w = w' := by
  by_cases hlt : k < s.size
  · rw [getD_bl s k hlt]
    go_enter Tryd.func84, Tryd.ntmps84
    go_wp2_with fail
    go_ret
    exact ⟨rfl, rfl⟩
  · rw [getD_bl_out s k (by omega)]
    go_enter Tryd.func84, Tryd.ntmps84
    go_wp2_with fail
    go_ret
    exact ⟨rfl, rfl⟩

theorem rmul_u8 (a b : UInt8) (w : World) : Calls Tryd.prog 83 #[bv a, bv b] w fun e w' => e = .returned (bv (Gf.mul a b)) ∧ w = w' := by
  refine (rmul_any _ _ w (by omega) (by have := Gf.lt8 a; omega) (by omega) (by have := Gf.lt8 b; omega)).mono ?_
  rintro e w' ⟨rfl, rfl⟩
  exact ⟨by rw [Gf.mulI_toNat], rfl⟩

theorem map_range_succ (g : Nat → UInt8) (k : Nat) : ((List.range k).map g).map bv ++ [bv (g k)] = ((List.range (k + 1)).map g).map bv := by
  rw [List.range_succ]; simp

set_option maxRecDepth 100000 in
theorem rscale_any (c : UInt8) (s : ByteArray) (w : World) (hs : s.size ≤ 1000000) :
    Calls Tryd.prog 56 #[bv c, .string s] w fun e w' => e = .returned (.string (sb (Gf.scale c (bl s)))) ∧ Ext w w' := by
  have hr : (List.range s.size).map (fun k => Gf.mul c ((bl s).getD k 0)) = Gf.scale c (bl s) := by
    unfold Gf.scale
    apply List.ext_getElem
    · simp [size_bl]
    · intro k h1 h2
      simp
      congr 1
      simp at h2
      rw [List.getElem?_eq_getElem h2]; rfl
  have HR := Lib.hid hr
  clear hr
  go_enter Tryd.func56, Tryd.ntmps56
  go_wp2_with fail
  go_loopw [5, 6] (fun vo vk wr => ∃ (k : Nat) (A : Option Addr) (cp : Nat), k ≤ s.size ∧ vk = .int .i64 k ∧ vo = .slice A k cp ∧ Hid (Ext w wr ∧ wr.ownsRow w.heap.size 5 1 (.slice A k cp) k (((List.range k).map fun k => Gf.mul c ((bl s).getD k 0)).map bv))) (fun _ vk _ => s.size - (intOf vk).toNat)
  case atStart => exact ⟨0, none, 0, Nat.zero_le _, rfl, rfl, Ext.refl _, World.ownsRow_nil _ _ _ _⟩
  case round =>
    obtain ⟨k, A, cp, hk, rfl, rfl, HR2⟩ := hrel
    by_cases hlt : k < s.size
    · have hg := getD_bl s k hlt
      have HG := Lib.hid hg
      clear hg
      go_wp2_with fail
      refine (rmul_u8 _ _ _).mono ?_
      rw [← HG.out]
      rintro e w' ⟨rfl, rfl⟩
      go_wp2_with (at_builtin; refine wpl_append_new w 28 5 rfl _ _ rfl Tryd.underlying28 info_u8 rfl rfl HR2.out.2 HR2.out.1 rfl rfl (by omega) (by omega) ?_; intro A' c' w2 ho hx _)
      have ho := (map_range_succ (fun k => Gf.mul c ((bl s).getD k 0)) k) ▸ ho
      have HO := Lib.hid (And.intro hx ho)
      clear hx ho
      go_wp2_with fail
      go_roundw
      case rel => exact ⟨k + 1, A', c', by omega, by go_num, rfl, HO.out⟩
      case measure => simp [intOf]; omega
    · obtain rfl : k = s.size := by omega
      have hrun := str_u8 (n := s.size) (c := cp) (A := A) (w := wr) (l := (List.range s.size).map fun k => Gf.mul c ((bl s).getD k 0)) (by simp) (own_rd HR2.out.2)
      go_wp2_with fail
      go_ret
      exact ⟨by rw [← HR.out]; rfl, HR2.out.1⟩

set_option maxRecDepth 100000 in
theorem rsum_any (a b : ByteArray) (w : World) (ha : a.size ≤ 1000000) (hb : b.size ≤ 1000000) :
    Calls Tryd.prog 57 #[.string a, .string b] w fun e w' => e = .returned (.string (sb (Gf.sum (bl a) (bl b)))) ∧ Ext w w' := by
  obtain ⟨n, hn⟩ : ∃ n, n = max a.size b.size := ⟨_, rfl⟩
  have hr : (List.range n).map (fun k => (bl a).getD k 0 ^^^ (bl b).getD k 0) = Gf.sum (bl a) (bl b) := by
    unfold Gf.sum
    rw [← size_bl, ← size_bl, ← hn]
  have hn1 : n ≤ 1000000 := by omega
  have hmax : (if a.size < b.size then (b.size : Int) else (a.size : Int)) = (n : Int) := by split <;> omega
  have HR := Lib.hid hr
  have HN := Lib.hid hn
  clear hr hn
  go_enter Tryd.func57, Tryd.ntmps57
  go_wp2_with fail
  go_loopw [5, 6] (fun vo vk wr => ∃ (k : Nat) (A : Option Addr) (cp : Nat), k ≤ n ∧ vk = .int .i64 k ∧ vo = .slice A k cp ∧ Hid (Ext w wr ∧ wr.ownsRow w.heap.size 5 1 (.slice A k cp) k (((List.range k).map fun k => (bl a).getD k 0 ^^^ (bl b).getD k 0).map bv))) (fun _ vk _ => n - (intOf vk).toNat)
  case atStart => exact ⟨0, none, 0, Nat.zero_le _, rfl, rfl, Ext.refl _, World.ownsRow_nil _ _ _ _⟩
  case round =>
    obtain ⟨k, A, cp, hk, rfl, rfl, HR2⟩ := hrel
    by_cases hlt : k < n
    · have hx : bits .xor .u8 (((bl a).getD k 0).toNat : Int) (((bl b).getD k 0).toNat : Int) = (((bl a).getD k 0 ^^^ (bl b).getD k 0).toNat : Int) := by
        rw [u8_xor_nat _ _ (Gf.lt8 _) (Gf.lt8 _), UInt8.toNat_xor]
      have HX := Lib.hid hx
      clear hx
      go_wp2_with fail
      refine (rat_any _ _ _).mono ?_
      rintro e w' ⟨rfl, rfl⟩
      go_wp2_with fail
      refine (rat_any _ _ _).mono ?_
      rintro e w' ⟨rfl, rfl⟩
      go_wp2_with (at_builtin; refine wpl_append_new w 28 5 rfl _ _ rfl Tryd.underlying28 info_u8 rfl rfl HR2.out.2 HR2.out.1 rfl rfl (by omega) (by omega) ?_; intro A' c' w2 ho hx _)
      have ho' : w2.ownsRow w.heap.size 5 1 (.slice A' (k + 1) c') (k + 1) (((List.range (k + 1)).map fun k => (bl a).getD k 0 ^^^ (bl b).getD k 0).map bv) := by
        rw [← map_range_succ (fun k => (bl a).getD k 0 ^^^ (bl b).getD k 0)]
        have e : Value.int .u8 (bits .xor .u8 (((bl a).getD k 0).toNat : Int) (((bl b).getD k 0).toNat : Int)) = bv ((bl a).getD k 0 ^^^ (bl b).getD k 0) := by rw [HX.out]
        rw [← e]
        exact ho
      have HO := Lib.hid (And.intro hx ho')
      clear hx ho ho'
      go_wp2_with fail
      go_roundw
      case rel => exact ⟨k + 1, A', c', by omega, by go_num, rfl, HO.out⟩
      case measure => simp [intOf]; omega
    · obtain rfl : k = n := by omega
      have hrun := str_u8 (n := k) (c := cp) (A := A) (w := wr) (l := (List.range k).map fun k => (bl a).getD k 0 ^^^ (bl b).getD k 0) (by simp) (own_rd HR2.out.2)
      go_wp2_with fail
      go_ret
      exact ⟨by rw [← HR.out]; rfl, HR2.out.1⟩

/-- The sum of the scaled strings, from the first n of them, as the specification adds them. -/
def rcomb (coef : List UInt8) (parts : List (List UInt8)) : Nat → List UInt8
  | 0 => []
  | n + 1 => Gf.sum (rcomb coef parts n) (Gf.scale (coef.getD n 0) (parts.getD n []))
theorem sum_length (s t : List UInt8) : (Gf.sum s t).length = max s.length t.length := by simp [Gf.sum]
theorem rcomb_at (coef : List UInt8) (parts : List (List UInt8)) (L : Nat) : ∀ i, (∀ j, j < i → (parts.getD j []).length = L) →
    (rcomb coef parts i).length = (if i = 0 then 0 else L) ∧ ∀ k, k < L → (rcomb coef parts i).getD k 0 = Gf.comb coef parts k i
  | 0, _ => ⟨rfl, fun k _ => rfl⟩
  | i + 1, h => by
    obtain ⟨h1, h2⟩ := rcomb_at coef parts L i (fun j hj => h j (by omega))
    have hL := h i (by omega)
    have hlen : (rcomb coef parts (i + 1)).length = L := by
      rw [rcomb, sum_length, h1, Gf.scale, List.length_map, hL]
      split <;> omega
    refine ⟨by rw [hlen, if_neg (by omega)], fun k hk => ?_⟩
    have e1 : (rcomb coef parts (i + 1)).getD k 0 = (rcomb coef parts i).getD k 0 ^^^ (Gf.scale (coef.getD i 0) (parts.getD i [])).getD k 0 := by
      have hk' : k < max (rcomb coef parts i).length (Gf.scale (coef.getD i 0) (parts.getD i [])).length := by rw [Gf.scale, List.length_map, hL]; omega
      rw [rcomb, Gf.sum, List.getD_eq_getElem?_getD, List.getElem?_map, List.getElem?_eq_getElem (by simpa using hk')]
      simp
    have e2 : (Gf.scale (coef.getD i 0) (parts.getD i [])).getD k 0 = Gf.mul (coef.getD i 0) ((parts.getD i []).getD k 0) := by
      rw [Gf.scale, List.getD_eq_getElem?_getD, List.getElem?_map, List.getElem?_eq_getElem (by omega), List.getD_eq_getElem?_getD (l := parts.getD i []), List.getElem?_eq_getElem (by omega)]
      rfl
    rw [e1, e2, h2 k hk, Gf.comb]
theorem rcomb_combine (coef : List UInt8) (parts : List (List UInt8)) (n : Nat) (hn : n = coef.length) (hm : n = parts.length) (h : ∀ j, j < n → (parts.getD j []).length = (parts.headD []).length) :
    rcomb coef parts n = Gf.combine coef parts := by
  obtain ⟨h1, h2⟩ := rcomb_at coef parts _ n h
  by_cases h0 : n = 0
  · subst h0
    rw [if_pos rfl, List.length_eq_zero_iff] at h1
    have : parts = [] := List.length_eq_zero_iff.1 hm.symm
    rw [h1, Gf.combine, this]
    rfl
  · rw [if_neg h0] at h1
    apply List.ext_getElem
    · rw [h1]; simp [Gf.combine]
    · intro k hk hk'
      have := h2 k (by omega)
      rw [List.getD_eq_getElem?_getD, List.getElem?_eq_getElem hk] at this
      simp only [Option.getD_some] at this
      rw [this, hn]
      simp [Gf.combine]
end Go.Proofs.YtdmljilcbndmfaaDoor

/- THE WALK over Apply of the specification of rebuild. -/
namespace Rb
open Gf
theorem sum_nil (s : List UInt8) : sum [] s = s := by
  apply List.ext_getElem
  · simp [sum]
  · intro k h1 h2
    simp only [sum, List.getElem_map, List.getElem_range, List.getD_eq_getElem?_getD, List.getElem?_nil, Option.getD_none]
    rw [List.getElem?_eq_getElem h2]
    show (0 : UInt8) ^^^ s[k] = s[k]
    exact UInt8.zero_xor
theorem headD0 (l : List (List UInt8)) : l.headD [] = l.getD 0 [] := by cases l <;> rfl
end Rb
namespace Go.Proofs.YtdmljilcbndmfaaDoor
open Go.RowKit Go.Shelf
theorem scale_len8 (c : UInt8) (s : List UInt8) : (Gf.scale c s).length = s.length := by simp [Gf.scale]
theorem scale_sb (q : UInt8) (s : List UInt8) (w : World) (hs : s.length ≤ 1000000) : Calls Tryd.prog 56 #[bv q, .string (sb s)] w fun e w' => e = .returned (.string (sb (Gf.scale q s))) ∧ Ext w w' := by
  have h := rscale_any q (sb s) w (by rw [size_sb]; exact hs)
  rw [bl_sb] at h
  exact h
theorem sum_sb (s t : List UInt8) (w : World) (hs : s.length ≤ 1000000) (ht : t.length ≤ 1000000) : Calls Tryd.prog 57 #[.string (sb s), .string (sb t)] w fun e w' => e = .returned (.string (sb (Gf.sum s t))) ∧ Ext w w' := by
  have h := rsum_any (sb s) (sb t) w (by rw [size_sb]; exact hs) (by rw [size_sb]; exact ht)
  rw [bl_sb, bl_sb] at h
  exact h
noncomputable def ap_first_code : Code := ((Tryd.f24.body.bind (regionOf 8)).getD .skip)
def ap_first_dsts : List (Option Nat) := [some 37, some 38, some 39, some 40, some 41, some 42, some 43, some 44, some 6]
theorem ap_first_apart : apartD ap_first_dsts = true := by decide +kernel
set_option maxRecDepth 1000000 in
set_option maxHeartbeats 16000000 in
theorem ap_first (wr : World) (B nf np fc cc pc : Nat) (p : Int) (fd cd pd : Addr) (q : UInt8) (s : List UInt8) (hn : 0 < nf) (hnp : 0 < np) (HB : Hid (Cells wr B [.int .i64 p, .slice (some fd) nf fc, .slice (some cd) nf cc])) (hq : wr.cell? cd = some (bv q)) (hs : wr.cell? pd = some (.string (sb s))) (HS : Hid (s.length ≤ 1000000)) (c0 c3 c4 c5 c6 c7 c8 c9 c10 c11 c12 c13 c14 c15 c16 c17 c18 c19 c20 c21 c22 c23 c24 c25 c26 c27 c28 c29 c30 c31 c32 c33 c34 c35 c36 c37 c38 c39 c40 c41 c42 c43 c44 c45 c46 c47 c48 c49 c50 c51 c52 c53 c54 c55 c56 c57 c58 c59 c60 c61 c62 c63 c64 : Value) (df : List Deferred) (K : Act → World → Prop)
    (hK : ∀  (u37 u38 u39 u40 u41 u42 u43 u44 : Value) (wx : World), Ext wr wx → K ⟨#[c0, .slice (some pd) np pc, .pointer (some ⟨B, 0, none⟩), c3, c4, c5, .string (sb (Gf.scale q s)), c7, c8, c9, c10, c11, c12, c13, c14, c15, c16, c17, c18, c19, c20, c21, c22, c23, c24, c25, c26, c27, c28, c29, c30, c31, c32, c33, c34, c35, c36, u37, u38, u39, u40, u41, u42, u43, u44, c45, c46, c47, c48, c49, c50, c51, c52, c53, c54, c55, c56, c57, c58, c59, c60, c61, c62, c63, c64], df⟩ wx) :
    Code.wp Tryd.prog ap_first_code (AtEnd K) ⟨#[c0, .slice (some pd) np pc, .pointer (some ⟨B, 0, none⟩), c3, c4, c5, c6, c7, c8, c9, c10, c11, c12, c13, c14, c15, c16, c17, c18, c19, c20, c21, c22, c23, c24, c25, c26, c27, c28, c29, c30, c31, c32, c33, c34, c35, c36, c37, c38, c39, c40, c41, c42, c43, c44, c45, c46, c47, c48, c49, c50, c51, c52, c53, c54, c55, c56, c57, c58, c59, c60, c61, c62, c63, c64], df⟩ wr := by
  conv => arg 2; whnf
  refine region_inv (by kernel_rfl) [[], [0], [1], [2], [], [4], [5], [3, 6], [7, 7, 0, 1, 2, 3, 4, 5, 6, 7]] (by kernel_rfl) [0, 1, 2, 3, 4, 5, 6, 7, 8] (by decide +kernel) (by decide +kernel) (by decide +kernel) (fun L a wc => Inv ap_first_dsts [.pointer (some ⟨B, 2, none⟩), .slice (some cd) nf cc, .pointer (some (cd)), bv q, .slice (some pd) np pc, .pointer (some (pd)), .string (sb s), .string (sb (Gf.scale q s)), .string (sb (Gf.scale q s))] ⟨#[c0, .slice (some pd) np pc, .pointer (some ⟨B, 0, none⟩), c3, c4, c5, c6, c7, c8, c9, c10, c11, c12, c13, c14, c15, c16, c17, c18, c19, c20, c21, c22, c23, c24, c25, c26, c27, c28, c29, c30, c31, c32, c33, c34, c35, c36, c37, c38, c39, c40, c41, c42, c43, c44, c45, c46, c47, c48, c49, c50, c51, c52, c53, c54, c55, c56, c57, c58, c59, c60, c61, c62, c63, c64], df⟩ L a ∧ Hid (Ext wr wc)) ⟨Inv.start, Lib.hid ((Ext.refl wr).drew)⟩ ?_ ?_
  · refine ⟨?_, ?_, ?_, ?_, ?_, ?_, ?_, ?_, ?_, trivial⟩
    ·
      rintro L a wc ⟨hv, HO⟩ hL hc hd
      exact wpOp_val rfl rfl (ex_field rfl ((hv.fixed 2 (by decide)).trans rfl) (by go_simp)) ⟨hv.put ap_first_apart 0 rfl (lb rfl) (lb rfl) rfl, HO⟩
    ·
      rintro L a wc ⟨hv, HO⟩ hL hc hd
      have h0 : wc.cell? ⟨B, 2, none⟩ = some (.slice (some cd) nf cc) := HO.out.cell (HB.out 2 _ rfl)
      exact wpOp_val rfl rfl (ex_load rfl (hv.get 0 rfl rfl (hd 0 (by decide))) (by go_simp)) ⟨hv.put ap_first_apart 1 rfl (lb rfl) (lb rfl) rfl, HO⟩
    ·
      rintro L a wc ⟨hv, HO⟩ hL hc hd
      have u2 : (0 : Int) < (nf : Int) := by omega
      have u3 : ¬ nf = 0 := by omega
      exact wpOp_val rfl rfl (ex_index rfl (hv.get 1 rfl rfl (hd 1 (by decide))) rfl (by go_simp)) ⟨hv.put ap_first_apart 2 rfl (lb rfl) (lb rfl) rfl, HO⟩
    ·
      rintro L a wc ⟨hv, HO⟩ hL hc hd
      have h0 : wc.cell? (cd) = some (bv q) := HO.out.cell hq
      exact wpOp_val rfl rfl (ex_load rfl (hv.get 2 rfl rfl (hd 2 (by decide))) (by go_simp)) ⟨hv.put ap_first_apart 3 rfl (lb rfl) (lb rfl) rfl, HO⟩
    ·
      rintro L a wc ⟨hv, HO⟩ hL hc hd
      exact wpOp_val rfl rfl (ex_move rfl ((hv.fixed 1 (by decide)).trans rfl)) ⟨hv.put ap_first_apart 4 rfl (lb rfl) (lb rfl) rfl, HO⟩
    ·
      rintro L a wc ⟨hv, HO⟩ hL hc hd
      have u2 : (0 : Int) < (np : Int) := by omega
      have u3 : ¬ np = 0 := by omega
      exact wpOp_val rfl rfl (ex_index rfl (hv.get 4 rfl rfl (hd 4 (by decide))) rfl (by go_simp)) ⟨hv.put ap_first_apart 5 rfl (lb rfl) (lb rfl) rfl, HO⟩
    ·
      rintro L a wc ⟨hv, HO⟩ hL hc hd
      have h0 : wc.cell? (pd) = some (.string (sb s)) := HO.out.cell hs
      exact wpOp_val rfl rfl (ex_load rfl (hv.get 5 rfl rfl (hd 5 (by decide))) (by go_simp)) ⟨hv.put ap_first_apart 6 rfl (lb rfl) (lb rfl) rfl, HO⟩
    ·
      rintro L a wc ⟨hv, HO⟩ hL hc hd
      refine wpOp_call (R := fun v w1 => v = .string (sb (Gf.scale q s)) ∧ Ext wc w1) rfl rfl (ex_call rfl rfl (map2c (hv.get 3 rfl rfl (hd 3 (by decide))) (hv.get 6 rfl rfl (hd 6 (by decide)))) (enters_of Tryd.func56 (by kernel_rfl) rfl _ _)) ((scale_sb q s wc HS.out).mono (fun e w' h => ⟨_, h.1, rfl, h.2⟩)) ?_
      rintro v w' ⟨rfl, hx⟩
      exact ⟨hv.put ap_first_apart 7 rfl (lb rfl) (lb rfl) rfl, Lib.hid (HO.out.trans hx)⟩
    ·
      rintro L a wc ⟨hv, HO⟩ hL hc hd
      exact wpOp_val rfl rfl (ex_assign rfl (hv.get 7 rfl rfl (hd 7 (by decide)))) ⟨hv.put ap_first_apart 8 rfl (lb rfl) (lb rfl) rfl, HO⟩
  · rintro L a wc ⟨hv, HO⟩ hall
    show K a wc
    have ha := act_lit a
    rw [hv.size, hv.defers] at ha
    have hl : ∀ f : Nat → Value, ((List.range (⟨#[c0, .slice (some pd) np pc, .pointer (some ⟨B, 0, none⟩), c3, c4, c5, c6, c7, c8, c9, c10, c11, c12, c13, c14, c15, c16, c17, c18, c19, c20, c21, c22, c23, c24, c25, c26, c27, c28, c29, c30, c31, c32, c33, c34, c35, c36, c37, c38, c39, c40, c41, c42, c43, c44, c45, c46, c47, c48, c49, c50, c51, c52, c53, c54, c55, c56, c57, c58, c59, c60, c61, c62, c63, c64], df⟩ : Act).tmps.size).map f).toArray = #[f 0, f 1, f 2, f 3, f 4, f 5, f 6, f 7, f 8, f 9, f 10, f 11, f 12, f 13, f 14, f 15, f 16, f 17, f 18, f 19, f 20, f 21, f 22, f 23, f 24, f 25, f 26, f 27, f 28, f 29, f 30, f 31, f 32, f 33, f 34, f 35, f 36, f 37, f 38, f 39, f 40, f 41, f 42, f 43, f 44, f 45, f 46, f 47, f 48, f 49, f 50, f 51, f 52, f 53, f 54, f 55, f 56, f 57, f 58, f 59, f 60, f 61, f 62, f 63, f 64] := fun _ => rfl
    rw [hl] at ha
    simp only [hv.fixed 0 (by decide), hv.fixed 1 (by decide), hv.fixed 2 (by decide), hv.fixed 3 (by decide), hv.fixed 4 (by decide), hv.fixed 5 (by decide), hv.fixed 7 (by decide), hv.fixed 8 (by decide), hv.fixed 9 (by decide), hv.fixed 10 (by decide), hv.fixed 11 (by decide), hv.fixed 12 (by decide), hv.fixed 13 (by decide), hv.fixed 14 (by decide), hv.fixed 15 (by decide), hv.fixed 16 (by decide), hv.fixed 17 (by decide), hv.fixed 18 (by decide), hv.fixed 19 (by decide), hv.fixed 20 (by decide), hv.fixed 21 (by decide), hv.fixed 22 (by decide), hv.fixed 23 (by decide), hv.fixed 24 (by decide), hv.fixed 25 (by decide), hv.fixed 26 (by decide), hv.fixed 27 (by decide), hv.fixed 28 (by decide), hv.fixed 29 (by decide), hv.fixed 30 (by decide), hv.fixed 31 (by decide), hv.fixed 32 (by decide), hv.fixed 33 (by decide), hv.fixed 34 (by decide), hv.fixed 35 (by decide), hv.fixed 36 (by decide), hv.fixed 45 (by decide), hv.fixed 46 (by decide), hv.fixed 47 (by decide), hv.fixed 48 (by decide), hv.fixed 49 (by decide), hv.fixed 50 (by decide), hv.fixed 51 (by decide), hv.fixed 52 (by decide), hv.fixed 53 (by decide), hv.fixed 54 (by decide), hv.fixed 55 (by decide), hv.fixed 56 (by decide), hv.fixed 57 (by decide), hv.fixed 58 (by decide), hv.fixed 59 (by decide), hv.fixed 60 (by decide), hv.fixed 61 (by decide), hv.fixed 62 (by decide), hv.fixed 63 (by decide), hv.fixed 64 (by decide), hv.get 8 (d := 6) rfl rfl (hall 8 (by decide))] at ha
    rw [ha]
    exact hK _ _ _ _ _ _ _ _ wc HO.out
set_option maxHeartbeats 8000000 in
set_option maxRecDepth 100000 in
theorem kApply8_any (r : Rb.Rec) (parts : List (List UInt8)) (v u : Value) (w : World) (hv : RRec w v r) (hu : Rs RS w u parts) (hp : -9223372036854775808 ≤ r.piece ∧ r.piece ≤ 9223372036854775807) (hs : ∀ p ∈ parts, p.length ≤ 1000000) (hpl : parts.length ≤ 1000000) :
    Calls Tryd.prog 24 #[v, u] w fun e w' => e = .returned (.agg #[.string (sb (Rb.apply r parts)), .int .i64 (Rb.applyE r parts)]) ∧ Ext w w' := by
  obtain ⟨FF, CC, rfl, hF, hC⟩ := hv
  obtain ⟨A, fc, rfl, hl1⟩ := hF.form
  obtain ⟨B, cc, rfl, hl2⟩ := hC.form
  obtain ⟨PA, pc, rfl, hl3⟩ := hu.form
  obtain ⟨p, hpp⟩ : ∃ p, r.piece = p := ⟨_, rfl⟩
  obtain ⟨nf, hnf⟩ : ∃ n, r.src.length = n := ⟨_, rfl⟩
  obtain ⟨mf, hmf⟩ : ∃ n, r.coef.length = n := ⟨_, rfl⟩
  obtain ⟨np, hnp⟩ : ∃ n, parts.length = n := ⟨_, rfl⟩
  have HPB := Lib.hid hp
  rw [hnf] at hF
  rw [hmf] at hC
  rw [hnp] at hu hpl
  have hx0 := (Ext.refl w).alloc (.cells #[.int .i64 p, .slice A nf fc, .slice B mf cc] 30)
  have hO0 : Owns w ((w.alloc (.cells #[.int .i64 p, .slice A nf fc, .slice B mf cc] 30)).alloc (.cells #[.string ⟨#[]⟩, .int .i64 0] 58)) [⟨.slice (some ⟨(w.alloc (.cells #[.int .i64 p, .slice A nf fc, .slice B mf cc] 30)).heap.size, 0, none⟩) 2 2, 58, 1, 2, [.string ⟨#[]⟩, .int .i64 0]⟩] :=
    (Owns.next (Owns.start w (L := [no]) (fun r hr => by simp only [List.mem_cons, List.not_mem_nil, or_false] at hr; rcases hr with rfl; exact ⟨rfl, rfl, rfl⟩)) hx0).new 0 #[.string ⟨#[]⟩, .int .i64 0] 58 (by simp [maxLen])
  rw [World.size_alloc] at hO0
  have hxx := hO0.ext
  have HB := Lib.hid ((cells_new w #[.int .i64 p, .slice A nf fc, .slice B mf cc] 30).ext ((Ext.refl _).alloc (.cells #[.string ⟨#[]⟩, .int .i64 0] 58)))
  have HR : Hid (RRec ((w.alloc (.cells #[.int .i64 p, .slice A nf fc, .slice B mf cc] 30)).alloc (.cells #[.string ⟨#[]⟩, .int .i64 0] 58)) (.agg #[.int .i64 p, .slice A nf fc, .slice B mf cc]) r) := Lib.hid ⟨_, _, by rw [hpp], Rs.ext RI.ext _ _ _ _ hxx hF, Rs.ext RB.ext _ _ _ _ hxx hC⟩
  have HC := Lib.hid (Rs.ext RB.ext _ _ _ _ hxx hC)
  have HU := Lib.hid (Rs.ext RS.ext _ _ _ _ hxx hu)
  rw [hpp, hnf, hmf, hnp]
  obtain ⟨w1, hw1⟩ : ∃ w1, (w.alloc (.cells #[.int .i64 p, .slice A nf fc, .slice B mf cc] 30)).alloc (.cells #[.string ⟨#[]⟩, .int .i64 0] 58) = w1 := ⟨_, rfl⟩
  have HW := Lib.hid hw1
  rw [hw1] at hO0 HB HR HC HU
  have HO := Lib.hid hO0
  have HN := Lib.hid (And.intro hpp (And.intro hnf (And.intro hmf hnp)))
  have HSM := Lib.hid hs
  have HFD : Hid (0 < nf → ∃ fd, A = some fd) := Lib.hid fun h => by
    obtain ⟨fd, _, hA, _, _⟩ := hF.at (i := 0) (by rw [hnf]; exact h)
    exact ⟨fd, hA⟩
  have HFIT : Hid (Rb.Fit r parts ↔ Rb.recE r = 0 ∧ np = nf ∧ ¬ ∃ s ∈ parts, (s.length != (parts.getD 0 []).length) = true) := Lib.hid (by
    unfold Rb.Fit
    rw [hnf, hnp]
    constructor
    · rintro ⟨h1, h2, h3⟩; exact ⟨Rb.recE_ok h1, h2, h3⟩
    · rintro ⟨h1, h2, h3⟩
      refine ⟨?_, h2, h3⟩
      by_cases ho : Rb.Ok r
      · exact ho
      · rw [Rb.recE_bad ho] at h1; exact absurd h1 (by decide))
  have HCL : Hid (Rb.recE r = 0 → 0 < nf ∧ mf = nf) := Lib.hid fun h => by
    have ho : Rb.Ok r := by
      by_cases ho : Rb.Ok r
      · exact ho
      · rw [Rb.recE_bad ho] at h; exact absurd h (by decide)
    have h2 := Rb.ok_spots.1 ho
    rw [hnf, hmf] at h2
    omega
  clear hF hC hu hx0 hxx hO0 hw1 hpp hnf hmf hnp hp hs
  go_enter Tryd.func24, Tryd.ntmps24
  go_wp2_with fail
  rw [HW.out]
  refine (kCheck8_any r _ _ HR.out HPB.out).mono ?_
  rintro e w2 ⟨rfl, hx2⟩
  replace HO := Lib.hid (HO.out.next hx2)
  replace HB := Lib.hid (HB.out.ext hx2)
  replace HC := Lib.hid (Rs.ext RB.ext _ _ _ _ hx2 HC.out)
  replace HU := Lib.hid (Rs.ext RS.ext _ _ _ _ hx2 HU.out)
  clear hx2 HW HR
  obtain ⟨QQ, hQ⟩ : ∃ Q, w.heap.size + 1 = Q := ⟨_, rfl⟩
  have hQ1 : QQ < w2.heap.size := by rw [← hQ]; exact ((HO.out.row 0 rfl).lt _ rfl).2
  rw [hQ] at HO ⊢
  obtain ⟨BB, hBB⟩ : ∃ Q, w.heap.size = Q := ⟨_, rfl⟩
  rw [hBB] at HB ⊢
  have HQB : Hid (QQ ≠ BB) := Lib.hid (by omega)
  clear hQ hBB
  have q0 : w2.cell? ⟨QQ, 0, none⟩ = some (.string ⟨#[]⟩) := HO.out.cell 0 rfl 0 rfl
  have q1 : w2.cell? ⟨QQ, 1, none⟩ = some (.int .i64 0) := HO.out.cell 0 rfl 1 rfl
  have f0 : w2.frozen? ⟨QQ, 0, none⟩ = false := HO.out.frozen 0 rfl 0
  have f1 : w2.frozen? ⟨QQ, 1, none⟩ = false := HO.out.frozen 0 rfl 1
  have b0 : w2.cell? ⟨BB, 0, none⟩ = some (.int .i64 p) := HB.out 0 _ rfl
  have b1 : w2.cell? ⟨BB, 1, none⟩ = some (.slice A nf fc) := HB.out 1 _ rfl
  have b2 : w2.cell? ⟨BB, 2, none⟩ = some (.slice B mf cc) := HB.out 2 _ rfl
  obtain ⟨E, hE⟩ : ∃ E, Rb.recE r = E := ⟨_, rfl⟩
  rw [hE] at HFIT HCL ⊢
  clear hE
  by_cases e0 : E = 0
  case neg =>
    have e1 : (E != 0) = true := by rw [bne_iff_ne]; exact e0
    have HBAD := Lib.hid (Rb.apply_bad (r := r) (parts := parts) (fun h => e0 (HFIT.out.1 h).1))
    have HO1 := Lib.hid (HO.out.store 0 rfl 0 (.string ⟨#[]⟩))
    have HO2 := Lib.hid (HO1.out.store 0 rfl 1 (.int .i64 1))
    clear e0
    go_wp2_with fail
    refine bodyPost_ret (results_cell1 (v := .agg #[.string ⟨#[]⟩, .int .i64 1]) rfl rfl ?_) rfl ?_
    · go_simp
    exact ⟨by rw [HBAD.out.1, HBAD.out.2]; rfl, HO2.out.ext⟩
  case pos =>
  subst e0
  by_cases en : np = nf
  case neg =>
    have e1 : ((np : Int) != (nf : Int)) = true := by rw [bne_iff_ne]; omega
    have HBAD := Lib.hid (Rb.apply_bad (r := r) (parts := parts) (fun h => en (HFIT.out.1 h).2.1))
    have HO1 := Lib.hid (HO.out.store 0 rfl 0 (.string ⟨#[]⟩))
    have HO2 := Lib.hid (HO1.out.store 0 rfl 1 (.int .i64 1))
    clear en
    go_wp2_with fail
    refine bodyPost_ret (results_cell1 (v := .agg #[.string ⟨#[]⟩, .int .i64 1]) rfl rfl ?_) rfl ?_
    · go_simp
    exact ⟨by rw [HBAD.out.1, HBAD.out.2]; rfl, HO2.out.ext⟩
  case pos =>
  subst en
  obtain ⟨hn0, hmn⟩ := HCL.out rfl
  obtain ⟨fd, hfd⟩ : ∃ fd, A = some fd := HFD.out (by omega)
  subst hfd
  subst hmn
  have e1 : ((mf : Int) != (mf : Int)) = false := by simp
  have h0p : 0 < parts.length := by have := HN.out.2.2.2; omega
  have h0c : 0 < r.coef.length := by have := HN.out.2.2.1; omega
  obtain ⟨pd, s0, hA, hs0, hss0⟩ := HU.out.at h0p
  obtain ⟨cd, c0, hB, hc0, hcc0⟩ := HC.out.at h0c
  subst hA hB
  have hss0' : s0 = .string (sb parts[0]) := hss0
  have hcc0' : c0 = bv r.coef[0] := hcc0
  subst hss0' hcc0'
  have zp : pd.add 0 = pd := by simp [Addr.add]
  have zc : cd.add 0 = cd := by simp [Addr.add]
  rw [zp] at hs0
  rw [zc] at hc0
  have gp : parts.getD 0 [] = parts[0] := by rw [List.getD_eq_getElem?_getD, List.getElem?_eq_getElem h0p]; rfl
  have gc : r.coef.getD 0 0 = r.coef[0] := by rw [List.getD_eq_getElem?_getD, List.getElem?_eq_getElem h0c]; rfl
  have hsl0 := HSM.out _ (List.getElem_mem h0p)
  obtain ⟨s0, hse⟩ : ∃ s, parts[0] = s := ⟨_, rfl⟩
  obtain ⟨c0, hce⟩ : ∃ s, r.coef[0] = s := ⟨_, rfl⟩
  rw [hse] at hs0 gp hsl0
  rw [hce] at hc0 gc
  have HG := Lib.hid (And.intro gp gc)
  clear zp zc gp gc hse hce hss0 hcc0
  go_wp2_with fail
  clear b0 b1 b2 e1
  go_loopw [5] (fun vk wr => ∃ k : Nat, k ≤ mf ∧ vk = .int .i64 (k : Nat) ∧ Hid (Ext w2 wr ∧ wr.heap = w2.heap ∧ ∀ j, j < k → (parts.getD j []).length = s0.length)) (fun vk _ => mf - (intOf vk).toNat)
  case atStart => exact ⟨0, Nat.zero_le _, rfl, Lib.hid ⟨Ext.refl _, rfl, fun j hj => absurd hj (by omega)⟩⟩
  case round =>
    obtain ⟨k, hk, rfl, HI⟩ := hrel
    have hxr := HI.out.1
    replace HO := Lib.hid (HO.out.next hxr)
    replace HB := Lib.hid (HB.out.ext hxr)
    replace HC := Lib.hid (Rs.ext RB.ext _ _ _ _ hxr HC.out)
    replace HU := Lib.hid (Rs.ext RS.ext _ _ _ _ hxr HU.out)
    have hQ2 : QQ < wr.heap.size := Nat.lt_of_lt_of_le hQ1 hxr.size
    replace hs0 := hxr.cell hs0
    replace hc0 := hxr.cell hc0
    clear hxr q0 q1 f0 f1 hQ1
    by_cases hlt : k < mf
    case pos =>
      have hkp : k < parts.length := by have := HN.out.2.2.2; omega
      obtain ⟨pd', sk, hA, hsk, hssk⟩ := HU.out.at hkp
      injection hA with hA
      subst hA
      have hssk' : sk = .string (sb parts[k]) := hssk
      subst hssk'
      have gp : parts.getD k [] = parts[k] := by rw [List.getD_eq_getElem?_getD, List.getElem?_eq_getElem hkp]; rfl
      have hmem := List.getElem_mem hkp
      obtain ⟨sk, hse⟩ : ∃ s, parts[k] = s := ⟨_, rfl⟩
      rw [hse] at hsk gp hmem
      have HGK := Lib.hid (And.intro gp hmem)
      have hki : (k : Int) < (mf : Int) := by omega
      have h0i : (0 : Int) < (mf : Int) := by omega
      clear hse hssk gp hmem
      by_cases hl : sk.length = s0.length
      case pos =>
        have e2 : ((sk.length : Int) != (s0.length : Int)) = false := by rw [hl]; simp
        have HL := Lib.hid hl
        clear hl
        go_wp2_with fail
        go_quiet (fail)
        go_wp2_with fail
        go_roundw
        case rel => exact ⟨k + 1, by omega, by go_num, Lib.hid ⟨HI.out.1.drewN _, HI.out.2.1, fun j hj => if hjk : j = k then by rw [hjk, HGK.out.1, HL.out] else HI.out.2.2 j (by omega)⟩⟩
        case measure => simp [intOf]; omega
      case neg =>
        have e2 : ((sk.length : Int) != (s0.length : Int)) = true := by rw [bne_iff_ne]; omega
        have HBAD := Lib.hid (Rb.apply_bad (r := r) (parts := parts) (fun h => (HFIT.out.1 h).2.2 ⟨sk, HGK.out.2, by rw [HG.out.1, bne_iff_ne]; exact hl⟩))
        clear hl
        have q0 : wr.cell? ⟨QQ, 0, none⟩ = some (.string ⟨#[]⟩) := HO.out.cell 0 rfl 0 rfl
        have q1 : wr.cell? ⟨QQ, 1, none⟩ = some (.int .i64 0) := HO.out.cell 0 rfl 1 rfl
        have f0 : wr.frozen? ⟨QQ, 0, none⟩ = false := HO.out.frozen 0 rfl 0
        have f1 : wr.frozen? ⟨QQ, 1, none⟩ = false := HO.out.frozen 0 rfl 1
        go_wp2_with fail
        go_quiet (fail)
        rename_i nq
        have HO1 := Lib.hid ((HO.out.drewN nq).store 0 rfl 0 (.string ⟨#[]⟩))
        have HO2 := Lib.hid (HO1.out.store 0 rfl 1 (.int .i64 1))
        go_wp2_with fail
        refine bodyPost_ret (results_cell1 (v := .agg #[.string ⟨#[]⟩, .int .i64 1]) rfl rfl ?_) rfl ?_
        · go_simp
        exact ⟨by rw [HBAD.out.1, HBAD.out.2]; rfl, HO2.out.ext⟩
    case neg =>
      obtain rfl : mf = k := by omega
      have hfit := HFIT.out.2 ⟨(by first | trivial | rfl), (by first | trivial | rfl), by
        rintro ⟨s, hs, hs2⟩
        obtain ⟨j, hj, rfl⟩ := List.getElem_of_mem hs
        have h1 := HI.out.2.2 j (by have := HN.out.2.2.2; omega)
        rw [List.getD_eq_getElem?_getD, List.getElem?_eq_getElem hj, Option.getD_some] at h1
        rw [HG.out.1, h1, bne_iff_ne] at hs2
        exact hs2 rfl⟩
      have HAP := Lib.hid (Rb.apply_ok hfit)
      have hev : ∀ j, j < mf → (parts.getD j []).length = (parts.headD []).length := fun j hj => by rw [HI.out.2.2 j hj, Rb.headD0, HG.out.1]
      have HRC := Lib.hid (rcomb_combine r.coef parts mf HN.out.2.2.1.symm HN.out.2.2.2.symm hev)
      have HOKC : Hid (Gf.combS r.coef parts = Gf.combine r.coef parts) := Lib.hid (by
        refine Gf.combS_ok ?_
        unfold Gf.combOk
        rw [Bool.and_eq_true]
        refine ⟨by have := HN.out.2.2; simp; omega, ?_⟩
        rw [List.all_eq_true]
        intro q hq
        obtain ⟨j, hj, rfl⟩ := List.getElem_of_mem hq
        have h1 := hev j (by have := HN.out.2.2.2; omega)
        rw [List.getD_eq_getElem?_getD, List.getElem?_eq_getElem hj, Option.getD_some] at h1
        rw [h1]; simp)
      clear hfit hev
      go_upto_region 8 with fail
      refine wp_atEnd' (ap_first wr BB mf mf fc cc pc p fd cd pd c0 s0 hn0 hn0 HB hc0 hs0 (Lib.hid hsl0) _ _ _ _ _ _ _ _ _ _ _ _ _ _ _ _ _ _ _ _ _ _ _ _ _ _ _ _ _ _ _ _ _ _ _ _ _ _ _ _ _ _ _ _ _ _ _ _ _ _ _ _ _ _ _ _ _ _ _ _ _ _ _ _ _ ?_)
      intro u37 u38 u39 u40 u41 u42 u43 u44 w4 hx4
      replace HO := Lib.hid (HO.out.next hx4)
      replace HB := Lib.hid (HB.out.ext hx4)
      replace HC := Lib.hid (Rs.ext RB.ext _ _ _ _ hx4 HC.out)
      replace HU := Lib.hid (Rs.ext RS.ext _ _ _ _ hx4 HU.out)
      have hQ4 : QQ < w4.heap.size := Nat.lt_of_lt_of_le hQ2 hx4.size
      have HT1 : Hid (Gf.scale c0 s0 = rcomb r.coef parts 1) := Lib.hid (by rw [rcomb, rcomb, Rb.sum_nil, HG.out.1, HG.out.2])
      clear hx4 hs0 hc0 hQ2
      rw [HT1.out]
      go_wp2_with fail
      go_loopw [6, 7] (fun vt vk wr => ∃ k : Nat, 1 ≤ k ∧ k ≤ mf ∧ vk = .int .i64 (k : Nat) ∧ vt = .string (sb (rcomb r.coef parts k)) ∧ Hid (Ext w4 wr)) (fun _ vk _ => mf - (intOf vk).toNat)
      case atStart => exact ⟨1, by omega, by omega, rfl, rfl, Lib.hid (Ext.refl _)⟩
      case round =>
        obtain ⟨k, hk1, hk, rfl, rfl, HJ⟩ := hrel
        have hxr := HJ.out
        replace HO := Lib.hid (HO.out.next hxr)
        replace HB := Lib.hid (HB.out.ext hxr)
        replace HC := Lib.hid (Rs.ext RB.ext _ _ _ _ hxr HC.out)
        replace HU := Lib.hid (Rs.ext RS.ext _ _ _ _ hxr HU.out)
        have hQ5 : QQ < wr.heap.size := Nat.lt_of_lt_of_le hQ4 hxr.size
        clear hxr hQ4
        by_cases hlt : k < mf
        case pos =>
          have hkp : k < parts.length := by have := HN.out.2.2.2; omega
          have hkc : k < r.coef.length := by have := HN.out.2.2.1; omega
          obtain ⟨pd', sk, hA, hsk, hssk⟩ := HU.out.at hkp
          injection hA with hA
          subst hA
          have hssk' : sk = .string (sb parts[k]) := hssk
          subst hssk'
          obtain ⟨cd', ck, hB, hck, hcck⟩ := HC.out.at hkc
          injection hB with hB
          subst hB
          have hcck' : ck = bv r.coef[k] := hcck
          subst hcck'
          have gp : parts.getD k [] = parts[k] := by rw [List.getD_eq_getElem?_getD, List.getElem?_eq_getElem hkp]; rfl
          have gc : r.coef.getD k 0 = r.coef[k] := by rw [List.getD_eq_getElem?_getD, List.getElem?_eq_getElem hkc]; rfl
          have hslk := HSM.out _ (List.getElem_mem hkp)
          have hlen := (rcomb_at r.coef parts s0.length k (fun j hj => HI.out.2.2 j (by omega))).1
          rw [if_neg (by omega)] at hlen
          obtain ⟨sk, hse⟩ : ∃ s, parts[k] = s := ⟨_, rfl⟩
          obtain ⟨ck, hce⟩ : ∃ s, r.coef[k] = s := ⟨_, rfl⟩
          rw [hse] at hsk gp hslk
          rw [hce] at hck gc
          have HNX : Hid (Gf.sum (rcomb r.coef parts k) (Gf.scale ck sk) = rcomb r.coef parts (k + 1)) := Lib.hid (by rw [rcomb, gp, gc])
          obtain ⟨t, ht⟩ : ∃ t, rcomb r.coef parts k = t := ⟨_, rfl⟩
          rw [ht] at hlen HNX ⊢
          have HSL : Hid (sk.length ≤ 1000000 ∧ t.length ≤ 1000000) := Lib.hid ⟨hslk, by omega⟩
          clear gp gc hse hce hssk hcck hslk hlen ht
          go_upto_region 12 with fail
          have hki : (k : Int) < (mf : Int) := by omega
          have HC1 : Hid (∀ W, Ext wr W → Calls Tryd.prog 56 #[bv ck, .string (sb sk)] W fun e w' => e = .returned (.string (sb (Gf.scale ck sk))) ∧ Ext W w') := Lib.hid fun W _ => scale_sb ck sk W HSL.out.1
          have HC2 : Hid (∀ W, Ext wr W → Calls Tryd.prog 57 #[.string (sb t), .string (sb (Gf.scale ck sk))] W fun e w' => e = .returned (.string (sb (Gf.sum t (Gf.scale ck sk)))) ∧ Ext W w') := Lib.hid fun W _ => sum_sb t (Gf.scale ck sk) W HSL.out.2 (by rw [scale_len8]; exact HSL.out.1)
          have b2 : wr.cell? ⟨BB, 2, none⟩ = some (.slice (some cd) mf cc) := HB.out 2 _ rfl
          go_region_with (first | (go_at_call 56; refine (HC1.out _ (Ext.refl _).drew).mono ?_; rintro e w5 ⟨rfl, hx5⟩) | (go_at_call 57; refine (HC2.out _ ((Ext.refl _).drew.trans hx5)).mono ?_; rintro e w6 ⟨rfl, hx6⟩))
          all_goals
            have HX6 := Lib.hid (HJ.out.trans ((Ext.refl wr).drew.trans (hx5.trans hx6)))
            clear hx5 hx6
            go_wp2_with fail
            go_roundw
            case rel => exact ⟨k + 1, by omega, by omega, by go_num, (by rw [HNX.out]), HX6⟩
            case measure => simp [intOf]; omega
        case neg =>
          obtain rfl : mf = k := by omega
          have HEND : Hid (rcomb r.coef parts mf = Rb.apply r parts) := Lib.hid (by rw [HRC.out, HAP.out.1, HOKC.out])
          rw [HEND.out]
          obtain ⟨z, hz⟩ : ∃ z, Rb.apply r parts = z := ⟨_, rfl⟩
          rw [hz] at HAP ⊢
          have hz2 := hz
          have q0 : wr.cell? ⟨QQ, 0, none⟩ = some (.string ⟨#[]⟩) := HO.out.cell 0 rfl 0 rfl
          have q1 : wr.cell? ⟨QQ, 1, none⟩ = some (.int .i64 0) := HO.out.cell 0 rfl 1 rfl
          have f0 : wr.frozen? ⟨QQ, 0, none⟩ = false := HO.out.frozen 0 rfl 0
          have f1 : wr.frozen? ⟨QQ, 1, none⟩ = false := HO.out.frozen 0 rfl 1
          have HO1 := Lib.hid (HO.out.store 0 rfl 0 (.string (sb z)))
          have HO2 := Lib.hid (HO1.out.store 0 rfl 1 (.int .i64 0))
          clear hz
          have HZ := Lib.hid hz2
          clear hz2
          go_wp2_with fail
          refine bodyPost_ret (results_cell1 (v := .agg #[.string (sb z), .int .i64 0]) rfl rfl ?_) rfl ?_
          · go_simp
          exact ⟨by rw [HAP.out.2, HZ.out], HO2.out.ext⟩
end Go.Proofs.YtdmljilcbndmfaaDoor

/- THE DRAWN REGION 13 of sanity of the laws of rebuild. -/
namespace Go.Proofs.YtdmljilcbndmfaaDoor
open Go.RowKit Go.Shelf
theorem sSame_self (r : Rb.Rec) (v u : Value) (w : World) (ha : RRec w v r) (hb : RRec w u r) : Calls Tryd.prog 18 #[v, u] w fun e w' => e = .returned (.bool true) ∧ Ext w w' := by
  have h := sSame_any r r v u w ha hb
  rw [decide_eq_true rfl] at h
  exact h
theorem sSameAll_self (r : List Rb.Rec) (v u : Value) (w : World) (ha : RRs w v r) (hb : RRs w u r) : Calls Tryd.prog 19 #[v, u] w fun e w' => e = .returned (.bool true) ∧ Ext w w' := by
  have h := sSameAll_any r r v u w ha hb
  rw [decide_eq_true rfl] at h
  exact h
theorem run_build2_int (w : World) (a : Act) (o : Oper) (x y : Int) (ho : o.op = .buildSlice 27 2 #[(0, .const (.int .i64 x)), (1, .const (.int .i64 y))]) : (execOp a.eval o).run Tryd.prog w = .ok (.value (.slice (some ⟨w.heap.size, 0, none⟩) 2 2)) (w.alloc (.cells #[.int .i64 x, .int .i64 y] 3)) := by
  unfold execOp
  simp only [ho]
  go_simp
theorem run_build2_u8 (w : World) (a : Act) (o : Oper) (x y : Int) (ho : o.op = .buildSlice 28 2 #[(0, .const (.int .u8 x)), (1, .const (.int .u8 y))]) : (execOp a.eval o).run Tryd.prog w = .ok (.value (.slice (some ⟨w.heap.size, 0, none⟩) 2 2)) (w.alloc (.cells #[.int .u8 x, .int .u8 y] 5)) := by
  unfold execOp
  simp only [ho]
  go_simp
noncomputable def san_near_code : Code := ((Tryd.f11.body.bind (regionOf 13)).getD .skip)
def san_near_dsts : List (Option Nat) := [some 121, some 122, some 123, some 124, some 125, some 126, some 127, some 128, some 129, some 130, some 131, some 132, some 133, some 134, some 135, some 136, some 137, some 138, some 139, some 140, some 141, some 142, some 143, some 144, some 23]
theorem san_near_apart : apartD san_near_dsts = true := by decide +kernel
set_option maxRecDepth 1000000 in
set_option maxHeartbeats 16000000 in
theorem san_near (Qa Qb Ql XF cL : Nat) (LA FAa CAa FAb CAb FAl CAl FAz CAz : Option Addr) (fca cca fcb ccb fcl ccl fcz ccz : Nat) (wr : World) (hCa : Cells wr Qa [.int .i64 0, .slice FAa 2 fca, .slice CAa 2 cca]) (hCb : Cells wr Qb [.int .i64 0, .slice FAb 4 fcb, .slice CAb 4 ccb]) (hCl : Cells wr Ql [.int .i64 5, .slice FAl 2 fcl, .slice CAl 2 ccl]) (hC0 : Cells wr XF [.int .i64 0, .slice FAz 4 fcz, .slice CAz 4 ccz]) (hRa : RRec wr (.agg #[.int .i64 0, .slice FAa 2 fca, .slice CAa 2 cca]) ⟨0, [1, 4], [1, 1]⟩) (hRb : RRec wr (.agg #[.int .i64 0, .slice FAb 4 fcb, .slice CAb 4 ccb]) ⟨0, [1, 2, 3, 6], [2, 4, 8, 1]⟩) (hRl : RRec wr (.agg #[.int .i64 5, .slice FAl 2 fcl, .slice CAl 2 ccl]) ⟨5, [2, 3], [1, 1]⟩) (hR0 : RRec wr (.agg #[.int .i64 0, .slice FAz 4 fcz, .slice CAz 4 ccz]) ⟨0, [1, 2, 3, 6], [2, 4, 8, 1]⟩) (hAL : RRs wr (.slice LA 3 cL) [⟨0, [1, 2, 3, 6], [2, 4, 8, 1]⟩, ⟨0, [1, 2, 5, 6], [2, 12, 8, 1]⟩, ⟨0, [1, 3, 5, 6], [2, 12, 4, 1]⟩]) (hFAR : RRs wr (.slice (some ⟨XF, 0, none⟩) 3 3) [⟨0, [1, 2, 3, 6], [2, 4, 8, 1]⟩, ⟨0, [1, 2, 5, 6], [2, 12, 8, 1]⟩, ⟨0, [1, 3, 5, 6], [2, 12, 4, 1]⟩]) (c0 c1 c3 c5 c6 c7 c9 c11 c12 c13 c14 c15 c16 c17 c18 c19 c20 c21 c23 c24 c25 c26 c27 c28 c29 c30 c31 c32 c33 c34 c35 c36 c37 c38 c39 c40 c41 c42 c43 c44 c45 c46 c47 c48 c49 c50 c51 c52 c53 c54 c55 c56 c57 c58 c59 c60 c61 c62 c63 c64 c65 c66 c67 c68 c69 c70 c71 c72 c73 c74 c75 c76 c77 c78 c79 c80 c81 c82 c83 c84 c85 c86 c87 c88 c89 c90 c91 c92 c93 c94 c95 c96 c97 c98 c99 c100 c101 c102 c103 c104 c105 c106 c107 c108 c109 c110 c111 c112 c113 c114 c115 c116 c117 c118 c119 c120 c121 c122 c123 c124 c125 c126 c127 c128 c129 c130 c131 c132 c133 c134 c135 c136 c137 c138 c139 c140 c141 c142 c143 c144 c145 c146 c147 c148 c149 c150 c151 c152 c153 c154 c155 c156 c157 c158 c159 c160 c161 c162 c163 c164 c165 c166 c167 c168 c169 c170 c171 c172 c173 : Value) (df : List Deferred) (K : Act → World → Prop)
    (hK : ∀  (u121 u122 u123 u124 u125 u126 u127 u128 u129 u130 u131 u132 u133 u134 u135 u136 u137 u138 u139 u140 u141 u142 u143 u144 : Value) (wx : World), Ext wr wx → K ⟨#[c0, c1, .pointer (some ⟨Qa, 0, none⟩), c3, .slice LA 3 cL, c5, c6, c7, .pointer (some ⟨Qb, 0, none⟩), c9, .pointer (some ⟨Ql, 0, none⟩), c11, c12, c13, c14, c15, c16, c17, c18, c19, c20, c21, .slice (some ⟨XF, 0, none⟩) 3 3, .bool true, c24, c25, c26, c27, c28, c29, c30, c31, c32, c33, c34, c35, c36, c37, c38, c39, c40, c41, c42, c43, c44, c45, c46, c47, c48, c49, c50, c51, c52, c53, c54, c55, c56, c57, c58, c59, c60, c61, c62, c63, c64, c65, c66, c67, c68, c69, c70, c71, c72, c73, c74, c75, c76, c77, c78, c79, c80, c81, c82, c83, c84, c85, c86, c87, c88, c89, c90, c91, c92, c93, c94, c95, c96, c97, c98, c99, c100, c101, c102, c103, c104, c105, c106, c107, c108, c109, c110, c111, c112, c113, c114, c115, c116, c117, c118, c119, c120, u121, u122, u123, u124, u125, u126, u127, u128, u129, u130, u131, u132, u133, u134, u135, u136, u137, u138, u139, u140, u141, u142, u143, u144, c145, c146, c147, c148, c149, c150, c151, c152, c153, c154, c155, c156, c157, c158, c159, c160, c161, c162, c163, c164, c165, c166, c167, c168, c169, c170, c171, c172, c173], df⟩ wx) :
    Code.wp Tryd.prog san_near_code (AtEnd K) ⟨#[c0, c1, .pointer (some ⟨Qa, 0, none⟩), c3, .slice LA 3 cL, c5, c6, c7, .pointer (some ⟨Qb, 0, none⟩), c9, .pointer (some ⟨Ql, 0, none⟩), c11, c12, c13, c14, c15, c16, c17, c18, c19, c20, c21, .slice (some ⟨XF, 0, none⟩) 3 3, c23, c24, c25, c26, c27, c28, c29, c30, c31, c32, c33, c34, c35, c36, c37, c38, c39, c40, c41, c42, c43, c44, c45, c46, c47, c48, c49, c50, c51, c52, c53, c54, c55, c56, c57, c58, c59, c60, c61, c62, c63, c64, c65, c66, c67, c68, c69, c70, c71, c72, c73, c74, c75, c76, c77, c78, c79, c80, c81, c82, c83, c84, c85, c86, c87, c88, c89, c90, c91, c92, c93, c94, c95, c96, c97, c98, c99, c100, c101, c102, c103, c104, c105, c106, c107, c108, c109, c110, c111, c112, c113, c114, c115, c116, c117, c118, c119, c120, c121, c122, c123, c124, c125, c126, c127, c128, c129, c130, c131, c132, c133, c134, c135, c136, c137, c138, c139, c140, c141, c142, c143, c144, c145, c146, c147, c148, c149, c150, c151, c152, c153, c154, c155, c156, c157, c158, c159, c160, c161, c162, c163, c164, c165, c166, c167, c168, c169, c170, c171, c172, c173], df⟩ wr := by
  conv => arg 2; whnf
  refine region_inv (by kernel_rfl) [[], [], [], [1, 2], [0, 3, 3], [4, 4], [5], [5], [6, 7, 5, 5], [5, 8], [9, 8], [10], [10], [12, 10], [13, 10], [11, 14, 10, 10], [10, 15], [16, 15], [17], [17], [17], [19, 20, 17, 17], [18, 21, 21, 17], [17, 22], [23, 22, 0, 1, 2, 3, 4, 5, 6, 7, 8, 9, 10, 11, 12, 13, 14, 15, 16, 17, 18, 19, 20, 21, 22, 23]] (by kernel_rfl) [0, 1, 2, 3, 4, 5, 6, 7, 8, 9, 10, 11, 12, 13, 14, 15, 16, 17, 18, 19, 20, 21, 22, 23, 24] (by decide +kernel) (by decide +kernel) (by decide +kernel) (fun L a wc => ∃ (ga : Nat) (gb : Nat) (gd : Nat) (ge : Nat), Inv san_near_dsts [.agg #[.int .i64 0, .slice FAa 2 fca, .slice CAa 2 cca], .slice (some ⟨ga, 0, none⟩) 2 2, .slice (some ⟨gb, 0, none⟩) 2 2, .agg #[.int .i64 0, .slice (some ⟨ga, 0, none⟩) 2 2, .slice (some ⟨gb, 0, none⟩) 2 2], .bool true, .bool true, .slice LA 3 cL, .slice (some ⟨XF, 0, none⟩) 3 3, .bool true, .bool true, .bool true, .agg #[.int .i64 0, .slice FAb 4 fcb, .slice CAb 4 ccb], .slice (some ⟨XF, 0, none⟩) 3 3, .pointer (some ⟨XF, 0, none⟩), .agg #[.int .i64 0, .slice FAz 4 fcz, .slice CAz 4 ccz], .bool true, .bool true, .bool true, .agg #[.int .i64 5, .slice FAl 2 fcl, .slice CAl 2 ccl], .slice (some ⟨gd, 0, none⟩) 2 2, .slice (some ⟨ge, 0, none⟩) 2 2, .agg #[.int .i64 5, .slice (some ⟨gd, 0, none⟩) 2 2, .slice (some ⟨ge, 0, none⟩) 2 2], .bool true, .bool true, .bool true] ⟨#[c0, c1, .pointer (some ⟨Qa, 0, none⟩), c3, .slice LA 3 cL, c5, c6, c7, .pointer (some ⟨Qb, 0, none⟩), c9, .pointer (some ⟨Ql, 0, none⟩), c11, c12, c13, c14, c15, c16, c17, c18, c19, c20, c21, .slice (some ⟨XF, 0, none⟩) 3 3, c23, c24, c25, c26, c27, c28, c29, c30, c31, c32, c33, c34, c35, c36, c37, c38, c39, c40, c41, c42, c43, c44, c45, c46, c47, c48, c49, c50, c51, c52, c53, c54, c55, c56, c57, c58, c59, c60, c61, c62, c63, c64, c65, c66, c67, c68, c69, c70, c71, c72, c73, c74, c75, c76, c77, c78, c79, c80, c81, c82, c83, c84, c85, c86, c87, c88, c89, c90, c91, c92, c93, c94, c95, c96, c97, c98, c99, c100, c101, c102, c103, c104, c105, c106, c107, c108, c109, c110, c111, c112, c113, c114, c115, c116, c117, c118, c119, c120, c121, c122, c123, c124, c125, c126, c127, c128, c129, c130, c131, c132, c133, c134, c135, c136, c137, c138, c139, c140, c141, c142, c143, c144, c145, c146, c147, c148, c149, c150, c151, c152, c153, c154, c155, c156, c157, c158, c159, c160, c161, c162, c163, c164, c165, c166, c167, c168, c169, c170, c171, c172, c173], df⟩ L a ∧ Hid (Ext wr wc ∧ (L 1 = true → Cells wc ga [.int .i64 1, .int .i64 4]) ∧ (L 2 = true → Cells wc gb [.int .u8 1, .int .u8 1]) ∧ (L 19 = true → Cells wc gd [.int .i64 2, .int .i64 3]) ∧ (L 20 = true → Cells wc ge [.int .u8 1, .int .u8 1]))) ⟨0, 0, 0, 0, Inv.start, Lib.hid ⟨(Ext.refl wr).drew, fun h => (by cases h), fun h => (by cases h), fun h => (by cases h), fun h => by cases h⟩⟩ ?_ ?_
  · refine ⟨?_, ?_, ?_, ?_, ?_, ?_, ?_, ?_, ?_, ?_, ?_, ?_, ?_, ?_, ?_, ?_, ?_, ?_, ?_, ?_, ?_, ?_, ?_, ?_, ?_, trivial⟩
    ·
      rintro L a wc ⟨ga, gb, gd, ge, hv, HO⟩ hL hc hd
      have e0 : wc.cell? ⟨Qa, 0, none⟩ = some (.int .i64 0) := HO.out.1.cell (hCa 0 _ rfl)
      have e1 : wc.cell? ⟨Qa, 1, none⟩ = some (.slice FAa 2 fca) := HO.out.1.cell (hCa 1 _ rfl)
      have e2 : wc.cell? ⟨Qa, 2, none⟩ = some (.slice CAa 2 cca) := HO.out.1.cell (hCa 2 _ rfl)
      exact wpOp_val rfl rfl (ex_load rfl ((hv.fixed 2 (by decide)).trans rfl) (by go_simp)) ⟨ga, gb, gd, ge, hv.put san_near_apart 0 rfl (lb rfl) (lb rfl) rfl, HO⟩
    ·
      rintro L a wc ⟨ga, gb, gd, ge, hv, HO⟩ hL hc hd
      have n3 : L 3 = false := Bool.eq_false_iff.2 fun h => Bool.false_ne_true (hL.symm.trans (hc 3 h 1 (by decide)))
      have hv := hv.reset 3 n3 (.agg #[.int .i64 0, .slice (some ⟨wc.heap.size, 0, none⟩) 2 2, .slice (some ⟨gb, 0, none⟩) 2 2])
      have hx : Ext wc (wc.alloc (.cells #[.int .i64 1, .int .i64 4] 3)) := (Ext.refl wc).alloc _
      exact wpOp_val rfl rfl (run_build2_int wc a _ _ _ rfl) ⟨wc.heap.size, gb, gd, ge, hv.put san_near_apart 1 rfl (lb rfl) (lb rfl) rfl, Lib.hid ⟨HO.out.1.trans hx, fun _ => cells_new wc #[.int .i64 1, .int .i64 4] 3, fun h => (HO.out.2.2.1 h).ext hx, fun h => (HO.out.2.2.2.1 h).ext hx, fun h => (HO.out.2.2.2.2 h).ext hx⟩⟩
    ·
      rintro L a wc ⟨ga, gb, gd, ge, hv, HO⟩ hL hc hd
      have n3 : L 3 = false := Bool.eq_false_iff.2 fun h => Bool.false_ne_true (hL.symm.trans (hc 3 h 2 (by decide)))
      have hv := hv.reset 3 n3 (.agg #[.int .i64 0, .slice (some ⟨ga, 0, none⟩) 2 2, .slice (some ⟨wc.heap.size, 0, none⟩) 2 2])
      have hx : Ext wc (wc.alloc (.cells #[.int .u8 1, .int .u8 1] 5)) := (Ext.refl wc).alloc _
      exact wpOp_val rfl rfl (run_build2_u8 wc a _ _ _ rfl) ⟨ga, wc.heap.size, gd, ge, hv.put san_near_apart 2 rfl (lb rfl) (lb rfl) rfl, Lib.hid ⟨HO.out.1.trans hx, fun h => (HO.out.2.1 h).ext hx, fun _ => cells_new wc #[.int .u8 1, .int .u8 1] 5, fun h => (HO.out.2.2.2.1 h).ext hx, fun h => (HO.out.2.2.2.2 h).ext hx⟩⟩
    ·
      rintro L a wc ⟨ga, gb, gd, ge, hv, HO⟩ hL hc hd
      refine wpOp_call (R := fun v w1 => v = .agg #[.int .i64 0, .slice (some ⟨ga, 0, none⟩) 2 2, .slice (some ⟨gb, 0, none⟩) 2 2] ∧ Ext wc w1) rfl rfl (ex_call rfl rfl (by simp only [List.map_toArray, List.map_cons, List.map_nil, (hv.get 1 rfl rfl (hd 1 (by decide))), (hv.get 2 rfl rfl (hd 2 (by decide)))]; rfl) (enters_of Tryd.func37 (by kernel_rfl) rfl _ _)) ((recipe8_any 0 _ _ 2 2 2 2 _ _ wc rfl rfl).mono (fun e w' h => ⟨_, h.1, rfl, h.2⟩)) ?_
      rintro v w' ⟨rfl, hx⟩
      exact ⟨ga, gb, gd, ge, hv.put san_near_apart 3 rfl (lb rfl) (lb rfl) rfl, Lib.hid ⟨HO.out.1.trans hx, fun h => (HO.out.2.1 h).ext hx, fun h => (HO.out.2.2.1 h).ext hx, fun h => (HO.out.2.2.2.1 h).ext hx, fun h => (HO.out.2.2.2.2 h).ext hx⟩⟩
    ·
      rintro L a wc ⟨ga, gb, gd, ge, hv, HO⟩ hL hc hd
      refine wpOp_call (R := fun v w1 => v = .bool true ∧ Ext wc w1) rfl rfl (ex_call rfl rfl (by simp only [List.map_toArray, List.map_cons, List.map_nil, (hv.get 0 rfl rfl (hd 0 (by decide))), (hv.get 3 rfl rfl (hd 3 (by decide)))]; rfl) (enters_of Tryd.func18 (by kernel_rfl) rfl _ _)) ((sSame_self ⟨0, [1, 4], [1, 1]⟩ _ _ wc (RRec.ext _ _ _ _ HO.out.1 hRa) (⟨_, _, rfl, rs_lit (l := [1, 4]) (HO.out.2.1 (hc 3 (hd 3 (by decide)) 1 (by decide))) rfl (by decide), rb_lit (l := [1, 1]) (HO.out.2.2.1 (hc 3 (hd 3 (by decide)) 2 (by decide))) (by decide)⟩ : RRec wc (.agg #[.int .i64 0, .slice (some ⟨ga, 0, none⟩) 2 2, .slice (some ⟨gb, 0, none⟩) 2 2]) ⟨0, [1, 4], [1, 1]⟩)).mono (fun e w' h => ⟨_, h.1, rfl, h.2⟩)) ?_
      rintro v w' ⟨rfl, hx⟩
      exact ⟨ga, gb, gd, ge, hv.put san_near_apart 4 rfl (lb rfl) (lb rfl) rfl, Lib.hid ⟨HO.out.1.trans hx, fun h => (HO.out.2.1 h).ext hx, fun h => (HO.out.2.2.1 h).ext hx, fun h => (HO.out.2.2.2.1 h).ext hx, fun h => (HO.out.2.2.2.2 h).ext hx⟩⟩
    ·
      rintro L a wc ⟨ga, gb, gd, ge, hv, HO⟩ hL hc hd
      exact wpOp_val rfl rfl (ex_move rfl (hv.get 4 rfl rfl (hd 4 (by decide)))) ⟨ga, gb, gd, ge, hv.put san_near_apart 5 rfl (lb rfl) (lb rfl) rfl, HO⟩
    ·
      rintro L a wc ⟨ga, gb, gd, ge, hv, HO⟩ hL hc hd
      exact wpOp_val rfl ((wanted_at rfl rfl (hv.get 5 rfl rfl (hd 5 (by decide)))).trans rfl) (ex_move rfl ((hv.fixed 4 (by decide)).trans rfl)) ⟨ga, gb, gd, ge, hv.put san_near_apart 6 rfl (lb rfl) (lb rfl) rfl, HO⟩
    ·
      rintro L a wc ⟨ga, gb, gd, ge, hv, HO⟩ hL hc hd
      exact wpOp_val rfl ((wanted_at rfl rfl (hv.get 5 rfl rfl (hd 5 (by decide)))).trans rfl) (ex_move rfl ((hv.fixed 22 (by decide)).trans rfl)) ⟨ga, gb, gd, ge, hv.put san_near_apart 7 rfl (lb rfl) (lb rfl) rfl, HO⟩
    ·
      rintro L a wc ⟨ga, gb, gd, ge, hv, HO⟩ hL hc hd
      refine wpOp_callw (R := fun v w1 => v = .bool true ∧ Ext wc w1) rfl ((wanted_at rfl rfl (hv.get 5 rfl rfl (hd 5 (by decide)))).trans rfl) (ex_call rfl rfl (by simp only [List.map_toArray, List.map_cons, List.map_nil, (hv.get 6 rfl rfl (hd 6 (by decide))), (hv.get 7 rfl rfl (hd 7 (by decide)))]; rfl) (enters_of Tryd.func19 (by kernel_rfl) rfl _ _)) ((sSameAll_self [⟨0, [1, 2, 3, 6], [2, 4, 8, 1]⟩, ⟨0, [1, 2, 5, 6], [2, 12, 8, 1]⟩, ⟨0, [1, 3, 5, 6], [2, 12, 4, 1]⟩] _ _ wc (RRs.ext _ _ _ _ HO.out.1 hAL) (RRs.ext _ _ _ _ HO.out.1 hFAR)).mono (fun e w' h => ⟨_, h.1, rfl, h.2⟩)) ?_
      rintro v w' ⟨rfl, hx⟩
      exact ⟨ga, gb, gd, ge, hv.put san_near_apart 8 rfl (lb rfl) (lb rfl) rfl, Lib.hid ⟨HO.out.1.trans hx, fun h => (HO.out.2.1 h).ext hx, fun h => (HO.out.2.2.1 h).ext hx, fun h => (HO.out.2.2.2.1 h).ext hx, fun h => (HO.out.2.2.2.2 h).ext hx⟩⟩
    ·
      rintro L a wc ⟨ga, gb, gd, ge, hv, HO⟩ hL hc hd
      exact wpOp_val rfl rfl (ex_pick rfl (hv.get 5 rfl rfl (hd 5 (by decide))) (hv.get 8 rfl rfl (hd 8 (by decide)))) ⟨ga, gb, gd, ge, hv.put san_near_apart 9 rfl (lb rfl) (lb rfl) rfl, HO⟩
    ·
      rintro L a wc ⟨ga, gb, gd, ge, hv, HO⟩ hL hc hd
      exact wpOp_val rfl rfl (ex_move rfl (hv.get 9 rfl rfl (hd 9 (by decide)))) ⟨ga, gb, gd, ge, hv.put san_near_apart 10 rfl (lb rfl) (lb rfl) rfl, HO⟩
    ·
      rintro L a wc ⟨ga, gb, gd, ge, hv, HO⟩ hL hc hd
      have e0 : wc.cell? ⟨Qb, 0, none⟩ = some (.int .i64 0) := HO.out.1.cell (hCb 0 _ rfl)
      have e1 : wc.cell? ⟨Qb, 1, none⟩ = some (.slice FAb 4 fcb) := HO.out.1.cell (hCb 1 _ rfl)
      have e2 : wc.cell? ⟨Qb, 2, none⟩ = some (.slice CAb 4 ccb) := HO.out.1.cell (hCb 2 _ rfl)
      exact wpOp_val rfl ((wanted_at rfl rfl (hv.get 10 rfl rfl (hd 10 (by decide)))).trans rfl) (ex_load rfl ((hv.fixed 8 (by decide)).trans rfl) (by go_simp)) ⟨ga, gb, gd, ge, hv.put san_near_apart 11 rfl (lb rfl) (lb rfl) rfl, HO⟩
    ·
      rintro L a wc ⟨ga, gb, gd, ge, hv, HO⟩ hL hc hd
      exact wpOp_val rfl ((wanted_at rfl rfl (hv.get 10 rfl rfl (hd 10 (by decide)))).trans rfl) (ex_move rfl ((hv.fixed 22 (by decide)).trans rfl)) ⟨ga, gb, gd, ge, hv.put san_near_apart 12 rfl (lb rfl) (lb rfl) rfl, HO⟩
    ·
      rintro L a wc ⟨ga, gb, gd, ge, hv, HO⟩ hL hc hd
      have u1 : (0 : Int) ≤ (0 : Int) := by omega
      have u2 : (0 : Int) < (3 : Int) := by omega
      exact wpOp_val rfl ((wanted_at rfl rfl (hv.get 10 rfl rfl (hd 10 (by decide)))).trans rfl) (ex_index rfl (hv.get 12 rfl rfl (hd 12 (by decide))) rfl (by go_simp)) ⟨ga, gb, gd, ge, hv.put san_near_apart 13 rfl (lb rfl) (lb rfl) rfl, HO⟩
    ·
      rintro L a wc ⟨ga, gb, gd, ge, hv, HO⟩ hL hc hd
      have e0 : wc.cell? ⟨XF, 0, none⟩ = some (.int .i64 0) := HO.out.1.cell (hC0 0 _ rfl)
      have e1 : wc.cell? ⟨XF, 1, none⟩ = some (.slice FAz 4 fcz) := HO.out.1.cell (hC0 1 _ rfl)
      have e2 : wc.cell? ⟨XF, 2, none⟩ = some (.slice CAz 4 ccz) := HO.out.1.cell (hC0 2 _ rfl)
      exact wpOp_val rfl ((wanted_at rfl rfl (hv.get 10 rfl rfl (hd 10 (by decide)))).trans rfl) (ex_load rfl (hv.get 13 rfl rfl (hd 13 (by decide))) (by go_simp)) ⟨ga, gb, gd, ge, hv.put san_near_apart 14 rfl (lb rfl) (lb rfl) rfl, HO⟩
    ·
      rintro L a wc ⟨ga, gb, gd, ge, hv, HO⟩ hL hc hd
      refine wpOp_callw (R := fun v w1 => v = .bool true ∧ Ext wc w1) rfl ((wanted_at rfl rfl (hv.get 10 rfl rfl (hd 10 (by decide)))).trans rfl) (ex_call rfl rfl (by simp only [List.map_toArray, List.map_cons, List.map_nil, (hv.get 11 rfl rfl (hd 11 (by decide))), (hv.get 14 rfl rfl (hd 14 (by decide)))]; rfl) (enters_of Tryd.func18 (by kernel_rfl) rfl _ _)) ((sSame_self ⟨0, [1, 2, 3, 6], [2, 4, 8, 1]⟩ _ _ wc (RRec.ext _ _ _ _ HO.out.1 hRb) (RRec.ext _ _ _ _ HO.out.1 hR0)).mono (fun e w' h => ⟨_, h.1, rfl, h.2⟩)) ?_
      rintro v w' ⟨rfl, hx⟩
      exact ⟨ga, gb, gd, ge, hv.put san_near_apart 15 rfl (lb rfl) (lb rfl) rfl, Lib.hid ⟨HO.out.1.trans hx, fun h => (HO.out.2.1 h).ext hx, fun h => (HO.out.2.2.1 h).ext hx, fun h => (HO.out.2.2.2.1 h).ext hx, fun h => (HO.out.2.2.2.2 h).ext hx⟩⟩
    ·
      rintro L a wc ⟨ga, gb, gd, ge, hv, HO⟩ hL hc hd
      exact wpOp_val rfl rfl (ex_pick rfl (hv.get 10 rfl rfl (hd 10 (by decide))) (hv.get 15 rfl rfl (hd 15 (by decide)))) ⟨ga, gb, gd, ge, hv.put san_near_apart 16 rfl (lb rfl) (lb rfl) rfl, HO⟩
    ·
      rintro L a wc ⟨ga, gb, gd, ge, hv, HO⟩ hL hc hd
      exact wpOp_val rfl rfl (ex_move rfl (hv.get 16 rfl rfl (hd 16 (by decide)))) ⟨ga, gb, gd, ge, hv.put san_near_apart 17 rfl (lb rfl) (lb rfl) rfl, HO⟩
    ·
      rintro L a wc ⟨ga, gb, gd, ge, hv, HO⟩ hL hc hd
      have e0 : wc.cell? ⟨Ql, 0, none⟩ = some (.int .i64 5) := HO.out.1.cell (hCl 0 _ rfl)
      have e1 : wc.cell? ⟨Ql, 1, none⟩ = some (.slice FAl 2 fcl) := HO.out.1.cell (hCl 1 _ rfl)
      have e2 : wc.cell? ⟨Ql, 2, none⟩ = some (.slice CAl 2 ccl) := HO.out.1.cell (hCl 2 _ rfl)
      exact wpOp_val rfl ((wanted_at rfl rfl (hv.get 17 rfl rfl (hd 17 (by decide)))).trans rfl) (ex_load rfl ((hv.fixed 10 (by decide)).trans rfl) (by go_simp)) ⟨ga, gb, gd, ge, hv.put san_near_apart 18 rfl (lb rfl) (lb rfl) rfl, HO⟩
    ·
      rintro L a wc ⟨ga, gb, gd, ge, hv, HO⟩ hL hc hd
      have n21 : L 21 = false := Bool.eq_false_iff.2 fun h => Bool.false_ne_true (hL.symm.trans (hc 21 h 19 (by decide)))
      have hv := hv.reset 21 n21 (.agg #[.int .i64 5, .slice (some ⟨wc.heap.size, 0, none⟩) 2 2, .slice (some ⟨ge, 0, none⟩) 2 2])
      have hx : Ext wc (wc.alloc (.cells #[.int .i64 2, .int .i64 3] 3)) := (Ext.refl wc).alloc _
      exact wpOp_val rfl ((wanted_at rfl rfl (hv.get 17 rfl rfl (hd 17 (by decide)))).trans rfl) (run_build2_int wc a _ _ _ rfl) ⟨ga, gb, wc.heap.size, ge, hv.put san_near_apart 19 rfl (lb rfl) (lb rfl) rfl, Lib.hid ⟨HO.out.1.trans hx, fun h => (HO.out.2.1 h).ext hx, fun h => (HO.out.2.2.1 h).ext hx, fun _ => cells_new wc #[.int .i64 2, .int .i64 3] 3, fun h => (HO.out.2.2.2.2 h).ext hx⟩⟩
    ·
      rintro L a wc ⟨ga, gb, gd, ge, hv, HO⟩ hL hc hd
      have n21 : L 21 = false := Bool.eq_false_iff.2 fun h => Bool.false_ne_true (hL.symm.trans (hc 21 h 20 (by decide)))
      have hv := hv.reset 21 n21 (.agg #[.int .i64 5, .slice (some ⟨gd, 0, none⟩) 2 2, .slice (some ⟨wc.heap.size, 0, none⟩) 2 2])
      have hx : Ext wc (wc.alloc (.cells #[.int .u8 1, .int .u8 1] 5)) := (Ext.refl wc).alloc _
      exact wpOp_val rfl ((wanted_at rfl rfl (hv.get 17 rfl rfl (hd 17 (by decide)))).trans rfl) (run_build2_u8 wc a _ _ _ rfl) ⟨ga, gb, gd, wc.heap.size, hv.put san_near_apart 20 rfl (lb rfl) (lb rfl) rfl, Lib.hid ⟨HO.out.1.trans hx, fun h => (HO.out.2.1 h).ext hx, fun h => (HO.out.2.2.1 h).ext hx, fun h => (HO.out.2.2.2.1 h).ext hx, fun _ => cells_new wc #[.int .u8 1, .int .u8 1] 5⟩⟩
    ·
      rintro L a wc ⟨ga, gb, gd, ge, hv, HO⟩ hL hc hd
      refine wpOp_callw (R := fun v w1 => v = .agg #[.int .i64 5, .slice (some ⟨gd, 0, none⟩) 2 2, .slice (some ⟨ge, 0, none⟩) 2 2] ∧ Ext wc w1) rfl ((wanted_at rfl rfl (hv.get 17 rfl rfl (hd 17 (by decide)))).trans rfl) (ex_call rfl rfl (by simp only [List.map_toArray, List.map_cons, List.map_nil, (hv.get 19 rfl rfl (hd 19 (by decide))), (hv.get 20 rfl rfl (hd 20 (by decide)))]; rfl) (enters_of Tryd.func37 (by kernel_rfl) rfl _ _)) ((recipe8_any 5 _ _ 2 2 2 2 _ _ wc rfl rfl).mono (fun e w' h => ⟨_, h.1, rfl, h.2⟩)) ?_
      rintro v w' ⟨rfl, hx⟩
      exact ⟨ga, gb, gd, ge, hv.put san_near_apart 21 rfl (lb rfl) (lb rfl) rfl, Lib.hid ⟨HO.out.1.trans hx, fun h => (HO.out.2.1 h).ext hx, fun h => (HO.out.2.2.1 h).ext hx, fun h => (HO.out.2.2.2.1 h).ext hx, fun h => (HO.out.2.2.2.2 h).ext hx⟩⟩
    ·
      rintro L a wc ⟨ga, gb, gd, ge, hv, HO⟩ hL hc hd
      refine wpOp_callw (R := fun v w1 => v = .bool true ∧ Ext wc w1) rfl ((wanted_at rfl rfl (hv.get 17 rfl rfl (hd 17 (by decide)))).trans rfl) (ex_call rfl rfl (by simp only [List.map_toArray, List.map_cons, List.map_nil, (hv.get 18 rfl rfl (hd 18 (by decide))), (hv.get 21 rfl rfl (hd 21 (by decide)))]; rfl) (enters_of Tryd.func18 (by kernel_rfl) rfl _ _)) ((sSame_self ⟨5, [2, 3], [1, 1]⟩ _ _ wc (RRec.ext _ _ _ _ HO.out.1 hRl) (⟨_, _, rfl, rs_lit (l := [2, 3]) (HO.out.2.2.2.1 (hc 21 (hd 21 (by decide)) 19 (by decide))) rfl (by decide), rb_lit (l := [1, 1]) (HO.out.2.2.2.2 (hc 21 (hd 21 (by decide)) 20 (by decide))) (by decide)⟩ : RRec wc (.agg #[.int .i64 5, .slice (some ⟨gd, 0, none⟩) 2 2, .slice (some ⟨ge, 0, none⟩) 2 2]) ⟨5, [2, 3], [1, 1]⟩)).mono (fun e w' h => ⟨_, h.1, rfl, h.2⟩)) ?_
      rintro v w' ⟨rfl, hx⟩
      exact ⟨ga, gb, gd, ge, hv.put san_near_apart 22 rfl (lb rfl) (lb rfl) rfl, Lib.hid ⟨HO.out.1.trans hx, fun h => (HO.out.2.1 h).ext hx, fun h => (HO.out.2.2.1 h).ext hx, fun h => (HO.out.2.2.2.1 h).ext hx, fun h => (HO.out.2.2.2.2 h).ext hx⟩⟩
    ·
      rintro L a wc ⟨ga, gb, gd, ge, hv, HO⟩ hL hc hd
      exact wpOp_val rfl rfl (ex_pick rfl (hv.get 17 rfl rfl (hd 17 (by decide))) (hv.get 22 rfl rfl (hd 22 (by decide)))) ⟨ga, gb, gd, ge, hv.put san_near_apart 23 rfl (lb rfl) (lb rfl) rfl, HO⟩
    ·
      rintro L a wc ⟨ga, gb, gd, ge, hv, HO⟩ hL hc hd
      exact wpOp_val rfl rfl (ex_assign rfl (hv.get 23 rfl rfl (hd 23 (by decide)))) ⟨ga, gb, gd, ge, hv.put san_near_apart 24 rfl (lb rfl) (lb rfl) rfl, HO⟩
  · rintro L a wc ⟨ga, gb, gd, ge, hv, HO⟩ hall
    show K a wc
    have ha := act_lit a
    rw [hv.size, hv.defers] at ha
    have hl : ∀ f : Nat → Value, ((List.range (⟨#[c0, c1, .pointer (some ⟨Qa, 0, none⟩), c3, .slice LA 3 cL, c5, c6, c7, .pointer (some ⟨Qb, 0, none⟩), c9, .pointer (some ⟨Ql, 0, none⟩), c11, c12, c13, c14, c15, c16, c17, c18, c19, c20, c21, .slice (some ⟨XF, 0, none⟩) 3 3, c23, c24, c25, c26, c27, c28, c29, c30, c31, c32, c33, c34, c35, c36, c37, c38, c39, c40, c41, c42, c43, c44, c45, c46, c47, c48, c49, c50, c51, c52, c53, c54, c55, c56, c57, c58, c59, c60, c61, c62, c63, c64, c65, c66, c67, c68, c69, c70, c71, c72, c73, c74, c75, c76, c77, c78, c79, c80, c81, c82, c83, c84, c85, c86, c87, c88, c89, c90, c91, c92, c93, c94, c95, c96, c97, c98, c99, c100, c101, c102, c103, c104, c105, c106, c107, c108, c109, c110, c111, c112, c113, c114, c115, c116, c117, c118, c119, c120, c121, c122, c123, c124, c125, c126, c127, c128, c129, c130, c131, c132, c133, c134, c135, c136, c137, c138, c139, c140, c141, c142, c143, c144, c145, c146, c147, c148, c149, c150, c151, c152, c153, c154, c155, c156, c157, c158, c159, c160, c161, c162, c163, c164, c165, c166, c167, c168, c169, c170, c171, c172, c173], df⟩ : Act).tmps.size).map f).toArray = #[f 0, f 1, f 2, f 3, f 4, f 5, f 6, f 7, f 8, f 9, f 10, f 11, f 12, f 13, f 14, f 15, f 16, f 17, f 18, f 19, f 20, f 21, f 22, f 23, f 24, f 25, f 26, f 27, f 28, f 29, f 30, f 31, f 32, f 33, f 34, f 35, f 36, f 37, f 38, f 39, f 40, f 41, f 42, f 43, f 44, f 45, f 46, f 47, f 48, f 49, f 50, f 51, f 52, f 53, f 54, f 55, f 56, f 57, f 58, f 59, f 60, f 61, f 62, f 63, f 64, f 65, f 66, f 67, f 68, f 69, f 70, f 71, f 72, f 73, f 74, f 75, f 76, f 77, f 78, f 79, f 80, f 81, f 82, f 83, f 84, f 85, f 86, f 87, f 88, f 89, f 90, f 91, f 92, f 93, f 94, f 95, f 96, f 97, f 98, f 99, f 100, f 101, f 102, f 103, f 104, f 105, f 106, f 107, f 108, f 109, f 110, f 111, f 112, f 113, f 114, f 115, f 116, f 117, f 118, f 119, f 120, f 121, f 122, f 123, f 124, f 125, f 126, f 127, f 128, f 129, f 130, f 131, f 132, f 133, f 134, f 135, f 136, f 137, f 138, f 139, f 140, f 141, f 142, f 143, f 144, f 145, f 146, f 147, f 148, f 149, f 150, f 151, f 152, f 153, f 154, f 155, f 156, f 157, f 158, f 159, f 160, f 161, f 162, f 163, f 164, f 165, f 166, f 167, f 168, f 169, f 170, f 171, f 172, f 173] := fun _ => rfl
    rw [hl] at ha
    simp only [hv.fixed 0 (by decide), hv.fixed 1 (by decide), hv.fixed 2 (by decide), hv.fixed 3 (by decide), hv.fixed 4 (by decide), hv.fixed 5 (by decide), hv.fixed 6 (by decide), hv.fixed 7 (by decide), hv.fixed 8 (by decide), hv.fixed 9 (by decide), hv.fixed 10 (by decide), hv.fixed 11 (by decide), hv.fixed 12 (by decide), hv.fixed 13 (by decide), hv.fixed 14 (by decide), hv.fixed 15 (by decide), hv.fixed 16 (by decide), hv.fixed 17 (by decide), hv.fixed 18 (by decide), hv.fixed 19 (by decide), hv.fixed 20 (by decide), hv.fixed 21 (by decide), hv.fixed 22 (by decide), hv.fixed 24 (by decide), hv.fixed 25 (by decide), hv.fixed 26 (by decide), hv.fixed 27 (by decide), hv.fixed 28 (by decide), hv.fixed 29 (by decide), hv.fixed 30 (by decide), hv.fixed 31 (by decide), hv.fixed 32 (by decide), hv.fixed 33 (by decide), hv.fixed 34 (by decide), hv.fixed 35 (by decide), hv.fixed 36 (by decide), hv.fixed 37 (by decide), hv.fixed 38 (by decide), hv.fixed 39 (by decide), hv.fixed 40 (by decide), hv.fixed 41 (by decide), hv.fixed 42 (by decide), hv.fixed 43 (by decide), hv.fixed 44 (by decide), hv.fixed 45 (by decide), hv.fixed 46 (by decide), hv.fixed 47 (by decide), hv.fixed 48 (by decide), hv.fixed 49 (by decide), hv.fixed 50 (by decide), hv.fixed 51 (by decide), hv.fixed 52 (by decide), hv.fixed 53 (by decide), hv.fixed 54 (by decide), hv.fixed 55 (by decide), hv.fixed 56 (by decide), hv.fixed 57 (by decide), hv.fixed 58 (by decide), hv.fixed 59 (by decide), hv.fixed 60 (by decide), hv.fixed 61 (by decide), hv.fixed 62 (by decide), hv.fixed 63 (by decide), hv.fixed 64 (by decide), hv.fixed 65 (by decide), hv.fixed 66 (by decide), hv.fixed 67 (by decide), hv.fixed 68 (by decide), hv.fixed 69 (by decide), hv.fixed 70 (by decide), hv.fixed 71 (by decide), hv.fixed 72 (by decide), hv.fixed 73 (by decide), hv.fixed 74 (by decide), hv.fixed 75 (by decide), hv.fixed 76 (by decide), hv.fixed 77 (by decide), hv.fixed 78 (by decide), hv.fixed 79 (by decide), hv.fixed 80 (by decide), hv.fixed 81 (by decide), hv.fixed 82 (by decide), hv.fixed 83 (by decide), hv.fixed 84 (by decide), hv.fixed 85 (by decide), hv.fixed 86 (by decide), hv.fixed 87 (by decide), hv.fixed 88 (by decide), hv.fixed 89 (by decide), hv.fixed 90 (by decide), hv.fixed 91 (by decide), hv.fixed 92 (by decide), hv.fixed 93 (by decide), hv.fixed 94 (by decide), hv.fixed 95 (by decide), hv.fixed 96 (by decide), hv.fixed 97 (by decide), hv.fixed 98 (by decide), hv.fixed 99 (by decide), hv.fixed 100 (by decide), hv.fixed 101 (by decide), hv.fixed 102 (by decide), hv.fixed 103 (by decide), hv.fixed 104 (by decide), hv.fixed 105 (by decide), hv.fixed 106 (by decide), hv.fixed 107 (by decide), hv.fixed 108 (by decide), hv.fixed 109 (by decide), hv.fixed 110 (by decide), hv.fixed 111 (by decide), hv.fixed 112 (by decide), hv.fixed 113 (by decide), hv.fixed 114 (by decide), hv.fixed 115 (by decide), hv.fixed 116 (by decide), hv.fixed 117 (by decide), hv.fixed 118 (by decide), hv.fixed 119 (by decide), hv.fixed 120 (by decide), hv.fixed 145 (by decide), hv.fixed 146 (by decide), hv.fixed 147 (by decide), hv.fixed 148 (by decide), hv.fixed 149 (by decide), hv.fixed 150 (by decide), hv.fixed 151 (by decide), hv.fixed 152 (by decide), hv.fixed 153 (by decide), hv.fixed 154 (by decide), hv.fixed 155 (by decide), hv.fixed 156 (by decide), hv.fixed 157 (by decide), hv.fixed 158 (by decide), hv.fixed 159 (by decide), hv.fixed 160 (by decide), hv.fixed 161 (by decide), hv.fixed 162 (by decide), hv.fixed 163 (by decide), hv.fixed 164 (by decide), hv.fixed 165 (by decide), hv.fixed 166 (by decide), hv.fixed 167 (by decide), hv.fixed 168 (by decide), hv.fixed 169 (by decide), hv.fixed 170 (by decide), hv.fixed 171 (by decide), hv.fixed 172 (by decide), hv.fixed 173 (by decide), hv.get 24 (d := 23) rfl rfl (hall 24 (by decide))] at ha
    rw [ha]
    exact hK _ _ _ _ _ _ _ _ _ _ _ _ _ _ _ _ _ _ _ _ _ _ _ _ wc HO.out.1
end Go.Proofs.YtdmljilcbndmfaaDoor
