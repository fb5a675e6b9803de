/- What the program's functions do, step by step: part G of the texts for this claim; no condition beyond what each theorem states. -/
import Derived.Deep.Cut
import Derived.Deep.DeepCutAuto
import Derived.Deep.Matrix
import Derived.Lib.SmallJoins
import Derived.SizedLaws
import Derived.Deep.Slices
import Derived.Test.YtdmljilcbndmfaaDoorRbTriBunA
import Derived.Test.YtdmljilcbndmfaaDoorRbTriBunB
import Derived.Test.YtdmljilcbndmfaaDoorRbTriBunC
import Derived.Test.YtdmljilcbndmfaaDoorRbTriBunD
import Derived.Test.YtdmljilcbndmfaaDoorRbTriBunE
import Derived.Test.YtdmljilcbndmfaaDoorRbTriBunF
/- WHAT A SMALL LOSS IS, in plain terms. -/
namespace Rb
open Cd
theorem small_open {d gl : Int} {gs : List (List Int)} {data : List UInt8} {lost piece other : Int} {most : Nat} (h : Small d gl gs data lost piece other most) :
    check d gs gl = 0 ∧ pieces d gs gl = ((rowsOf d gs gl).length : Int) ∧ 0 < (rowsOf d gs gl).length ∧ (rowsOf d gs gl).length ≤ most ∧
      (∃ L P O : Nat, lost = (L : Int) ∧ piece = (P : Int) ∧ other = (O : Int) ∧ L < 2 ^ (rowsOf d gs gl).length ∧ O < 2 ^ (rowsOf d gs gl).length ∧ P < (rowsOf d gs gl).length) ∧ data.length ≤ 200 ∧ gs.length ≤ 30 := by
  obtain ⟨h1, h2, h3, h4, h5, h6, h7, h8, h9, h10⟩ := h
  have hc : check d gs gl = 0 := by
    by_cases hc : check d gs gl = 0
    · exact hc
    · exfalso; unfold pieces at h2; rw [if_neg hc] at h2; exact absurd h2 (by decide)
  have hp : pieces d gs gl = ((rowsOf d gs gl).length : Int) := by rw [pieces_ok hc, rowsOf_len hc]
  rw [hp] at h2 h3 h5 h7 h9
  rw [Int.toNat_natCast] at h5 h7
  have hg : gs.length ≤ 30 := by
    rw [Cd.few, Bool.and_eq_true, decide_eq_true_eq] at h1
    exact h1.1
  refine ⟨hc, hp, by omega, by omega, ⟨lost.toNat, piece.toNat, other.toNat, by omega, by omega, by omega, ?_, ?_, by omega⟩, h10, hg⟩
  · generalize 2 ^ (rowsOf d gs gl).length = M at h5 ⊢; omega
  · generalize 2 ^ (rowsOf d gs gl).length = M at h7 ⊢; omega
end Rb
namespace Rb
open Cd
end Rb

/- THE WALK over sanity of the laws of rebuild. -/
namespace Go.Proofs.YtdmljilcbndmfaaDoor
open Go.RowKit Go.Shelf
set_option maxRecDepth 100000 in
set_option maxHeartbeats 16000000 in
theorem sanity_any (w : World) (hT : Tab w) :
    Calls Tryd.prog 11 #[] w fun e w' => e = .returned (.bool true) ∧ Ext w w' := by
  have HT := Lib.hid hT
  clear hT
  go_enter Tryd.func11, Tryd.ntmps11
  go_wp2_with fail
  refine (example_any _).mono ?_
  rintro e w1 ⟨gG, rfl, hG, hx1⟩
  have HB := Lib.hid (cells_new w1 #[.int .i64 4, .slice (some ⟨gG, 0, none⟩) 2 2, .int .i64 1] 24)
  obtain ⟨B, hB⟩ : ∃ B, w1.heap.size = B := ⟨_, rfl⟩
  rw [hB] at HB
  have HX := Lib.hid (hx1.trans ((Ext.refl w1).alloc (.cells #[.int .i64 4, .slice (some ⟨gG, 0, none⟩) 2 2, .int .i64 1] 24)))
  have HG := Lib.hid (Rs.ext (Rs.ext RI.ext) _ _ _ _ ((Ext.refl w1).alloc (.cells #[.int .i64 4, .slice (some ⟨gG, 0, none⟩) 2 2, .int .i64 1] 24)) hG)
  have HT := Lib.hid (HT.out.ext HX.out)
  go_upto_region 2 with fail
  obtain ⟨w2, hw2⟩ : ∃ w2, w1.alloc (.cells #[.int .i64 4, .slice (some ⟨gG, 0, none⟩) 2 2, .int .i64 1] 24) = w2 := ⟨_, rfl⟩
  rw [hw2] at HB HX HG HT ⊢
  clear hG hx1 hw2 hB
  have b0 : w2.cell? ⟨B, 0, none⟩ = some (.int .i64 4) := HB.out 0 _ rfl
  have b1 : w2.cell? ⟨B, 1, none⟩ = some (.slice (some ⟨gG, 0, none⟩) 2 2) := HB.out 1 _ rfl
  have b2 : w2.cell? ⟨B, 2, none⟩ = some (.int .i64 1) := HB.out 2 _ rfl
  have hBl : B < w2.heap.size := lt_of_cell b0
  go_wp2_with fail
  refine (bBest_any 4 1 Rb.exG 1 0 _ _ HT.out HG.out).mono ?_
  rintro e w3 ⟨v, rfl, hv, hx⟩
  rw [Rb.ex_best1.2] at hv
  rw [Rb.ex_best1.1]
  obtain ⟨Fa, Ca, hvv, hF, hC⟩ := hv
  have hvv : v = .agg #[.int .i64 0, Fa, Ca] := hvv
  subst hvv
  obtain ⟨FAa, fca, rfl⟩ : ∃ FA fc, Fa = .slice FA 2 fc := by
    obtain ⟨FA, fc, h, _⟩ := hF.form
    exact ⟨FA, fc, h⟩
  obtain ⟨CAa, cca, rfl⟩ : ∃ CA cc, Ca = .slice CA 2 cc := by
    obtain ⟨CA, cc, h, _⟩ := hC.form
    exact ⟨CA, cc, h⟩
  have hxa : Ext w3 (w3.alloc (.cells #[.int .i64 0, .slice FAa 2 fca, .slice CAa 2 cca] 30)) := (Ext.refl w3).alloc _
  have hx2 := hx.trans hxa
  have HX := Lib.hid (HX.out.trans hx2)
  have HT := Lib.hid (HT.out.ext hx2)
  have HG := Lib.hid (Rs.ext (Rs.ext RI.ext) _ _ _ _ hx2 HG.out)
  have HB := Lib.hid (HB.out.ext hx2)
  have HCa := Lib.hid (cells_new w3 #[.int .i64 0, .slice FAa 2 fca, .slice CAa 2 cca] 30)
  have HFa := Lib.hid (And.intro (Rs.ext RI.ext _ _ _ _ hxa hF) (Rs.ext RB.ext _ _ _ _ hxa hC))
  clear hF hC hx hxa hx2 b0 b1 b2 hBl
  go_upto_region 3 with fail
  obtain ⟨Qa, hQa⟩ : ∃ Q, w3.heap.size = Q := ⟨_, rfl⟩
  rw [hQa] at HCa
  try rw [hQa]
  obtain ⟨w4, hw2⟩ : ∃ x, w3.alloc (.cells #[.int .i64 0, .slice FAa 2 fca, .slice CAa 2 cca] 30) = x := ⟨_, rfl⟩
  rw [hw2] at HX HT HG HB HCa HFa ⊢
  clear hw2 hQa
  have b0 : w4.cell? ⟨B, 0, none⟩ = some (.int .i64 4) := HB.out 0 _ rfl
  have b1 : w4.cell? ⟨B, 1, none⟩ = some (.slice (some ⟨gG, 0, none⟩) 2 2) := HB.out 1 _ rfl
  have b2 : w4.cell? ⟨B, 2, none⟩ = some (.int .i64 1) := HB.out 2 _ rfl
  have hBl : B < w4.heap.size := lt_of_cell b0
  go_wp2_with fail
  refine (bAll_any 4 1 Rb.exG 17 0 _ _ HT.out HG.out).mono ?_
  rintro e w5 ⟨v, rfl, hv, _, hx⟩
  rw [Rb.ex_all.2] at hv
  rw [Rb.ex_all.1]
  obtain ⟨LA, cL, rfl⟩ : ∃ A c, v = .slice A 3 c := by
    obtain ⟨A, c, h, _⟩ := hv.form
    exact ⟨A, c, h⟩
  have HX := Lib.hid (HX.out.trans hx)
  have HT := Lib.hid (HT.out.ext hx)
  have HG := Lib.hid (Rs.ext (Rs.ext RI.ext) _ _ _ _ hx HG.out)
  have HB := Lib.hid (HB.out.ext hx)
  have HCa := Lib.hid (HCa.out.ext hx)
  have HFa := Lib.hid (And.intro (Rs.ext RI.ext _ _ _ _ hx HFa.out.1) (Rs.ext RB.ext _ _ _ _ hx HFa.out.2))
  have HAL := Lib.hid hv
  clear hv hx b0 b1 b2 hBl
  go_upto_region 4 with fail
  have b0 : w5.cell? ⟨B, 0, none⟩ = some (.int .i64 4) := HB.out 0 _ rfl
  have b1 : w5.cell? ⟨B, 1, none⟩ = some (.slice (some ⟨gG, 0, none⟩) 2 2) := HB.out 1 _ rfl
  have b2 : w5.cell? ⟨B, 2, none⟩ = some (.int .i64 1) := HB.out 2 _ rfl
  have hBl : B < w5.heap.size := lt_of_cell b0
  go_wp2_with fail
  refine (bBest_any 4 1 Rb.exG 19 0 _ _ HT.out HG.out).mono ?_
  rintro e w6 ⟨v, rfl, hv, hx⟩
  rw [Rb.ex_best19.2] at hv
  rw [Rb.ex_best19.1]
  obtain ⟨Fn, Cn, hvv, hF, hC⟩ := hv
  have hvv : v = .agg #[.int .i64 0, Fn, Cn] := hvv
  subst hvv
  obtain ⟨FAn, fcn, rfl⟩ : ∃ FA fc, Fn = .slice FA 0 fc := by
    obtain ⟨FA, fc, h, _⟩ := hF.form
    exact ⟨FA, fc, h⟩
  obtain ⟨CAn, ccn, rfl⟩ : ∃ CA cc, Cn = .slice CA 0 cc := by
    obtain ⟨CA, cc, h, _⟩ := hC.form
    exact ⟨CA, cc, h⟩
  have hxa : Ext w6 (w6.alloc (.cells #[.int .i64 0, .slice FAn 0 fcn, .slice CAn 0 ccn] 30)) := (Ext.refl w6).alloc _
  have hx2 := hx.trans hxa
  have HX := Lib.hid (HX.out.trans hx2)
  have HT := Lib.hid (HT.out.ext hx2)
  have HG := Lib.hid (Rs.ext (Rs.ext RI.ext) _ _ _ _ hx2 HG.out)
  have HB := Lib.hid (HB.out.ext hx2)
  have HCa := Lib.hid (HCa.out.ext hx2)
  have HFa := Lib.hid (And.intro (Rs.ext RI.ext _ _ _ _ hx2 HFa.out.1) (Rs.ext RB.ext _ _ _ _ hx2 HFa.out.2))
  have HAL := Lib.hid (RRs.ext _ _ _ _ hx2 HAL.out)
  have HCn := Lib.hid (cells_new w6 #[.int .i64 0, .slice FAn 0 fcn, .slice CAn 0 ccn] 30)
  have HFn := Lib.hid (And.intro (Rs.ext RI.ext _ _ _ _ hxa hF) (Rs.ext RB.ext _ _ _ _ hxa hC))
  clear hF hC hx hxa hx2 b0 b1 b2 hBl
  go_upto_region 5 with fail
  obtain ⟨Qn, hQn⟩ : ∃ Q, w6.heap.size = Q := ⟨_, rfl⟩
  rw [hQn] at HCn
  try rw [hQn]
  obtain ⟨w7, hw2⟩ : ∃ x, w6.alloc (.cells #[.int .i64 0, .slice FAn 0 fcn, .slice CAn 0 ccn] 30) = x := ⟨_, rfl⟩
  rw [hw2] at HX HT HG HB HCa HFa HAL HCn HFn ⊢
  clear hw2 hQn
  have b0 : w7.cell? ⟨B, 0, none⟩ = some (.int .i64 4) := HB.out 0 _ rfl
  have b1 : w7.cell? ⟨B, 1, none⟩ = some (.slice (some ⟨gG, 0, none⟩) 2 2) := HB.out 1 _ rfl
  have b2 : w7.cell? ⟨B, 2, none⟩ = some (.int .i64 1) := HB.out 2 _ rfl
  have hBl : B < w7.heap.size := lt_of_cell b0
  go_wp2_with fail
  refine (bBest_any 4 1 Rb.exG 17 0 _ _ HT.out HG.out).mono ?_
  rintro e w8 ⟨v, rfl, hv, hx⟩
  rw [Rb.ex_best17.2] at hv
  rw [Rb.ex_best17.1]
  obtain ⟨Fb, Cb, hvv, hF, hC⟩ := hv
  have hvv : v = .agg #[.int .i64 0, Fb, Cb] := hvv
  subst hvv
  obtain ⟨FAb, fcb, rfl⟩ : ∃ FA fc, Fb = .slice FA 4 fc := by
    obtain ⟨FA, fc, h, _⟩ := hF.form
    exact ⟨FA, fc, h⟩
  obtain ⟨CAb, ccb, rfl⟩ : ∃ CA cc, Cb = .slice CA 4 cc := by
    obtain ⟨CA, cc, h, _⟩ := hC.form
    exact ⟨CA, cc, h⟩
  have hxa : Ext w8 (w8.alloc (.cells #[.int .i64 0, .slice FAb 4 fcb, .slice CAb 4 ccb] 30)) := (Ext.refl w8).alloc _
  have hx2 := hx.trans hxa
  have HX := Lib.hid (HX.out.trans hx2)
  have HT := Lib.hid (HT.out.ext hx2)
  have HG := Lib.hid (Rs.ext (Rs.ext RI.ext) _ _ _ _ hx2 HG.out)
  have HB := Lib.hid (HB.out.ext hx2)
  have HCa := Lib.hid (HCa.out.ext hx2)
  have HFa := Lib.hid (And.intro (Rs.ext RI.ext _ _ _ _ hx2 HFa.out.1) (Rs.ext RB.ext _ _ _ _ hx2 HFa.out.2))
  have HAL := Lib.hid (RRs.ext _ _ _ _ hx2 HAL.out)
  have HCn := Lib.hid (HCn.out.ext hx2)
  have HFn := Lib.hid (And.intro (Rs.ext RI.ext _ _ _ _ hx2 HFn.out.1) (Rs.ext RB.ext _ _ _ _ hx2 HFn.out.2))
  have HCb := Lib.hid (cells_new w8 #[.int .i64 0, .slice FAb 4 fcb, .slice CAb 4 ccb] 30)
  have HFb := Lib.hid (And.intro (Rs.ext RI.ext _ _ _ _ hxa hF) (Rs.ext RB.ext _ _ _ _ hxa hC))
  clear hF hC hx hxa hx2 b0 b1 b2 hBl
  go_upto_region 6 with fail
  obtain ⟨Qb, hQb⟩ : ∃ Q, w8.heap.size = Q := ⟨_, rfl⟩
  rw [hQb] at HCb
  try rw [hQb]
  obtain ⟨w9, hw2⟩ : ∃ x, w8.alloc (.cells #[.int .i64 0, .slice FAb 4 fcb, .slice CAb 4 ccb] 30) = x := ⟨_, rfl⟩
  rw [hw2] at HX HT HG HB HCa HFa HAL HCn HFn HCb HFb ⊢
  clear hw2 hQb
  have b0 : w9.cell? ⟨B, 0, none⟩ = some (.int .i64 4) := HB.out 0 _ rfl
  have b1 : w9.cell? ⟨B, 1, none⟩ = some (.slice (some ⟨gG, 0, none⟩) 2 2) := HB.out 1 _ rfl
  have b2 : w9.cell? ⟨B, 2, none⟩ = some (.int .i64 1) := HB.out 2 _ rfl
  have hBl : B < w9.heap.size := lt_of_cell b0
  go_wp2_with fail
  refine (bLocal_any 4 1 Rb.exG 5 _ _ HT.out HG.out).mono ?_
  rintro e w10 ⟨v, rfl, hv, hx⟩
  rw [Rb.ex_local.2.1] at hv
  rw [Rb.ex_local.1]
  obtain ⟨Fl, Cl, hvv, hF, hC⟩ := hv
  have hvv : v = .agg #[.int .i64 5, Fl, Cl] := hvv
  subst hvv
  obtain ⟨FAl, fcl, rfl⟩ : ∃ FA fc, Fl = .slice FA 2 fc := by
    obtain ⟨FA, fc, h, _⟩ := hF.form
    exact ⟨FA, fc, h⟩
  obtain ⟨CAl, ccl, rfl⟩ : ∃ CA cc, Cl = .slice CA 2 cc := by
    obtain ⟨CA, cc, h, _⟩ := hC.form
    exact ⟨CA, cc, h⟩
  have hxa : Ext w10 (w10.alloc (.cells #[.int .i64 5, .slice FAl 2 fcl, .slice CAl 2 ccl] 30)) := (Ext.refl w10).alloc _
  have hx2 := hx.trans hxa
  have HX := Lib.hid (HX.out.trans hx2)
  have HT := Lib.hid (HT.out.ext hx2)
  have HG := Lib.hid (Rs.ext (Rs.ext RI.ext) _ _ _ _ hx2 HG.out)
  have HB := Lib.hid (HB.out.ext hx2)
  have HCa := Lib.hid (HCa.out.ext hx2)
  have HFa := Lib.hid (And.intro (Rs.ext RI.ext _ _ _ _ hx2 HFa.out.1) (Rs.ext RB.ext _ _ _ _ hx2 HFa.out.2))
  have HAL := Lib.hid (RRs.ext _ _ _ _ hx2 HAL.out)
  have HCn := Lib.hid (HCn.out.ext hx2)
  have HFn := Lib.hid (And.intro (Rs.ext RI.ext _ _ _ _ hx2 HFn.out.1) (Rs.ext RB.ext _ _ _ _ hx2 HFn.out.2))
  have HCb := Lib.hid (HCb.out.ext hx2)
  have HFb := Lib.hid (And.intro (Rs.ext RI.ext _ _ _ _ hx2 HFb.out.1) (Rs.ext RB.ext _ _ _ _ hx2 HFb.out.2))
  have HCl := Lib.hid (cells_new w10 #[.int .i64 5, .slice FAl 2 fcl, .slice CAl 2 ccl] 30)
  have HFl := Lib.hid (And.intro (Rs.ext RI.ext _ _ _ _ hxa hF) (Rs.ext RB.ext _ _ _ _ hxa hC))
  clear hF hC hx hxa hx2 b0 b1 b2 hBl
  go_upto_region 7 with fail
  obtain ⟨Ql, hQl⟩ : ∃ Q, w10.heap.size = Q := ⟨_, rfl⟩
  rw [hQl] at HCl
  try rw [hQl]
  obtain ⟨w11, hw2⟩ : ∃ x, w10.alloc (.cells #[.int .i64 5, .slice FAl 2 fcl, .slice CAl 2 ccl] 30) = x := ⟨_, rfl⟩
  rw [hw2] at HX HT HG HB HCa HFa HAL HCn HFn HCb HFb HCl HFl ⊢
  clear hw2 hQl
  have b0 : w11.cell? ⟨B, 0, none⟩ = some (.int .i64 4) := HB.out 0 _ rfl
  have b1 : w11.cell? ⟨B, 1, none⟩ = some (.slice (some ⟨gG, 0, none⟩) 2 2) := HB.out 1 _ rfl
  have b2 : w11.cell? ⟨B, 2, none⟩ = some (.int .i64 1) := HB.out 2 _ rfl
  have hBl : B < w11.heap.size := lt_of_cell b0
  go_wp2_with fail
  refine (bLocal_any 4 1 Rb.exG 6 _ _ HT.out HG.out).mono ?_
  rintro e w12 ⟨v, rfl, hv, hx⟩
  rw [Rb.ex_local.2.2.2] at hv
  rw [Rb.ex_local.2.2.1]
  obtain ⟨Fm, Cm, hvv, hF, hC⟩ := hv
  have hvv : v = .agg #[.int .i64 0, Fm, Cm] := hvv
  subst hvv
  obtain ⟨FAm, fcm, rfl⟩ : ∃ FA fc, Fm = .slice FA 0 fc := by
    obtain ⟨FA, fc, h, _⟩ := hF.form
    exact ⟨FA, fc, h⟩
  obtain ⟨CAm, ccm, rfl⟩ : ∃ CA cc, Cm = .slice CA 0 cc := by
    obtain ⟨CA, cc, h, _⟩ := hC.form
    exact ⟨CA, cc, h⟩
  have hxa : Ext w12 (w12.alloc (.cells #[.int .i64 0, .slice FAm 0 fcm, .slice CAm 0 ccm] 30)) := (Ext.refl w12).alloc _
  have hx2 := hx.trans hxa
  have HX := Lib.hid (HX.out.trans hx2)
  have HT := Lib.hid (HT.out.ext hx2)
  have HG := Lib.hid (Rs.ext (Rs.ext RI.ext) _ _ _ _ hx2 HG.out)
  have HB := Lib.hid (HB.out.ext hx2)
  have HCa := Lib.hid (HCa.out.ext hx2)
  have HFa := Lib.hid (And.intro (Rs.ext RI.ext _ _ _ _ hx2 HFa.out.1) (Rs.ext RB.ext _ _ _ _ hx2 HFa.out.2))
  have HAL := Lib.hid (RRs.ext _ _ _ _ hx2 HAL.out)
  have HCn := Lib.hid (HCn.out.ext hx2)
  have HFn := Lib.hid (And.intro (Rs.ext RI.ext _ _ _ _ hx2 HFn.out.1) (Rs.ext RB.ext _ _ _ _ hx2 HFn.out.2))
  have HCb := Lib.hid (HCb.out.ext hx2)
  have HFb := Lib.hid (And.intro (Rs.ext RI.ext _ _ _ _ hx2 HFb.out.1) (Rs.ext RB.ext _ _ _ _ hx2 HFb.out.2))
  have HCl := Lib.hid (HCl.out.ext hx2)
  have HFl := Lib.hid (And.intro (Rs.ext RI.ext _ _ _ _ hx2 HFl.out.1) (Rs.ext RB.ext _ _ _ _ hx2 HFl.out.2))
  have HCm := Lib.hid (cells_new w12 #[.int .i64 0, .slice FAm 0 fcm, .slice CAm 0 ccm] 30)
  have HFm := Lib.hid (And.intro (Rs.ext RI.ext _ _ _ _ hxa hF) (Rs.ext RB.ext _ _ _ _ hxa hC))
  clear hF hC hx hxa hx2 b0 b1 b2 hBl
  go_upto_region 8 with fail
  obtain ⟨Qm, hQm⟩ : ∃ Q, w12.heap.size = Q := ⟨_, rfl⟩
  rw [hQm] at HCm
  try rw [hQm]
  obtain ⟨w13, hw2⟩ : ∃ x, w12.alloc (.cells #[.int .i64 0, .slice FAm 0 fcm, .slice CAm 0 ccm] 30) = x := ⟨_, rfl⟩
  rw [hw2] at HX HT HG HB HCa HFa HAL HCn HFn HCb HFb HCl HFl HCm HFm ⊢
  clear hw2 hQm
  have b0 : w13.cell? ⟨B, 0, none⟩ = some (.int .i64 4) := HB.out 0 _ rfl
  have b1 : w13.cell? ⟨B, 1, none⟩ = some (.slice (some ⟨gG, 0, none⟩) 2 2) := HB.out 1 _ rfl
  have b2 : w13.cell? ⟨B, 2, none⟩ = some (.int .i64 1) := HB.out 2 _ rfl
  have hBl : B < w13.heap.size := lt_of_cell b0
  go_wp2_with fail
  refine (bJoint_any 4 1 Rb.exG 5 _ _ HT.out HG.out).mono ?_
  rintro e w14 ⟨v1, v2, rfl, h1, h2, hx⟩
  rw [Rb.ex_joint.2] at h1 h2
  rw [Rb.ex_joint.1]
  have h1 : Rs RI w14 v1 [1, 3, 4, 5] := h1
  have h2 : RRs w14 v2 [⟨0, [1, 4], [1, 1]⟩, ⟨2, [3, 5], [1, 1]⟩] := h2
  obtain ⟨JA, cJ, rfl⟩ : ∃ A c, v1 = .slice A 4 c := by
    obtain ⟨A, c, h, _⟩ := h1.form
    exact ⟨A, c, h⟩
  obtain ⟨JB, dJ, rfl⟩ : ∃ A c, v2 = .slice A 2 c := by
    obtain ⟨A, c, h, _⟩ := h2.form
    exact ⟨A, c, h⟩
  have HX := Lib.hid (HX.out.trans hx)
  have HT := Lib.hid (HT.out.ext hx)
  have HG := Lib.hid (Rs.ext (Rs.ext RI.ext) _ _ _ _ hx HG.out)
  have HB := Lib.hid (HB.out.ext hx)
  have HCa := Lib.hid (HCa.out.ext hx)
  have HFa := Lib.hid (And.intro (Rs.ext RI.ext _ _ _ _ hx HFa.out.1) (Rs.ext RB.ext _ _ _ _ hx HFa.out.2))
  have HAL := Lib.hid (RRs.ext _ _ _ _ hx HAL.out)
  have HCn := Lib.hid (HCn.out.ext hx)
  have HFn := Lib.hid (And.intro (Rs.ext RI.ext _ _ _ _ hx HFn.out.1) (Rs.ext RB.ext _ _ _ _ hx HFn.out.2))
  have HCb := Lib.hid (HCb.out.ext hx)
  have HFb := Lib.hid (And.intro (Rs.ext RI.ext _ _ _ _ hx HFb.out.1) (Rs.ext RB.ext _ _ _ _ hx HFb.out.2))
  have HCl := Lib.hid (HCl.out.ext hx)
  have HFl := Lib.hid (And.intro (Rs.ext RI.ext _ _ _ _ hx HFl.out.1) (Rs.ext RB.ext _ _ _ _ hx HFl.out.2))
  have HCm := Lib.hid (HCm.out.ext hx)
  have HFm := Lib.hid (And.intro (Rs.ext RI.ext _ _ _ _ hx HFm.out.1) (Rs.ext RB.ext _ _ _ _ hx HFm.out.2))
  have HJ := Lib.hid (And.intro h1 h2)
  clear h1 h2 hx b0 b1 b2 hBl
  clear HG HB HCn HFn HCm HFm
  go_upto_region 9 with fail
  go_wp2_with fail
  refine (recipe8_any 0 _ _ 2 2 2 2 _ _ _ rfl rfl).mono ?_
  rintro e w15 ⟨rfl, hx⟩
  have hci := (cells_new w14 #[.int .i64 1, .int .i64 4] 3).ext (((Ext.refl _).alloc (.cells #[.int .u8 1, .int .u8 1] 5)).trans hx)
  have hcb := (cells_new (w14.alloc (.cells #[.int .i64 1, .int .i64 4] 3)) #[.int .u8 1, .int .u8 1] 5).ext hx
  rw [World.size_alloc] at hcb
  have hx2 := Ext.trans ((((Ext.refl w14).alloc _).alloc _)) hx
  have HX := Lib.hid (HX.out.trans hx2)
  have HT := Lib.hid (HT.out.ext hx2)
  have HCa := Lib.hid (HCa.out.ext hx2)
  have HFa := Lib.hid (And.intro (Rs.ext RI.ext _ _ _ _ hx2 HFa.out.1) (Rs.ext RB.ext _ _ _ _ hx2 HFa.out.2))
  have HAL := Lib.hid (RRs.ext _ _ _ _ hx2 HAL.out)
  have HCb := Lib.hid (HCb.out.ext hx2)
  have HFb := Lib.hid (And.intro (Rs.ext RI.ext _ _ _ _ hx2 HFb.out.1) (Rs.ext RB.ext _ _ _ _ hx2 HFb.out.2))
  have HCl := Lib.hid (HCl.out.ext hx2)
  have HFl := Lib.hid (And.intro (Rs.ext RI.ext _ _ _ _ hx2 HFl.out.1) (Rs.ext RB.ext _ _ _ _ hx2 HFl.out.2))
  have HJ := Lib.hid (And.intro (Rs.ext RI.ext _ _ _ _ hx2 HJ.out.1) (RRs.ext _ _ _ _ hx2 HJ.out.2))
  obtain ⟨Xp, hXp⟩ : ∃ X, w14.heap.size = X := ⟨_, rfl⟩
  rw [hXp] at hci hcb
  try rw [hXp]
  have HRp : Hid (RRec w15 (.agg #[.int .i64 0, .slice (some ⟨Xp, 0, none⟩) 2 2, .slice (some ⟨Xp + 1, 0, none⟩) 2 2]) ⟨0, [1, 4], [1, 1]⟩) := Lib.hid ⟨_, _, rfl, rs_lit (l := [1, 4]) hci rfl (by decide), rb_lit (l := [1, 1]) hcb (by decide)⟩
  clear hci hcb hx hx2 hXp
  go_wp2_with fail
  have htx : Rs RS (w15.alloc (.cells #[.string { data := #[3, 4] }, .string { data := #[2, 6] }] 9)) (.slice (some ⟨w15.heap.size, 0, none⟩) 2 2) [[3, 4], [2, 6]] := rt_lit (l := [[3, 4], [2, 6]]) (cells_new w15 #[.string { data := #[3, 4] }, .string { data := #[2, 6] }] 9) (by decide)
  have hxa : Ext w15 (w15.alloc (.cells #[.string { data := #[3, 4] }, .string { data := #[2, 6] }] 9)) := (Ext.refl _).alloc _
  refine (bApply_any ⟨0, [1, 4], [1, 1]⟩ [[3, 4], [2, 6]] _ _ _ (HT.out.ext hxa) (RRec.ext _ _ _ _ hxa HRp.out) htx (by decide) (by decide) (by decide)).mono ?_
  rintro e w16 ⟨rfl, hx⟩
  rw [Rb.ex_apply.1, Rb.ex_apply.2.1, show sb [1, 2] = ({ data := #[1, 2] } : ByteArray) from rfl]
  have hx2 := Ext.trans hxa hx
  have HX := Lib.hid (HX.out.trans hx2)
  have HT := Lib.hid (HT.out.ext hx2)
  have HCa := Lib.hid (HCa.out.ext hx2)
  have HFa := Lib.hid (And.intro (Rs.ext RI.ext _ _ _ _ hx2 HFa.out.1) (Rs.ext RB.ext _ _ _ _ hx2 HFa.out.2))
  have HAL := Lib.hid (RRs.ext _ _ _ _ hx2 HAL.out)
  have HCb := Lib.hid (HCb.out.ext hx2)
  have HFb := Lib.hid (And.intro (Rs.ext RI.ext _ _ _ _ hx2 HFb.out.1) (Rs.ext RB.ext _ _ _ _ hx2 HFb.out.2))
  have HCl := Lib.hid (HCl.out.ext hx2)
  have HFl := Lib.hid (And.intro (Rs.ext RI.ext _ _ _ _ hx2 HFl.out.1) (Rs.ext RB.ext _ _ _ _ hx2 HFl.out.2))
  have HJ := Lib.hid (And.intro (Rs.ext RI.ext _ _ _ _ hx2 HJ.out.1) (RRs.ext _ _ _ _ hx2 HJ.out.2))
  have HRp := Lib.hid (RRec.ext _ _ _ _ hx2 HRp.out)
  clear htx hxa hx hx2
  clear HRp
  go_upto_region 10 with fail
  go_wp2_with fail
  refine (recipe8_any 0 _ _ 2 2 2 2 _ _ _ rfl rfl).mono ?_
  rintro e w17 ⟨rfl, hx⟩
  have hci := (cells_new w16 #[.int .i64 1, .int .i64 4] 3).ext (((Ext.refl _).alloc (.cells #[.int .u8 1, .int .u8 1] 5)).trans hx)
  have hcb := (cells_new (w16.alloc (.cells #[.int .i64 1, .int .i64 4] 3)) #[.int .u8 1, .int .u8 1] 5).ext hx
  rw [World.size_alloc] at hcb
  have hx2 := Ext.trans ((((Ext.refl w16).alloc _).alloc _)) hx
  have HX := Lib.hid (HX.out.trans hx2)
  have HT := Lib.hid (HT.out.ext hx2)
  have HCa := Lib.hid (HCa.out.ext hx2)
  have HFa := Lib.hid (And.intro (Rs.ext RI.ext _ _ _ _ hx2 HFa.out.1) (Rs.ext RB.ext _ _ _ _ hx2 HFa.out.2))
  have HAL := Lib.hid (RRs.ext _ _ _ _ hx2 HAL.out)
  have HCb := Lib.hid (HCb.out.ext hx2)
  have HFb := Lib.hid (And.intro (Rs.ext RI.ext _ _ _ _ hx2 HFb.out.1) (Rs.ext RB.ext _ _ _ _ hx2 HFb.out.2))
  have HCl := Lib.hid (HCl.out.ext hx2)
  have HFl := Lib.hid (And.intro (Rs.ext RI.ext _ _ _ _ hx2 HFl.out.1) (Rs.ext RB.ext _ _ _ _ hx2 HFl.out.2))
  have HJ := Lib.hid (And.intro (Rs.ext RI.ext _ _ _ _ hx2 HJ.out.1) (RRs.ext _ _ _ _ hx2 HJ.out.2))
  obtain ⟨Xq, hXq⟩ : ∃ X, w16.heap.size = X := ⟨_, rfl⟩
  rw [hXq] at hci hcb
  try rw [hXq]
  have HRq : Hid (RRec w17 (.agg #[.int .i64 0, .slice (some ⟨Xq, 0, none⟩) 2 2, .slice (some ⟨Xq + 1, 0, none⟩) 2 2]) ⟨0, [1, 4], [1, 1]⟩) := Lib.hid ⟨_, _, rfl, rs_lit (l := [1, 4]) hci rfl (by decide), rb_lit (l := [1, 1]) hcb (by decide)⟩
  clear hci hcb hx hx2 hXq
  go_wp2_with fail
  have htx : Rs RS (w17.alloc (.cells #[.string { data := #[97] }, .string { data := #[98, 99] }] 9)) (.slice (some ⟨w17.heap.size, 0, none⟩) 2 2) [[97], [98, 99]] := rt_lit (l := [[97], [98, 99]]) (cells_new w17 #[.string { data := #[97] }, .string { data := #[98, 99] }] 9) (by decide)
  have hxa : Ext w17 (w17.alloc (.cells #[.string { data := #[97] }, .string { data := #[98, 99] }] 9)) := (Ext.refl _).alloc _
  refine (bApply_any ⟨0, [1, 4], [1, 1]⟩ [[97], [98, 99]] _ _ _ (HT.out.ext hxa) (RRec.ext _ _ _ _ hxa HRq.out) htx (by decide) (by decide) (by decide)).mono ?_
  rintro e w18 ⟨rfl, hx⟩
  rw [Rb.ex_apply.2.2.1]
  have hx2 := Ext.trans hxa hx
  have HX := Lib.hid (HX.out.trans hx2)
  have HT := Lib.hid (HT.out.ext hx2)
  have HCa := Lib.hid (HCa.out.ext hx2)
  have HFa := Lib.hid (And.intro (Rs.ext RI.ext _ _ _ _ hx2 HFa.out.1) (Rs.ext RB.ext _ _ _ _ hx2 HFa.out.2))
  have HAL := Lib.hid (RRs.ext _ _ _ _ hx2 HAL.out)
  have HCb := Lib.hid (HCb.out.ext hx2)
  have HFb := Lib.hid (And.intro (Rs.ext RI.ext _ _ _ _ hx2 HFb.out.1) (Rs.ext RB.ext _ _ _ _ hx2 HFb.out.2))
  have HCl := Lib.hid (HCl.out.ext hx2)
  have HFl := Lib.hid (And.intro (Rs.ext RI.ext _ _ _ _ hx2 HFl.out.1) (Rs.ext RB.ext _ _ _ _ hx2 HFl.out.2))
  have HJ := Lib.hid (And.intro (Rs.ext RI.ext _ _ _ _ hx2 HJ.out.1) (RRs.ext _ _ _ _ hx2 HJ.out.2))
  have HRq := Lib.hid (RRec.ext _ _ _ _ hx2 HRq.out)
  clear htx hxa hx hx2
  clear HRq
  go_upto_region 11 with fail
  go_upto_region 12 with fail
  go_wp2_with fail
  refine (recipe8_any 0 _ _ 4 4 4 4 _ _ _ rfl rfl).mono ?_
  rintro e w19 ⟨rfl, hx⟩
  have hci := (cells_new w18 #[.int .i64 1, .int .i64 2, .int .i64 3, .int .i64 6] 3).ext (((Ext.refl _).alloc (.cells #[.int .u8 2, .int .u8 4, .int .u8 8, .int .u8 1] 5)).trans hx)
  have hcb := (cells_new (w18.alloc (.cells #[.int .i64 1, .int .i64 2, .int .i64 3, .int .i64 6] 3)) #[.int .u8 2, .int .u8 4, .int .u8 8, .int .u8 1] 5).ext hx
  rw [World.size_alloc] at hcb
  have hx2 := Ext.trans ((((Ext.refl w18).alloc _).alloc _)) hx
  have HX := Lib.hid (HX.out.trans hx2)
  have HT := Lib.hid (HT.out.ext hx2)
  have HCa := Lib.hid (HCa.out.ext hx2)
  have HFa := Lib.hid (And.intro (Rs.ext RI.ext _ _ _ _ hx2 HFa.out.1) (Rs.ext RB.ext _ _ _ _ hx2 HFa.out.2))
  have HAL := Lib.hid (RRs.ext _ _ _ _ hx2 HAL.out)
  have HCb := Lib.hid (HCb.out.ext hx2)
  have HFb := Lib.hid (And.intro (Rs.ext RI.ext _ _ _ _ hx2 HFb.out.1) (Rs.ext RB.ext _ _ _ _ hx2 HFb.out.2))
  have HCl := Lib.hid (HCl.out.ext hx2)
  have HFl := Lib.hid (And.intro (Rs.ext RI.ext _ _ _ _ hx2 HFl.out.1) (Rs.ext RB.ext _ _ _ _ hx2 HFl.out.2))
  have HJ := Lib.hid (And.intro (Rs.ext RI.ext _ _ _ _ hx2 HJ.out.1) (RRs.ext _ _ _ _ hx2 HJ.out.2))
  obtain ⟨Xu, hXu⟩ : ∃ X, w18.heap.size = X := ⟨_, rfl⟩
  rw [hXu] at hci hcb
  try rw [hXu]
  have HRu : Hid (RRec w19 (.agg #[.int .i64 0, .slice (some ⟨Xu, 0, none⟩) 4 4, .slice (some ⟨Xu + 1, 0, none⟩) 4 4]) ⟨0, [1, 2, 3, 6], [2, 4, 8, 1]⟩) := Lib.hid ⟨_, _, rfl, rs_lit (l := [1, 2, 3, 6]) hci rfl (by decide), rb_lit (l := [2, 4, 8, 1]) hcb (by decide)⟩
  clear hci hcb hx hx2 hXu
  go_wp2_with fail
  refine (recipe8_any 0 _ _ 4 4 4 4 _ _ _ rfl rfl).mono ?_
  rintro e w20 ⟨rfl, hx⟩
  have hci := (cells_new w19 #[.int .i64 1, .int .i64 2, .int .i64 5, .int .i64 6] 3).ext (((Ext.refl _).alloc (.cells #[.int .u8 2, .int .u8 12, .int .u8 8, .int .u8 1] 5)).trans hx)
  have hcb := (cells_new (w19.alloc (.cells #[.int .i64 1, .int .i64 2, .int .i64 5, .int .i64 6] 3)) #[.int .u8 2, .int .u8 12, .int .u8 8, .int .u8 1] 5).ext hx
  rw [World.size_alloc] at hcb
  have hx2 := Ext.trans ((((Ext.refl w19).alloc _).alloc _)) hx
  have HX := Lib.hid (HX.out.trans hx2)
  have HT := Lib.hid (HT.out.ext hx2)
  have HCa := Lib.hid (HCa.out.ext hx2)
  have HFa := Lib.hid (And.intro (Rs.ext RI.ext _ _ _ _ hx2 HFa.out.1) (Rs.ext RB.ext _ _ _ _ hx2 HFa.out.2))
  have HAL := Lib.hid (RRs.ext _ _ _ _ hx2 HAL.out)
  have HCb := Lib.hid (HCb.out.ext hx2)
  have HFb := Lib.hid (And.intro (Rs.ext RI.ext _ _ _ _ hx2 HFb.out.1) (Rs.ext RB.ext _ _ _ _ hx2 HFb.out.2))
  have HCl := Lib.hid (HCl.out.ext hx2)
  have HFl := Lib.hid (And.intro (Rs.ext RI.ext _ _ _ _ hx2 HFl.out.1) (Rs.ext RB.ext _ _ _ _ hx2 HFl.out.2))
  have HJ := Lib.hid (And.intro (Rs.ext RI.ext _ _ _ _ hx2 HJ.out.1) (RRs.ext _ _ _ _ hx2 HJ.out.2))
  have HRu := Lib.hid (RRec.ext _ _ _ _ hx2 HRu.out)
  obtain ⟨Xx, hXx⟩ : ∃ X, w19.heap.size = X := ⟨_, rfl⟩
  rw [hXx] at hci hcb
  try rw [hXx]
  have HRx : Hid (RRec w20 (.agg #[.int .i64 0, .slice (some ⟨Xx, 0, none⟩) 4 4, .slice (some ⟨Xx + 1, 0, none⟩) 4 4]) ⟨0, [1, 2, 5, 6], [2, 12, 8, 1]⟩) := Lib.hid ⟨_, _, rfl, rs_lit (l := [1, 2, 5, 6]) hci rfl (by decide), rb_lit (l := [2, 12, 8, 1]) hcb (by decide)⟩
  clear hci hcb hx hx2 hXx
  go_wp2_with fail
  refine (recipe8_any 0 _ _ 4 4 4 4 _ _ _ rfl rfl).mono ?_
  rintro e w21 ⟨rfl, hx⟩
  have hci := (cells_new w20 #[.int .i64 1, .int .i64 3, .int .i64 5, .int .i64 6] 3).ext (((Ext.refl _).alloc (.cells #[.int .u8 2, .int .u8 12, .int .u8 4, .int .u8 1] 5)).trans hx)
  have hcb := (cells_new (w20.alloc (.cells #[.int .i64 1, .int .i64 3, .int .i64 5, .int .i64 6] 3)) #[.int .u8 2, .int .u8 12, .int .u8 4, .int .u8 1] 5).ext hx
  rw [World.size_alloc] at hcb
  have hx2 := Ext.trans ((((Ext.refl w20).alloc _).alloc _)) hx
  have HX := Lib.hid (HX.out.trans hx2)
  have HT := Lib.hid (HT.out.ext hx2)
  have HCa := Lib.hid (HCa.out.ext hx2)
  have HFa := Lib.hid (And.intro (Rs.ext RI.ext _ _ _ _ hx2 HFa.out.1) (Rs.ext RB.ext _ _ _ _ hx2 HFa.out.2))
  have HAL := Lib.hid (RRs.ext _ _ _ _ hx2 HAL.out)
  have HCb := Lib.hid (HCb.out.ext hx2)
  have HFb := Lib.hid (And.intro (Rs.ext RI.ext _ _ _ _ hx2 HFb.out.1) (Rs.ext RB.ext _ _ _ _ hx2 HFb.out.2))
  have HCl := Lib.hid (HCl.out.ext hx2)
  have HFl := Lib.hid (And.intro (Rs.ext RI.ext _ _ _ _ hx2 HFl.out.1) (Rs.ext RB.ext _ _ _ _ hx2 HFl.out.2))
  have HJ := Lib.hid (And.intro (Rs.ext RI.ext _ _ _ _ hx2 HJ.out.1) (RRs.ext _ _ _ _ hx2 HJ.out.2))
  have HRu := Lib.hid (RRec.ext _ _ _ _ hx2 HRu.out)
  have HRx := Lib.hid (RRec.ext _ _ _ _ hx2 HRx.out)
  obtain ⟨Xy, hXy⟩ : ∃ X, w20.heap.size = X := ⟨_, rfl⟩
  rw [hXy] at hci hcb
  try rw [hXy]
  have HRy : Hid (RRec w21 (.agg #[.int .i64 0, .slice (some ⟨Xy, 0, none⟩) 4 4, .slice (some ⟨Xy + 1, 0, none⟩) 4 4]) ⟨0, [1, 3, 5, 6], [2, 12, 4, 1]⟩) := Lib.hid ⟨_, _, rfl, rs_lit (l := [1, 3, 5, 6]) hci rfl (by decide), rb_lit (l := [2, 12, 4, 1]) hcb (by decide)⟩
  clear hci hcb hx hx2 hXy
  have hxa : Ext w21 (w21.alloc (.cells #[.int .i64 0, .slice (some ⟨Xu, 0, none⟩) 4 4, .slice (some ⟨Xu + 1, 0, none⟩) 4 4, .int .i64 0, .slice (some ⟨Xx, 0, none⟩) 4 4, .slice (some ⟨Xx + 1, 0, none⟩) 4 4, .int .i64 0, .slice (some ⟨Xy, 0, none⟩) 4 4, .slice (some ⟨Xy + 1, 0, none⟩) 4 4] 30)) := (Ext.refl _).alloc _
  have hlit : RRs (w21.alloc (.cells #[.int .i64 0, .slice (some ⟨Xu, 0, none⟩) 4 4, .slice (some ⟨Xu + 1, 0, none⟩) 4 4, .int .i64 0, .slice (some ⟨Xx, 0, none⟩) 4 4, .slice (some ⟨Xx + 1, 0, none⟩) 4 4, .int .i64 0, .slice (some ⟨Xy, 0, none⟩) 4 4, .slice (some ⟨Xy + 1, 0, none⟩) 4 4] 30)) (.slice (some ⟨w21.heap.size, 0, none⟩) 3 3) [⟨0, [1, 2, 3, 6], [2, 4, 8, 1]⟩, ⟨0, [1, 2, 5, 6], [2, 12, 8, 1]⟩, ⟨0, [1, 3, 5, 6], [2, 12, 4, 1]⟩] := rrs_lit (l := [(⟨0, [1, 2, 3, 6], [2, 4, 8, 1]⟩, .slice (some ⟨Xu, 0, none⟩) 4 4, .slice (some ⟨Xu + 1, 0, none⟩) 4 4), (⟨0, [1, 2, 5, 6], [2, 12, 8, 1]⟩, .slice (some ⟨Xx, 0, none⟩) 4 4, .slice (some ⟨Xx + 1, 0, none⟩) 4 4), (⟨0, [1, 3, 5, 6], [2, 12, 4, 1]⟩, .slice (some ⟨Xy, 0, none⟩) 4 4, .slice (some ⟨Xy + 1, 0, none⟩) 4 4)]) (cells_new w21 #[.int .i64 0, .slice (some ⟨Xu, 0, none⟩) 4 4, .slice (some ⟨Xu + 1, 0, none⟩) 4 4, .int .i64 0, .slice (some ⟨Xx, 0, none⟩) 4 4, .slice (some ⟨Xx + 1, 0, none⟩) 4 4, .int .i64 0, .slice (some ⟨Xy, 0, none⟩) 4 4, .slice (some ⟨Xy + 1, 0, none⟩) 4 4] 30) (fun y hy => by
    simp only [List.mem_cons, List.not_mem_nil, or_false] at hy
    rcases hy with rfl | rfl | rfl
    · exact rec_rows (RRec.ext _ _ _ _ hxa HRu.out)
    · exact rec_rows (RRec.ext _ _ _ _ hxa HRx.out)
    · exact rec_rows (RRec.ext _ _ _ _ hxa HRy.out)
    ) (by simp)
  go_upto_region 13 with fail
  have HFAR := Lib.hid hlit
  have hcf := cells_new w21 #[.int .i64 0, .slice (some ⟨Xu, 0, none⟩) 4 4, .slice (some ⟨Xu + 1, 0, none⟩) 4 4, .int .i64 0, .slice (some ⟨Xx, 0, none⟩) 4 4, .slice (some ⟨Xx + 1, 0, none⟩) 4 4, .int .i64 0, .slice (some ⟨Xy, 0, none⟩) 4 4, .slice (some ⟨Xy + 1, 0, none⟩) 4 4] 30
  have HC0 : Hid (Cells (w21.alloc (.cells #[.int .i64 0, .slice (some ⟨Xu, 0, none⟩) 4 4, .slice (some ⟨Xu + 1, 0, none⟩) 4 4, .int .i64 0, .slice (some ⟨Xx, 0, none⟩) 4 4, .slice (some ⟨Xx + 1, 0, none⟩) 4 4, .int .i64 0, .slice (some ⟨Xy, 0, none⟩) 4 4, .slice (some ⟨Xy + 1, 0, none⟩) 4 4] 30)) w21.heap.size [.int .i64 0, .slice (some ⟨Xu, 0, none⟩) 4 4, .slice (some ⟨Xu + 1, 0, none⟩) 4 4]) := Lib.hid fun i v hi => hcf i v (by
    match i, hi with
    | 0, hi => exact hi
    | 1, hi => exact hi
    | 2, hi => exact hi
    | i + 3, hi => simp at hi)
  have HX := Lib.hid (HX.out.trans hxa)
  have HT := Lib.hid (HT.out.ext hxa)
  have HCa := Lib.hid (HCa.out.ext hxa)
  have HFa := Lib.hid (And.intro (Rs.ext RI.ext _ _ _ _ hxa HFa.out.1) (Rs.ext RB.ext _ _ _ _ hxa HFa.out.2))
  have HAL := Lib.hid (RRs.ext _ _ _ _ hxa HAL.out)
  have HCb := Lib.hid (HCb.out.ext hxa)
  have HFb := Lib.hid (And.intro (Rs.ext RI.ext _ _ _ _ hxa HFb.out.1) (Rs.ext RB.ext _ _ _ _ hxa HFb.out.2))
  have HCl := Lib.hid (HCl.out.ext hxa)
  have HFl := Lib.hid (And.intro (Rs.ext RI.ext _ _ _ _ hxa HFl.out.1) (Rs.ext RB.ext _ _ _ _ hxa HFl.out.2))
  have HJ := Lib.hid (And.intro (Rs.ext RI.ext _ _ _ _ hxa HJ.out.1) (RRs.ext _ _ _ _ hxa HJ.out.2))
  have HRu := Lib.hid (RRec.ext _ _ _ _ hxa HRu.out)
  have HRx := Lib.hid (RRec.ext _ _ _ _ hxa HRx.out)
  have HRy := Lib.hid (RRec.ext _ _ _ _ hxa HRy.out)
  obtain ⟨XF, hXF⟩ : ∃ X, w21.heap.size = X := ⟨_, rfl⟩
  rw [hXF] at HFAR HC0
  try rw [hXF]
  obtain ⟨ws, hws⟩ : ∃ x, w21.alloc (.cells #[.int .i64 0, .slice (some ⟨Xu, 0, none⟩) 4 4, .slice (some ⟨Xu + 1, 0, none⟩) 4 4, .int .i64 0, .slice (some ⟨Xx, 0, none⟩) 4 4, .slice (some ⟨Xx + 1, 0, none⟩) 4 4, .int .i64 0, .slice (some ⟨Xy, 0, none⟩) 4 4, .slice (some ⟨Xy + 1, 0, none⟩) 4 4] 30) = x := ⟨_, rfl⟩
  rw [hws] at HFAR HC0 HX HT HCa HFa HAL HCb HFb HCl HFl HJ HRu HRx HRy ⊢
  clear hcf hlit hxa hws hXF
  refine wp_atEnd' (san_near Qa Qb Ql XF cL LA FAa CAa FAb CAb FAl CAl (some ⟨Xu, 0, none⟩) (some ⟨Xu + 1, 0, none⟩) fca cca fcb ccb fcl ccl 4 4 ws HCa.out HCb.out HCl.out HC0.out ⟨_, _, rfl, HFa.out.1, HFa.out.2⟩ ⟨_, _, rfl, HFb.out.1, HFb.out.2⟩ ⟨_, _, rfl, HFl.out.1, HFl.out.2⟩ HRu.out HAL.out HFAR.out _ _ _ _ _ _ _ _ _ _ _ _ _ _ _ _ _ _ _ _ _ _ _ _ _ _ _ _ _ _ _ _ _ _ _ _ _ _ _ _ _ _ _ _ _ _ _ _ _ _ _ _ _ _ _ _ _ _ _ _ _ _ _ _ _ _ _ _ _ _ _ _ _ _ _ _ _ _ _ _ _ _ _ _ _ _ _ _ _ _ _ _ _ _ _ _ _ _ _ _ _ _ _ _ _ _ _ _ _ _ _ _ _ _ _ _ _ _ _ _ _ _ _ _ _ _ _ _ _ _ _ _ _ _ _ _ _ _ _ _ _ _ _ _ _ _ _ _ _ _ _ _ _ _ _ _ _ _ _ _ _ _ _ _ _ _ _ _ _ _ _ ?_)
  rintro u121 u122 u123 u124 u125 u126 u127 u128 u129 u130 u131 u132 u133 u134 u135 u136 u137 u138 u139 u140 u141 u142 u143 u144 wx hx
  have HX := Lib.hid (HX.out.trans hx)
  have HT := Lib.hid (HT.out.ext hx)
  have HCa := Lib.hid (HCa.out.ext hx)
  have HFa := Lib.hid (And.intro (Rs.ext RI.ext _ _ _ _ hx HFa.out.1) (Rs.ext RB.ext _ _ _ _ hx HFa.out.2))
  have HJ := Lib.hid (And.intro (Rs.ext RI.ext _ _ _ _ hx HJ.out.1) (RRs.ext _ _ _ _ hx HJ.out.2))
  clear hx
  go_wp2_with fail
  have hxa : Ext wx (wx.alloc (.cells #[.int .i64 1, .int .i64 3, .int .i64 4, .int .i64 5] 3)) := (Ext.refl _).alloc _
  have htx : Rs RI (wx.alloc (.cells #[.int .i64 1, .int .i64 3, .int .i64 4, .int .i64 5] 3)) (.slice (some ⟨wx.heap.size, 0, none⟩) 4 4) [1, 3, 4, 5] := rs_lit (l := [1, 3, 4, 5]) (cells_new wx #[.int .i64 1, .int .i64 3, .int .i64 4, .int .i64 5] 3) rfl (by decide)
  refine (sList8_any [1, 3, 4, 5] [1, 3, 4, 5] _ _ _ (Rs.ext RI.ext _ _ _ _ hxa HJ.out.1) htx).mono ?_
  rintro e wa ⟨rfl, hx⟩
  rw [decide_eq_true rfl]
  have hx2 := Ext.trans hxa hx
  have HX := Lib.hid (HX.out.trans hx2)
  have HT := Lib.hid (HT.out.ext hx2)
  have HCa := Lib.hid (HCa.out.ext hx2)
  have HFa := Lib.hid (And.intro (Rs.ext RI.ext _ _ _ _ hx2 HFa.out.1) (Rs.ext RB.ext _ _ _ _ hx2 HFa.out.2))
  have HJ := Lib.hid (And.intro (Rs.ext RI.ext _ _ _ _ hx2 HJ.out.1) (RRs.ext _ _ _ _ hx2 HJ.out.2))
  clear hxa htx hx hx2
  go_wp2_with fail
  refine (recipe8_any 0 _ _ 2 2 2 2 _ _ _ rfl rfl).mono ?_
  rintro e w22 ⟨rfl, hx⟩
  have hci := (cells_new wa #[.int .i64 1, .int .i64 4] 3).ext (((Ext.refl _).alloc (.cells #[.int .u8 1, .int .u8 1] 5)).trans hx)
  have hcb := (cells_new (wa.alloc (.cells #[.int .i64 1, .int .i64 4] 3)) #[.int .u8 1, .int .u8 1] 5).ext hx
  rw [World.size_alloc] at hcb
  have hx2 := Ext.trans ((((Ext.refl wa).alloc _).alloc _)) hx
  have HX := Lib.hid (HX.out.trans hx2)
  have HT := Lib.hid (HT.out.ext hx2)
  have HCa := Lib.hid (HCa.out.ext hx2)
  have HFa := Lib.hid (And.intro (Rs.ext RI.ext _ _ _ _ hx2 HFa.out.1) (Rs.ext RB.ext _ _ _ _ hx2 HFa.out.2))
  have HJ := Lib.hid (And.intro (Rs.ext RI.ext _ _ _ _ hx2 HJ.out.1) (RRs.ext _ _ _ _ hx2 HJ.out.2))
  obtain ⟨Xv, hXv⟩ : ∃ X, wa.heap.size = X := ⟨_, rfl⟩
  rw [hXv] at hci hcb
  try rw [hXv]
  have HRv : Hid (RRec w22 (.agg #[.int .i64 0, .slice (some ⟨Xv, 0, none⟩) 2 2, .slice (some ⟨Xv + 1, 0, none⟩) 2 2]) ⟨0, [1, 4], [1, 1]⟩) := Lib.hid ⟨_, _, rfl, rs_lit (l := [1, 4]) hci rfl (by decide), rb_lit (l := [1, 1]) hcb (by decide)⟩
  clear hci hcb hx hx2 hXv
  go_wp2_with fail
  refine (recipe8_any 2 _ _ 2 2 2 2 _ _ _ rfl rfl).mono ?_
  rintro e w23 ⟨rfl, hx⟩
  have hci := (cells_new w22 #[.int .i64 3, .int .i64 5] 3).ext (((Ext.refl _).alloc (.cells #[.int .u8 1, .int .u8 1] 5)).trans hx)
  have hcb := (cells_new (w22.alloc (.cells #[.int .i64 3, .int .i64 5] 3)) #[.int .u8 1, .int .u8 1] 5).ext hx
  rw [World.size_alloc] at hcb
  have hx2 := Ext.trans ((((Ext.refl w22).alloc _).alloc _)) hx
  have HX := Lib.hid (HX.out.trans hx2)
  have HT := Lib.hid (HT.out.ext hx2)
  have HCa := Lib.hid (HCa.out.ext hx2)
  have HFa := Lib.hid (And.intro (Rs.ext RI.ext _ _ _ _ hx2 HFa.out.1) (Rs.ext RB.ext _ _ _ _ hx2 HFa.out.2))
  have HJ := Lib.hid (And.intro (Rs.ext RI.ext _ _ _ _ hx2 HJ.out.1) (RRs.ext _ _ _ _ hx2 HJ.out.2))
  have HRv := Lib.hid (RRec.ext _ _ _ _ hx2 HRv.out)
  obtain ⟨Xt, hXt⟩ : ∃ X, w22.heap.size = X := ⟨_, rfl⟩
  rw [hXt] at hci hcb
  try rw [hXt]
  have HRt : Hid (RRec w23 (.agg #[.int .i64 2, .slice (some ⟨Xt, 0, none⟩) 2 2, .slice (some ⟨Xt + 1, 0, none⟩) 2 2]) ⟨2, [3, 5], [1, 1]⟩) := Lib.hid ⟨_, _, rfl, rs_lit (l := [3, 5]) hci rfl (by decide), rb_lit (l := [1, 1]) hcb (by decide)⟩
  clear hci hcb hx hx2 hXt
  go_wp2_with fail
  have hxa : Ext w23 (w23.alloc (.cells #[.int .i64 0, .slice (some ⟨Xv, 0, none⟩) 2 2, .slice (some ⟨Xv + 1, 0, none⟩) 2 2, .int .i64 2, .slice (some ⟨Xt, 0, none⟩) 2 2, .slice (some ⟨Xt + 1, 0, none⟩) 2 2] 30)) := (Ext.refl _).alloc _
  have hlit : RRs (w23.alloc (.cells #[.int .i64 0, .slice (some ⟨Xv, 0, none⟩) 2 2, .slice (some ⟨Xv + 1, 0, none⟩) 2 2, .int .i64 2, .slice (some ⟨Xt, 0, none⟩) 2 2, .slice (some ⟨Xt + 1, 0, none⟩) 2 2] 30)) (.slice (some ⟨w23.heap.size, 0, none⟩) 2 2) [⟨0, [1, 4], [1, 1]⟩, ⟨2, [3, 5], [1, 1]⟩] := rrs_lit (l := [(⟨0, [1, 4], [1, 1]⟩, .slice (some ⟨Xv, 0, none⟩) 2 2, .slice (some ⟨Xv + 1, 0, none⟩) 2 2), (⟨2, [3, 5], [1, 1]⟩, .slice (some ⟨Xt, 0, none⟩) 2 2, .slice (some ⟨Xt + 1, 0, none⟩) 2 2)]) (cells_new w23 #[.int .i64 0, .slice (some ⟨Xv, 0, none⟩) 2 2, .slice (some ⟨Xv + 1, 0, none⟩) 2 2, .int .i64 2, .slice (some ⟨Xt, 0, none⟩) 2 2, .slice (some ⟨Xt + 1, 0, none⟩) 2 2] 30) (fun y hy => by
    simp only [List.mem_cons, List.not_mem_nil, or_false] at hy
    rcases hy with rfl | rfl
    · exact rec_rows (RRec.ext _ _ _ _ hxa HRv.out)
    · exact rec_rows (RRec.ext _ _ _ _ hxa HRt.out)
    ) (by simp)
  refine (sSameAll_self [⟨0, [1, 4], [1, 1]⟩, ⟨2, [3, 5], [1, 1]⟩] _ _ _ (RRs.ext _ _ _ _ hxa HJ.out.2) hlit).mono ?_
  rintro e wb ⟨rfl, hx⟩
  have hx2 := Ext.trans hxa hx
  have HX := Lib.hid (HX.out.trans hx2)
  have HT := Lib.hid (HT.out.ext hx2)
  have HCa := Lib.hid (HCa.out.ext hx2)
  have HFa := Lib.hid (And.intro (Rs.ext RI.ext _ _ _ _ hx2 HFa.out.1) (Rs.ext RB.ext _ _ _ _ hx2 HFa.out.2))
  have HJ := Lib.hid (And.intro (Rs.ext RI.ext _ _ _ _ hx2 HJ.out.1) (RRs.ext _ _ _ _ hx2 HJ.out.2))
  have HRv := Lib.hid (RRec.ext _ _ _ _ hx2 HRv.out)
  have HRt := Lib.hid (RRec.ext _ _ _ _ hx2 HRt.out)
  clear hxa hlit hx hx2
  have q0 : wb.cell? ⟨Qa, 0, none⟩ = some (.int .i64 0) := HCa.out 0 _ rfl
  have q1 : wb.cell? ⟨Qa, 1, none⟩ = some (.slice FAa 2 fca) := HCa.out 1 _ rfl
  have q2 : wb.cell? ⟨Qa, 2, none⟩ = some (.slice CAa 2 cca) := HCa.out 2 _ rfl
  go_wp2_with fail
  refine (bCheck_any ⟨0, [1, 4], [1, 1]⟩ _ _ ⟨_, _, rfl, HFa.out.1, HFa.out.2⟩ (by decide)).mono ?_
  rintro e wc ⟨rfl, hx⟩
  rw [Rb.ex_apply.2.2.2]
  have HX := Lib.hid (HX.out.trans hx)
  clear hx q0 q1 q2
  go_wp2_with fail
  go_ret
  exact ⟨rfl, HX.out⟩
end Go.Proofs.YtdmljilcbndmfaaDoor

/- REBUILD READS TOGETHER: the walk. -/
namespace Rb
open Cd Mx
/-- Whether some pieces make all lost ones. -/
def serves (m : Mat) (U : List Int) (ps : List Nat) (b : Bool) : Prop := b = true ↔ ∀ p ∈ ps, can m p U
theorem serves_nil (m : Mat) (U : List Int) : serves m U [] true := by unfold serves; simp
theorem serves_snoc {m : Mat} {U : List Int} {ps : List Nat} {p : Nat} {b z : Bool} (h : serves m U ps b) (hz : z = true ↔ can m p U) : serves m U (ps ++ [p]) (b && z) := by
  unfold serves at h ⊢
  rw [Bool.and_eq_true, h, hz]
  constructor
  · rintro ⟨h1, h2⟩ q hq
    rcases List.mem_append.mp hq with hq | hq
    · exact h1 q hq
    · rw [List.mem_singleton.mp hq]; exact h2
  · intro h1
    exact ⟨fun q hq => h1 q (List.mem_append_left _ hq), h1 p (List.mem_append_right _ (List.mem_singleton.mpr rfl))⟩
end Rb
namespace Go.Proofs.YtdmljilcbndmfaaDoor
open Go.RowKit Go.Shelf
set_option maxHeartbeats 8000000 in
set_option maxRecDepth 100000 in
theorem law_together (d gl lost piece other : Int) (gs : List (List Int)) (data : List UInt8) (G : Value) (w : World) (hT : Tab w) (hG : Rs (Rs RI) w G gs) (hn : gs.length ≤ 4611686018427387904) :
    Calls Tryd.prog 8 #[.agg #[.int .i64 d, G, .int .i64 gl, .string (sb data), .int .i64 lost, .int .i64 piece, .int .i64 other]] w fun e w' => e = .returned (.bool true) ∧ Ext w w' := by
  obtain ⟨A, c, rfl, hl⟩ := hG.form
  have hx0 := (Ext.refl w).alloc (.cells #[.int .i64 d, .slice A gs.length c, .int .i64 gl, .string (sb data), .int .i64 lost, .int .i64 piece, .int .i64 other] 63)
  have HX := Lib.hid hx0
  have HT := Lib.hid (hT.ext hx0)
  have HG := Lib.hid (Rs.ext (Rs.ext RI.ext) _ _ _ _ hx0 hG)
  have HN := Lib.hid hn
  have HB := Lib.hid (cells_new w #[.int .i64 d, .slice A gs.length c, .int .i64 gl, .string (sb data), .int .i64 lost, .int .i64 piece, .int .i64 other] 63)
  have hm := small_any d gl lost piece other gs data 11 _ _ HG.out HN.out (by decide)
  clear hT hG hx0 hn
  go_enter Tryd.func8, Tryd.ntmps8
  go_wp2_with fail
  refine hm.mono ?_
  clear hm
  rintro e w1 ⟨rfl, hx1⟩
  replace HX := Lib.hid ((HX.out).trans hx1)
  replace HT := Lib.hid ((HT.out).ext hx1)
  replace HG := Lib.hid (Rs.ext (Rs.ext RI.ext) _ _ _ _ hx1 (HG.out))
  replace HB := Lib.hid ((HB.out).ext hx1)
  clear hx1
  by_cases hs : Rb.Small d gl gs data lost piece other (11 : Nat)
  case neg =>
    rw [decide_eq_false hs]
    clear hs
    go_wp2_with fail
    refine (sanity_any w1 HT.out).mono ?_
    rintro e w901 ⟨rfl, hxs⟩
    have HXS := Lib.hid (HX.out.trans hxs)
    clear hxs
    go_wp2_with fail
    go_ret
    exact ⟨rfl, HXS.out⟩
  case pos =>
  rw [decide_eq_true hs]
  obtain ⟨hck, hpc, hn0, hnm, ⟨L, P, O, rfl, rfl, rfl, hL, hO, hP⟩, hdl, hgl⟩ := Rb.small_open hs
  clear hs
  obtain ⟨n, hnn⟩ : ∃ n, (Cd.rowsOf d gs gl).length = n := ⟨_, rfl⟩
  rw [hnn] at hpc hn0 hnm hL hO hP
  have hn24 : n ≤ 11 := by omega
  have hM1 : 2 ^ n ≤ 4096 := show 2 ^ n ≤ 2 ^ 12 from Nat.pow_le_pow_right (by decide) (by omega)
  have hL2 : L < 4096 := by omega
  have hO2 : O < 4096 := by omega
  have HCK := Lib.hid hck
  have HPC := Lib.hid hpc
  have HNN := Lib.hid hnn
  have HLO := Lib.hid (And.intro hL hO)
  have HGN := Lib.hid hgl
  clear hck hpc hnn hL hO hM1 hgl hl
  have hE := Rb.err1_in (d := d) (gl := gl) (gs := gs) (lost := (L : Nat)) (piece := (P : Nat)) HCK.out (by rw [HNN.out]; omega) (by omega) (by rw [HNN.out]; have := HLO.out.1; omega) (by omega) (by rw [HNN.out]; omega)
  have HE := Lib.hid hE.1
  have HEK : Hid (∀ k : Nat, k < n → Rb.err1 d gl gs (L : Nat) (k : Nat) = 0) := Lib.hid fun k hk => (Rb.err1_in (d := d) (gl := gl) (gs := gs) (lost := (L : Nat)) (piece := (k : Nat)) HCK.out (by rw [HNN.out]; omega) (by omega) (by rw [HNN.out]; have := HLO.out.1; omega) (by omega) (by rw [HNN.out]; omega)).2
  clear hE
  have b0 : w1.cell? ⟨w.heap.size, 0, none⟩ = some (.int .i64 d) := HB.out 0 _ rfl
  have b1 : w1.cell? ⟨w.heap.size, 1, none⟩ = some (.slice A gs.length c) := HB.out 1 _ rfl
  have b2 : w1.cell? ⟨w.heap.size, 2, none⟩ = some (.int .i64 gl) := HB.out 2 _ rfl
  go_wp2_with fail
  clear b0 b1 b2
  refine (cRows_any d gl gs _ _ HT.out HG.out).mono ?_
  rintro e w2 ⟨v, rfl, hv, hx⟩
  rw [HCK.out]
  obtain ⟨RA, cR, rfl, _⟩ := hv.form
  have hvl := HNN.out
  rw [HNN.out]
  replace HX := Lib.hid ((HX.out).trans hx)
  replace HT := Lib.hid ((HT.out).ext hx)
  replace HG := Lib.hid (Rs.ext (Rs.ext RI.ext) _ _ _ _ hx (HG.out))
  replace HB := Lib.hid ((HB.out).ext hx)
  clear hx
  have HM := Lib.hid hv
  rw [HNN.out] at HM
  clear hv hvl
  have b0 : w2.cell? ⟨w.heap.size, 0, none⟩ = some (.int .i64 d) := HB.out 0 _ rfl
  have b1 : w2.cell? ⟨w.heap.size, 1, none⟩ = some (.slice A gs.length c) := HB.out 1 _ rfl
  have b2 : w2.cell? ⟨w.heap.size, 2, none⟩ = some (.int .i64 gl) := HB.out 2 _ rfl
  go_wp2_with fail
  clear b0 b1 b2
  refine (rPieces_any d gl gs _ _ HG.out (by have := HGN.out; omega)).mono ?_
  rintro e w3 ⟨rfl, hx⟩
  rw [HPC.out]
  replace HX := Lib.hid ((HX.out).trans hx)
  replace HT := Lib.hid ((HT.out).ext hx)
  replace HG := Lib.hid (Rs.ext (Rs.ext RI.ext) _ _ _ _ hx (HG.out))
  replace HB := Lib.hid ((HB.out).ext hx)
  replace HM := Lib.hid (Rs.ext (Rs.ext RB.ext) _ _ _ _ hx (HM.out))
  clear hx
  have eL : ((n : Int) != (n : Int)) = false := by simp
  obtain ⟨us, hul, hud, huv⟩ := Rs.vals HM.out
  have HU := Lib.hid (And.intro hul (And.intro hud huv))
  clear hul hud huv
  go_wp2_with fail
  clear eL
  go_loopw [5, 48] (fun v5 vk wr => ∃ (k m c2 : Nat) (A2 : Option Addr), k ≤ n ∧ m ≤ k ∧ vk = .int .i64 (k : Nat) ∧ v5 = .slice A2 m c2 ∧ Hid (m = (Rb.usable k L (-1) O).length ∧ Owns w3 wr [⟨.slice A2 m c2, 28, 1, m, (Rb.usable k L (-1) O).map fun i : Int => us.getD i.toNat (.slice none 0 0)⟩])) (fun _ vk _ => n - (intOf vk).toNat)
  case atStart => exact ⟨0, 0, 0, none, Nat.zero_le _, Nat.le_refl _, rfl, rfl, Lib.hid ⟨rfl, Owns.nilled (L := []) (Owns.start w3 (fun r h => by cases h))⟩⟩
  case round =>
    obtain ⟨k, m, c2, A2, hk, hm, rfl, rfl, HI⟩ := hrel
    have hxr := HI.out.2.ext
    replace HX := Lib.hid ((HX.out).trans hxr)
    replace HT := Lib.hid ((HT.out).ext hxr)
    replace HG := Lib.hid (Rs.ext (Rs.ext RI.ext) _ _ _ _ hxr (HG.out))
    replace HB := Lib.hid ((HB.out).ext hxr)
    replace HM := Lib.hid (Rs.ext (Rs.ext RB.ext) _ _ _ _ hxr (HM.out))
    clear hxr
    by_cases hlt : k < n
    case pos =>
      have hkR : k < (Cd.rowsOf d gs gl).length := by rw [HNN.out]; exact hlt
      obtain ⟨ad, hA, _, hcu⟩ := (HU.out.2.1.ext HI.out.2.ext) k (us.getD k (.slice none 0 0)) (by rw [List.getD_eq_getElem?_getD, List.getElem?_eq_getElem (by rw [HU.out.1]; exact hkR)]; rfl)
      subst hA
      have hrow := HU.out.2.2 k hkR
      obtain ⟨rA, rc, hru, _⟩ := hrow.form
      obtain ⟨rl, hrl⟩ : ∃ x, (Cd.rowsOf d gs gl)[k].length = x := ⟨_, rfl⟩
      rw [hrl] at hru
      rw [hru] at hcu
      have HRU := Lib.hid hru
      clear hrow hru hrl
      have hb := bit_int16 L k (show L < 2 ^ 40 by omega)
      have hb2 : Cd.bitAt L k < 2 := Nat.mod_lt _ (by decide)
      obtain ⟨b, hbe⟩ : ∃ b, Cd.bitAt L k = b := ⟨_, rfl⟩
      rw [hbe] at hb hb2
      have ho := bit_int16 O k (show O < 2 ^ 40 by omega)
      have ho2 : Cd.bitAt O k < 2 := Nat.mod_lt _ (by decide)
      obtain ⟨bo, hoe⟩ : ∃ b, Cd.bitAt O k = b := ⟨_, rfl⟩
      rw [hoe] at ho ho2
      have HBO := Lib.hid (And.intro hbe hoe)
      clear hbe hoe
      have hkn : (k : Int) < (n : Int) := by omega
      have b4 : wr.cell? ⟨w.heap.size, 4, none⟩ = some (.int .i64 (L : Nat)) := HB.out 4 _ rfl
      have b6 : wr.cell? ⟨w.heap.size, 6, none⟩ = some (.int .i64 (O : Nat)) := HB.out 6 _ rfl
      by_cases hb0 : b = 0
      case neg =>
        have HS := Lib.hid (Rb.usable_no (k := k) (lost := L) (p := -1) (other := O) (fun e => hb0 (by rw [← HBO.out.1]; exact e.1)))
        obtain rfl : b = 1 := by omega
        clear hb0
        go_wp2_with fail
        go_roundw
        case rel => exact ⟨k + 1, m, c2, A2, by omega, by omega, by go_num, (by first | trivial | rfl), Lib.hid (by rw [HS.out]; exact HI.out)⟩
        case measure => simp [intOf]; omega
      case pos =>
        subst hb0
        by_cases ho0 : bo = 1
        case neg =>
          have HS := Lib.hid (Rb.usable_no (k := k) (lost := L) (p := -1) (other := O) (fun e => ho0 (by rw [← HBO.out.2]; exact e.2.2)))
          obtain rfl : bo = 0 := by omega
          clear ho0
          go_wp2_with fail
          go_roundw
          case rel => exact ⟨k + 1, m, c2, A2, by omega, by omega, by go_num, (by first | trivial | rfl), Lib.hid (by rw [HS.out]; exact HI.out)⟩
          case measure => simp [intOf]; omega
        case pos =>
          subst ho0
          have HS := Lib.hid (Rb.usable_yes (k := k) (lost := L) (p := -1) (other := O) HBO.out.1 (by omega) HBO.out.2)
          go_wp2_with (refine wpl_append_owns (u := .slice rA rl rc) 65 28 rfl (.tmp 67) (.tmp 69) rfl Tryd.underlying65 info_bytes rfl HI.out.2.push1 0 rfl rfl rfl (cell_of_row _ _ 0 _ _ (0, 0) (heap_new _ _)) rfl (by omega) (by decide) ?_; intro g8 c8 w8 hO8 hg8)
          have hfin : Owns w3 w8 [⟨.slice (some ⟨g8, 0, none⟩) (m + 1) c8, 28, 1, m + 1, (Rb.usable (k + 1) L (-1) O).map fun i : Int => us.getD i.toNat (.slice none 0 0)⟩] := by
            refine Owns.front (M := [⟨.slice (some ⟨wr.heap.size, 0, none⟩) 1 1, 28, 1, 1, [.slice rA rl rc]⟩]) ?_
            rw [HS.out, List.map_append, List.map_singleton, Int.toNat_natCast, HRU.out]
            exact hO8
          have HF := Lib.hid hfin
          clear hO8 hg8 hfin hb ho b4 b6
          go_wp2_with fail
          go_roundw
          case rel => exact ⟨k + 1, m + 1, c8, some ⟨g8, 0, none⟩, by omega, by omega, by go_num, (by first | trivial | rfl), Lib.hid ⟨by rw [HS.out, List.length_append, ← HI.out.1]; rfl, HF.out⟩⟩
          case measure => simp [intOf]; omega
    case neg =>
      obtain rfl : n = k := by omega
      obtain ⟨UU, hUU⟩ : ∃ x, Rb.usable n L (-1) O = x := ⟨_, rfl⟩
      have hlr : Rs (Rs RB) wr (.slice A2 m c2) (Rb.rowsAt (Cd.rowsOf d gs gl) (Rb.usable n L (-1) O)) := by
        have hrd := HI.out.2.rd 0 (A := A2) (n := m) (c := c2) (e := 28) rfl
        have h := rows_of (c := c2) hrd (fun i hi => Rs.ext RB.ext _ _ _ _ HI.out.2.ext (HU.out.2.2 i hi)) (fun x hx => by rw [HNN.out]; exact Rb.usable_bounds hx) (by rw [← HI.out.1]; omega)
        rw [← HI.out.1] at h
        exact h
      have hmu := HI.out.1
      have husub := Rb.usable_sub n L (-1) O
      have hub := fun x hx => Rb.usable_bounds (n := n) (lost := L) (p := -1) (other := O) (x := x) hx
      rw [hUU] at hlr hmu husub hub
      have HSL := Lib.hid hlr
      have HUU := Lib.hid (And.intro hmu (And.intro husub hub))
      clear hlr hmu husub hub hUU
      have HXP : Hid (∀ k : Nat, k < n → ∃ z : Bool, (z = true ↔ Rb.can (Cd.rowsOf d gs gl) k UU) ∧ ∀ (W : World) (u : Value) (hk : k < (Cd.rowsOf d gs gl).length), Tab W → Rs (Rs RB) W (.slice A2 m c2) (Rb.rowsAt (Cd.rowsOf d gs gl) UU) → Rs RB W u (Cd.rowsOf d gs gl)[k] → Calls Tryd.prog 30 #[.slice A2 m c2, u] W fun e w' => ∃ (X : Option Addr) (xl : Nat × Nat), e = .returned (.tuple #[.slice X xl.1 xl.2, .int .i64 (if z = true then 0 else 8)]) ∧ Ext W w') := Lib.hid fun k hk => by
        have hkR : k < (Cd.rowsOf d gs gl).length := by rw [HNN.out]; exact hk
        have hwid := rows_wide HCK.out (List.getElem_mem hkR)
        have hdb := Cd.check_ok HCK.out
        have hgd : (Cd.rowsOf d gs gl).getD k [] = (Cd.rowsOf d gs gl)[k] := by rw [List.getD_eq_getElem?_getD, List.getElem?_eq_getElem hkR]; rfl
        refine ⟨(Mx.expr (Rb.rowsAt (Cd.rowsOf d gs gl) UU) (Cd.rowsOf d gs gl)[k]).isSome, ?_, fun W u hk' hTW hR hu => ?_⟩
        · have h := Rb.expr_can (m := Cd.rowsOf d gs gl) (p := k) (f := UU)
          rw [hgd] at h
          exact h
        · refine (xExpress_any (Rb.rowsAt (Cd.rowsOf d gs gl) UU) (Cd.rowsOf d gs gl)[k] _ _ W hTW hR hu (fun r hr => ?_) (by rw [hwid]; omega) (by rw [hwid]; omega) (by rw [Rb.rowsAt_length]; have := HUU.out.1; omega)).mono ?_
          · obtain ⟨x, hx, rfl⟩ := List.mem_map.mp hr
            have hb := HUU.out.2.2 x hx
            have hxl : x.toNat < (Cd.rowsOf d gs gl).length := by rw [HNN.out]; omega
            rw [hwid, List.getD_eq_getElem?_getD, List.getElem?_eq_getElem hxl]
            exact rows_wide HCK.out (List.getElem_mem hxl)
          · rintro e w' ⟨X, rfl, hX, hx⟩
            obtain ⟨XA, xc, rfl, _⟩ := hX.form
            exact ⟨XA, (_, xc), rfl, hx⟩
      have b0 : wr.cell? ⟨w.heap.size, 0, none⟩ = some (.int .i64 d) := HB.out 0 _ rfl
      have b1 : wr.cell? ⟨w.heap.size, 1, none⟩ = some (.slice A gs.length c) := HB.out 1 _ rfl
      have b2 : wr.cell? ⟨w.heap.size, 2, none⟩ = some (.int .i64 gl) := HB.out 2 _ rfl
      have b4 : wr.cell? ⟨w.heap.size, 4, none⟩ = some (.int .i64 (L : Nat)) := HB.out 4 _ rfl
      go_wp2_with fail
      clear b0 b1 b2 b4
      refine (bJoint_any d gl gs (L : Nat) _ _ HT.out HG.out).mono ?_
      rintro e w5 ⟨v1, v2, rfl, hv1, hv2, hx⟩
      replace HX := Lib.hid ((HX.out).trans hx)
      replace HT := Lib.hid ((HT.out).ext hx)
      replace HG := Lib.hid (Rs.ext (Rs.ext RI.ext) _ _ _ _ hx (HG.out))
      replace HB := Lib.hid ((HB.out).ext hx)
      replace HM := Lib.hid (Rs.ext (Rs.ext RB.ext) _ _ _ _ hx (HM.out))
      replace HSL := Lib.hid (Rs.ext (Rs.ext RB.ext) _ _ _ _ hx (HSL.out))
      clear hx
      obtain ⟨FA, fc, rfl, _⟩ := hv1.form
      obtain ⟨WA, wc, rfl, _⟩ := hv2.form
      have hj2 := Rb.joint_two HE.out
      rcases hj2 with ⟨hj3, hj4⟩ | ⟨hj3, f, rs, hj4, hj5⟩
      case inl =>
        rw [hj3]
        have HJN := Lib.hid hj4
        clear hv1 hv2 hj3 hj4
        go_wp2_with fail
        go_loopw [11, 12, 13, 14, 83] (fun vs vm va vu vk wr => ∃ (k a : Nat) (b : Bool), k ≤ n ∧ a ≤ k ∧ vk = .int .i64 (k : Nat) ∧ vs = .bool b ∧ vm = .int .i64 (a : Nat) ∧ va = .int .i64 0 ∧ vu = .int .i64 0 ∧ Hid (Ext w5 wr ∧ (Rb.lostP L k).length = a ∧ Rb.serves (Cd.rowsOf d gs gl) UU (Rb.lostP L k) b)) (fun _ _ _ _ vk _ => n - (intOf vk).toNat)
        case atStart => exact ⟨0, 0, true, Nat.zero_le _, Nat.le_refl _, rfl, rfl, rfl, rfl, rfl, Lib.hid ⟨Ext.refl _, rfl, Rb.serves_nil _ _⟩⟩
        case round =>
          obtain ⟨k, a, b, hk, ha, rfl, rfl, rfl, rfl, rfl, HJ⟩ := hrel
          have hxr := HJ.out.1
          replace HX := Lib.hid ((HX.out).trans hxr)
          replace HT := Lib.hid ((HT.out).ext hxr)
          replace HG := Lib.hid (Rs.ext (Rs.ext RI.ext) _ _ _ _ hxr (HG.out))
          replace HB := Lib.hid ((HB.out).ext hxr)
          replace HM := Lib.hid (Rs.ext (Rs.ext RB.ext) _ _ _ _ hxr (HM.out))
          replace HSL := Lib.hid (Rs.ext (Rs.ext RB.ext) _ _ _ _ hxr (HSL.out))
          clear hxr
          by_cases hlt : k < n
          case pos =>
            have hkR : k < (Cd.rowsOf d gs gl).length := by rw [HNN.out]; exact hlt
            obtain ⟨ad, ru, hA, hcu, hru⟩ := HM.out.at hkR
            subst hA
            obtain ⟨rA, rc, rfl, _⟩ := hru.form
            obtain ⟨rl, hrl⟩ : ∃ x, (Cd.rowsOf d gs gl)[k].length = x := ⟨_, rfl⟩
            rw [hrl] at hru hcu
            have HRU := Lib.hid hru
            clear hru hrl
            have hb := bit_int16 L k (show L < 2 ^ 40 by omega)
            have hb2 : Cd.bitAt L k < 2 := Nat.mod_lt _ (by decide)
            obtain ⟨bb, hbe⟩ : ∃ b, Cd.bitAt L k = b := ⟨_, rfl⟩
            rw [hbe] at hb hb2
            have HBK := Lib.hid hbe
            clear hbe
            have hkn : (k : Int) < (n : Int) := by omega
            have b4 : wr.cell? ⟨w.heap.size, 4, none⟩ = some (.int .i64 (L : Nat)) := HB.out 4 _ rfl
            by_cases hb0 : bb = 0
            case pos =>
              subst hb0
              have HS := Lib.hid (Rb.lostP_no (lost := L) (n := k) HBK.out)
              go_wp2_with fail
              go_roundw
              case rel => exact ⟨k + 1, a, b, by omega, by omega, by go_num, (by first | trivial | rfl), (by first | trivial | rfl), (by first | trivial | rfl), (by first | trivial | rfl), Lib.hid ⟨HJ.out.1, by rw [HS.out]; exact HJ.out.2.1, by rw [HS.out]; exact HJ.out.2.2⟩⟩
              case measure => simp [intOf]; omega
            case neg =>
              obtain rfl : bb = 1 := by omega
              have hbn : Cd.bitAt L k ≠ 0 := by rw [HBK.out]; decide
              have HS := Lib.hid (Rb.lostP_yes (lost := L) (n := k) hbn)
              obtain ⟨zz, hzz, hxp⟩ := HXP.out k hlt
              have HSV := Lib.hid (Rb.serves_snoc HJ.out.2.2 hzz)
              rw [← HS.out] at HSV
              have hcall := hxp wr (.slice rA rl rc) hkR HT.out HSL.out HRU.out
              obtain ⟨fe, hfe⟩ : ∃ x : Int, (if zz = true then (0 : Int) else 8) = x := ⟨_, rfl⟩
              rw [hfe] at hcall
              have hfe2 : (zz = true ∧ fe = 0) ∨ (zz = false ∧ fe = 8) := by cases zz <;> simp_all
              have HCALL := Lib.hid hcall
              have HBN := Lib.hid hbn
              clear hcall hxp hzz hfe hb0 hbn
              go_wp2_with fail
              clear hb hcu b4
              refine HCALL.out.mono ?_
              rintro e w6 ⟨X, xl, rfl, hx⟩
              clear HCALL
              have HXJ := Lib.hid (HJ.out.1.trans hx)
              replace HX := Lib.hid ((HX.out).trans hx)
              replace HT := Lib.hid ((HT.out).ext hx)
              replace HG := Lib.hid (Rs.ext (Rs.ext RI.ext) _ _ _ _ hx (HG.out))
              replace HB := Lib.hid ((HB.out).ext hx)
              replace HM := Lib.hid (Rs.ext (Rs.ext RB.ext) _ _ _ _ hx (HM.out))
              replace HSL := Lib.hid (Rs.ext (Rs.ext RB.ext) _ _ _ _ hx (HSL.out))
              replace HRU := Lib.hid (Rs.ext RB.ext _ _ _ _ hx (HRU.out))
              clear hx
              cases b with
              | false =>
                have HSV2 : Hid (Rb.serves (Cd.rowsOf d gs gl) UU (Rb.lostP L (k + 1)) false) := HSV
                clear hfe2
                go_wp2_with fail
                go_roundw
                case rel => exact ⟨k + 1, a + 1, false, by omega, by omega, by go_num, (by first | trivial | rfl), by go_num, (by first | trivial | rfl), (by first | trivial | rfl), Lib.hid ⟨HXJ.out, by rw [HS.out, List.length_append, HJ.out.2.1]; rfl, HSV2.out⟩⟩
                case measure => simp [intOf]; omega
              | true =>
                rcases hfe2 with ⟨rfl, rfl⟩ | ⟨rfl, rfl⟩
                case inl =>
                  have HSV2 : Hid (Rb.serves (Cd.rowsOf d gs gl) UU (Rb.lostP L (k + 1)) true) := HSV
                  go_wp2_with fail
                  go_roundw
                  case rel => exact ⟨k + 1, a + 1, true, by omega, by omega, by go_num, (by first | trivial | rfl), by go_num, (by first | trivial | rfl), (by first | trivial | rfl), Lib.hid ⟨HXJ.out, by rw [HS.out, List.length_append, HJ.out.2.1]; rfl, HSV2.out⟩⟩
                  case measure => simp [intOf]; omega
                case inr =>
                  have HSV2 : Hid (Rb.serves (Cd.rowsOf d gs gl) UU (Rb.lostP L (k + 1)) false) := HSV
                  go_wp2_with fail
                  go_roundw
                  case rel => exact ⟨k + 1, a + 1, false, by omega, by omega, by go_num, (by first | trivial | rfl), by go_num, (by first | trivial | rfl), (by first | trivial | rfl), Lib.hid ⟨HXJ.out, by rw [HS.out, List.length_append, HJ.out.2.1]; rfl, HSV2.out⟩⟩
                  case measure => simp [intOf]; omega
          case neg =>
            obtain rfl : n = k := by omega
            have hbf : b = false := by
              cases hbb : b with
              | false => rfl
              | true =>
                exfalso
                have h := HJ.out.2.2
                rw [hbb] at h
                refine Rb.joint_none HJN.out (s := UU) ?_ ?_
                · rw [HNN.out]; exact HUU.out.2.1
                · rw [HNN.out]; exact h.mp rfl
            subst hbf
            go_wp2_with fail
            refine (sanity_any wr HT.out).mono ?_
            rintro e w1001 ⟨rfl, hxs⟩
            have HXS := Lib.hid (HX.out.trans hxs)
            clear hxs
            go_wp2_with fail
            go_ret
            exact ⟨rfl, HXS.out⟩
      case inr =>
        rw [hj3]
        rw [hj4] at hv1 hv2 ⊢
        have hv1' : Rs RI w5 (.slice FA f.length fc) f := hv1
        have hv2' : RRs w5 (.slice WA rs.length wc) rs := hv2
        have hjs := (Rb.joint_some hj5).1
        have hfb : ∀ i ∈ f, 0 ≤ i ∧ i < (n : Int) := fun i hi => by have := Rb.avail_bounds (hjs.subset hi); rw [HNN.out] at this; exact this
        have hfa : f.Pairwise (· < ·) := (Rb.avail_asc _ _ _).sublist hjs
        have hsm : ∀ r ∈ rs, ∀ i ∈ r.src, 0 ≤ i ∧ i < 16 := fun r hr i hi => by have := hfb i ((Rb.joint_reads hj5 r hr).subset hi); omega
        have hgj := Rb.joint_good HCK.out hj5 (data := ([] : List UInt8)) (by decide)
        rw [HNN.out] at hgj
        obtain ⟨nf, hnf⟩ : ∃ x, f.length = x := ⟨_, rfl⟩
        have hnf16 : nf ≤ 16 := by rw [← hnf]; have h1 := hjs.length_le; have h2 := Rb.avail_length (Cd.rowsOf d gs gl).length L (-1); rw [HNN.out] at h1 h2; omega
        obtain ⟨nr, hnr⟩ : ∃ x, rs.length = x := ⟨_, rfl⟩
        dsimp only [Option.map_some, Option.getD_some] at hv1 hv2 ⊢
        rw [hnf] at hv1'
        rw [hnr] at hv2'
        rw [hnf, hnr]
        have HGJ := Lib.hid hgj
        have HW := Lib.hid hv2'
        have HFF := Lib.hid hv1'
        have HNR := Lib.hid hnr
        have HNF := Lib.hid hnf
        have HJT := Lib.hid hj5
        have HFB := Lib.hid hfb
        have HFA := Lib.hid hfa
        have HSM := Lib.hid hsm
        clear hv1 hv2 hv1' hv2' hj3 hj4 hj5 hgj hnr hnf hfb hfa hsm hjs
        go_wp2_with fail
        go_loopw [11, 12, 13, 14, 83] (fun vs vm va vu vk wr => ∃ (k a u : Nat) (b : Bool), k ≤ n ∧ a ≤ k ∧ vk = .int .i64 (k : Nat) ∧ vs = .bool b ∧ vm = .int .i64 (a : Nat) ∧ va = .int .i64 (a : Nat) ∧ vu = .int .i64 (u : Nat) ∧ Hid (Ext w5 wr ∧ (Rb.lostP L k).length = a ∧ Rb.serves (Cd.rowsOf d gs gl) UU (Rb.lostP L k) b ∧ u = Rb.useTo (rs.take a))) (fun _ _ _ _ vk _ => n - (intOf vk).toNat)
        case atStart => exact ⟨0, 0, 0, true, Nat.zero_le _, Nat.le_refl _, rfl, rfl, rfl, rfl, rfl, Lib.hid ⟨Ext.refl _, rfl, Rb.serves_nil _ _, rfl⟩⟩
        case round =>
          obtain ⟨k, a, u, b, hk, ha, rfl, rfl, rfl, rfl, rfl, HJ⟩ := hrel
          have hxr := HJ.out.1
          replace HX := Lib.hid ((HX.out).trans hxr)
          replace HT := Lib.hid ((HT.out).ext hxr)
          replace HG := Lib.hid (Rs.ext (Rs.ext RI.ext) _ _ _ _ hxr (HG.out))
          replace HB := Lib.hid ((HB.out).ext hxr)
          replace HM := Lib.hid (Rs.ext (Rs.ext RB.ext) _ _ _ _ hxr (HM.out))
          replace HSL := Lib.hid (Rs.ext (Rs.ext RB.ext) _ _ _ _ hxr (HSL.out))
          replace HW := Lib.hid (RRs.ext _ _ _ _ hxr (HW.out))
          replace HFF := Lib.hid (Rs.ext RI.ext _ _ _ _ hxr (HFF.out))
          clear hxr
          by_cases hlt : k < n
          case pos =>
            have hkR : k < (Cd.rowsOf d gs gl).length := by rw [HNN.out]; exact hlt
            obtain ⟨ad, ru, hA, hcu, hru⟩ := HM.out.at hkR
            subst hA
            obtain ⟨rA, rc, rfl, _⟩ := hru.form
            obtain ⟨rl, hrl⟩ : ∃ x, (Cd.rowsOf d gs gl)[k].length = x := ⟨_, rfl⟩
            rw [hrl] at hru hcu
            have HRU := Lib.hid hru
            clear hru hrl
            have hb := bit_int16 L k (show L < 2 ^ 40 by omega)
            have hb2 : Cd.bitAt L k < 2 := Nat.mod_lt _ (by decide)
            obtain ⟨bb, hbe⟩ : ∃ b, Cd.bitAt L k = b := ⟨_, rfl⟩
            rw [hbe] at hb hb2
            have HBK := Lib.hid hbe
            clear hbe
            have hkn : (k : Int) < (n : Int) := by omega
            have b4 : wr.cell? ⟨w.heap.size, 4, none⟩ = some (.int .i64 (L : Nat)) := HB.out 4 _ rfl
            by_cases hb0 : bb = 0
            case pos =>
              subst hb0
              have HS := Lib.hid (Rb.lostP_no (lost := L) (n := k) HBK.out)
              go_wp2_with fail
              go_roundw
              case rel => exact ⟨k + 1, a, u, b, by omega, by omega, by go_num, (by first | trivial | rfl), (by first | trivial | rfl), (by first | trivial | rfl), (by first | trivial | rfl), Lib.hid ⟨HJ.out.1, by rw [HS.out]; exact HJ.out.2.1, by rw [HS.out]; exact HJ.out.2.2.1, HJ.out.2.2.2⟩⟩
              case measure => simp [intOf]; omega
            case neg =>
              obtain rfl : bb = 1 := by omega
              have hbn : Cd.bitAt L k ≠ 0 := by rw [HBK.out]; decide
              have HS := Lib.hid (Rb.lostP_yes (lost := L) (n := k) hbn)
              obtain ⟨zz, hzz, hxp⟩ := HXP.out k hlt
              have HSV := Lib.hid (Rb.serves_snoc HJ.out.2.2.1 hzz)
              rw [← HS.out] at HSV
              have hcall := hxp wr (.slice rA rl rc) hkR HT.out HSL.out HRU.out
              obtain ⟨fe, hfe⟩ : ∃ x : Int, (if zz = true then (0 : Int) else 8) = x := ⟨_, rfl⟩
              rw [hfe] at hcall
              have hfe2 : (zz = true ∧ fe = 0) ∨ (zz = false ∧ fe = 8) := by cases zz <;> simp_all
              have HCALL := Lib.hid hcall
              have HBN := Lib.hid hbn
              clear hcall hxp hzz hfe hb0 hbn
              go_wp2_with fail
              clear hb hcu b4
              refine HCALL.out.mono ?_
              rintro e w6 ⟨X, xl, rfl, hx⟩
              clear HCALL
              have HXJ := Lib.hid (HJ.out.1.trans hx)
              replace HX := Lib.hid ((HX.out).trans hx)
              replace HT := Lib.hid ((HT.out).ext hx)
              replace HG := Lib.hid (Rs.ext (Rs.ext RI.ext) _ _ _ _ hx (HG.out))
              replace HB := Lib.hid ((HB.out).ext hx)
              replace HM := Lib.hid (Rs.ext (Rs.ext RB.ext) _ _ _ _ hx (HM.out))
              replace HSL := Lib.hid (Rs.ext (Rs.ext RB.ext) _ _ _ _ hx (HSL.out))
              replace HW := Lib.hid (RRs.ext _ _ _ _ hx (HW.out))
              replace HFF := Lib.hid (Rs.ext RI.ext _ _ _ _ hx (HFF.out))
              replace HRU := Lib.hid (Rs.ext RB.ext _ _ _ _ hx (HRU.out))
              clear hx
              cases b with
              | false =>
                have HSV2 : Hid (Rb.serves (Cd.rowsOf d gs gl) UU (Rb.lostP L (k + 1)) false) := HSV
                clear hfe2
                have b0 : w6.cell? ⟨w.heap.size, 0, none⟩ = some (.int .i64 d) := HB.out 0 _ rfl
                have b1 : w6.cell? ⟨w.heap.size, 1, none⟩ = some (.slice A gs.length c) := HB.out 1 _ rfl
                have b2 : w6.cell? ⟨w.heap.size, 2, none⟩ = some (.int .i64 gl) := HB.out 2 _ rfl
                have b4 : w6.cell? ⟨w.heap.size, 4, none⟩ = some (.int .i64 (L : Nat)) := HB.out 4 _ rfl
                go_wp2_with fail
                clear b0 b1 b2 b4
                refine (bBest_any d gl gs (L : Nat) (k : Nat) _ _ HT.out HG.out).mono ?_
                rintro e w7a ⟨v, rfl, hv, hx⟩
                obtain ⟨FR, CR, rfl, hF, hC⟩ := hv
                obtain ⟨FAR, fcR, rfl, hlR⟩ := hF.form
                obtain ⟨CAR, ccR, rfl, _⟩ := hC.form
                obtain ⟨rR, hrR⟩ : ∃ r, Rb.bestR d gl gs (L : Nat) (k : Nat) = r := ⟨_, rfl⟩
                rw [hrR] at hF hC
                try rw [hrR]
                have HRR := Lib.hid hrR
                obtain ⟨nR, hnR⟩ : ∃ n, rR.src.length = n := ⟨_, rfl⟩
                obtain ⟨mR, hmR⟩ : ∃ m, rR.coef.length = m := ⟨_, rfl⟩
                obtain ⟨pR, hpR⟩ : ∃ m, rR.piece = m := ⟨_, rfl⟩
                rw [hrR, hnR] at hlR
                rw [hnR] at hF
                rw [hmR] at hC
                try rw [hnR]
                try rw [hmR]
                try rw [hpR]
                have HSR := Lib.hid (And.intro hnR (And.intro hmR hpR))
                have hxa : Ext w7a (w7a.alloc (.cells #[.int .i64 pR, .slice FAR nR fcR, .slice CAR mR ccR] 30)) := (Ext.refl w7a).alloc _
                have hx2 := hx.trans hxa
                replace HX := Lib.hid ((HX.out).trans hx2)
                replace HT := Lib.hid ((HT.out).ext hx2)
                replace HG := Lib.hid (Rs.ext (Rs.ext RI.ext) _ _ _ _ hx2 (HG.out))
                replace HB := Lib.hid ((HB.out).ext hx2)
                replace HM := Lib.hid (Rs.ext (Rs.ext RB.ext) _ _ _ _ hx2 (HM.out))
                replace HSL := Lib.hid (Rs.ext (Rs.ext RB.ext) _ _ _ _ hx2 (HSL.out))
                replace HW := Lib.hid (RRs.ext _ _ _ _ hx2 (HW.out))
                replace HFF := Lib.hid (Rs.ext RI.ext _ _ _ _ hx2 (HFF.out))
                replace HRU := Lib.hid (Rs.ext RB.ext _ _ _ _ hx2 (HRU.out))
                replace HXJ := Lib.hid ((HXJ.out).trans hx2)
                clear hx2
                have HCR := Lib.hid (cells_new w7a #[.int .i64 pR, .slice FAR nR fcR, .slice CAR mR ccR] 30)
                have HFR := Lib.hid (And.intro (Rs.ext RI.ext _ _ _ _ hxa hF) (Rs.ext RB.ext _ _ _ _ hxa hC))
                clear hF hC hx hxa hrR hnR hmR hpR
                go_upto_region 25 with fail
                obtain ⟨QR, hQ⟩ : ∃ Q, w7a.heap.size = Q := ⟨_, rfl⟩
                rw [hQ] at HCR
                try rw [hQ]
                obtain ⟨w7, hw⟩ : ∃ x, w7a.alloc (.cells #[.int .i64 pR, .slice FAR nR fcR, .slice CAR mR ccR] 30) = x := ⟨_, rfl⟩
                rw [hw] at HX HT HG HB HM HSL HW HFF HRU HXJ HCR HFR ⊢
                clear hw
                clear hQ
                obtain ⟨he0, hle, hone⟩ := Rb.joint_best HCK.out HJT.out (HEK.out k hlt) (by rw [HNN.out]; exact hlt) HBN.out
                rw [HRR.out] at hle hone
                rw [HSR.out.1, HNF.out] at hle
                rw [he0]
                have HONE := Lib.hid hone
                obtain ⟨hl1, hl2⟩ := Rb.lostP_at hlt HBN.out
                have hal : a < nr := by rw [← HNR.out, HGJ.out.1, ← HJ.out.2.1]; exact hl1
                have har : a < rs.length := by rw [HNR.out]; exact hal
                obtain ⟨ad, FY, CY, rfl, a0, a1, a2, hF, hC⟩ := HW.out.at har
                obtain ⟨FAY, fcY, rfl, _⟩ := hF.form
                have hgy := HGJ.out.2 a (by rw [← HGJ.out.1]; exact har) har
                have hak : (Rb.lostP L n)[a]'(by rw [← HGJ.out.1]; exact har) = k := by have := hl2 (by rw [HJ.out.2.1, ← HGJ.out.1]; exact har); simp only [HJ.out.2.1] at this; exact this
                rw [hak] at hgy
                have hut := Rb.use_take har
                obtain ⟨yy, hyy⟩ : ∃ y, rs[a] = y := ⟨_, rfl⟩
                rw [hyy] at a0 a1 hF hC hgy hut
                rw [hgy.1] at a0
                obtain ⟨nY, hnY⟩ : ∃ m, yy.src.length = m := ⟨_, rfl⟩
                rw [hnY] at a1 hF
                have hY24 : nY ≤ 24 := by rw [← hnY]; exact hgy.2.2.2.2.2.1
                have HGY := Lib.hid hgy
                have HYN := Lib.hid hnY
                have HUT := Lib.hid hut
                have HFY := Lib.hid hF
                have hli : ¬ (nf : Int) < (nR : Int) := by omega
                have hlk : ((k : Int) != (k : Int)) = false := by simp
                clear he0 hle hone hF hC hyy hnY hgy hak hl1 hl2 hut a2
                have q1 : w7.cell? ⟨QR, 1, none⟩ = some (.slice FAR nR fcR) := HCR.out 1 _ rfl
                go_wp2_with fail
                clear a0 a1 q1 hli hlk
                go_loopw [14, 149] (fun vu vj wq => ∃ (j x : Nat), j ≤ nY ∧ vj = .int .i64 (j : Nat) ∧ vu = .int .i64 (x : Nat) ∧ w7 = wq ∧ Hid (x = Cd.setOf u (yy.src.take j) ∧ x < 65536)) (fun _ vj _ => nY - (intOf vj).toNat)
                case atStart => exact ⟨0, u, Nat.zero_le _, rfl, rfl, rfl, Lib.hid ⟨by rw [List.take_zero, Cd.setOf_nil], by rw [HJ.out.2.2.2]; exact Rb.use_small _ 0 (by decide) (fun r hr i hi => HSM.out r (List.mem_of_mem_take hr) i hi)⟩⟩
                case round =>
                  obtain ⟨j, x, hj, rfl, rfl, hwq, HX2⟩ := hrel
                  subst hwq
                  by_cases hltj : j < nY
                  case pos =>
                    have hjs : j < yy.src.length := by have := HYN.out; omega
                    obtain ⟨bd, v, hA, hcj, hv⟩ := HFY.out.at hjs
                    subst hA
                    obtain ⟨rfl, hv1, hv2⟩ := hv
                    have hbd := HGY.out.2.1 _ (List.getElem_mem hjs)
                    have hst := Cd.setOf_take (s := u) hjs
                    obtain ⟨i, hi⟩ : ∃ i : Nat, yy.src[j] = (i : Int) := ⟨_, (Int.toNat_of_nonneg hbd.1).symm⟩
                    rw [hi] at hcj hbd hst
                    rw [HNN.out] at hbd
                    rw [Int.toNat_natCast] at hst
                    obtain ⟨hi0, hin, hib⟩ := hbd
                    have hor := or_pow x i HX2.out.2 (by omega)
                    rw [← HX2.out.1] at hst
                    obtain ⟨hor1, hor2⟩ := hor
                    obtain ⟨x2, hx2⟩ : ∃ x2, x ||| 2 ^ i = x2 := ⟨_, rfl⟩
                    rw [hx2] at hor1 hor2 hst
                    have HST := Lib.hid (And.intro hst hor2)
                    have hjn : (j : Int) < (nY : Int) := by omega
                    clear hv1 hv2 hi hi0 hib hst hx2 hor2
                    go_wp2_with fail
                    clear hcj hor1
                    go_roundw
                    case rel => exact ⟨j + 1, x2, by omega, by go_num, (by first | trivial | rfl), (by first | trivial | rfl), Lib.hid ⟨HST.out.1.symm, HST.out.2⟩⟩
                    case measure => simp [intOf]; omega
                  case neg =>
                    obtain rfl : nY = j := by omega
                    have hxu : x = Rb.useTo (rs.take (a + 1)) := by
                      have h := HX2.out.1
                      rw [show yy.src.take nY = yy.src by rw [← HYN.out, List.take_length]] at h
                      rw [h, HUT.out, HJ.out.2.2.2]
                    have HXU := Lib.hid hxu
                    clear hxu
                    go_upto_region 35 with fail
                    have hM := wrap_two k (by omega)
                    apply via2
                    case h =>
                      by_cases hL2 : L = 2 ^ k
                      case neg =>
                        have hne : ((L : Int) == ((2 ^ k : Nat) : Int)) = false := by rw [beq_eq_false_iff_ne]; intro e; exact hL2 (by omega)
                        obtain ⟨M, hMM⟩ : ∃ M, 2 ^ k = M := ⟨_, rfl⟩
                        rw [hMM] at hM hne
                        have hk24 : k ≤ 24 := by omega
                        skip
                        exact fun hrest => wp_atEnd' (tg_ne w7 w.heap.size L P O c k M nr wc nf fc QR d gl gs A FA data hk24 (Lib.hid hM) HB _ (Lib.hid hne) _ _ _ _ _ _ _ _ _ _ _ _ _ _ _ _ _ _ _ _ _ _ _ _ _ _ _ _ _ _ _ _ _ _ _ _ _ _ _ _ _ _ _ _ _ _ _ _ _ _ _ _ _ _ _ _ _ _ _ _ _ _ _ _ _ _ _ _ _ _ _ _ _ _ _ _ _ _ _ _ _ _ _ _ _ _ _ _ _ _ _ _ _ _ _ _ _ _ _ _ _ _ _ _ _ _ _ _ _ _ _ _ _ _ _ _ _ _ _ _ _ _ _ _ _ _ _ _ _ _ _ _ _ _ _ _ _ _ _ _ _ _ _ _ _ _ _ _ _ _ _ _ _ _ _ _ _ _ _ _ _ _ _ _ _ _ _ _ _ _ _ _ _ _ _ _ _ _ _ _ _ _ _ _ _ _ _ _ _ _ _ _ _ _ _ _ _ _ _ _ _ _ _ _ _ _ _ _ _ _ _ _ _ _ _ _ _ _ _ _ _ _ _ _ _ _ _ _ _ _ _ _ _ _ _ _ _ _ _ _ _ _ _ _ _ _ _ _ _ _ _ _ _ _ _ _ hrest)
                      case pos =>
                        obtain ⟨hf1, hf2⟩ := HONE.out hL2
                        have hr1 : rs.length = 1 := by rw [hf2]; rfl
                        have hnr1 : nr = 1 := by rw [← HNR.out]; exact hr1
                        have h0s : 0 < rs.length := by omega
                        obtain ⟨ad', F0, C0, hA, a0, a1, a2, hF0, hC0⟩ := HW.out.at h0s
                        injection hA with hA
                        subst hA
                        have hz : ad.add (0 * 3) = ad := by rw [Nat.zero_mul]; simp [Addr.add]
                        rw [hz] at a0 a1 a2
                        have hr0 : rs[0] = rR := by simp only [hf2]; rfl
                        rw [hr0] at a0 hF0 hC0
                        obtain ⟨FA0, fc0, rfl, _⟩ := hF0.form
                        obtain ⟨CA0, cc0, rfl, _⟩ := hC0.form
                        rw [HSR.out.2.2] at a0
                        have HRR1 := Lib.hid (show RRec w7 (.agg #[.int .i64 pR, .slice FAR nR fcR, .slice CAR mR ccR]) rR from ⟨_, _, by rw [HSR.out.2.2], HFR.out.1, HFR.out.2⟩)
                        have HRR0 := Lib.hid (show RRec w7 (.agg #[.int .i64 pR, .slice FA0 rR.src.length fc0, .slice CA0 rR.coef.length cc0]) rR from ⟨_, _, by rw [HSR.out.2.2], hF0, hC0⟩)
                        have hne : ((L : Int) == ((2 ^ k : Nat) : Int)) = true := by rw [beq_iff_eq, hL2]
                        obtain ⟨M, hMM⟩ : ∃ M, 2 ^ k = M := ⟨_, rfl⟩
                        rw [hMM] at hM hne
                        have hk24 : k ≤ 24 := by omega
                        skip
                        exact fun hrest => wp_atEnd' (tg_eq w7 w.heap.size L P O c k M nr wc nf fc QR nR mR fcR ccR _ _ fc0 cc0 d gl pR gs A FA FAR CAR data hk24 (Lib.hid hM) HB ad FA0 CA0 (Lib.hid hne) hnr1 HCR f rR a0 a1 a2 HFF (Lib.hid HFR.out.1) HRR1 HRR0 (Lib.hid hf1) _ _ _ _ _ _ _ _ _ _ _ _ _ _ _ _ _ _ _ _ _ _ _ _ _ _ _ _ _ _ _ _ _ _ _ _ _ _ _ _ _ _ _ _ _ _ _ _ _ _ _ _ _ _ _ _ _ _ _ _ _ _ _ _ _ _ _ _ _ _ _ _ _ _ _ _ _ _ _ _ _ _ _ _ _ _ _ _ _ _ _ _ _ _ _ _ _ _ _ _ _ _ _ _ _ _ _ _ _ _ _ _ _ _ _ _ _ _ _ _ _ _ _ _ _ _ _ _ _ _ _ _ _ _ _ _ _ _ _ _ _ _ _ _ _ _ _ _ _ _ _ _ _ _ _ _ _ _ _ _ _ _ _ _ _ _ _ _ _ _ _ _ _ _ _ _ _ _ _ _ _ _ _ _ _ _ _ _ _ _ _ _ _ _ _ _ _ _ _ _ _ _ _ _ _ _ _ _ _ _ _ _ _ _ _ _ _ _ _ _ _ _ _ _ _ _ _ _ _ _ _ _ _ _ _ _ _ _ _ _ _ _ _ _ _ _ _ _ _ _ _ _ _ _ _ _ hrest)
                    case t =>
                      intro u168 u169 u170 u171 u172 u173 u174 u175 u176 u177 u178 u179 u180 u181 u182 u183 u184 u185 u186 u187 u188 u189 u190 u191 w8 hx8
                      have HXJ8 := Lib.hid (HXJ.out.trans hx8)
                      clear hx8
                      go_wp2_with fail
                      go_roundw
                      case rel => exact ⟨k + 1, a + 1, x, false, by omega, by omega, by go_num, (by first | trivial | rfl), by go_num, by go_num, (by first | trivial | rfl), Lib.hid ⟨HXJ8.out, by rw [HS.out, List.length_append, HJ.out.2.1]; rfl, HSV2.out, HXU.out⟩⟩
                      case measure => simp [intOf]; omega
              | true =>
                rcases hfe2 with ⟨rfl, rfl⟩ | ⟨rfl, rfl⟩
                case inl =>
                  have HSV2 : Hid (Rb.serves (Cd.rowsOf d gs gl) UU (Rb.lostP L (k + 1)) true) := HSV
                  have b0 : w6.cell? ⟨w.heap.size, 0, none⟩ = some (.int .i64 d) := HB.out 0 _ rfl
                  have b1 : w6.cell? ⟨w.heap.size, 1, none⟩ = some (.slice A gs.length c) := HB.out 1 _ rfl
                  have b2 : w6.cell? ⟨w.heap.size, 2, none⟩ = some (.int .i64 gl) := HB.out 2 _ rfl
                  have b4 : w6.cell? ⟨w.heap.size, 4, none⟩ = some (.int .i64 (L : Nat)) := HB.out 4 _ rfl
                  go_wp2_with fail
                  clear b0 b1 b2 b4
                  refine (bBest_any d gl gs (L : Nat) (k : Nat) _ _ HT.out HG.out).mono ?_
                  rintro e w7a ⟨v, rfl, hv, hx⟩
                  obtain ⟨FR, CR, rfl, hF, hC⟩ := hv
                  obtain ⟨FAR, fcR, rfl, hlR⟩ := hF.form
                  obtain ⟨CAR, ccR, rfl, _⟩ := hC.form
                  obtain ⟨rR, hrR⟩ : ∃ r, Rb.bestR d gl gs (L : Nat) (k : Nat) = r := ⟨_, rfl⟩
                  rw [hrR] at hF hC
                  try rw [hrR]
                  have HRR := Lib.hid hrR
                  obtain ⟨nR, hnR⟩ : ∃ n, rR.src.length = n := ⟨_, rfl⟩
                  obtain ⟨mR, hmR⟩ : ∃ m, rR.coef.length = m := ⟨_, rfl⟩
                  obtain ⟨pR, hpR⟩ : ∃ m, rR.piece = m := ⟨_, rfl⟩
                  rw [hrR, hnR] at hlR
                  rw [hnR] at hF
                  rw [hmR] at hC
                  try rw [hnR]
                  try rw [hmR]
                  try rw [hpR]
                  have HSR := Lib.hid (And.intro hnR (And.intro hmR hpR))
                  have hxa : Ext w7a (w7a.alloc (.cells #[.int .i64 pR, .slice FAR nR fcR, .slice CAR mR ccR] 30)) := (Ext.refl w7a).alloc _
                  have hx2 := hx.trans hxa
                  replace HX := Lib.hid ((HX.out).trans hx2)
                  replace HT := Lib.hid ((HT.out).ext hx2)
                  replace HG := Lib.hid (Rs.ext (Rs.ext RI.ext) _ _ _ _ hx2 (HG.out))
                  replace HB := Lib.hid ((HB.out).ext hx2)
                  replace HM := Lib.hid (Rs.ext (Rs.ext RB.ext) _ _ _ _ hx2 (HM.out))
                  replace HSL := Lib.hid (Rs.ext (Rs.ext RB.ext) _ _ _ _ hx2 (HSL.out))
                  replace HW := Lib.hid (RRs.ext _ _ _ _ hx2 (HW.out))
                  replace HFF := Lib.hid (Rs.ext RI.ext _ _ _ _ hx2 (HFF.out))
                  replace HRU := Lib.hid (Rs.ext RB.ext _ _ _ _ hx2 (HRU.out))
                  replace HXJ := Lib.hid ((HXJ.out).trans hx2)
                  clear hx2
                  have HCR := Lib.hid (cells_new w7a #[.int .i64 pR, .slice FAR nR fcR, .slice CAR mR ccR] 30)
                  have HFR := Lib.hid (And.intro (Rs.ext RI.ext _ _ _ _ hxa hF) (Rs.ext RB.ext _ _ _ _ hxa hC))
                  clear hF hC hx hxa hrR hnR hmR hpR
                  go_upto_region 25 with fail
                  obtain ⟨QR, hQ⟩ : ∃ Q, w7a.heap.size = Q := ⟨_, rfl⟩
                  rw [hQ] at HCR
                  try rw [hQ]
                  obtain ⟨w7, hw⟩ : ∃ x, w7a.alloc (.cells #[.int .i64 pR, .slice FAR nR fcR, .slice CAR mR ccR] 30) = x := ⟨_, rfl⟩
                  rw [hw] at HX HT HG HB HM HSL HW HFF HRU HXJ HCR HFR ⊢
                  clear hw
                  clear hQ
                  obtain ⟨he0, hle, hone⟩ := Rb.joint_best HCK.out HJT.out (HEK.out k hlt) (by rw [HNN.out]; exact hlt) HBN.out
                  rw [HRR.out] at hle hone
                  rw [HSR.out.1, HNF.out] at hle
                  rw [he0]
                  have HONE := Lib.hid hone
                  obtain ⟨hl1, hl2⟩ := Rb.lostP_at hlt HBN.out
                  have hal : a < nr := by rw [← HNR.out, HGJ.out.1, ← HJ.out.2.1]; exact hl1
                  have har : a < rs.length := by rw [HNR.out]; exact hal
                  obtain ⟨ad, FY, CY, rfl, a0, a1, a2, hF, hC⟩ := HW.out.at har
                  obtain ⟨FAY, fcY, rfl, _⟩ := hF.form
                  have hgy := HGJ.out.2 a (by rw [← HGJ.out.1]; exact har) har
                  have hak : (Rb.lostP L n)[a]'(by rw [← HGJ.out.1]; exact har) = k := by have := hl2 (by rw [HJ.out.2.1, ← HGJ.out.1]; exact har); simp only [HJ.out.2.1] at this; exact this
                  rw [hak] at hgy
                  have hut := Rb.use_take har
                  obtain ⟨yy, hyy⟩ : ∃ y, rs[a] = y := ⟨_, rfl⟩
                  rw [hyy] at a0 a1 hF hC hgy hut
                  rw [hgy.1] at a0
                  obtain ⟨nY, hnY⟩ : ∃ m, yy.src.length = m := ⟨_, rfl⟩
                  rw [hnY] at a1 hF
                  have hY24 : nY ≤ 24 := by rw [← hnY]; exact hgy.2.2.2.2.2.1
                  have HGY := Lib.hid hgy
                  have HYN := Lib.hid hnY
                  have HUT := Lib.hid hut
                  have HFY := Lib.hid hF
                  have hli : ¬ (nf : Int) < (nR : Int) := by omega
                  have hlk : ((k : Int) != (k : Int)) = false := by simp
                  clear he0 hle hone hF hC hyy hnY hgy hak hl1 hl2 hut a2
                  have q1 : w7.cell? ⟨QR, 1, none⟩ = some (.slice FAR nR fcR) := HCR.out 1 _ rfl
                  go_wp2_with fail
                  clear a0 a1 q1 hli hlk
                  go_loopw [14, 149] (fun vu vj wq => ∃ (j x : Nat), j ≤ nY ∧ vj = .int .i64 (j : Nat) ∧ vu = .int .i64 (x : Nat) ∧ w7 = wq ∧ Hid (x = Cd.setOf u (yy.src.take j) ∧ x < 65536)) (fun _ vj _ => nY - (intOf vj).toNat)
                  case atStart => exact ⟨0, u, Nat.zero_le _, rfl, rfl, rfl, Lib.hid ⟨by rw [List.take_zero, Cd.setOf_nil], by rw [HJ.out.2.2.2]; exact Rb.use_small _ 0 (by decide) (fun r hr i hi => HSM.out r (List.mem_of_mem_take hr) i hi)⟩⟩
                  case round =>
                    obtain ⟨j, x, hj, rfl, rfl, hwq, HX2⟩ := hrel
                    subst hwq
                    by_cases hltj : j < nY
                    case pos =>
                      have hjs : j < yy.src.length := by have := HYN.out; omega
                      obtain ⟨bd, v, hA, hcj, hv⟩ := HFY.out.at hjs
                      subst hA
                      obtain ⟨rfl, hv1, hv2⟩ := hv
                      have hbd := HGY.out.2.1 _ (List.getElem_mem hjs)
                      have hst := Cd.setOf_take (s := u) hjs
                      obtain ⟨i, hi⟩ : ∃ i : Nat, yy.src[j] = (i : Int) := ⟨_, (Int.toNat_of_nonneg hbd.1).symm⟩
                      rw [hi] at hcj hbd hst
                      rw [HNN.out] at hbd
                      rw [Int.toNat_natCast] at hst
                      obtain ⟨hi0, hin, hib⟩ := hbd
                      have hor := or_pow x i HX2.out.2 (by omega)
                      rw [← HX2.out.1] at hst
                      obtain ⟨hor1, hor2⟩ := hor
                      obtain ⟨x2, hx2⟩ : ∃ x2, x ||| 2 ^ i = x2 := ⟨_, rfl⟩
                      rw [hx2] at hor1 hor2 hst
                      have HST := Lib.hid (And.intro hst hor2)
                      have hjn : (j : Int) < (nY : Int) := by omega
                      clear hv1 hv2 hi hi0 hib hst hx2 hor2
                      go_wp2_with fail
                      clear hcj hor1
                      go_roundw
                      case rel => exact ⟨j + 1, x2, by omega, by go_num, (by first | trivial | rfl), (by first | trivial | rfl), Lib.hid ⟨HST.out.1.symm, HST.out.2⟩⟩
                      case measure => simp [intOf]; omega
                    case neg =>
                      obtain rfl : nY = j := by omega
                      have hxu : x = Rb.useTo (rs.take (a + 1)) := by
                        have h := HX2.out.1
                        rw [show yy.src.take nY = yy.src by rw [← HYN.out, List.take_length]] at h
                        rw [h, HUT.out, HJ.out.2.2.2]
                      have HXU := Lib.hid hxu
                      clear hxu
                      go_upto_region 35 with fail
                      have hM := wrap_two k (by omega)
                      apply via2
                      case h =>
                        by_cases hL2 : L = 2 ^ k
                        case neg =>
                          have hne : ((L : Int) == ((2 ^ k : Nat) : Int)) = false := by rw [beq_eq_false_iff_ne]; intro e; exact hL2 (by omega)
                          obtain ⟨M, hMM⟩ : ∃ M, 2 ^ k = M := ⟨_, rfl⟩
                          rw [hMM] at hM hne
                          have hk24 : k ≤ 24 := by omega
                          skip
                          exact fun hrest => wp_atEnd' (tg_ne w7 w.heap.size L P O c k M nr wc nf fc QR d gl gs A FA data hk24 (Lib.hid hM) HB _ (Lib.hid hne) _ _ _ _ _ _ _ _ _ _ _ _ _ _ _ _ _ _ _ _ _ _ _ _ _ _ _ _ _ _ _ _ _ _ _ _ _ _ _ _ _ _ _ _ _ _ _ _ _ _ _ _ _ _ _ _ _ _ _ _ _ _ _ _ _ _ _ _ _ _ _ _ _ _ _ _ _ _ _ _ _ _ _ _ _ _ _ _ _ _ _ _ _ _ _ _ _ _ _ _ _ _ _ _ _ _ _ _ _ _ _ _ _ _ _ _ _ _ _ _ _ _ _ _ _ _ _ _ _ _ _ _ _ _ _ _ _ _ _ _ _ _ _ _ _ _ _ _ _ _ _ _ _ _ _ _ _ _ _ _ _ _ _ _ _ _ _ _ _ _ _ _ _ _ _ _ _ _ _ _ _ _ _ _ _ _ _ _ _ _ _ _ _ _ _ _ _ _ _ _ _ _ _ _ _ _ _ _ _ _ _ _ _ _ _ _ _ _ _ _ _ _ _ _ _ _ _ _ _ _ _ _ _ _ _ _ _ _ _ _ _ _ _ _ _ _ _ _ _ _ _ _ _ _ _ _ hrest)
                        case pos =>
                          obtain ⟨hf1, hf2⟩ := HONE.out hL2
                          have hr1 : rs.length = 1 := by rw [hf2]; rfl
                          have hnr1 : nr = 1 := by rw [← HNR.out]; exact hr1
                          have h0s : 0 < rs.length := by omega
                          obtain ⟨ad', F0, C0, hA, a0, a1, a2, hF0, hC0⟩ := HW.out.at h0s
                          injection hA with hA
                          subst hA
                          have hz : ad.add (0 * 3) = ad := by rw [Nat.zero_mul]; simp [Addr.add]
                          rw [hz] at a0 a1 a2
                          have hr0 : rs[0] = rR := by simp only [hf2]; rfl
                          rw [hr0] at a0 hF0 hC0
                          obtain ⟨FA0, fc0, rfl, _⟩ := hF0.form
                          obtain ⟨CA0, cc0, rfl, _⟩ := hC0.form
                          rw [HSR.out.2.2] at a0
                          have HRR1 := Lib.hid (show RRec w7 (.agg #[.int .i64 pR, .slice FAR nR fcR, .slice CAR mR ccR]) rR from ⟨_, _, by rw [HSR.out.2.2], HFR.out.1, HFR.out.2⟩)
                          have HRR0 := Lib.hid (show RRec w7 (.agg #[.int .i64 pR, .slice FA0 rR.src.length fc0, .slice CA0 rR.coef.length cc0]) rR from ⟨_, _, by rw [HSR.out.2.2], hF0, hC0⟩)
                          have hne : ((L : Int) == ((2 ^ k : Nat) : Int)) = true := by rw [beq_iff_eq, hL2]
                          obtain ⟨M, hMM⟩ : ∃ M, 2 ^ k = M := ⟨_, rfl⟩
                          rw [hMM] at hM hne
                          have hk24 : k ≤ 24 := by omega
                          skip
                          exact fun hrest => wp_atEnd' (tg_eq w7 w.heap.size L P O c k M nr wc nf fc QR nR mR fcR ccR _ _ fc0 cc0 d gl pR gs A FA FAR CAR data hk24 (Lib.hid hM) HB ad FA0 CA0 (Lib.hid hne) hnr1 HCR f rR a0 a1 a2 HFF (Lib.hid HFR.out.1) HRR1 HRR0 (Lib.hid hf1) _ _ _ _ _ _ _ _ _ _ _ _ _ _ _ _ _ _ _ _ _ _ _ _ _ _ _ _ _ _ _ _ _ _ _ _ _ _ _ _ _ _ _ _ _ _ _ _ _ _ _ _ _ _ _ _ _ _ _ _ _ _ _ _ _ _ _ _ _ _ _ _ _ _ _ _ _ _ _ _ _ _ _ _ _ _ _ _ _ _ _ _ _ _ _ _ _ _ _ _ _ _ _ _ _ _ _ _ _ _ _ _ _ _ _ _ _ _ _ _ _ _ _ _ _ _ _ _ _ _ _ _ _ _ _ _ _ _ _ _ _ _ _ _ _ _ _ _ _ _ _ _ _ _ _ _ _ _ _ _ _ _ _ _ _ _ _ _ _ _ _ _ _ _ _ _ _ _ _ _ _ _ _ _ _ _ _ _ _ _ _ _ _ _ _ _ _ _ _ _ _ _ _ _ _ _ _ _ _ _ _ _ _ _ _ _ _ _ _ _ _ _ _ _ _ _ _ _ _ _ _ _ _ _ _ _ _ _ _ _ _ _ _ _ _ _ _ _ _ _ _ _ _ _ _ _ hrest)
                      case t =>
                        intro u168 u169 u170 u171 u172 u173 u174 u175 u176 u177 u178 u179 u180 u181 u182 u183 u184 u185 u186 u187 u188 u189 u190 u191 w8 hx8
                        have HXJ8 := Lib.hid (HXJ.out.trans hx8)
                        clear hx8
                        go_wp2_with fail
                        go_roundw
                        case rel => exact ⟨k + 1, a + 1, x, true, by omega, by omega, by go_num, (by first | trivial | rfl), by go_num, by go_num, (by first | trivial | rfl), Lib.hid ⟨HXJ8.out, by rw [HS.out, List.length_append, HJ.out.2.1]; rfl, HSV2.out, HXU.out⟩⟩
                        case measure => simp [intOf]; omega
                case inr =>
                  have HSV2 : Hid (Rb.serves (Cd.rowsOf d gs gl) UU (Rb.lostP L (k + 1)) false) := HSV
                  have b0 : w6.cell? ⟨w.heap.size, 0, none⟩ = some (.int .i64 d) := HB.out 0 _ rfl
                  have b1 : w6.cell? ⟨w.heap.size, 1, none⟩ = some (.slice A gs.length c) := HB.out 1 _ rfl
                  have b2 : w6.cell? ⟨w.heap.size, 2, none⟩ = some (.int .i64 gl) := HB.out 2 _ rfl
                  have b4 : w6.cell? ⟨w.heap.size, 4, none⟩ = some (.int .i64 (L : Nat)) := HB.out 4 _ rfl
                  go_wp2_with fail
                  clear b0 b1 b2 b4
                  refine (bBest_any d gl gs (L : Nat) (k : Nat) _ _ HT.out HG.out).mono ?_
                  rintro e w7a ⟨v, rfl, hv, hx⟩
                  obtain ⟨FR, CR, rfl, hF, hC⟩ := hv
                  obtain ⟨FAR, fcR, rfl, hlR⟩ := hF.form
                  obtain ⟨CAR, ccR, rfl, _⟩ := hC.form
                  obtain ⟨rR, hrR⟩ : ∃ r, Rb.bestR d gl gs (L : Nat) (k : Nat) = r := ⟨_, rfl⟩
                  rw [hrR] at hF hC
                  try rw [hrR]
                  have HRR := Lib.hid hrR
                  obtain ⟨nR, hnR⟩ : ∃ n, rR.src.length = n := ⟨_, rfl⟩
                  obtain ⟨mR, hmR⟩ : ∃ m, rR.coef.length = m := ⟨_, rfl⟩
                  obtain ⟨pR, hpR⟩ : ∃ m, rR.piece = m := ⟨_, rfl⟩
                  rw [hrR, hnR] at hlR
                  rw [hnR] at hF
                  rw [hmR] at hC
                  try rw [hnR]
                  try rw [hmR]
                  try rw [hpR]
                  have HSR := Lib.hid (And.intro hnR (And.intro hmR hpR))
                  have hxa : Ext w7a (w7a.alloc (.cells #[.int .i64 pR, .slice FAR nR fcR, .slice CAR mR ccR] 30)) := (Ext.refl w7a).alloc _
                  have hx2 := hx.trans hxa
                  replace HX := Lib.hid ((HX.out).trans hx2)
                  replace HT := Lib.hid ((HT.out).ext hx2)
                  replace HG := Lib.hid (Rs.ext (Rs.ext RI.ext) _ _ _ _ hx2 (HG.out))
                  replace HB := Lib.hid ((HB.out).ext hx2)
                  replace HM := Lib.hid (Rs.ext (Rs.ext RB.ext) _ _ _ _ hx2 (HM.out))
                  replace HSL := Lib.hid (Rs.ext (Rs.ext RB.ext) _ _ _ _ hx2 (HSL.out))
                  replace HW := Lib.hid (RRs.ext _ _ _ _ hx2 (HW.out))
                  replace HFF := Lib.hid (Rs.ext RI.ext _ _ _ _ hx2 (HFF.out))
                  replace HRU := Lib.hid (Rs.ext RB.ext _ _ _ _ hx2 (HRU.out))
                  replace HXJ := Lib.hid ((HXJ.out).trans hx2)
                  clear hx2
                  have HCR := Lib.hid (cells_new w7a #[.int .i64 pR, .slice FAR nR fcR, .slice CAR mR ccR] 30)
                  have HFR := Lib.hid (And.intro (Rs.ext RI.ext _ _ _ _ hxa hF) (Rs.ext RB.ext _ _ _ _ hxa hC))
                  clear hF hC hx hxa hrR hnR hmR hpR
                  go_upto_region 25 with fail
                  obtain ⟨QR, hQ⟩ : ∃ Q, w7a.heap.size = Q := ⟨_, rfl⟩
                  rw [hQ] at HCR
                  try rw [hQ]
                  obtain ⟨w7, hw⟩ : ∃ x, w7a.alloc (.cells #[.int .i64 pR, .slice FAR nR fcR, .slice CAR mR ccR] 30) = x := ⟨_, rfl⟩
                  rw [hw] at HX HT HG HB HM HSL HW HFF HRU HXJ HCR HFR ⊢
                  clear hw
                  clear hQ
                  obtain ⟨he0, hle, hone⟩ := Rb.joint_best HCK.out HJT.out (HEK.out k hlt) (by rw [HNN.out]; exact hlt) HBN.out
                  rw [HRR.out] at hle hone
                  rw [HSR.out.1, HNF.out] at hle
                  rw [he0]
                  have HONE := Lib.hid hone
                  obtain ⟨hl1, hl2⟩ := Rb.lostP_at hlt HBN.out
                  have hal : a < nr := by rw [← HNR.out, HGJ.out.1, ← HJ.out.2.1]; exact hl1
                  have har : a < rs.length := by rw [HNR.out]; exact hal
                  obtain ⟨ad, FY, CY, rfl, a0, a1, a2, hF, hC⟩ := HW.out.at har
                  obtain ⟨FAY, fcY, rfl, _⟩ := hF.form
                  have hgy := HGJ.out.2 a (by rw [← HGJ.out.1]; exact har) har
                  have hak : (Rb.lostP L n)[a]'(by rw [← HGJ.out.1]; exact har) = k := by have := hl2 (by rw [HJ.out.2.1, ← HGJ.out.1]; exact har); simp only [HJ.out.2.1] at this; exact this
                  rw [hak] at hgy
                  have hut := Rb.use_take har
                  obtain ⟨yy, hyy⟩ : ∃ y, rs[a] = y := ⟨_, rfl⟩
                  rw [hyy] at a0 a1 hF hC hgy hut
                  rw [hgy.1] at a0
                  obtain ⟨nY, hnY⟩ : ∃ m, yy.src.length = m := ⟨_, rfl⟩
                  rw [hnY] at a1 hF
                  have hY24 : nY ≤ 24 := by rw [← hnY]; exact hgy.2.2.2.2.2.1
                  have HGY := Lib.hid hgy
                  have HYN := Lib.hid hnY
                  have HUT := Lib.hid hut
                  have HFY := Lib.hid hF
                  have hli : ¬ (nf : Int) < (nR : Int) := by omega
                  have hlk : ((k : Int) != (k : Int)) = false := by simp
                  clear he0 hle hone hF hC hyy hnY hgy hak hl1 hl2 hut a2
                  have q1 : w7.cell? ⟨QR, 1, none⟩ = some (.slice FAR nR fcR) := HCR.out 1 _ rfl
                  go_wp2_with fail
                  clear a0 a1 q1 hli hlk
                  go_loopw [14, 149] (fun vu vj wq => ∃ (j x : Nat), j ≤ nY ∧ vj = .int .i64 (j : Nat) ∧ vu = .int .i64 (x : Nat) ∧ w7 = wq ∧ Hid (x = Cd.setOf u (yy.src.take j) ∧ x < 65536)) (fun _ vj _ => nY - (intOf vj).toNat)
                  case atStart => exact ⟨0, u, Nat.zero_le _, rfl, rfl, rfl, Lib.hid ⟨by rw [List.take_zero, Cd.setOf_nil], by rw [HJ.out.2.2.2]; exact Rb.use_small _ 0 (by decide) (fun r hr i hi => HSM.out r (List.mem_of_mem_take hr) i hi)⟩⟩
                  case round =>
                    obtain ⟨j, x, hj, rfl, rfl, hwq, HX2⟩ := hrel
                    subst hwq
                    by_cases hltj : j < nY
                    case pos =>
                      have hjs : j < yy.src.length := by have := HYN.out; omega
                      obtain ⟨bd, v, hA, hcj, hv⟩ := HFY.out.at hjs
                      subst hA
                      obtain ⟨rfl, hv1, hv2⟩ := hv
                      have hbd := HGY.out.2.1 _ (List.getElem_mem hjs)
                      have hst := Cd.setOf_take (s := u) hjs
                      obtain ⟨i, hi⟩ : ∃ i : Nat, yy.src[j] = (i : Int) := ⟨_, (Int.toNat_of_nonneg hbd.1).symm⟩
                      rw [hi] at hcj hbd hst
                      rw [HNN.out] at hbd
                      rw [Int.toNat_natCast] at hst
                      obtain ⟨hi0, hin, hib⟩ := hbd
                      have hor := or_pow x i HX2.out.2 (by omega)
                      rw [← HX2.out.1] at hst
                      obtain ⟨hor1, hor2⟩ := hor
                      obtain ⟨x2, hx2⟩ : ∃ x2, x ||| 2 ^ i = x2 := ⟨_, rfl⟩
                      rw [hx2] at hor1 hor2 hst
                      have HST := Lib.hid (And.intro hst hor2)
                      have hjn : (j : Int) < (nY : Int) := by omega
                      clear hv1 hv2 hi hi0 hib hst hx2 hor2
                      go_wp2_with fail
                      clear hcj hor1
                      go_roundw
                      case rel => exact ⟨j + 1, x2, by omega, by go_num, (by first | trivial | rfl), (by first | trivial | rfl), Lib.hid ⟨HST.out.1.symm, HST.out.2⟩⟩
                      case measure => simp [intOf]; omega
                    case neg =>
                      obtain rfl : nY = j := by omega
                      have hxu : x = Rb.useTo (rs.take (a + 1)) := by
                        have h := HX2.out.1
                        rw [show yy.src.take nY = yy.src by rw [← HYN.out, List.take_length]] at h
                        rw [h, HUT.out, HJ.out.2.2.2]
                      have HXU := Lib.hid hxu
                      clear hxu
                      go_upto_region 35 with fail
                      have hM := wrap_two k (by omega)
                      apply via2
                      case h =>
                        by_cases hL2 : L = 2 ^ k
                        case neg =>
                          have hne : ((L : Int) == ((2 ^ k : Nat) : Int)) = false := by rw [beq_eq_false_iff_ne]; intro e; exact hL2 (by omega)
                          obtain ⟨M, hMM⟩ : ∃ M, 2 ^ k = M := ⟨_, rfl⟩
                          rw [hMM] at hM hne
                          have hk24 : k ≤ 24 := by omega
                          skip
                          exact fun hrest => wp_atEnd' (tg_ne w7 w.heap.size L P O c k M nr wc nf fc QR d gl gs A FA data hk24 (Lib.hid hM) HB _ (Lib.hid hne) _ _ _ _ _ _ _ _ _ _ _ _ _ _ _ _ _ _ _ _ _ _ _ _ _ _ _ _ _ _ _ _ _ _ _ _ _ _ _ _ _ _ _ _ _ _ _ _ _ _ _ _ _ _ _ _ _ _ _ _ _ _ _ _ _ _ _ _ _ _ _ _ _ _ _ _ _ _ _ _ _ _ _ _ _ _ _ _ _ _ _ _ _ _ _ _ _ _ _ _ _ _ _ _ _ _ _ _ _ _ _ _ _ _ _ _ _ _ _ _ _ _ _ _ _ _ _ _ _ _ _ _ _ _ _ _ _ _ _ _ _ _ _ _ _ _ _ _ _ _ _ _ _ _ _ _ _ _ _ _ _ _ _ _ _ _ _ _ _ _ _ _ _ _ _ _ _ _ _ _ _ _ _ _ _ _ _ _ _ _ _ _ _ _ _ _ _ _ _ _ _ _ _ _ _ _ _ _ _ _ _ _ _ _ _ _ _ _ _ _ _ _ _ _ _ _ _ _ _ _ _ _ _ _ _ _ _ _ _ _ _ _ _ _ _ _ _ _ _ _ _ _ _ _ _ _ hrest)
                        case pos =>
                          obtain ⟨hf1, hf2⟩ := HONE.out hL2
                          have hr1 : rs.length = 1 := by rw [hf2]; rfl
                          have hnr1 : nr = 1 := by rw [← HNR.out]; exact hr1
                          have h0s : 0 < rs.length := by omega
                          obtain ⟨ad', F0, C0, hA, a0, a1, a2, hF0, hC0⟩ := HW.out.at h0s
                          injection hA with hA
                          subst hA
                          have hz : ad.add (0 * 3) = ad := by rw [Nat.zero_mul]; simp [Addr.add]
                          rw [hz] at a0 a1 a2
                          have hr0 : rs[0] = rR := by simp only [hf2]; rfl
                          rw [hr0] at a0 hF0 hC0
                          obtain ⟨FA0, fc0, rfl, _⟩ := hF0.form
                          obtain ⟨CA0, cc0, rfl, _⟩ := hC0.form
                          rw [HSR.out.2.2] at a0
                          have HRR1 := Lib.hid (show RRec w7 (.agg #[.int .i64 pR, .slice FAR nR fcR, .slice CAR mR ccR]) rR from ⟨_, _, by rw [HSR.out.2.2], HFR.out.1, HFR.out.2⟩)
                          have HRR0 := Lib.hid (show RRec w7 (.agg #[.int .i64 pR, .slice FA0 rR.src.length fc0, .slice CA0 rR.coef.length cc0]) rR from ⟨_, _, by rw [HSR.out.2.2], hF0, hC0⟩)
                          have hne : ((L : Int) == ((2 ^ k : Nat) : Int)) = true := by rw [beq_iff_eq, hL2]
                          obtain ⟨M, hMM⟩ : ∃ M, 2 ^ k = M := ⟨_, rfl⟩
                          rw [hMM] at hM hne
                          have hk24 : k ≤ 24 := by omega
                          skip
                          exact fun hrest => wp_atEnd' (tg_eq w7 w.heap.size L P O c k M nr wc nf fc QR nR mR fcR ccR _ _ fc0 cc0 d gl pR gs A FA FAR CAR data hk24 (Lib.hid hM) HB ad FA0 CA0 (Lib.hid hne) hnr1 HCR f rR a0 a1 a2 HFF (Lib.hid HFR.out.1) HRR1 HRR0 (Lib.hid hf1) _ _ _ _ _ _ _ _ _ _ _ _ _ _ _ _ _ _ _ _ _ _ _ _ _ _ _ _ _ _ _ _ _ _ _ _ _ _ _ _ _ _ _ _ _ _ _ _ _ _ _ _ _ _ _ _ _ _ _ _ _ _ _ _ _ _ _ _ _ _ _ _ _ _ _ _ _ _ _ _ _ _ _ _ _ _ _ _ _ _ _ _ _ _ _ _ _ _ _ _ _ _ _ _ _ _ _ _ _ _ _ _ _ _ _ _ _ _ _ _ _ _ _ _ _ _ _ _ _ _ _ _ _ _ _ _ _ _ _ _ _ _ _ _ _ _ _ _ _ _ _ _ _ _ _ _ _ _ _ _ _ _ _ _ _ _ _ _ _ _ _ _ _ _ _ _ _ _ _ _ _ _ _ _ _ _ _ _ _ _ _ _ _ _ _ _ _ _ _ _ _ _ _ _ _ _ _ _ _ _ _ _ _ _ _ _ _ _ _ _ _ _ _ _ _ _ _ _ _ _ _ _ _ _ _ _ _ _ _ _ _ _ _ _ _ _ _ _ _ _ _ _ _ _ _ _ hrest)
                      case t =>
                        intro u168 u169 u170 u171 u172 u173 u174 u175 u176 u177 u178 u179 u180 u181 u182 u183 u184 u185 u186 u187 u188 u189 u190 u191 w8 hx8
                        have HXJ8 := Lib.hid (HXJ.out.trans hx8)
                        clear hx8
                        go_wp2_with fail
                        go_roundw
                        case rel => exact ⟨k + 1, a + 1, x, false, by omega, by omega, by go_num, (by first | trivial | rfl), by go_num, by go_num, (by first | trivial | rfl), Lib.hid ⟨HXJ8.out, by rw [HS.out, List.length_append, HJ.out.2.1]; rfl, HSV2.out, HXU.out⟩⟩
                        case measure => simp [intOf]; omega
          case neg =>
            obtain rfl : n = k := by omega
            have hbl : b = true → nf ≤ m := fun hbt => by
              obtain ⟨_, _, h3⟩ := Rb.joint_some HJT.out
              have h := h3 UU (by rw [HNN.out]; exact HUU.out.2.1) (by rw [HNN.out]; exact HJ.out.2.2.1.mp hbt)
              rw [HNF.out, ← HUU.out.1] at h
              exact h
            have HBL := Lib.hid hbl
            clear hbl
            have han : a = nr := by rw [← HNR.out, HGJ.out.1, HJ.out.2.1]
            have huf : u = Cd.setOf 0 f := by
              have h := HJ.out.2.2.2
              rw [han, ← HNR.out, List.take_length] at h
              rw [h]
              exact Rb.use_eq HJT.out (fun i hi => (Rb.avail_bounds hi).1)
            have HUF := Lib.hid huf
            clear huf
            subst han
            go_wp2_with fail
            obtain ⟨wz, rfl⟩ : ∃ wz, wz = wr := ⟨_, rfl⟩
            go_loopw [23, 207] (fun vu vj wq => ∃ (j x : Nat), j ≤ nf ∧ vj = .int .i64 (j : Nat) ∧ vu = .int .i64 (x : Nat) ∧ wz = wq ∧ Hid (x = Cd.setOf 0 (f.take j) ∧ x < 65536)) (fun _ vj _ => nf - (intOf vj).toNat)
            case atStart => exact ⟨0, 0, Nat.zero_le _, rfl, rfl, rfl, Lib.hid ⟨by rw [List.take_zero, Cd.setOf_nil], by decide⟩⟩
            case round =>
              obtain ⟨j, x, hj, rfl, rfl, hwq, HX2⟩ := hrel
              subst hwq
              by_cases hltj : j < nf
              case pos =>
                have hjs : j < f.length := by have := HNF.out; omega
                obtain ⟨bd, v, hA, hcj, hv⟩ := HFF.out.at hjs
                subst hA
                obtain ⟨rfl, hv1, hv2⟩ := hv
                have hbd := HFB.out _ (List.getElem_mem hjs)
                have hst := Cd.setOf_take (s := 0) hjs
                have hnew := Rb.set_new HFA.out (fun i hi => (HFB.out i hi).1) hjs
                obtain ⟨i, hi⟩ : ∃ i : Nat, f[j] = (i : Int) := ⟨_, (Int.toNat_of_nonneg hbd.1).symm⟩
                rw [hi] at hcj hbd hst hnew
                rw [Int.toNat_natCast] at hst hnew
                obtain ⟨hi0, hin⟩ := hbd
                have hor := or_pow x i HX2.out.2 (by omega)
                rw [← HX2.out.1] at hst hnew
                have hsh := bit_int16 x i (show x < 2 ^ 40 by have := HX2.out.2; omega)
                rw [hnew] at hsh
                obtain ⟨hor1, hor2⟩ := hor
                obtain ⟨x2, hx2⟩ : ∃ x2, x ||| 2 ^ i = x2 := ⟨_, rfl⟩
                rw [hx2] at hor1 hor2 hst
                have HST := Lib.hid (And.intro hst hor2)
                have hjn : (j : Int) < (nf : Int) := by omega
                clear hv1 hv2 hi hi0 hst hx2 hor2 hnew
                go_wp2_with fail
                clear hcj hor1 hsh
                go_roundw
                case rel => exact ⟨j + 1, x2, by omega, by go_num, (by first | trivial | rfl), (by first | trivial | rfl), Lib.hid ⟨HST.out.1.symm, HST.out.2⟩⟩
                case measure => simp [intOf]; omega
              case neg =>
                obtain rfl : nf = j := by omega
                have hxu : x = u := by
                  have h := HX2.out.1
                  rw [show f.take nf = f by rw [← HNF.out, List.take_length]] at h
                  rw [h, HUF.out]
                subst hxu
                have ea : ((a : Int) == (a : Int)) = true := by simp
                have ex : ((x : Int) == (x : Int)) = true := by simp
                cases hbb : b with
                | false =>
                  subst hbb
                  go_wp2_with fail
                  refine (sanity_any wz HT.out).mono ?_
                  rintro e w1101 ⟨rfl, hxs⟩
                  have HXS := Lib.hid (HX.out.trans hxs)
                  clear hxs
                  go_wp2_with fail
                  go_ret
                  exact ⟨rfl, HXS.out⟩
                | true =>
                  have hle := HBL.out hbb
                  subst hbb
                  have hlei : (nf : Int) ≤ (m : Int) := by omega
                  go_wp2_with fail
                  refine (sanity_any wz HT.out).mono ?_
                  rintro e w1101 ⟨rfl, hxs⟩
                  have HXS := Lib.hid (HX.out.trans hxs)
                  clear hxs
                  go_wp2_with fail
                  go_ret
                  exact ⟨rfl, HXS.out⟩
end Go.Proofs.YtdmljilcbndmfaaDoor

/- ARGUMENTS that are codes read as such. -/
namespace Go.Proofs.YtdmljilcbndmfaaDoor
open Go.ChangeShapes Go.WideShapes Go.ChangeAt Go.RowKit Go.ChangeMaps Go.Deep
variable {H : Type} {enc : TypeId × Value → H} {W : World} {base : Nat}
theorem list_getD {l : List Int} {k : Nat} (h : k < l.length) : l.getD k 0 = l[k] := by rw [List.getD_eq_getElem?_getD, List.getElem?_eq_getElem h]; rfl
theorem read_rows {fuel : Nat} {v : Value} {x : DataW H × List MemPlace} (h : DataW.trod enc Tryd.prog W base (fun _ => true) true fuel 22 [v] = some x) : ∃ l, Rs (Rs RI) W v l := by
  rcases open_int_rows Tryd.underlying22 Tryd.underlying27 Tryd.underlying3 (by kernel_rfl) (by kernel_rfl) h with ⟨hcs, _⟩ | ⟨a, len, cap, A, L, C, Z, hcs, _, hl, hm, _, hx⟩
  · injection hcs with hcs _
    subst hcs
    exact ⟨[], none, 0, rfl, by simp, fun i x h => by simp at h⟩
  · injection hcs with hcs _
    subst hcs
    refine ⟨(List.range len).map fun r => (Z r).take (L r), some a, cap, by simp, by simp; unfold maxLen at hm; omega, fun i y hi => ?_⟩
    have hi1 : i < len := by have := (List.getElem?_eq_some_iff.1 hi).1; simpa using this
    have e : y = (Z i).take (L i) := by
      have := (List.getElem?_eq_some_iff.1 hi).2
      rw [← this]; simp
    subst e
    obtain ⟨h1, h2, h3, h4, h5, h6, h7⟩ := hx i (by omega)
    refine ⟨a, _, rfl, h1, A i, C i, ?_, ?_, fun k z hk => ?_⟩
    · rw [List.length_take]; congr 1; omega
    · rw [List.length_take]; unfold maxLen at h3; omega
    · have hk1 : k < ((Z i).take (L i)).length := (List.getElem?_eq_some_iff.1 hk).1
      have hk2 : k < (Z i).length := by rw [List.length_take] at hk1; omega
      have hk3 : k < C i := by omega
      have e : z = (Z i)[k] := by
        have := (List.getElem?_eq_some_iff.1 hk).2
        rw [← this, List.getElem_take]
      subst e
      have hb := bounds_i64 (h5 _ (List.getElem_mem hk2))
      cases hA : A i with
      | none => have := h6 hA; omega
      | some b =>
        have h8 := (h7 b hA).2 k hk3
        rw [list_getD hk2] at h8
        exact ⟨b, _, rfl, h8, rfl, by omega, by omega⟩
theorem cellsCode : Tryd.prog.cellsOf 24 = 3 := by kernel_rfl
theorem cellsRows : Tryd.prog.cellsOf 22 = 1 := by kernel_rfl
theorem cellsInt : Tryd.prog.cellsOf 3 = 1 := by kernel_rfl
end Go.Proofs.YtdmljilcbndmfaaDoor

/- ARGUMENTS of law 08: losses. -/
namespace Go.Proofs.YtdmljilcbndmfaaDoor
open Go.ChangeShapes Go.WideShapes Go.ChangeAt Go.RowKit Go.ChangeMaps Go.Deep
variable {H : Type} {enc : TypeId × Value → H} {W : World} {base : Nat}
theorem sized_part {P : Program} {ts : List TypeId} {ds : List (DataW H)} (h : (DataW.weightsEach P ts ds).all (· ≤ reachBytes) = true) {j : Nat} {t : TypeId} {d : DataW H} (ht : ts[j]? = some t) (hd : ds[j]? = some d) : ∀ n ∈ d.weights P t, n ≤ reachBytes := fun n hn => by
  have := List.all_eq_true.1 h n (DataW.weights_mem_each ht hd n hn)
  simpa using this
theorem bytesInts : Tryd.prog.bytesOf 27 = 24 := by kernel_rfl
/-- The form's own reach, for a list of lists. -/
theorem sized_rows {fuel : Nat} {v : Value} {x : DataW H × List MemPlace} (h : DataW.trod enc Tryd.prog W base (fun _ => true) true fuel 22 [v] = some x) (hw : ∀ n ∈ x.1.weights Tryd.prog 22, n ≤ reachBytes) {l : List (List Int)} (hl : Rs (Rs RI) W v l) : l.length ≤ 4611686018427387904 := by
  obtain ⟨A, c, rfl, _⟩ := hl.form
  rcases open_int_rows Tryd.underlying22 Tryd.underlying27 Tryd.underlying3 (by kernel_rfl) (by kernel_rfl) h with ⟨hcs, _⟩ | ⟨a, len, cap, A', L, C, Z, hcs, _, _, hm, hx, _⟩
  · injection hcs with hcs _
    injection hcs with _ h2 _
    omega
  · injection hcs with hcs _
    injection hcs with _ h2 _
    subst hx
    have := hw ((len + (cap - len)) * 24) (by simp only [DataW.weights, Tryd.underlying22, bytesInts, List.length_map, List.length_range, List.mem_cons, true_or])
    unfold reachBytes at this
    omega
theorem array7 {α : Type} {cs : Array α} (h : cs.size = 7) : ∃ c0 c1 c2 c3 c4 c5 c6, cs = #[c0, c1, c2, c3, c4, c5, c6] := by
  obtain ⟨l⟩ := cs
  match l, h with
  | [c0, c1, c2, c3, c4, c5, c6], _ => exact ⟨c0, c1, c2, c3, c4, c5, c6, rfl⟩
theorem cellsStr : Tryd.prog.cellsOf 9 = 1 := by kernel_rfl
set_option maxRecDepth 100000 in
/-- A code, with the number of its groups. -/
theorem trod_code {m : Nat} {c0 c1 c2 : Value} {y : DataW H × List MemPlace} (hf : DataW.trod enc Tryd.prog W base (fun _ => true) true m 24 [c0, c1, c2] = some y) (hw : ∀ n ∈ y.1.weights Tryd.prog 24, n ≤ reachBytes) :
    ∃ (a0 a2 : Int) (gs : List (List Int)), c0 = .int .i64 a0 ∧ c2 = .int .i64 a2 ∧ Rs (Rs RI) W c1 gs ∧ gs.length ≤ 4611686018427387904 := by
  obtain ⟨zs, m, _, hy, _, hlen2, hz⟩ := DataW.trod_struct Tryd.underlying24 hf
  obtain ⟨z0, z1, z2, rfl⟩ : ∃ z0 z1 z2, zs = [z0, z1, z2] := by
    match zs, hlen2 with
    | [z0, z1, z2], _ => exact ⟨z0, z1, z2, rfl⟩
  subst hy
  have g0 : DataW.trod enc Tryd.prog W base (fun _ => true) true m 3 [c0] = some z0 := by
    have := hz 0 _ rfl
    simpa [Value.cells, cellsInt] using this
  have g1 : DataW.trod enc Tryd.prog W base (fun _ => true) true m 22 [c1] = some z1 := by
    have := hz 1 _ rfl
    simpa [Value.cells, cellsRows] using this
  have g2 : DataW.trod enc Tryd.prog W base (fun _ => true) true m 3 [c2] = some z2 := by
    have := hz 2 _ rfl
    simpa [Value.cells, cellsInt] using this
  obtain ⟨gs, h1⟩ := read_rows g1
  obtain ⟨a0, ha0, _, w0⟩ := DataW.trod_int Tryd.underlying3 g0
  obtain ⟨a2, ha2, _, w2⟩ := DataW.trod_int Tryd.underlying3 g2
  injection ha0 with ha0 _
  injection ha2 with ha2 _
  refine ⟨a0, a2, gs, ha0, ha2, h1, sized_rows g1 (fun n hn => hw n ?_) h1⟩
  simp only [DataW.weights, Tryd.underlying24]
  exact DataW.weights_mem_each (j := 1) rfl rfl n hn
set_option maxRecDepth 100000 in
theorem open_loss {b0 : Nat} {v : Value} {d : DataW H} {ps : List MemPlace} (hval : Value.okWide Tryd.prog W .any b0 63 v) (hd : DataW.Trod enc Tryd.prog W base (fun _ => true) true 63 v d ps) (hw : ∀ n ∈ d.weights Tryd.prog 63, n ≤ reachBytes) :
    ∃ (a0 a2 lost piece other : Int) (G : Value) (gs : List (List Int)) (data : List UInt8), v = .agg #[.int .i64 a0, G, .int .i64 a2, .string (sb data), .int .i64 lost, .int .i64 piece, .int .i64 other] ∧ Rs (Rs RI) W G gs ∧ gs.length ≤ 4611686018427387904 ∧ data.length ≤ 9223372036854775807 := by
  obtain ⟨cs, rfl, hsz⟩ := okWide_struct Tryd.underlying63 hval
  obtain ⟨c0, c1, c2, c3, c4, c5, c6, rfl⟩ := array7 (hsz.trans (by kernel_rfl))
  obtain ⟨fuel, hf⟩ := hd
  obtain ⟨xs, n, _, hxx, hl, hlen, hx⟩ := DataW.trod_struct Tryd.underlying63 hf
  obtain ⟨y0, y1, y2, y3, y4, rfl⟩ : ∃ y0 y1 y2 y3 y4, xs = [y0, y1, y2, y3, y4] := by
    match xs, hlen with
    | [y0, y1, y2, y3, y4], _ => exact ⟨y0, y1, y2, y3, y4, rfl⟩
  injection hxx with hxx _
  subst hxx
  have f0 : DataW.trod enc Tryd.prog W base (fun _ => true) true n 24 [c0, c1, c2] = some y0 := by
    have := hx 0 _ rfl
    simpa [Value.cells, cellsCode] using this
  have f1 : DataW.trod enc Tryd.prog W base (fun _ => true) true n 9 [c3] = some y1 := by
    have := hx 1 _ rfl
    simpa [Value.cells, cellsStr] using this
  have f2 : DataW.trod enc Tryd.prog W base (fun _ => true) true n 3 [c4] = some y2 := by
    have := hx 2 _ rfl
    simpa [Value.cells, cellsInt] using this
  have f3 : DataW.trod enc Tryd.prog W base (fun _ => true) true n 3 [c5] = some y3 := by
    have := hx 3 _ rfl
    simpa [Value.cells, cellsInt] using this
  have f4 : DataW.trod enc Tryd.prog W base (fun _ => true) true n 3 [c6] = some y4 := by
    have := hx 4 _ rfl
    simpa [Value.cells, cellsInt] using this
  obtain ⟨a0, a2, gs, rfl, rfl, h1, h2⟩ := trod_code f0 (fun n hn => hw n (by
    simp only [DataW.weights, Tryd.underlying63]
    exact DataW.weights_mem_each (j := 0) rfl rfl n hn))
  obtain ⟨s, hs, _, ws⟩ := DataW.trod_string Tryd.underlying9 f1
  obtain ⟨z2, e2, _, _⟩ := DataW.trod_int Tryd.underlying3 f2
  obtain ⟨z3, e3, _, _⟩ := DataW.trod_int Tryd.underlying3 f3
  obtain ⟨z4, e4, _, _⟩ := DataW.trod_int Tryd.underlying3 f4
  injection hs with hs _
  injection e2 with e2 _
  injection e3 with e3 _
  injection e4 with e4 _
  subst hs e2 e3 e4
  refine ⟨a0, a2, z2, z3, z4, c1, gs, bl s, by rw [sb_bl], h1, h2, ?_⟩
  rw [← size_bl]
  unfold maxLen at ws
  omega
end Go.Proofs.YtdmljilcbndmfaaDoor
