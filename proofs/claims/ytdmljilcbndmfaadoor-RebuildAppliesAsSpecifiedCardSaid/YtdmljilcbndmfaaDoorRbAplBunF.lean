/- What the program's functions do, step by step: part F of the texts for this claim; no condition beyond what each theorem states. -/
import Derived.Deep.Cut
import Derived.Deep.DeepCutAuto
import Derived.Deep.Matrix
import Derived.Lib.SmallJoins
import Derived.Deep.Slices
import Derived.Test.YtdmljilcbndmfaaDoorRbAplBunA
import Derived.Test.YtdmljilcbndmfaaDoorRbAplBunB
import Derived.Test.YtdmljilcbndmfaaDoorRbAplBunC
import Derived.Test.YtdmljilcbndmfaaDoorRbAplBunD
import Derived.Test.YtdmljilcbndmfaaDoorRbAplBunE
/- THE WALK over sanity of the laws of rebuild. -/
namespace Go.Proofs.YtdmljilcbndmfaaDoor
open Go.RowKit Go.Shelf
set_option maxRecDepth 100000 in
set_option maxHeartbeats 16000000 in
theorem sanity_any (w : World) (hT : Tab w) :
    Calls Tryd.prog 11 #[] w fun e w' => e = .returned (.bool true) ∧ Ext w w' := by
  have HT := Lib.hid hT
  clear hT
  go_enter Tryd.func11, Tryd.ntmps11
  go_wp2_with fail
  refine (example_any _).mono ?_
  rintro e w1 ⟨gG, rfl, hG, hx1⟩
  have HB := Lib.hid (cells_new w1 #[.int .i64 4, .slice (some ⟨gG, 0, none⟩) 2 2, .int .i64 1] 24)
  obtain ⟨B, hB⟩ : ∃ B, w1.heap.size = B := ⟨_, rfl⟩
  rw [hB] at HB
  have HX := Lib.hid (hx1.trans ((Ext.refl w1).alloc (.cells #[.int .i64 4, .slice (some ⟨gG, 0, none⟩) 2 2, .int .i64 1] 24)))
  have HG := Lib.hid (Rs.ext (Rs.ext RI.ext) _ _ _ _ ((Ext.refl w1).alloc (.cells #[.int .i64 4, .slice (some ⟨gG, 0, none⟩) 2 2, .int .i64 1] 24)) hG)
  have HT := Lib.hid (HT.out.ext HX.out)
  go_upto_region 2 with fail
  obtain ⟨w2, hw2⟩ : ∃ w2, w1.alloc (.cells #[.int .i64 4, .slice (some ⟨gG, 0, none⟩) 2 2, .int .i64 1] 24) = w2 := ⟨_, rfl⟩
  rw [hw2] at HB HX HG HT ⊢
  clear hG hx1 hw2 hB
  have b0 : w2.cell? ⟨B, 0, none⟩ = some (.int .i64 4) := HB.out 0 _ rfl
  have b1 : w2.cell? ⟨B, 1, none⟩ = some (.slice (some ⟨gG, 0, none⟩) 2 2) := HB.out 1 _ rfl
  have b2 : w2.cell? ⟨B, 2, none⟩ = some (.int .i64 1) := HB.out 2 _ rfl
  have hBl : B < w2.heap.size := lt_of_cell b0
  go_wp2_with fail
  refine (bBest_any 4 1 Rb.exG 1 0 _ _ HT.out HG.out).mono ?_
  rintro e w3 ⟨v, rfl, hv, hx⟩
  rw [Rb.ex_best1.2] at hv
  rw [Rb.ex_best1.1]
  obtain ⟨Fa, Ca, hvv, hF, hC⟩ := hv
  have hvv : v = .agg #[.int .i64 0, Fa, Ca] := hvv
  subst hvv
  obtain ⟨FAa, fca, rfl⟩ : ∃ FA fc, Fa = .slice FA 2 fc := by
    obtain ⟨FA, fc, h, _⟩ := hF.form
    exact ⟨FA, fc, h⟩
  obtain ⟨CAa, cca, rfl⟩ : ∃ CA cc, Ca = .slice CA 2 cc := by
    obtain ⟨CA, cc, h, _⟩ := hC.form
    exact ⟨CA, cc, h⟩
  have hxa : Ext w3 (w3.alloc (.cells #[.int .i64 0, .slice FAa 2 fca, .slice CAa 2 cca] 30)) := (Ext.refl w3).alloc _
  have hx2 := hx.trans hxa
  have HX := Lib.hid (HX.out.trans hx2)
  have HT := Lib.hid (HT.out.ext hx2)
  have HG := Lib.hid (Rs.ext (Rs.ext RI.ext) _ _ _ _ hx2 HG.out)
  have HB := Lib.hid (HB.out.ext hx2)
  have HCa := Lib.hid (cells_new w3 #[.int .i64 0, .slice FAa 2 fca, .slice CAa 2 cca] 30)
  have HFa := Lib.hid (And.intro (Rs.ext RI.ext _ _ _ _ hxa hF) (Rs.ext RB.ext _ _ _ _ hxa hC))
  clear hF hC hx hxa hx2 b0 b1 b2 hBl
  go_upto_region 3 with fail
  obtain ⟨Qa, hQa⟩ : ∃ Q, w3.heap.size = Q := ⟨_, rfl⟩
  rw [hQa] at HCa
  try rw [hQa]
  obtain ⟨w4, hw2⟩ : ∃ x, w3.alloc (.cells #[.int .i64 0, .slice FAa 2 fca, .slice CAa 2 cca] 30) = x := ⟨_, rfl⟩
  rw [hw2] at HX HT HG HB HCa HFa ⊢
  clear hw2 hQa
  have b0 : w4.cell? ⟨B, 0, none⟩ = some (.int .i64 4) := HB.out 0 _ rfl
  have b1 : w4.cell? ⟨B, 1, none⟩ = some (.slice (some ⟨gG, 0, none⟩) 2 2) := HB.out 1 _ rfl
  have b2 : w4.cell? ⟨B, 2, none⟩ = some (.int .i64 1) := HB.out 2 _ rfl
  have hBl : B < w4.heap.size := lt_of_cell b0
  go_wp2_with fail
  refine (bAll_any 4 1 Rb.exG 17 0 _ _ HT.out HG.out).mono ?_
  rintro e w5 ⟨v, rfl, hv, _, hx⟩
  rw [Rb.ex_all.2] at hv
  rw [Rb.ex_all.1]
  obtain ⟨LA, cL, rfl⟩ : ∃ A c, v = .slice A 3 c := by
    obtain ⟨A, c, h, _⟩ := hv.form
    exact ⟨A, c, h⟩
  have HX := Lib.hid (HX.out.trans hx)
  have HT := Lib.hid (HT.out.ext hx)
  have HG := Lib.hid (Rs.ext (Rs.ext RI.ext) _ _ _ _ hx HG.out)
  have HB := Lib.hid (HB.out.ext hx)
  have HCa := Lib.hid (HCa.out.ext hx)
  have HFa := Lib.hid (And.intro (Rs.ext RI.ext _ _ _ _ hx HFa.out.1) (Rs.ext RB.ext _ _ _ _ hx HFa.out.2))
  have HAL := Lib.hid hv
  clear hv hx b0 b1 b2 hBl
  go_upto_region 4 with fail
  have b0 : w5.cell? ⟨B, 0, none⟩ = some (.int .i64 4) := HB.out 0 _ rfl
  have b1 : w5.cell? ⟨B, 1, none⟩ = some (.slice (some ⟨gG, 0, none⟩) 2 2) := HB.out 1 _ rfl
  have b2 : w5.cell? ⟨B, 2, none⟩ = some (.int .i64 1) := HB.out 2 _ rfl
  have hBl : B < w5.heap.size := lt_of_cell b0
  go_wp2_with fail
  refine (bBest_any 4 1 Rb.exG 19 0 _ _ HT.out HG.out).mono ?_
  rintro e w6 ⟨v, rfl, hv, hx⟩
  rw [Rb.ex_best19.2] at hv
  rw [Rb.ex_best19.1]
  obtain ⟨Fn, Cn, hvv, hF, hC⟩ := hv
  have hvv : v = .agg #[.int .i64 0, Fn, Cn] := hvv
  subst hvv
  obtain ⟨FAn, fcn, rfl⟩ : ∃ FA fc, Fn = .slice FA 0 fc := by
    obtain ⟨FA, fc, h, _⟩ := hF.form
    exact ⟨FA, fc, h⟩
  obtain ⟨CAn, ccn, rfl⟩ : ∃ CA cc, Cn = .slice CA 0 cc := by
    obtain ⟨CA, cc, h, _⟩ := hC.form
    exact ⟨CA, cc, h⟩
  have hxa : Ext w6 (w6.alloc (.cells #[.int .i64 0, .slice FAn 0 fcn, .slice CAn 0 ccn] 30)) := (Ext.refl w6).alloc _
  have hx2 := hx.trans hxa
  have HX := Lib.hid (HX.out.trans hx2)
  have HT := Lib.hid (HT.out.ext hx2)
  have HG := Lib.hid (Rs.ext (Rs.ext RI.ext) _ _ _ _ hx2 HG.out)
  have HB := Lib.hid (HB.out.ext hx2)
  have HCa := Lib.hid (HCa.out.ext hx2)
  have HFa := Lib.hid (And.intro (Rs.ext RI.ext _ _ _ _ hx2 HFa.out.1) (Rs.ext RB.ext _ _ _ _ hx2 HFa.out.2))
  have HAL := Lib.hid (RRs.ext _ _ _ _ hx2 HAL.out)
  have HCn := Lib.hid (cells_new w6 #[.int .i64 0, .slice FAn 0 fcn, .slice CAn 0 ccn] 30)
  have HFn := Lib.hid (And.intro (Rs.ext RI.ext _ _ _ _ hxa hF) (Rs.ext RB.ext _ _ _ _ hxa hC))
  clear hF hC hx hxa hx2 b0 b1 b2 hBl
  go_upto_region 5 with fail
  obtain ⟨Qn, hQn⟩ : ∃ Q, w6.heap.size = Q := ⟨_, rfl⟩
  rw [hQn] at HCn
  try rw [hQn]
  obtain ⟨w7, hw2⟩ : ∃ x, w6.alloc (.cells #[.int .i64 0, .slice FAn 0 fcn, .slice CAn 0 ccn] 30) = x := ⟨_, rfl⟩
  rw [hw2] at HX HT HG HB HCa HFa HAL HCn HFn ⊢
  clear hw2 hQn
  have b0 : w7.cell? ⟨B, 0, none⟩ = some (.int .i64 4) := HB.out 0 _ rfl
  have b1 : w7.cell? ⟨B, 1, none⟩ = some (.slice (some ⟨gG, 0, none⟩) 2 2) := HB.out 1 _ rfl
  have b2 : w7.cell? ⟨B, 2, none⟩ = some (.int .i64 1) := HB.out 2 _ rfl
  have hBl : B < w7.heap.size := lt_of_cell b0
  go_wp2_with fail
  refine (bBest_any 4 1 Rb.exG 17 0 _ _ HT.out HG.out).mono ?_
  rintro e w8 ⟨v, rfl, hv, hx⟩
  rw [Rb.ex_best17.2] at hv
  rw [Rb.ex_best17.1]
  obtain ⟨Fb, Cb, hvv, hF, hC⟩ := hv
  have hvv : v = .agg #[.int .i64 0, Fb, Cb] := hvv
  subst hvv
  obtain ⟨FAb, fcb, rfl⟩ : ∃ FA fc, Fb = .slice FA 4 fc := by
    obtain ⟨FA, fc, h, _⟩ := hF.form
    exact ⟨FA, fc, h⟩
  obtain ⟨CAb, ccb, rfl⟩ : ∃ CA cc, Cb = .slice CA 4 cc := by
    obtain ⟨CA, cc, h, _⟩ := hC.form
    exact ⟨CA, cc, h⟩
  have hxa : Ext w8 (w8.alloc (.cells #[.int .i64 0, .slice FAb 4 fcb, .slice CAb 4 ccb] 30)) := (Ext.refl w8).alloc _
  have hx2 := hx.trans hxa
  have HX := Lib.hid (HX.out.trans hx2)
  have HT := Lib.hid (HT.out.ext hx2)
  have HG := Lib.hid (Rs.ext (Rs.ext RI.ext) _ _ _ _ hx2 HG.out)
  have HB := Lib.hid (HB.out.ext hx2)
  have HCa := Lib.hid (HCa.out.ext hx2)
  have HFa := Lib.hid (And.intro (Rs.ext RI.ext _ _ _ _ hx2 HFa.out.1) (Rs.ext RB.ext _ _ _ _ hx2 HFa.out.2))
  have HAL := Lib.hid (RRs.ext _ _ _ _ hx2 HAL.out)
  have HCn := Lib.hid (HCn.out.ext hx2)
  have HFn := Lib.hid (And.intro (Rs.ext RI.ext _ _ _ _ hx2 HFn.out.1) (Rs.ext RB.ext _ _ _ _ hx2 HFn.out.2))
  have HCb := Lib.hid (cells_new w8 #[.int .i64 0, .slice FAb 4 fcb, .slice CAb 4 ccb] 30)
  have HFb := Lib.hid (And.intro (Rs.ext RI.ext _ _ _ _ hxa hF) (Rs.ext RB.ext _ _ _ _ hxa hC))
  clear hF hC hx hxa hx2 b0 b1 b2 hBl
  go_upto_region 6 with fail
  obtain ⟨Qb, hQb⟩ : ∃ Q, w8.heap.size = Q := ⟨_, rfl⟩
  rw [hQb] at HCb
  try rw [hQb]
  obtain ⟨w9, hw2⟩ : ∃ x, w8.alloc (.cells #[.int .i64 0, .slice FAb 4 fcb, .slice CAb 4 ccb] 30) = x := ⟨_, rfl⟩
  rw [hw2] at HX HT HG HB HCa HFa HAL HCn HFn HCb HFb ⊢
  clear hw2 hQb
  have b0 : w9.cell? ⟨B, 0, none⟩ = some (.int .i64 4) := HB.out 0 _ rfl
  have b1 : w9.cell? ⟨B, 1, none⟩ = some (.slice (some ⟨gG, 0, none⟩) 2 2) := HB.out 1 _ rfl
  have b2 : w9.cell? ⟨B, 2, none⟩ = some (.int .i64 1) := HB.out 2 _ rfl
  have hBl : B < w9.heap.size := lt_of_cell b0
  go_wp2_with fail
  refine (bLocal_any 4 1 Rb.exG 5 _ _ HT.out HG.out).mono ?_
  rintro e w10 ⟨v, rfl, hv, hx⟩
  rw [Rb.ex_local.2.1] at hv
  rw [Rb.ex_local.1]
  obtain ⟨Fl, Cl, hvv, hF, hC⟩ := hv
  have hvv : v = .agg #[.int .i64 5, Fl, Cl] := hvv
  subst hvv
  obtain ⟨FAl, fcl, rfl⟩ : ∃ FA fc, Fl = .slice FA 2 fc := by
    obtain ⟨FA, fc, h, _⟩ := hF.form
    exact ⟨FA, fc, h⟩
  obtain ⟨CAl, ccl, rfl⟩ : ∃ CA cc, Cl = .slice CA 2 cc := by
    obtain ⟨CA, cc, h, _⟩ := hC.form
    exact ⟨CA, cc, h⟩
  have hxa : Ext w10 (w10.alloc (.cells #[.int .i64 5, .slice FAl 2 fcl, .slice CAl 2 ccl] 30)) := (Ext.refl w10).alloc _
  have hx2 := hx.trans hxa
  have HX := Lib.hid (HX.out.trans hx2)
  have HT := Lib.hid (HT.out.ext hx2)
  have HG := Lib.hid (Rs.ext (Rs.ext RI.ext) _ _ _ _ hx2 HG.out)
  have HB := Lib.hid (HB.out.ext hx2)
  have HCa := Lib.hid (HCa.out.ext hx2)
  have HFa := Lib.hid (And.intro (Rs.ext RI.ext _ _ _ _ hx2 HFa.out.1) (Rs.ext RB.ext _ _ _ _ hx2 HFa.out.2))
  have HAL := Lib.hid (RRs.ext _ _ _ _ hx2 HAL.out)
  have HCn := Lib.hid (HCn.out.ext hx2)
  have HFn := Lib.hid (And.intro (Rs.ext RI.ext _ _ _ _ hx2 HFn.out.1) (Rs.ext RB.ext _ _ _ _ hx2 HFn.out.2))
  have HCb := Lib.hid (HCb.out.ext hx2)
  have HFb := Lib.hid (And.intro (Rs.ext RI.ext _ _ _ _ hx2 HFb.out.1) (Rs.ext RB.ext _ _ _ _ hx2 HFb.out.2))
  have HCl := Lib.hid (cells_new w10 #[.int .i64 5, .slice FAl 2 fcl, .slice CAl 2 ccl] 30)
  have HFl := Lib.hid (And.intro (Rs.ext RI.ext _ _ _ _ hxa hF) (Rs.ext RB.ext _ _ _ _ hxa hC))
  clear hF hC hx hxa hx2 b0 b1 b2 hBl
  go_upto_region 7 with fail
  obtain ⟨Ql, hQl⟩ : ∃ Q, w10.heap.size = Q := ⟨_, rfl⟩
  rw [hQl] at HCl
  try rw [hQl]
  obtain ⟨w11, hw2⟩ : ∃ x, w10.alloc (.cells #[.int .i64 5, .slice FAl 2 fcl, .slice CAl 2 ccl] 30) = x := ⟨_, rfl⟩
  rw [hw2] at HX HT HG HB HCa HFa HAL HCn HFn HCb HFb HCl HFl ⊢
  clear hw2 hQl
  have b0 : w11.cell? ⟨B, 0, none⟩ = some (.int .i64 4) := HB.out 0 _ rfl
  have b1 : w11.cell? ⟨B, 1, none⟩ = some (.slice (some ⟨gG, 0, none⟩) 2 2) := HB.out 1 _ rfl
  have b2 : w11.cell? ⟨B, 2, none⟩ = some (.int .i64 1) := HB.out 2 _ rfl
  have hBl : B < w11.heap.size := lt_of_cell b0
  go_wp2_with fail
  refine (bLocal_any 4 1 Rb.exG 6 _ _ HT.out HG.out).mono ?_
  rintro e w12 ⟨v, rfl, hv, hx⟩
  rw [Rb.ex_local.2.2.2] at hv
  rw [Rb.ex_local.2.2.1]
  obtain ⟨Fm, Cm, hvv, hF, hC⟩ := hv
  have hvv : v = .agg #[.int .i64 0, Fm, Cm] := hvv
  subst hvv
  obtain ⟨FAm, fcm, rfl⟩ : ∃ FA fc, Fm = .slice FA 0 fc := by
    obtain ⟨FA, fc, h, _⟩ := hF.form
    exact ⟨FA, fc, h⟩
  obtain ⟨CAm, ccm, rfl⟩ : ∃ CA cc, Cm = .slice CA 0 cc := by
    obtain ⟨CA, cc, h, _⟩ := hC.form
    exact ⟨CA, cc, h⟩
  have hxa : Ext w12 (w12.alloc (.cells #[.int .i64 0, .slice FAm 0 fcm, .slice CAm 0 ccm] 30)) := (Ext.refl w12).alloc _
  have hx2 := hx.trans hxa
  have HX := Lib.hid (HX.out.trans hx2)
  have HT := Lib.hid (HT.out.ext hx2)
  have HG := Lib.hid (Rs.ext (Rs.ext RI.ext) _ _ _ _ hx2 HG.out)
  have HB := Lib.hid (HB.out.ext hx2)
  have HCa := Lib.hid (HCa.out.ext hx2)
  have HFa := Lib.hid (And.intro (Rs.ext RI.ext _ _ _ _ hx2 HFa.out.1) (Rs.ext RB.ext _ _ _ _ hx2 HFa.out.2))
  have HAL := Lib.hid (RRs.ext _ _ _ _ hx2 HAL.out)
  have HCn := Lib.hid (HCn.out.ext hx2)
  have HFn := Lib.hid (And.intro (Rs.ext RI.ext _ _ _ _ hx2 HFn.out.1) (Rs.ext RB.ext _ _ _ _ hx2 HFn.out.2))
  have HCb := Lib.hid (HCb.out.ext hx2)
  have HFb := Lib.hid (And.intro (Rs.ext RI.ext _ _ _ _ hx2 HFb.out.1) (Rs.ext RB.ext _ _ _ _ hx2 HFb.out.2))
  have HCl := Lib.hid (HCl.out.ext hx2)
  have HFl := Lib.hid (And.intro (Rs.ext RI.ext _ _ _ _ hx2 HFl.out.1) (Rs.ext RB.ext _ _ _ _ hx2 HFl.out.2))
  have HCm := Lib.hid (cells_new w12 #[.int .i64 0, .slice FAm 0 fcm, .slice CAm 0 ccm] 30)
  have HFm := Lib.hid (And.intro (Rs.ext RI.ext _ _ _ _ hxa hF) (Rs.ext RB.ext _ _ _ _ hxa hC))
  clear hF hC hx hxa hx2 b0 b1 b2 hBl
  go_upto_region 8 with fail
  obtain ⟨Qm, hQm⟩ : ∃ Q, w12.heap.size = Q := ⟨_, rfl⟩
  rw [hQm] at HCm
  try rw [hQm]
  obtain ⟨w13, hw2⟩ : ∃ x, w12.alloc (.cells #[.int .i64 0, .slice FAm 0 fcm, .slice CAm 0 ccm] 30) = x := ⟨_, rfl⟩
  rw [hw2] at HX HT HG HB HCa HFa HAL HCn HFn HCb HFb HCl HFl HCm HFm ⊢
  clear hw2 hQm
  have b0 : w13.cell? ⟨B, 0, none⟩ = some (.int .i64 4) := HB.out 0 _ rfl
  have b1 : w13.cell? ⟨B, 1, none⟩ = some (.slice (some ⟨gG, 0, none⟩) 2 2) := HB.out 1 _ rfl
  have b2 : w13.cell? ⟨B, 2, none⟩ = some (.int .i64 1) := HB.out 2 _ rfl
  have hBl : B < w13.heap.size := lt_of_cell b0
  go_wp2_with fail
  refine (bJoint_any 4 1 Rb.exG 5 _ _ HT.out HG.out).mono ?_
  rintro e w14 ⟨v1, v2, rfl, h1, h2, hx⟩
  rw [Rb.ex_joint.2] at h1 h2
  rw [Rb.ex_joint.1]
  have h1 : Rs RI w14 v1 [1, 3, 4, 5] := h1
  have h2 : RRs w14 v2 [⟨0, [1, 4], [1, 1]⟩, ⟨2, [3, 5], [1, 1]⟩] := h2
  obtain ⟨JA, cJ, rfl⟩ : ∃ A c, v1 = .slice A 4 c := by
    obtain ⟨A, c, h, _⟩ := h1.form
    exact ⟨A, c, h⟩
  obtain ⟨JB, dJ, rfl⟩ : ∃ A c, v2 = .slice A 2 c := by
    obtain ⟨A, c, h, _⟩ := h2.form
    exact ⟨A, c, h⟩
  have HX := Lib.hid (HX.out.trans hx)
  have HT := Lib.hid (HT.out.ext hx)
  have HG := Lib.hid (Rs.ext (Rs.ext RI.ext) _ _ _ _ hx HG.out)
  have HB := Lib.hid (HB.out.ext hx)
  have HCa := Lib.hid (HCa.out.ext hx)
  have HFa := Lib.hid (And.intro (Rs.ext RI.ext _ _ _ _ hx HFa.out.1) (Rs.ext RB.ext _ _ _ _ hx HFa.out.2))
  have HAL := Lib.hid (RRs.ext _ _ _ _ hx HAL.out)
  have HCn := Lib.hid (HCn.out.ext hx)
  have HFn := Lib.hid (And.intro (Rs.ext RI.ext _ _ _ _ hx HFn.out.1) (Rs.ext RB.ext _ _ _ _ hx HFn.out.2))
  have HCb := Lib.hid (HCb.out.ext hx)
  have HFb := Lib.hid (And.intro (Rs.ext RI.ext _ _ _ _ hx HFb.out.1) (Rs.ext RB.ext _ _ _ _ hx HFb.out.2))
  have HCl := Lib.hid (HCl.out.ext hx)
  have HFl := Lib.hid (And.intro (Rs.ext RI.ext _ _ _ _ hx HFl.out.1) (Rs.ext RB.ext _ _ _ _ hx HFl.out.2))
  have HCm := Lib.hid (HCm.out.ext hx)
  have HFm := Lib.hid (And.intro (Rs.ext RI.ext _ _ _ _ hx HFm.out.1) (Rs.ext RB.ext _ _ _ _ hx HFm.out.2))
  have HJ := Lib.hid (And.intro h1 h2)
  clear h1 h2 hx b0 b1 b2 hBl
  clear HG HB HCn HFn HCm HFm
  go_upto_region 9 with fail
  go_wp2_with fail
  refine (recipe8_any 0 _ _ 2 2 2 2 _ _ _ rfl rfl).mono ?_
  rintro e w15 ⟨rfl, hx⟩
  have hci := (cells_new w14 #[.int .i64 1, .int .i64 4] 3).ext (((Ext.refl _).alloc (.cells #[.int .u8 1, .int .u8 1] 5)).trans hx)
  have hcb := (cells_new (w14.alloc (.cells #[.int .i64 1, .int .i64 4] 3)) #[.int .u8 1, .int .u8 1] 5).ext hx
  rw [World.size_alloc] at hcb
  have hx2 := Ext.trans ((((Ext.refl w14).alloc _).alloc _)) hx
  have HX := Lib.hid (HX.out.trans hx2)
  have HT := Lib.hid (HT.out.ext hx2)
  have HCa := Lib.hid (HCa.out.ext hx2)
  have HFa := Lib.hid (And.intro (Rs.ext RI.ext _ _ _ _ hx2 HFa.out.1) (Rs.ext RB.ext _ _ _ _ hx2 HFa.out.2))
  have HAL := Lib.hid (RRs.ext _ _ _ _ hx2 HAL.out)
  have HCb := Lib.hid (HCb.out.ext hx2)
  have HFb := Lib.hid (And.intro (Rs.ext RI.ext _ _ _ _ hx2 HFb.out.1) (Rs.ext RB.ext _ _ _ _ hx2 HFb.out.2))
  have HCl := Lib.hid (HCl.out.ext hx2)
  have HFl := Lib.hid (And.intro (Rs.ext RI.ext _ _ _ _ hx2 HFl.out.1) (Rs.ext RB.ext _ _ _ _ hx2 HFl.out.2))
  have HJ := Lib.hid (And.intro (Rs.ext RI.ext _ _ _ _ hx2 HJ.out.1) (RRs.ext _ _ _ _ hx2 HJ.out.2))
  obtain ⟨Xp, hXp⟩ : ∃ X, w14.heap.size = X := ⟨_, rfl⟩
  rw [hXp] at hci hcb
  try rw [hXp]
  have HRp : Hid (RRec w15 (.agg #[.int .i64 0, .slice (some ⟨Xp, 0, none⟩) 2 2, .slice (some ⟨Xp + 1, 0, none⟩) 2 2]) ⟨0, [1, 4], [1, 1]⟩) := Lib.hid ⟨_, _, rfl, rs_lit (l := [1, 4]) hci rfl (by decide), rb_lit (l := [1, 1]) hcb (by decide)⟩
  clear hci hcb hx hx2 hXp
  go_wp2_with fail
  have htx : Rs RS (w15.alloc (.cells #[.string { data := #[3, 4] }, .string { data := #[2, 6] }] 9)) (.slice (some ⟨w15.heap.size, 0, none⟩) 2 2) [[3, 4], [2, 6]] := rt_lit (l := [[3, 4], [2, 6]]) (cells_new w15 #[.string { data := #[3, 4] }, .string { data := #[2, 6] }] 9) (by decide)
  have hxa : Ext w15 (w15.alloc (.cells #[.string { data := #[3, 4] }, .string { data := #[2, 6] }] 9)) := (Ext.refl _).alloc _
  refine (bApply_any ⟨0, [1, 4], [1, 1]⟩ [[3, 4], [2, 6]] _ _ _ (HT.out.ext hxa) (RRec.ext _ _ _ _ hxa HRp.out) htx (by decide) (by decide) (by decide)).mono ?_
  rintro e w16 ⟨rfl, hx⟩
  rw [Rb.ex_apply.1, Rb.ex_apply.2.1, show sb [1, 2] = ({ data := #[1, 2] } : ByteArray) from rfl]
  have hx2 := Ext.trans hxa hx
  have HX := Lib.hid (HX.out.trans hx2)
  have HT := Lib.hid (HT.out.ext hx2)
  have HCa := Lib.hid (HCa.out.ext hx2)
  have HFa := Lib.hid (And.intro (Rs.ext RI.ext _ _ _ _ hx2 HFa.out.1) (Rs.ext RB.ext _ _ _ _ hx2 HFa.out.2))
  have HAL := Lib.hid (RRs.ext _ _ _ _ hx2 HAL.out)
  have HCb := Lib.hid (HCb.out.ext hx2)
  have HFb := Lib.hid (And.intro (Rs.ext RI.ext _ _ _ _ hx2 HFb.out.1) (Rs.ext RB.ext _ _ _ _ hx2 HFb.out.2))
  have HCl := Lib.hid (HCl.out.ext hx2)
  have HFl := Lib.hid (And.intro (Rs.ext RI.ext _ _ _ _ hx2 HFl.out.1) (Rs.ext RB.ext _ _ _ _ hx2 HFl.out.2))
  have HJ := Lib.hid (And.intro (Rs.ext RI.ext _ _ _ _ hx2 HJ.out.1) (RRs.ext _ _ _ _ hx2 HJ.out.2))
  have HRp := Lib.hid (RRec.ext _ _ _ _ hx2 HRp.out)
  clear htx hxa hx hx2
  clear HRp
  go_upto_region 10 with fail
  go_wp2_with fail
  refine (recipe8_any 0 _ _ 2 2 2 2 _ _ _ rfl rfl).mono ?_
  rintro e w17 ⟨rfl, hx⟩
  have hci := (cells_new w16 #[.int .i64 1, .int .i64 4] 3).ext (((Ext.refl _).alloc (.cells #[.int .u8 1, .int .u8 1] 5)).trans hx)
  have hcb := (cells_new (w16.alloc (.cells #[.int .i64 1, .int .i64 4] 3)) #[.int .u8 1, .int .u8 1] 5).ext hx
  rw [World.size_alloc] at hcb
  have hx2 := Ext.trans ((((Ext.refl w16).alloc _).alloc _)) hx
  have HX := Lib.hid (HX.out.trans hx2)
  have HT := Lib.hid (HT.out.ext hx2)
  have HCa := Lib.hid (HCa.out.ext hx2)
  have HFa := Lib.hid (And.intro (Rs.ext RI.ext _ _ _ _ hx2 HFa.out.1) (Rs.ext RB.ext _ _ _ _ hx2 HFa.out.2))
  have HAL := Lib.hid (RRs.ext _ _ _ _ hx2 HAL.out)
  have HCb := Lib.hid (HCb.out.ext hx2)
  have HFb := Lib.hid (And.intro (Rs.ext RI.ext _ _ _ _ hx2 HFb.out.1) (Rs.ext RB.ext _ _ _ _ hx2 HFb.out.2))
  have HCl := Lib.hid (HCl.out.ext hx2)
  have HFl := Lib.hid (And.intro (Rs.ext RI.ext _ _ _ _ hx2 HFl.out.1) (Rs.ext RB.ext _ _ _ _ hx2 HFl.out.2))
  have HJ := Lib.hid (And.intro (Rs.ext RI.ext _ _ _ _ hx2 HJ.out.1) (RRs.ext _ _ _ _ hx2 HJ.out.2))
  obtain ⟨Xq, hXq⟩ : ∃ X, w16.heap.size = X := ⟨_, rfl⟩
  rw [hXq] at hci hcb
  try rw [hXq]
  have HRq : Hid (RRec w17 (.agg #[.int .i64 0, .slice (some ⟨Xq, 0, none⟩) 2 2, .slice (some ⟨Xq + 1, 0, none⟩) 2 2]) ⟨0, [1, 4], [1, 1]⟩) := Lib.hid ⟨_, _, rfl, rs_lit (l := [1, 4]) hci rfl (by decide), rb_lit (l := [1, 1]) hcb (by decide)⟩
  clear hci hcb hx hx2 hXq
  go_wp2_with fail
  have htx : Rs RS (w17.alloc (.cells #[.string { data := #[97] }, .string { data := #[98, 99] }] 9)) (.slice (some ⟨w17.heap.size, 0, none⟩) 2 2) [[97], [98, 99]] := rt_lit (l := [[97], [98, 99]]) (cells_new w17 #[.string { data := #[97] }, .string { data := #[98, 99] }] 9) (by decide)
  have hxa : Ext w17 (w17.alloc (.cells #[.string { data := #[97] }, .string { data := #[98, 99] }] 9)) := (Ext.refl _).alloc _
  refine (bApply_any ⟨0, [1, 4], [1, 1]⟩ [[97], [98, 99]] _ _ _ (HT.out.ext hxa) (RRec.ext _ _ _ _ hxa HRq.out) htx (by decide) (by decide) (by decide)).mono ?_
  rintro e w18 ⟨rfl, hx⟩
  rw [Rb.ex_apply.2.2.1]
  have hx2 := Ext.trans hxa hx
  have HX := Lib.hid (HX.out.trans hx2)
  have HT := Lib.hid (HT.out.ext hx2)
  have HCa := Lib.hid (HCa.out.ext hx2)
  have HFa := Lib.hid (And.intro (Rs.ext RI.ext _ _ _ _ hx2 HFa.out.1) (Rs.ext RB.ext _ _ _ _ hx2 HFa.out.2))
  have HAL := Lib.hid (RRs.ext _ _ _ _ hx2 HAL.out)
  have HCb := Lib.hid (HCb.out.ext hx2)
  have HFb := Lib.hid (And.intro (Rs.ext RI.ext _ _ _ _ hx2 HFb.out.1) (Rs.ext RB.ext _ _ _ _ hx2 HFb.out.2))
  have HCl := Lib.hid (HCl.out.ext hx2)
  have HFl := Lib.hid (And.intro (Rs.ext RI.ext _ _ _ _ hx2 HFl.out.1) (Rs.ext RB.ext _ _ _ _ hx2 HFl.out.2))
  have HJ := Lib.hid (And.intro (Rs.ext RI.ext _ _ _ _ hx2 HJ.out.1) (RRs.ext _ _ _ _ hx2 HJ.out.2))
  have HRq := Lib.hid (RRec.ext _ _ _ _ hx2 HRq.out)
  clear htx hxa hx hx2
  clear HRq
  go_upto_region 11 with fail
  go_upto_region 12 with fail
  go_wp2_with fail
  refine (recipe8_any 0 _ _ 4 4 4 4 _ _ _ rfl rfl).mono ?_
  rintro e w19 ⟨rfl, hx⟩
  have hci := (cells_new w18 #[.int .i64 1, .int .i64 2, .int .i64 3, .int .i64 6] 3).ext (((Ext.refl _).alloc (.cells #[.int .u8 2, .int .u8 4, .int .u8 8, .int .u8 1] 5)).trans hx)
  have hcb := (cells_new (w18.alloc (.cells #[.int .i64 1, .int .i64 2, .int .i64 3, .int .i64 6] 3)) #[.int .u8 2, .int .u8 4, .int .u8 8, .int .u8 1] 5).ext hx
  rw [World.size_alloc] at hcb
  have hx2 := Ext.trans ((((Ext.refl w18).alloc _).alloc _)) hx
  have HX := Lib.hid (HX.out.trans hx2)
  have HT := Lib.hid (HT.out.ext hx2)
  have HCa := Lib.hid (HCa.out.ext hx2)
  have HFa := Lib.hid (And.intro (Rs.ext RI.ext _ _ _ _ hx2 HFa.out.1) (Rs.ext RB.ext _ _ _ _ hx2 HFa.out.2))
  have HAL := Lib.hid (RRs.ext _ _ _ _ hx2 HAL.out)
  have HCb := Lib.hid (HCb.out.ext hx2)
  have HFb := Lib.hid (And.intro (Rs.ext RI.ext _ _ _ _ hx2 HFb.out.1) (Rs.ext RB.ext _ _ _ _ hx2 HFb.out.2))
  have HCl := Lib.hid (HCl.out.ext hx2)
  have HFl := Lib.hid (And.intro (Rs.ext RI.ext _ _ _ _ hx2 HFl.out.1) (Rs.ext RB.ext _ _ _ _ hx2 HFl.out.2))
  have HJ := Lib.hid (And.intro (Rs.ext RI.ext _ _ _ _ hx2 HJ.out.1) (RRs.ext _ _ _ _ hx2 HJ.out.2))
  obtain ⟨Xu, hXu⟩ : ∃ X, w18.heap.size = X := ⟨_, rfl⟩
  rw [hXu] at hci hcb
  try rw [hXu]
  have HRu : Hid (RRec w19 (.agg #[.int .i64 0, .slice (some ⟨Xu, 0, none⟩) 4 4, .slice (some ⟨Xu + 1, 0, none⟩) 4 4]) ⟨0, [1, 2, 3, 6], [2, 4, 8, 1]⟩) := Lib.hid ⟨_, _, rfl, rs_lit (l := [1, 2, 3, 6]) hci rfl (by decide), rb_lit (l := [2, 4, 8, 1]) hcb (by decide)⟩
  clear hci hcb hx hx2 hXu
  go_wp2_with fail
  refine (recipe8_any 0 _ _ 4 4 4 4 _ _ _ rfl rfl).mono ?_
  rintro e w20 ⟨rfl, hx⟩
  have hci := (cells_new w19 #[.int .i64 1, .int .i64 2, .int .i64 5, .int .i64 6] 3).ext (((Ext.refl _).alloc (.cells #[.int .u8 2, .int .u8 12, .int .u8 8, .int .u8 1] 5)).trans hx)
  have hcb := (cells_new (w19.alloc (.cells #[.int .i64 1, .int .i64 2, .int .i64 5, .int .i64 6] 3)) #[.int .u8 2, .int .u8 12, .int .u8 8, .int .u8 1] 5).ext hx
  rw [World.size_alloc] at hcb
  have hx2 := Ext.trans ((((Ext.refl w19).alloc _).alloc _)) hx
  have HX := Lib.hid (HX.out.trans hx2)
  have HT := Lib.hid (HT.out.ext hx2)
  have HCa := Lib.hid (HCa.out.ext hx2)
  have HFa := Lib.hid (And.intro (Rs.ext RI.ext _ _ _ _ hx2 HFa.out.1) (Rs.ext RB.ext _ _ _ _ hx2 HFa.out.2))
  have HAL := Lib.hid (RRs.ext _ _ _ _ hx2 HAL.out)
  have HCb := Lib.hid (HCb.out.ext hx2)
  have HFb := Lib.hid (And.intro (Rs.ext RI.ext _ _ _ _ hx2 HFb.out.1) (Rs.ext RB.ext _ _ _ _ hx2 HFb.out.2))
  have HCl := Lib.hid (HCl.out.ext hx2)
  have HFl := Lib.hid (And.intro (Rs.ext RI.ext _ _ _ _ hx2 HFl.out.1) (Rs.ext RB.ext _ _ _ _ hx2 HFl.out.2))
  have HJ := Lib.hid (And.intro (Rs.ext RI.ext _ _ _ _ hx2 HJ.out.1) (RRs.ext _ _ _ _ hx2 HJ.out.2))
  have HRu := Lib.hid (RRec.ext _ _ _ _ hx2 HRu.out)
  obtain ⟨Xx, hXx⟩ : ∃ X, w19.heap.size = X := ⟨_, rfl⟩
  rw [hXx] at hci hcb
  try rw [hXx]
  have HRx : Hid (RRec w20 (.agg #[.int .i64 0, .slice (some ⟨Xx, 0, none⟩) 4 4, .slice (some ⟨Xx + 1, 0, none⟩) 4 4]) ⟨0, [1, 2, 5, 6], [2, 12, 8, 1]⟩) := Lib.hid ⟨_, _, rfl, rs_lit (l := [1, 2, 5, 6]) hci rfl (by decide), rb_lit (l := [2, 12, 8, 1]) hcb (by decide)⟩
  clear hci hcb hx hx2 hXx
  go_wp2_with fail
  refine (recipe8_any 0 _ _ 4 4 4 4 _ _ _ rfl rfl).mono ?_
  rintro e w21 ⟨rfl, hx⟩
  have hci := (cells_new w20 #[.int .i64 1, .int .i64 3, .int .i64 5, .int .i64 6] 3).ext (((Ext.refl _).alloc (.cells #[.int .u8 2, .int .u8 12, .int .u8 4, .int .u8 1] 5)).trans hx)
  have hcb := (cells_new (w20.alloc (.cells #[.int .i64 1, .int .i64 3, .int .i64 5, .int .i64 6] 3)) #[.int .u8 2, .int .u8 12, .int .u8 4, .int .u8 1] 5).ext hx
  rw [World.size_alloc] at hcb
  have hx2 := Ext.trans ((((Ext.refl w20).alloc _).alloc _)) hx
  have HX := Lib.hid (HX.out.trans hx2)
  have HT := Lib.hid (HT.out.ext hx2)
  have HCa := Lib.hid (HCa.out.ext hx2)
  have HFa := Lib.hid (And.intro (Rs.ext RI.ext _ _ _ _ hx2 HFa.out.1) (Rs.ext RB.ext _ _ _ _ hx2 HFa.out.2))
  have HAL := Lib.hid (RRs.ext _ _ _ _ hx2 HAL.out)
  have HCb := Lib.hid (HCb.out.ext hx2)
  have HFb := Lib.hid (And.intro (Rs.ext RI.ext _ _ _ _ hx2 HFb.out.1) (Rs.ext RB.ext _ _ _ _ hx2 HFb.out.2))
  have HCl := Lib.hid (HCl.out.ext hx2)
  have HFl := Lib.hid (And.intro (Rs.ext RI.ext _ _ _ _ hx2 HFl.out.1) (Rs.ext RB.ext _ _ _ _ hx2 HFl.out.2))
  have HJ := Lib.hid (And.intro (Rs.ext RI.ext _ _ _ _ hx2 HJ.out.1) (RRs.ext _ _ _ _ hx2 HJ.out.2))
  have HRu := Lib.hid (RRec.ext _ _ _ _ hx2 HRu.out)
  have HRx := Lib.hid (RRec.ext _ _ _ _ hx2 HRx.out)
  obtain ⟨Xy, hXy⟩ : ∃ X, w20.heap.size = X := ⟨_, rfl⟩
  rw [hXy] at hci hcb
  try rw [hXy]
  have HRy : Hid (RRec w21 (.agg #[.int .i64 0, .slice (some ⟨Xy, 0, none⟩) 4 4, .slice (some ⟨Xy + 1, 0, none⟩) 4 4]) ⟨0, [1, 3, 5, 6], [2, 12, 4, 1]⟩) := Lib.hid ⟨_, _, rfl, rs_lit (l := [1, 3, 5, 6]) hci rfl (by decide), rb_lit (l := [2, 12, 4, 1]) hcb (by decide)⟩
  clear hci hcb hx hx2 hXy
  have hxa : Ext w21 (w21.alloc (.cells #[.int .i64 0, .slice (some ⟨Xu, 0, none⟩) 4 4, .slice (some ⟨Xu + 1, 0, none⟩) 4 4, .int .i64 0, .slice (some ⟨Xx, 0, none⟩) 4 4, .slice (some ⟨Xx + 1, 0, none⟩) 4 4, .int .i64 0, .slice (some ⟨Xy, 0, none⟩) 4 4, .slice (some ⟨Xy + 1, 0, none⟩) 4 4] 30)) := (Ext.refl _).alloc _
  have hlit : RRs (w21.alloc (.cells #[.int .i64 0, .slice (some ⟨Xu, 0, none⟩) 4 4, .slice (some ⟨Xu + 1, 0, none⟩) 4 4, .int .i64 0, .slice (some ⟨Xx, 0, none⟩) 4 4, .slice (some ⟨Xx + 1, 0, none⟩) 4 4, .int .i64 0, .slice (some ⟨Xy, 0, none⟩) 4 4, .slice (some ⟨Xy + 1, 0, none⟩) 4 4] 30)) (.slice (some ⟨w21.heap.size, 0, none⟩) 3 3) [⟨0, [1, 2, 3, 6], [2, 4, 8, 1]⟩, ⟨0, [1, 2, 5, 6], [2, 12, 8, 1]⟩, ⟨0, [1, 3, 5, 6], [2, 12, 4, 1]⟩] := rrs_lit (l := [(⟨0, [1, 2, 3, 6], [2, 4, 8, 1]⟩, .slice (some ⟨Xu, 0, none⟩) 4 4, .slice (some ⟨Xu + 1, 0, none⟩) 4 4), (⟨0, [1, 2, 5, 6], [2, 12, 8, 1]⟩, .slice (some ⟨Xx, 0, none⟩) 4 4, .slice (some ⟨Xx + 1, 0, none⟩) 4 4), (⟨0, [1, 3, 5, 6], [2, 12, 4, 1]⟩, .slice (some ⟨Xy, 0, none⟩) 4 4, .slice (some ⟨Xy + 1, 0, none⟩) 4 4)]) (cells_new w21 #[.int .i64 0, .slice (some ⟨Xu, 0, none⟩) 4 4, .slice (some ⟨Xu + 1, 0, none⟩) 4 4, .int .i64 0, .slice (some ⟨Xx, 0, none⟩) 4 4, .slice (some ⟨Xx + 1, 0, none⟩) 4 4, .int .i64 0, .slice (some ⟨Xy, 0, none⟩) 4 4, .slice (some ⟨Xy + 1, 0, none⟩) 4 4] 30) (fun y hy => by
    simp only [List.mem_cons, List.not_mem_nil, or_false] at hy
    rcases hy with rfl | rfl | rfl
    · exact rec_rows (RRec.ext _ _ _ _ hxa HRu.out)
    · exact rec_rows (RRec.ext _ _ _ _ hxa HRx.out)
    · exact rec_rows (RRec.ext _ _ _ _ hxa HRy.out)
    ) (by simp)
  go_upto_region 13 with fail
  have HFAR := Lib.hid hlit
  have hcf := cells_new w21 #[.int .i64 0, .slice (some ⟨Xu, 0, none⟩) 4 4, .slice (some ⟨Xu + 1, 0, none⟩) 4 4, .int .i64 0, .slice (some ⟨Xx, 0, none⟩) 4 4, .slice (some ⟨Xx + 1, 0, none⟩) 4 4, .int .i64 0, .slice (some ⟨Xy, 0, none⟩) 4 4, .slice (some ⟨Xy + 1, 0, none⟩) 4 4] 30
  have HC0 : Hid (Cells (w21.alloc (.cells #[.int .i64 0, .slice (some ⟨Xu, 0, none⟩) 4 4, .slice (some ⟨Xu + 1, 0, none⟩) 4 4, .int .i64 0, .slice (some ⟨Xx, 0, none⟩) 4 4, .slice (some ⟨Xx + 1, 0, none⟩) 4 4, .int .i64 0, .slice (some ⟨Xy, 0, none⟩) 4 4, .slice (some ⟨Xy + 1, 0, none⟩) 4 4] 30)) w21.heap.size [.int .i64 0, .slice (some ⟨Xu, 0, none⟩) 4 4, .slice (some ⟨Xu + 1, 0, none⟩) 4 4]) := Lib.hid fun i v hi => hcf i v (by
    match i, hi with
    | 0, hi => exact hi
    | 1, hi => exact hi
    | 2, hi => exact hi
    | i + 3, hi => simp at hi)
  have HX := Lib.hid (HX.out.trans hxa)
  have HT := Lib.hid (HT.out.ext hxa)
  have HCa := Lib.hid (HCa.out.ext hxa)
  have HFa := Lib.hid (And.intro (Rs.ext RI.ext _ _ _ _ hxa HFa.out.1) (Rs.ext RB.ext _ _ _ _ hxa HFa.out.2))
  have HAL := Lib.hid (RRs.ext _ _ _ _ hxa HAL.out)
  have HCb := Lib.hid (HCb.out.ext hxa)
  have HFb := Lib.hid (And.intro (Rs.ext RI.ext _ _ _ _ hxa HFb.out.1) (Rs.ext RB.ext _ _ _ _ hxa HFb.out.2))
  have HCl := Lib.hid (HCl.out.ext hxa)
  have HFl := Lib.hid (And.intro (Rs.ext RI.ext _ _ _ _ hxa HFl.out.1) (Rs.ext RB.ext _ _ _ _ hxa HFl.out.2))
  have HJ := Lib.hid (And.intro (Rs.ext RI.ext _ _ _ _ hxa HJ.out.1) (RRs.ext _ _ _ _ hxa HJ.out.2))
  have HRu := Lib.hid (RRec.ext _ _ _ _ hxa HRu.out)
  have HRx := Lib.hid (RRec.ext _ _ _ _ hxa HRx.out)
  have HRy := Lib.hid (RRec.ext _ _ _ _ hxa HRy.out)
  obtain ⟨XF, hXF⟩ : ∃ X, w21.heap.size = X := ⟨_, rfl⟩
  rw [hXF] at HFAR HC0
  try rw [hXF]
  obtain ⟨ws, hws⟩ : ∃ x, w21.alloc (.cells #[.int .i64 0, .slice (some ⟨Xu, 0, none⟩) 4 4, .slice (some ⟨Xu + 1, 0, none⟩) 4 4, .int .i64 0, .slice (some ⟨Xx, 0, none⟩) 4 4, .slice (some ⟨Xx + 1, 0, none⟩) 4 4, .int .i64 0, .slice (some ⟨Xy, 0, none⟩) 4 4, .slice (some ⟨Xy + 1, 0, none⟩) 4 4] 30) = x := ⟨_, rfl⟩
  rw [hws] at HFAR HC0 HX HT HCa HFa HAL HCb HFb HCl HFl HJ HRu HRx HRy ⊢
  clear hcf hlit hxa hws hXF
  refine wp_atEnd' (san_near Qa Qb Ql XF cL LA FAa CAa FAb CAb FAl CAl (some ⟨Xu, 0, none⟩) (some ⟨Xu + 1, 0, none⟩) fca cca fcb ccb fcl ccl 4 4 ws HCa.out HCb.out HCl.out HC0.out ⟨_, _, rfl, HFa.out.1, HFa.out.2⟩ ⟨_, _, rfl, HFb.out.1, HFb.out.2⟩ ⟨_, _, rfl, HFl.out.1, HFl.out.2⟩ HRu.out HAL.out HFAR.out _ _ _ _ _ _ _ _ _ _ _ _ _ _ _ _ _ _ _ _ _ _ _ _ _ _ _ _ _ _ _ _ _ _ _ _ _ _ _ _ _ _ _ _ _ _ _ _ _ _ _ _ _ _ _ _ _ _ _ _ _ _ _ _ _ _ _ _ _ _ _ _ _ _ _ _ _ _ _ _ _ _ _ _ _ _ _ _ _ _ _ _ _ _ _ _ _ _ _ _ _ _ _ _ _ _ _ _ _ _ _ _ _ _ _ _ _ _ _ _ _ _ _ _ _ _ _ _ _ _ _ _ _ _ _ _ _ _ _ _ _ _ _ _ _ _ _ _ _ _ _ _ _ _ _ _ _ _ _ _ _ _ _ _ _ _ _ _ _ _ _ ?_)
  rintro u121 u122 u123 u124 u125 u126 u127 u128 u129 u130 u131 u132 u133 u134 u135 u136 u137 u138 u139 u140 u141 u142 u143 u144 wx hx
  have HX := Lib.hid (HX.out.trans hx)
  have HT := Lib.hid (HT.out.ext hx)
  have HCa := Lib.hid (HCa.out.ext hx)
  have HFa := Lib.hid (And.intro (Rs.ext RI.ext _ _ _ _ hx HFa.out.1) (Rs.ext RB.ext _ _ _ _ hx HFa.out.2))
  have HJ := Lib.hid (And.intro (Rs.ext RI.ext _ _ _ _ hx HJ.out.1) (RRs.ext _ _ _ _ hx HJ.out.2))
  clear hx
  go_wp2_with fail
  have hxa : Ext wx (wx.alloc (.cells #[.int .i64 1, .int .i64 3, .int .i64 4, .int .i64 5] 3)) := (Ext.refl _).alloc _
  have htx : Rs RI (wx.alloc (.cells #[.int .i64 1, .int .i64 3, .int .i64 4, .int .i64 5] 3)) (.slice (some ⟨wx.heap.size, 0, none⟩) 4 4) [1, 3, 4, 5] := rs_lit (l := [1, 3, 4, 5]) (cells_new wx #[.int .i64 1, .int .i64 3, .int .i64 4, .int .i64 5] 3) rfl (by decide)
  refine (sList8_any [1, 3, 4, 5] [1, 3, 4, 5] _ _ _ (Rs.ext RI.ext _ _ _ _ hxa HJ.out.1) htx).mono ?_
  rintro e wa ⟨rfl, hx⟩
  rw [decide_eq_true rfl]
  have hx2 := Ext.trans hxa hx
  have HX := Lib.hid (HX.out.trans hx2)
  have HT := Lib.hid (HT.out.ext hx2)
  have HCa := Lib.hid (HCa.out.ext hx2)
  have HFa := Lib.hid (And.intro (Rs.ext RI.ext _ _ _ _ hx2 HFa.out.1) (Rs.ext RB.ext _ _ _ _ hx2 HFa.out.2))
  have HJ := Lib.hid (And.intro (Rs.ext RI.ext _ _ _ _ hx2 HJ.out.1) (RRs.ext _ _ _ _ hx2 HJ.out.2))
  clear hxa htx hx hx2
  go_wp2_with fail
  refine (recipe8_any 0 _ _ 2 2 2 2 _ _ _ rfl rfl).mono ?_
  rintro e w22 ⟨rfl, hx⟩
  have hci := (cells_new wa #[.int .i64 1, .int .i64 4] 3).ext (((Ext.refl _).alloc (.cells #[.int .u8 1, .int .u8 1] 5)).trans hx)
  have hcb := (cells_new (wa.alloc (.cells #[.int .i64 1, .int .i64 4] 3)) #[.int .u8 1, .int .u8 1] 5).ext hx
  rw [World.size_alloc] at hcb
  have hx2 := Ext.trans ((((Ext.refl wa).alloc _).alloc _)) hx
  have HX := Lib.hid (HX.out.trans hx2)
  have HT := Lib.hid (HT.out.ext hx2)
  have HCa := Lib.hid (HCa.out.ext hx2)
  have HFa := Lib.hid (And.intro (Rs.ext RI.ext _ _ _ _ hx2 HFa.out.1) (Rs.ext RB.ext _ _ _ _ hx2 HFa.out.2))
  have HJ := Lib.hid (And.intro (Rs.ext RI.ext _ _ _ _ hx2 HJ.out.1) (RRs.ext _ _ _ _ hx2 HJ.out.2))
  obtain ⟨Xv, hXv⟩ : ∃ X, wa.heap.size = X := ⟨_, rfl⟩
  rw [hXv] at hci hcb
  try rw [hXv]
  have HRv : Hid (RRec w22 (.agg #[.int .i64 0, .slice (some ⟨Xv, 0, none⟩) 2 2, .slice (some ⟨Xv + 1, 0, none⟩) 2 2]) ⟨0, [1, 4], [1, 1]⟩) := Lib.hid ⟨_, _, rfl, rs_lit (l := [1, 4]) hci rfl (by decide), rb_lit (l := [1, 1]) hcb (by decide)⟩
  clear hci hcb hx hx2 hXv
  go_wp2_with fail
  refine (recipe8_any 2 _ _ 2 2 2 2 _ _ _ rfl rfl).mono ?_
  rintro e w23 ⟨rfl, hx⟩
  have hci := (cells_new w22 #[.int .i64 3, .int .i64 5] 3).ext (((Ext.refl _).alloc (.cells #[.int .u8 1, .int .u8 1] 5)).trans hx)
  have hcb := (cells_new (w22.alloc (.cells #[.int .i64 3, .int .i64 5] 3)) #[.int .u8 1, .int .u8 1] 5).ext hx
  rw [World.size_alloc] at hcb
  have hx2 := Ext.trans ((((Ext.refl w22).alloc _).alloc _)) hx
  have HX := Lib.hid (HX.out.trans hx2)
  have HT := Lib.hid (HT.out.ext hx2)
  have HCa := Lib.hid (HCa.out.ext hx2)
  have HFa := Lib.hid (And.intro (Rs.ext RI.ext _ _ _ _ hx2 HFa.out.1) (Rs.ext RB.ext _ _ _ _ hx2 HFa.out.2))
  have HJ := Lib.hid (And.intro (Rs.ext RI.ext _ _ _ _ hx2 HJ.out.1) (RRs.ext _ _ _ _ hx2 HJ.out.2))
  have HRv := Lib.hid (RRec.ext _ _ _ _ hx2 HRv.out)
  obtain ⟨Xt, hXt⟩ : ∃ X, w22.heap.size = X := ⟨_, rfl⟩
  rw [hXt] at hci hcb
  try rw [hXt]
  have HRt : Hid (RRec w23 (.agg #[.int .i64 2, .slice (some ⟨Xt, 0, none⟩) 2 2, .slice (some ⟨Xt + 1, 0, none⟩) 2 2]) ⟨2, [3, 5], [1, 1]⟩) := Lib.hid ⟨_, _, rfl, rs_lit (l := [3, 5]) hci rfl (by decide), rb_lit (l := [1, 1]) hcb (by decide)⟩
  clear hci hcb hx hx2 hXt
  go_wp2_with fail
  have hxa : Ext w23 (w23.alloc (.cells #[.int .i64 0, .slice (some ⟨Xv, 0, none⟩) 2 2, .slice (some ⟨Xv + 1, 0, none⟩) 2 2, .int .i64 2, .slice (some ⟨Xt, 0, none⟩) 2 2, .slice (some ⟨Xt + 1, 0, none⟩) 2 2] 30)) := (Ext.refl _).alloc _
  have hlit : RRs (w23.alloc (.cells #[.int .i64 0, .slice (some ⟨Xv, 0, none⟩) 2 2, .slice (some ⟨Xv + 1, 0, none⟩) 2 2, .int .i64 2, .slice (some ⟨Xt, 0, none⟩) 2 2, .slice (some ⟨Xt + 1, 0, none⟩) 2 2] 30)) (.slice (some ⟨w23.heap.size, 0, none⟩) 2 2) [⟨0, [1, 4], [1, 1]⟩, ⟨2, [3, 5], [1, 1]⟩] := rrs_lit (l := [(⟨0, [1, 4], [1, 1]⟩, .slice (some ⟨Xv, 0, none⟩) 2 2, .slice (some ⟨Xv + 1, 0, none⟩) 2 2), (⟨2, [3, 5], [1, 1]⟩, .slice (some ⟨Xt, 0, none⟩) 2 2, .slice (some ⟨Xt + 1, 0, none⟩) 2 2)]) (cells_new w23 #[.int .i64 0, .slice (some ⟨Xv, 0, none⟩) 2 2, .slice (some ⟨Xv + 1, 0, none⟩) 2 2, .int .i64 2, .slice (some ⟨Xt, 0, none⟩) 2 2, .slice (some ⟨Xt + 1, 0, none⟩) 2 2] 30) (fun y hy => by
    simp only [List.mem_cons, List.not_mem_nil, or_false] at hy
    rcases hy with rfl | rfl
    · exact rec_rows (RRec.ext _ _ _ _ hxa HRv.out)
    · exact rec_rows (RRec.ext _ _ _ _ hxa HRt.out)
    ) (by simp)
  refine (sSameAll_self [⟨0, [1, 4], [1, 1]⟩, ⟨2, [3, 5], [1, 1]⟩] _ _ _ (RRs.ext _ _ _ _ hxa HJ.out.2) hlit).mono ?_
  rintro e wb ⟨rfl, hx⟩
  have hx2 := Ext.trans hxa hx
  have HX := Lib.hid (HX.out.trans hx2)
  have HT := Lib.hid (HT.out.ext hx2)
  have HCa := Lib.hid (HCa.out.ext hx2)
  have HFa := Lib.hid (And.intro (Rs.ext RI.ext _ _ _ _ hx2 HFa.out.1) (Rs.ext RB.ext _ _ _ _ hx2 HFa.out.2))
  have HJ := Lib.hid (And.intro (Rs.ext RI.ext _ _ _ _ hx2 HJ.out.1) (RRs.ext _ _ _ _ hx2 HJ.out.2))
  have HRv := Lib.hid (RRec.ext _ _ _ _ hx2 HRv.out)
  have HRt := Lib.hid (RRec.ext _ _ _ _ hx2 HRt.out)
  clear hxa hlit hx hx2
  have q0 : wb.cell? ⟨Qa, 0, none⟩ = some (.int .i64 0) := HCa.out 0 _ rfl
  have q1 : wb.cell? ⟨Qa, 1, none⟩ = some (.slice FAa 2 fca) := HCa.out 1 _ rfl
  have q2 : wb.cell? ⟨Qa, 2, none⟩ = some (.slice CAa 2 cca) := HCa.out 2 _ rfl
  go_wp2_with fail
  refine (bCheck_any ⟨0, [1, 4], [1, 1]⟩ _ _ ⟨_, _, rfl, HFa.out.1, HFa.out.2⟩ (by decide)).mono ?_
  rintro e wc ⟨rfl, hx⟩
  rw [Rb.ex_apply.2.2.2]
  have HX := Lib.hid (HX.out.trans hx)
  clear hx q0 q1 q2
  go_wp2_with fail
  go_ret
  exact ⟨rfl, HX.out⟩
end Go.Proofs.YtdmljilcbndmfaaDoor

/- REBUILD APPLIES AS SPECIFIED: the walk. -/
namespace Go.Proofs.YtdmljilcbndmfaaDoor
open Go.RowKit Go.Shelf
noncomputable def al_all_code : Code := ((Tryd.f5.body.bind (regionOf 11)).getD .skip)
def al_all_dsts : List (Option Nat) := [some 46, some 47, some 48, some 49, some 50, some 51, some 52, some 53, some 54, some 55, some 56, some 57, some 58, some 59, some 60, some 61, some 62, some 63, some 64, some 65, some 4]
theorem al_all_apart : apartD al_all_dsts = true := by decide +kernel
set_option maxRecDepth 1000000 in
set_option maxHeartbeats 16000000 in
theorem al_all (wr : World) (BB QQ nf mf fc cc : Nat) (p E EA : Int) (z : List UInt8) (A B : Option Addr) (r : Rb.Rec) (HT : Hid (Tab wr)) (HB : Hid (Cells wr BB [.int .i64 p, .slice A nf fc, .slice B mf cc])) (HQ : Hid (Cells wr QQ [.string (sb z), .int .i64 EA])) (HR : Hid (RRec wr (.agg #[.int .i64 p, .slice A nf fc, .slice B mf cc]) r)) (HP : Hid (-9223372036854775808 ≤ r.piece ∧ r.piece ≤ 9223372036854775807)) (HE : Hid (Rb.recE r = E)) (HQE : Hid ((E == E) = true ∧ (EA == EA) = true)) (c0 c1 c3 c4 c5 c6 c10 c11 c12 c13 c14 c15 c16 c17 c18 c19 c20 c21 c22 c23 c24 c25 c26 c27 c28 c29 c30 c31 c32 c33 c34 c35 c36 c37 c38 c39 c40 c41 c42 c43 c44 c45 c46 c47 c48 c49 c50 c51 c52 c53 c54 c55 c56 c57 c58 c59 c60 c61 c62 c63 c64 c65 : Value) (df : List Deferred) (K : Act → World → Prop)
    (hK : ∀  (u46 u47 u48 u49 u50 u51 u52 u53 u54 u55 u56 u57 u58 u59 u60 u61 u62 u63 u64 u65 : Value) (wx : World), Ext wr wx → K ⟨#[c0, c1, .pointer (some ⟨BB, 0, none⟩), c3, .bool true, c5, c6, .string (sb z), .int .i64 EA, .pointer (some ⟨QQ, 0, none⟩), c10, c11, c12, c13, c14, c15, c16, c17, c18, c19, c20, c21, c22, c23, c24, c25, c26, c27, c28, c29, c30, c31, c32, c33, c34, c35, c36, c37, c38, c39, c40, c41, c42, c43, c44, c45, u46, u47, u48, u49, u50, u51, u52, u53, u54, u55, u56, u57, u58, u59, u60, u61, u62, u63, u64, u65], df⟩ wx) :
    Code.wp Tryd.prog al_all_code (AtEnd K) ⟨#[c0, c1, .pointer (some ⟨BB, 0, none⟩), c3, c4, c5, c6, .string (sb z), .int .i64 EA, .pointer (some ⟨QQ, 0, none⟩), c10, c11, c12, c13, c14, c15, c16, c17, c18, c19, c20, c21, c22, c23, c24, c25, c26, c27, c28, c29, c30, c31, c32, c33, c34, c35, c36, c37, c38, c39, c40, c41, c42, c43, c44, c45, c46, c47, c48, c49, c50, c51, c52, c53, c54, c55, c56, c57, c58, c59, c60, c61, c62, c63, c64, c65], df⟩ wr := by
  conv => arg 2; whnf
  refine region_inv (by kernel_rfl) [[], [0, 0], [1], [2, 1, 1], [1], [4, 3, 1], [3, 5, 1], [1, 6], [7, 5], [8], [8], [10, 8], [9, 11, 8], [8, 12], [13, 8], [14], [14], [16, 14], [15, 17, 14], [14, 18], [19, 14, 0, 1, 2, 3, 4, 5, 6, 7, 8, 9, 10, 11, 12, 13, 14, 15, 16, 17, 18, 19]] (by kernel_rfl) [0, 1, 2, 3, 4, 5, 6, 7, 8, 9, 10, 11, 12, 13, 14, 15, 16, 17, 18, 19, 20] (by decide +kernel) (by decide +kernel) (by decide +kernel) (fun L a wc => Inv al_all_dsts [.bool true, .bool true, .agg #[.int .i64 p, .slice A nf fc, .slice B mf cc], .int .i64 E, .agg #[.int .i64 p, .slice A nf fc, .slice B mf cc], .int .i64 E, .bool true, .bool true, .bool true, .string (sb z), .pointer (some ⟨QQ, 0, none⟩), .string (sb z), .bool true, .bool true, .bool true, .int .i64 EA, .pointer (some ⟨QQ, 1, none⟩), .int .i64 EA, .bool true, .bool true, .bool true] ⟨#[c0, c1, .pointer (some ⟨BB, 0, none⟩), c3, c4, c5, c6, .string (sb z), .int .i64 EA, .pointer (some ⟨QQ, 0, none⟩), c10, c11, c12, c13, c14, c15, c16, c17, c18, c19, c20, c21, c22, c23, c24, c25, c26, c27, c28, c29, c30, c31, c32, c33, c34, c35, c36, c37, c38, c39, c40, c41, c42, c43, c44, c45, c46, c47, c48, c49, c50, c51, c52, c53, c54, c55, c56, c57, c58, c59, c60, c61, c62, c63, c64, c65], df⟩ L a ∧ Hid (Ext wr wc)) ⟨Inv.start, Lib.hid ((Ext.refl wr).drew)⟩ ?_ ?_
  · refine ⟨?_, ?_, ?_, ?_, ?_, ?_, ?_, ?_, ?_, ?_, ?_, ?_, ?_, ?_, ?_, ?_, ?_, ?_, ?_, ?_, ?_, trivial⟩
    ·
      rintro L a wc ⟨hv, HO⟩ hL hc hd
      refine wpOp_call (R := fun v w1 => v = .bool true ∧ Ext wc w1) rfl rfl (ex_call rfl rfl (map0c ) (enters_of Tryd.func11 (by kernel_rfl) rfl _ _)) ((sanity_any wc (HT.out.ext HO.out)).mono (fun e w' h => ⟨_, h.1, rfl, h.2⟩)) ?_
      rintro v w' ⟨rfl, hx⟩
      exact ⟨hv.put al_all_apart 0 rfl (lb rfl) (lb rfl) rfl, Lib.hid (HO.out.trans hx)⟩
    ·
      rintro L a wc ⟨hv, HO⟩ hL hc hd
      exact wpOp_val rfl rfl (ex_move rfl (hv.get 0 rfl rfl (hd 0 (by decide)))) ⟨hv.put al_all_apart 1 rfl (lb rfl) (lb rfl) rfl, HO⟩
    ·
      rintro L a wc ⟨hv, HO⟩ hL hc hd
      have h0 : wc.cell? ⟨BB, 0, none⟩ = some (.int .i64 p) := HO.out.cell (HB.out 0 _ rfl)
      have h1 : wc.cell? ⟨BB, 1, none⟩ = some (.slice A nf fc) := HO.out.cell (HB.out 1 _ rfl)
      have h2 : wc.cell? ⟨BB, 2, none⟩ = some (.slice B mf cc) := HO.out.cell (HB.out 2 _ rfl)
      exact wpOp_val rfl ((wanted_at rfl rfl (hv.get 1 rfl rfl (hd 1 (by decide)))).trans rfl) (ex_load rfl ((hv.fixed 2 (by decide)).trans rfl) (by go_simp)) ⟨hv.put al_all_apart 2 rfl (lb rfl) (lb rfl) rfl, HO⟩
    ·
      rintro L a wc ⟨hv, HO⟩ hL hc hd
      refine wpOp_callw (R := fun v w1 => v = .int .i64 E ∧ Ext wc w1) rfl ((wanted_at rfl rfl (hv.get 1 rfl rfl (hd 1 (by decide)))).trans rfl) (ex_call rfl rfl (map1c (hv.get 2 rfl rfl (hd 2 (by decide)))) (enters_of Tryd.func25 (by kernel_rfl) rfl _ _)) ((bCheck_any r _ wc (RRec.ext _ _ _ _ HO.out HR.out) HP.out).mono (fun e w' h => ⟨_, h.1.trans (by rw [HE.out]), rfl, h.2⟩)) ?_
      rintro v w' ⟨rfl, hx⟩
      exact ⟨hv.put al_all_apart 3 rfl (lb rfl) (lb rfl) rfl, Lib.hid (HO.out.trans hx)⟩
    ·
      rintro L a wc ⟨hv, HO⟩ hL hc hd
      have h0 : wc.cell? ⟨BB, 0, none⟩ = some (.int .i64 p) := HO.out.cell (HB.out 0 _ rfl)
      have h1 : wc.cell? ⟨BB, 1, none⟩ = some (.slice A nf fc) := HO.out.cell (HB.out 1 _ rfl)
      have h2 : wc.cell? ⟨BB, 2, none⟩ = some (.slice B mf cc) := HO.out.cell (HB.out 2 _ rfl)
      exact wpOp_val rfl ((wanted_at rfl rfl (hv.get 1 rfl rfl (hd 1 (by decide)))).trans rfl) (ex_load rfl ((hv.fixed 2 (by decide)).trans rfl) (by go_simp)) ⟨hv.put al_all_apart 4 rfl (lb rfl) (lb rfl) rfl, HO⟩
    ·
      rintro L a wc ⟨hv, HO⟩ hL hc hd
      refine wpOp_callw (R := fun v w1 => v = .int .i64 E ∧ Ext wc w1) rfl ((wanted_at rfl rfl (hv.get 1 rfl rfl (hd 1 (by decide)))).trans rfl) (ex_call rfl rfl (map1c (hv.get 4 rfl rfl (hd 4 (by decide)))) (enters_of Tryd.func26 (by kernel_rfl) rfl _ _)) ((kCheck8_any r _ wc (RRec.ext _ _ _ _ HO.out HR.out) HP.out).mono (fun e w' h => ⟨_, h.1.trans (by rw [HE.out]), rfl, h.2⟩)) ?_
      rintro v w' ⟨rfl, hx⟩
      exact ⟨hv.put al_all_apart 5 rfl (lb rfl) (lb rfl) rfl, Lib.hid (HO.out.trans hx)⟩
    ·
      rintro L a wc ⟨hv, HO⟩ hL hc hd
      have u := HQE.out.1
      exact wpOp_val rfl ((wanted_at rfl rfl (hv.get 1 rfl rfl (hd 1 (by decide)))).trans rfl) (ex_bin rfl (hv.get 3 rfl rfl (hd 3 (by decide))) (hv.get 5 rfl rfl (hd 5 (by decide))) (by go_simp)) ⟨hv.put al_all_apart 6 rfl (lb rfl) (lb rfl) rfl, HO⟩
    ·
      rintro L a wc ⟨hv, HO⟩ hL hc hd
      exact wpOp_val rfl rfl (ex_pick rfl (hv.get 1 rfl rfl (hd 1 (by decide))) (hv.get 6 rfl rfl (hd 6 (by decide)))) ⟨hv.put al_all_apart 7 rfl (lb rfl) (lb rfl) rfl, HO⟩
    ·
      rintro L a wc ⟨hv, HO⟩ hL hc hd
      exact wpOp_val rfl rfl (ex_move rfl (hv.get 7 rfl rfl (hd 7 (by decide)))) ⟨hv.put al_all_apart 8 rfl (lb rfl) (lb rfl) rfl, HO⟩
    ·
      rintro L a wc ⟨hv, HO⟩ hL hc hd
      exact wpOp_val rfl ((wanted_at rfl rfl (hv.get 8 rfl rfl (hd 8 (by decide)))).trans rfl) (ex_move rfl ((hv.fixed 7 (by decide)).trans rfl)) ⟨hv.put al_all_apart 9 rfl (lb rfl) (lb rfl) rfl, HO⟩
    ·
      rintro L a wc ⟨hv, HO⟩ hL hc hd
      exact wpOp_val rfl ((wanted_at rfl rfl (hv.get 8 rfl rfl (hd 8 (by decide)))).trans rfl) (ex_field rfl ((hv.fixed 9 (by decide)).trans rfl) (by go_simp)) ⟨hv.put al_all_apart 10 rfl (lb rfl) (lb rfl) rfl, HO⟩
    ·
      rintro L a wc ⟨hv, HO⟩ hL hc hd
      have h0 : wc.cell? ⟨QQ, 0, none⟩ = some (.string (sb z)) := HO.out.cell (HQ.out 0 _ rfl)
      exact wpOp_val rfl ((wanted_at rfl rfl (hv.get 8 rfl rfl (hd 8 (by decide)))).trans rfl) (ex_load rfl (hv.get 10 rfl rfl (hd 10 (by decide))) (by go_simp)) ⟨hv.put al_all_apart 11 rfl (lb rfl) (lb rfl) rfl, HO⟩
    ·
      rintro L a wc ⟨hv, HO⟩ hL hc hd
      exact wpOp_val rfl ((wanted_at rfl rfl (hv.get 8 rfl rfl (hd 8 (by decide)))).trans rfl) (ex_bin rfl (hv.get 9 rfl rfl (hd 9 (by decide))) (hv.get 11 rfl rfl (hd 11 (by decide))) (by go_simp)) ⟨hv.put al_all_apart 12 rfl (lb rfl) (lb rfl) rfl, HO⟩
    ·
      rintro L a wc ⟨hv, HO⟩ hL hc hd
      exact wpOp_val rfl rfl (ex_pick rfl (hv.get 8 rfl rfl (hd 8 (by decide))) (hv.get 12 rfl rfl (hd 12 (by decide)))) ⟨hv.put al_all_apart 13 rfl (lb rfl) (lb rfl) rfl, HO⟩
    ·
      rintro L a wc ⟨hv, HO⟩ hL hc hd
      exact wpOp_val rfl rfl (ex_move rfl (hv.get 13 rfl rfl (hd 13 (by decide)))) ⟨hv.put al_all_apart 14 rfl (lb rfl) (lb rfl) rfl, HO⟩
    ·
      rintro L a wc ⟨hv, HO⟩ hL hc hd
      exact wpOp_val rfl ((wanted_at rfl rfl (hv.get 14 rfl rfl (hd 14 (by decide)))).trans rfl) (ex_move rfl ((hv.fixed 8 (by decide)).trans rfl)) ⟨hv.put al_all_apart 15 rfl (lb rfl) (lb rfl) rfl, HO⟩
    ·
      rintro L a wc ⟨hv, HO⟩ hL hc hd
      exact wpOp_val rfl ((wanted_at rfl rfl (hv.get 14 rfl rfl (hd 14 (by decide)))).trans rfl) (ex_field rfl ((hv.fixed 9 (by decide)).trans rfl) (by go_simp)) ⟨hv.put al_all_apart 16 rfl (lb rfl) (lb rfl) rfl, HO⟩
    ·
      rintro L a wc ⟨hv, HO⟩ hL hc hd
      have h0 : wc.cell? ⟨QQ, 1, none⟩ = some (.int .i64 EA) := HO.out.cell (HQ.out 1 _ rfl)
      exact wpOp_val rfl ((wanted_at rfl rfl (hv.get 14 rfl rfl (hd 14 (by decide)))).trans rfl) (ex_load rfl (hv.get 16 rfl rfl (hd 16 (by decide))) (by go_simp)) ⟨hv.put al_all_apart 17 rfl (lb rfl) (lb rfl) rfl, HO⟩
    ·
      rintro L a wc ⟨hv, HO⟩ hL hc hd
      have u := HQE.out.2
      exact wpOp_val rfl ((wanted_at rfl rfl (hv.get 14 rfl rfl (hd 14 (by decide)))).trans rfl) (ex_bin rfl (hv.get 15 rfl rfl (hd 15 (by decide))) (hv.get 17 rfl rfl (hd 17 (by decide))) (by go_simp)) ⟨hv.put al_all_apart 18 rfl (lb rfl) (lb rfl) rfl, HO⟩
    ·
      rintro L a wc ⟨hv, HO⟩ hL hc hd
      exact wpOp_val rfl rfl (ex_pick rfl (hv.get 14 rfl rfl (hd 14 (by decide))) (hv.get 18 rfl rfl (hd 18 (by decide)))) ⟨hv.put al_all_apart 19 rfl (lb rfl) (lb rfl) rfl, HO⟩
    ·
      rintro L a wc ⟨hv, HO⟩ hL hc hd
      exact wpOp_val rfl rfl (ex_assign rfl (hv.get 19 rfl rfl (hd 19 (by decide)))) ⟨hv.put al_all_apart 20 rfl (lb rfl) (lb rfl) rfl, HO⟩
  · rintro L a wc ⟨hv, HO⟩ hall
    show K a wc
    have ha := act_lit a
    rw [hv.size, hv.defers] at ha
    have hl : ∀ f : Nat → Value, ((List.range (⟨#[c0, c1, .pointer (some ⟨BB, 0, none⟩), c3, c4, c5, c6, .string (sb z), .int .i64 EA, .pointer (some ⟨QQ, 0, none⟩), c10, c11, c12, c13, c14, c15, c16, c17, c18, c19, c20, c21, c22, c23, c24, c25, c26, c27, c28, c29, c30, c31, c32, c33, c34, c35, c36, c37, c38, c39, c40, c41, c42, c43, c44, c45, c46, c47, c48, c49, c50, c51, c52, c53, c54, c55, c56, c57, c58, c59, c60, c61, c62, c63, c64, c65], df⟩ : Act).tmps.size).map f).toArray = #[f 0, f 1, f 2, f 3, f 4, f 5, f 6, f 7, f 8, f 9, f 10, f 11, f 12, f 13, f 14, f 15, f 16, f 17, f 18, f 19, f 20, f 21, f 22, f 23, f 24, f 25, f 26, f 27, f 28, f 29, f 30, f 31, f 32, f 33, f 34, f 35, f 36, f 37, f 38, f 39, f 40, f 41, f 42, f 43, f 44, f 45, f 46, f 47, f 48, f 49, f 50, f 51, f 52, f 53, f 54, f 55, f 56, f 57, f 58, f 59, f 60, f 61, f 62, f 63, f 64, f 65] := fun _ => rfl
    rw [hl] at ha
    simp only [hv.fixed 0 (by decide), hv.fixed 1 (by decide), hv.fixed 2 (by decide), hv.fixed 3 (by decide), hv.fixed 5 (by decide), hv.fixed 6 (by decide), hv.fixed 7 (by decide), hv.fixed 8 (by decide), hv.fixed 9 (by decide), hv.fixed 10 (by decide), hv.fixed 11 (by decide), hv.fixed 12 (by decide), hv.fixed 13 (by decide), hv.fixed 14 (by decide), hv.fixed 15 (by decide), hv.fixed 16 (by decide), hv.fixed 17 (by decide), hv.fixed 18 (by decide), hv.fixed 19 (by decide), hv.fixed 20 (by decide), hv.fixed 21 (by decide), hv.fixed 22 (by decide), hv.fixed 23 (by decide), hv.fixed 24 (by decide), hv.fixed 25 (by decide), hv.fixed 26 (by decide), hv.fixed 27 (by decide), hv.fixed 28 (by decide), hv.fixed 29 (by decide), hv.fixed 30 (by decide), hv.fixed 31 (by decide), hv.fixed 32 (by decide), hv.fixed 33 (by decide), hv.fixed 34 (by decide), hv.fixed 35 (by decide), hv.fixed 36 (by decide), hv.fixed 37 (by decide), hv.fixed 38 (by decide), hv.fixed 39 (by decide), hv.fixed 40 (by decide), hv.fixed 41 (by decide), hv.fixed 42 (by decide), hv.fixed 43 (by decide), hv.fixed 44 (by decide), hv.fixed 45 (by decide), hv.get 20 (d := 4) rfl rfl (hall 20 (by decide))] at ha
    rw [ha]
    exact hK _ _ _ _ _ _ _ _ _ _ _ _ _ _ _ _ _ _ _ _ wc HO.out
set_option maxHeartbeats 8000000 in
set_option maxRecDepth 100000 in
theorem law_applies (r : Rb.Rec) (parts : List (List UInt8)) (v u : Value) (w : World) (hT : Tab w) (hv : RRec w v r) (hu : Rs RS w u parts) (hp : -9223372036854775808 ≤ r.piece ∧ r.piece ≤ 9223372036854775807) :
    Calls Tryd.prog 5 #[v, u] w fun e w' => e = .returned (.bool true) ∧ Ext w w' := by
  obtain ⟨FF, CC, rfl, hF, hC⟩ := hv
  obtain ⟨A, fc, rfl, hl1⟩ := hF.form
  obtain ⟨B, cc, rfl, hl2⟩ := hC.form
  obtain ⟨PA, pc, rfl, hl3⟩ := hu.form
  obtain ⟨p, hpp⟩ : ∃ p, r.piece = p := ⟨_, rfl⟩
  obtain ⟨nf, hnf⟩ : ∃ n, r.src.length = n := ⟨_, rfl⟩
  obtain ⟨mf, hmf⟩ : ∃ n, r.coef.length = n := ⟨_, rfl⟩
  obtain ⟨np, hnp⟩ : ∃ n, parts.length = n := ⟨_, rfl⟩
  have HPB := Lib.hid hp
  rw [hnf] at hF hl1
  rw [hmf] at hC hl2
  rw [hnp] at hu hl3
  have hx0 := (Ext.refl w).alloc (.cells #[.int .i64 p, .slice A nf fc, .slice B mf cc] 30)
  have HX := Lib.hid hx0
  have HT := Lib.hid (hT.ext hx0)
  have HB := Lib.hid (cells_new w #[.int .i64 p, .slice A nf fc, .slice B mf cc] 30)
  have HR : Hid (RRec (w.alloc (.cells #[.int .i64 p, .slice A nf fc, .slice B mf cc] 30)) (.agg #[.int .i64 p, .slice A nf fc, .slice B mf cc]) r) := Lib.hid ⟨_, _, by rw [hpp], Rs.ext RI.ext _ _ _ _ hx0 hF, Rs.ext RB.ext _ _ _ _ hx0 hC⟩
  have HU := Lib.hid (Rs.ext RS.ext _ _ _ _ hx0 hu)
  have HN := Lib.hid (And.intro hnf (And.intro hmf hnp))
  rw [hpp, hnf, hmf, hnp]
  clear hF hC hu hx0 hpp hnf hmf hnp hp hT
  go_enter Tryd.func5, Tryd.ntmps5
  by_cases q0 : 30 < nf
  case pos =>
    go_wp2_with fail
    refine (sanity_any _ HT.out).mono ?_
    rintro e w2 ⟨rfl, hx2⟩
    have HX2 := Lib.hid (HX.out.trans hx2)
    clear hx2
    go_wp2_with fail
    go_ret
    exact ⟨rfl, HX2.out⟩
  case neg =>
  by_cases q1 : 30 < mf
  case pos =>
    go_wp2_with fail
    refine (sanity_any _ HT.out).mono ?_
    rintro e w2 ⟨rfl, hx2⟩
    have HX2 := Lib.hid (HX.out.trans hx2)
    clear hx2
    go_wp2_with fail
    go_ret
    exact ⟨rfl, HX2.out⟩
  case neg =>
  by_cases q2 : 30 < np
  case pos =>
    go_wp2_with fail
    refine (sanity_any _ HT.out).mono ?_
    rintro e w2 ⟨rfl, hx2⟩
    have HX2 := Lib.hid (HX.out.trans hx2)
    clear hx2
    go_wp2_with fail
    go_ret
    exact ⟨rfl, HX2.out⟩
  case neg =>
  go_wp2_with fail
  obtain ⟨BB, hBB⟩ : ∃ x, w.heap.size = x := ⟨_, rfl⟩
  rw [hBB] at HB ⊢
  obtain ⟨w1, hw⟩ : ∃ x, w.alloc (.cells #[.int .i64 p, .slice A nf fc, .slice B mf cc] 30) = x := ⟨_, rfl⟩
  rw [hw] at HX HT HB HR HU ⊢
  clear hw
  clear hBB
  go_loopw [28] (fun vk wr => ∃ k : Nat, k ≤ np ∧ vk = .int .i64 (k : Nat) ∧ w1 = wr ∧ Hid (∀ j, j < k → (parts.getD j []).length ≤ 400)) (fun vk _ => np - (intOf vk).toNat)
  case atStart => exact ⟨0, Nat.zero_le _, rfl, rfl, Lib.hid fun j hj => absurd hj (by omega)⟩
  case round =>
    obtain ⟨k, hk, rfl, hw, HI⟩ := hrel
    subst hw
    by_cases hlt : k < np
    case pos =>
      have hkp : k < parts.length := by have := HN.out.2.2; omega
      obtain ⟨ad, x, rfl, hcx, hxx⟩ := HU.out.at hkp
      have hxx' : x = .string (sb parts[k]) := hxx
      subst hxx'
      have gp : parts.getD k [] = parts[k] := by rw [List.getD_eq_getElem?_getD, List.getElem?_eq_getElem hkp]; rfl
      obtain ⟨sk, hse⟩ : ∃ s, parts[k] = s := ⟨_, rfl⟩
      rw [hse] at hcx gp
      have HG := Lib.hid gp
      have hki : (k : Int) < (np : Int) := by omega
      clear hse hxx gp
      by_cases h4 : 400 < sk.length
      case pos =>
        have h4i : (400 : Int) < (sk.length : Int) := by omega
        go_wp2_with fail
        refine (sanity_any _ HT.out).mono ?_
        rintro e w2 ⟨rfl, hx2⟩
        have HX2 := Lib.hid (HX.out.trans hx2)
        clear hx2
        go_wp2_with fail
        go_ret
        exact ⟨rfl, HX2.out⟩
      case neg =>
        have h4i : ¬ (400 : Int) < (sk.length : Int) := by omega
        have H4 := Lib.hid h4
        clear h4
        go_wp2_with fail
        go_roundw
        case rel => exact ⟨k + 1, by omega, by go_num, (by first | trivial | rfl), Lib.hid fun j hj => if hjk : j = k then (by rw [hjk, HG.out]; have := H4.out; omega) else HI.out j (by omega)⟩
        case measure => simp [intOf]; omega
    case neg =>
      obtain rfl : np = k := by omega
      have hsm : ∀ q ∈ parts, q.length ≤ 400 := fun q hq => by
        obtain ⟨j, hj, rfl⟩ := List.getElem_of_mem hq
        have h1 := HI.out j (by have := HN.out.2.2; omega)
        rw [List.getD_eq_getElem?_getD, List.getElem?_eq_getElem hj] at h1
        exact h1
      have HSM := Lib.hid hsm
      clear hsm
      have b0 : w1.cell? ⟨BB, 0, none⟩ = some (.int .i64 p) := HB.out 0 _ rfl
      have b1 : w1.cell? ⟨BB, 1, none⟩ = some (.slice A nf fc) := HB.out 1 _ rfl
      have b2 : w1.cell? ⟨BB, 2, none⟩ = some (.slice B mf cc) := HB.out 2 _ rfl
      go_wp2_with fail
      clear b0 b1 b2
      refine (bApply_any r parts _ _ w1 HT.out HR.out HU.out HPB.out (by have := HN.out.2.1; omega) (fun q hq => by have := HSM.out q hq; omega)).mono ?_
      rintro e w2 ⟨rfl, hx2⟩
      replace HX := Lib.hid ((HX.out).trans hx2)
      replace HT := Lib.hid ((HT.out).ext hx2)
      replace HB := Lib.hid ((HB.out).ext hx2)
      replace HR := Lib.hid (RRec.ext _ _ _ _ hx2 (HR.out))
      replace HU := Lib.hid (Rs.ext RS.ext _ _ _ _ hx2 (HU.out))
      clear hx2
      have b0 : w2.cell? ⟨BB, 0, none⟩ = some (.int .i64 p) := HB.out 0 _ rfl
      have b1 : w2.cell? ⟨BB, 1, none⟩ = some (.slice A nf fc) := HB.out 1 _ rfl
      have b2 : w2.cell? ⟨BB, 2, none⟩ = some (.slice B mf cc) := HB.out 2 _ rfl
      go_wp2_with fail
      clear b0 b1 b2
      refine (kApply8_any r parts _ _ w2 HR.out HU.out HPB.out (fun q hq => by have := HSM.out q hq; omega) (by have := HN.out.2.2; omega)).mono ?_
      rintro e w3 ⟨rfl, hx3⟩
      obtain ⟨z, hz⟩ : ∃ z, Rb.apply r parts = z := ⟨_, rfl⟩
      obtain ⟨EA, hEA⟩ : ∃ z, Rb.applyE r parts = z := ⟨_, rfl⟩
      rw [hz, hEA]
      clear hz hEA
      have hxa : Ext w3 (w3.alloc (.cells #[.string (sb z), .int .i64 EA] 58)) := (Ext.refl w3).alloc _
      have hx4 := hx3.trans hxa
      clear hx3 hxa
      replace HX := Lib.hid ((HX.out).trans hx4)
      replace HT := Lib.hid ((HT.out).ext hx4)
      replace HB := Lib.hid ((HB.out).ext hx4)
      replace HR := Lib.hid (RRec.ext _ _ _ _ hx4 (HR.out))
      replace HU := Lib.hid (Rs.ext RS.ext _ _ _ _ hx4 (HU.out))
      clear hx4
      have HQ := Lib.hid (cells_new w3 #[.string (sb z), .int .i64 EA] 58)
      go_upto_region 11 with fail
      obtain ⟨QQ, hQ⟩ : ∃ x, w3.heap.size = x := ⟨_, rfl⟩
      rw [hQ] at HQ
      try rw [hQ]
      obtain ⟨w4, hw⟩ : ∃ x, w3.alloc (.cells #[.string (sb z), .int .i64 EA] 58) = x := ⟨_, rfl⟩
      rw [hw] at HX HT HB HR HU HQ ⊢
      clear hw
      clear hQ
      obtain ⟨E, hE⟩ : ∃ z, Rb.recE r = z := ⟨_, rfl⟩
      refine wp_atEnd' (al_all w4 BB QQ nf mf fc cc p E EA z A B r HT HB HQ HR HPB (Lib.hid hE) (Lib.hid ⟨by simp, by simp⟩) _ _ _ _ _ _ _ _ _ _ _ _ _ _ _ _ _ _ _ _ _ _ _ _ _ _ _ _ _ _ _ _ _ _ _ _ _ _ _ _ _ _ _ _ _ _ _ _ _ _ _ _ _ _ _ _ _ _ _ _ _ _ _ _ ?_)
      intro u46 u47 u48 u49 u50 u51 u52 u53 u54 u55 u56 u57 u58 u59 u60 u61 u62 u63 u64 u65 w5 hx5
      have HX5 := Lib.hid (HX.out.trans hx5)
      clear hx5 hE
      go_wp2_with fail
      go_ret
      exact ⟨rfl, HX5.out⟩
end Go.Proofs.YtdmljilcbndmfaaDoor

/- ARGUMENTS that are codes read as such. -/
namespace Go.Proofs.YtdmljilcbndmfaaDoor
open Go.ChangeShapes Go.WideShapes Go.ChangeAt Go.RowKit Go.ChangeMaps Go.Deep
variable {H : Type} {enc : TypeId × Value → H} {W : World} {base : Nat}
theorem list_getD {l : List Int} {k : Nat} (h : k < l.length) : l.getD k 0 = l[k] := by rw [List.getD_eq_getElem?_getD, List.getElem?_eq_getElem h]; rfl
theorem read_ints {fuel : Nat} {v : Value} {x : DataW H × List MemPlace} (h : DataW.trod enc Tryd.prog W base (fun _ => true) true fuel 27 [v] = some x) : ∃ l, Rs RI W v l := by
  rcases open_ints Tryd.underlying27 Tryd.underlying3 (by kernel_rfl) h with ⟨hcs, _⟩ | ⟨a, len, cap, zs, hcs, _, hl, hm, hz, _, hcell, hwz⟩
  · injection hcs with hcs _
    subst hcs
    exact ⟨[], none, 0, rfl, by simp, fun i x h => by simp at h⟩
  · injection hcs with hcs _
    subst hcs
    rw [if_pos rfl] at hz
    have hll : (zs.take len).length = len := by rw [List.length_take]; omega
    refine ⟨zs.take len, some a, cap, by rw [hll], by rw [hll]; unfold maxLen at hm; omega, fun i y hi => ?_⟩
    have hi1 : i < (zs.take len).length := (List.getElem?_eq_some_iff.1 hi).1
    have hi2 : i < zs.length := by rw [List.length_take] at hi1; omega
    have h1 := hcell i (by omega)
    rw [list_getD hi2] at h1
    have e : y = zs[i] := by
      have := (List.getElem?_eq_some_iff.1 hi).2
      rw [← this, List.getElem_take]
    subst e
    have hb := bounds_i64 (hwz _ (List.getElem_mem hi2))
    exact ⟨a, _, rfl, h1, rfl, by omega, by omega⟩
theorem cellsInts : Tryd.prog.cellsOf 27 = 1 := by kernel_rfl
theorem cellsInt : Tryd.prog.cellsOf 3 = 1 := by kernel_rfl
theorem array3 {α : Type} {cs : Array α} (h : cs.size = 3) : ∃ c0 c1 c2, cs = #[c0, c1, c2] := by
  obtain ⟨l⟩ := cs
  match l, h with
  | [c0, c1, c2], _ => exact ⟨c0, c1, c2, rfl⟩
end Go.Proofs.YtdmljilcbndmfaaDoor

/- ARGUMENTS of law 08: recipes. -/
namespace Go.Proofs.YtdmljilcbndmfaaDoor
open Go.ChangeShapes Go.WideShapes Go.ChangeAt Go.RowKit Go.ChangeMaps Go.Deep
variable {H : Type} {enc : TypeId × Value → H} {W : World} {base : Nat}
theorem cellsBytes : Tryd.prog.cellsOf 28 = 1 := by kernel_rfl
theorem cellsByte : Tryd.prog.cellsOf 5 = 1 := by kernel_rfl
theorem read_bytes {fuel : Nat} {v : Value} {x : DataW H × List MemPlace} (h : DataW.trod enc Tryd.prog W base (fun _ => true) true fuel 28 [v] = some x) : ∃ l, Rs RB W v l := by
  rcases open_ints Tryd.underlying28 Tryd.underlying5 cellsByte h with ⟨hcs, _⟩ | ⟨a, len, cap, zs, hcs, _, hl, hm, hz, _, hcell, hwz⟩
  · injection hcs with hcs _
    subst hcs
    exact ⟨[], none, 0, rfl, by simp, fun i x h => by simp at h⟩
  · injection hcs with hcs _
    subst hcs
    rw [if_pos rfl] at hz
    have hll : (zs.take len).length = len := by rw [List.length_take]; omega
    refine ⟨(zs.take len).map fun z => UInt8.ofNat z.toNat, some a, cap, by rw [List.length_map, hll], by rw [List.length_map, hll]; unfold maxLen at hm; omega, fun i y hi => ?_⟩
    rw [List.getElem?_map] at hi
    cases hg : (zs.take len)[i]? with
    | none => rw [hg] at hi; cases hi
    | some z =>
      rw [hg] at hi
      have hi1 : i < (zs.take len).length := (List.getElem?_eq_some_iff.1 hg).1
      have hi2 : i < zs.length := by rw [List.length_take] at hi1; omega
      have h1 := hcell i (by omega)
      rw [list_getD hi2] at h1
      have e : z = zs[i] := by
        have := (List.getElem?_eq_some_iff.1 hg).2
        rw [← this, List.getElem_take]
      have hb := bounds_u8 (hwz _ (List.getElem_mem hi2))
      rw [← e] at h1 hb
      refine ⟨a, _, rfl, h1, ?_⟩
      injection hi with hi
      subst hi
      show Value.int .u8 z = bv (UInt8.ofNat z.toNat)
      unfold bv
      congr 1
      simp
      omega
theorem Rs.of_rdS8 {w : World} {A : Option Addr} {c : Nat} {l : List (List UInt8)} (h : Rd w A (l.map sv)) (hl : l.length ≤ 9223372036854775807) : Rs RS w (.slice A l.length c) l :=
  ⟨A, c, rfl, hl, fun i x hi => by
    obtain ⟨ad, h1, _, h3⟩ := h i (sv x) (by rw [List.getElem?_map, hi]; rfl)
    exact ⟨ad, _, h1, h3, rfl⟩⟩
set_option maxRecDepth 100000 in
theorem open_recipe {b0 : Nat} {v : Value} {d : DataW H} {ps : List MemPlace} (hval : Value.okWide Tryd.prog W .any b0 30 v) (hd : DataW.Trod enc Tryd.prog W base (fun _ => true) true 30 v d ps) :
    ∃ r : Rb.Rec, RRec W v r ∧ (-9223372036854775808 ≤ r.piece ∧ r.piece ≤ 9223372036854775807) := by
  obtain ⟨cs, rfl, hsz⟩ := okWide_struct Tryd.underlying30 hval
  obtain ⟨c0, c1, c2, rfl⟩ := array3 (hsz.trans (by kernel_rfl))
  obtain ⟨fuel, hf⟩ := hd
  obtain ⟨zs, m, _, _, _, hlen2, hz⟩ := DataW.trod_struct Tryd.underlying30 hf
  obtain ⟨z0, z1, z2, rfl⟩ : ∃ z0 z1 z2, zs = [z0, z1, z2] := by
    match zs, hlen2 with
    | [z0, z1, z2], _ => exact ⟨z0, z1, z2, rfl⟩
  have g0 : DataW.trod enc Tryd.prog W base (fun _ => true) true m 3 [c0] = some z0 := by
    have := hz 0 _ rfl
    simpa [Value.cells, cellsInt] using this
  have g1 : DataW.trod enc Tryd.prog W base (fun _ => true) true m 27 [c1] = some z1 := by
    have := hz 1 _ rfl
    simpa [Value.cells, cellsInts] using this
  have g2 : DataW.trod enc Tryd.prog W base (fun _ => true) true m 28 [c2] = some z2 := by
    have := hz 2 _ rfl
    simpa [Value.cells, cellsBytes] using this
  obtain ⟨a0, ha0, _, w0⟩ := DataW.trod_int Tryd.underlying3 g0
  injection ha0 with ha0 _
  subst ha0
  obtain ⟨src, h1⟩ := read_ints g1
  obtain ⟨coef, h2⟩ := read_bytes g2
  have b0 := bounds_i64 w0
  exact ⟨⟨a0, src, coef⟩, ⟨c1, c2, rfl, h1, h2⟩, by dsimp only; omega⟩
end Go.Proofs.YtdmljilcbndmfaaDoor
