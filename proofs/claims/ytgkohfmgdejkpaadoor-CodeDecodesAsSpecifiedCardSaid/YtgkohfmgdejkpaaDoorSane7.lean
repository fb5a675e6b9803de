/- THE EXAMPLE of the documentation of codes, worked out; the walk over example. -/
import Derived.Test.YtgkohfmgdejkpaaDoorDist
import Derived.Test.YtgkohfmgdejkpaaDoorDecY
namespace Cd
def exG : List (List Int) := [[0, 1], [2, 3]]
def exD : List UInt8 := [1, 2, 3, 4, 5, 6, 7]
def exL : List (List UInt8) := [[1, 2], [3, 4], [5, 6], [7, 0], [2, 6], [2, 6], [43, 18]]
def exL2 : List (List UInt8) := [[1, 2], [3, 4], [5, 6], [7, 0], [2, 6], [2, 7], [43, 18]]
theorem ex_check : check 4 exG 1 = 0 := by kernel_rfl
theorem ex_rows : rowsOf 4 exG 1 = [[1, 0, 0, 0], [0, 1, 0, 0], [0, 0, 1, 0], [0, 0, 0, 1], [1, 1, 0, 0], [0, 0, 1, 1], [1, 2, 4, 8]] := by kernel_rfl
theorem ex_enc : encL 4 1 exG exD = exL := by kernel_rfl
theorem ex_encE : encE 4 1 exG exD = 0 := by kernel_rfl
theorem ex_pieces : pieces 4 exG 1 = 7 := by kernel_rfl
theorem ex_size : sizeOf 4 1 exG 7 = 2 := by kernel_rfl
theorem ex_can1 : can 4 1 exG 124 = true := by kernel_rfl
theorem ex_can2 : can 4 1 exG 120 = true := by kernel_rfl
theorem ex_can3 : can 4 1 exG 60 = false := by kernel_rfl
theorem ex_dist : distI 4 1 exG = 3 := by kernel_rfl
theorem ex_decE : decE 4 1 exG 7 30 exL = 0 := by kernel_rfl
theorem ex_decS : decS 4 1 exG 7 30 exL = exD := by kernel_rfl
theorem ex_decE2 : decE 4 1 exG 7 60 exL = 17 := by kernel_rfl
theorem ex_decE3 : decE 4 1 exG 7 127 exL2 = 14 := by kernel_rfl
end Cd
namespace Go.Proofs.YtgkohfmgdejkpaaDoor
open Go.RowKit
theorem results_cell1 {P : Program} {fn : Func} {a : Tmp} {t : TypeId} (h : fn.results = #[.cell a t]) {tmps : Array Value} {ad : Addr} {v : Value} {w : World} (ha : tmps.getD a undef = .pointer (some ad)) (hl : (loadVar t ad).run P w = .ok v w) :
    (results fn tmps).run P w = .ok v w := by
  rw [Array.getD_eq_getD_getElem?] at ha
  simp [results, h, asAddr, ha, hl]
theorem cell_off {w : World} {ad : Addr} {k : Nat} {v : Value} (h : w.cell? (ad.add k) = some v) (hk : k ≠ 0 := by decide) : w.cell? ⟨ad.block, ad.off + k, none⟩ = some v := by
  rw [Addr.add, if_neg hk] at h
  exact h
/-- The cells of a block. -/
def Cells (w : World) (B : Nat) (cs : List Value) : Prop := ∀ (i : Nat) v, cs[i]? = some v → w.cell? ⟨B, i, none⟩ = some v
theorem Cells.ext {w w' : World} {B : Nat} {cs : List Value} (h : Cells w B cs) (hx : Ext w w') : Cells w' B cs := fun i v hi => hx.cell (h i v hi)
theorem cells_new (w : World) (cs : Array Value) (t : TypeId) : Cells (w.alloc (.cells cs t)) w.heap.size cs.toList := fun i v hi => cell_of_row _ _ i cs t (0, 0) (heap_new _ _) |>.trans (by simpa using hi)
theorem Owns.cells {w0 w : World} {L : List LRow} (h : Owns w0 w L) (i : Nat) {g n c e s : Nat} {xs : List Value} (hi : L[i]? = some ⟨.slice (some ⟨g, 0, none⟩) n c, e, s, n, xs⟩) : Cells w g xs := fun k _ hu => h.cell i hi k hu
theorem Rs.two {α : Type} {R : World → Value → α → Prop} {w : World} {g c : Nat} {u0 u1 : Value} {x0 x1 : α} (h0 : w.cell? ⟨g, 0, none⟩ = some u0) (r0 : R w u0 x0) (h1 : w.cell? ⟨g, 1, none⟩ = some u1) (r1 : R w u1 x1) : Rs R w (.slice (some ⟨g, 0, none⟩) 2 c) [x0, x1] :=
  ⟨some ⟨g, 0, none⟩, c, rfl, by simp, fun i x hi => by
    match i, hi with
    | 0, hi => simp at hi; subst hi; exact ⟨_, u0, rfl, h0, r0⟩
    | 1, hi => simp at hi; subst hi; exact ⟨_, u1, rfl, h1, r1⟩
    | i + 2, hi => simp at hi⟩
theorem example_any (w : World) :
    Calls Tryd.prog 28 #[] w fun e w' => ∃ g, e = .returned (.agg #[.int .i64 4, .slice (some ⟨g, 0, none⟩) 2 2, .int .i64 1]) ∧ Rs (Rs RI) w' (.slice (some ⟨g, 0, none⟩) 2 2) Cd.exG ∧ Ext w w' := by
  go_enter Tryd.func28, Tryd.ntmps28
  go_wp2_with fail
  refine bodyPost_ret (results_cell1 (v := .agg #[.int .i64 4, .slice (some ⟨w.heap.size + 1 + 1 + 1, 0, none⟩) 2 2, .int .i64 1]) rfl rfl ?_) rfl ?_
  · go_simp
  refine ⟨w.heap.size + 1 + 1 + 1, rfl, ?_, ((((Ext.refl w).alloc _).alloc _).alloc _).alloc _⟩
  refine Rs.two (u0 := .slice (some ⟨w.heap.size + 1, 0, none⟩) 2 2) (u1 := .slice (some ⟨w.heap.size + 1 + 1, 0, none⟩) 2 2) (by go_simp) ?_ (by go_simp) ?_
  · exact Rs.two (u0 := .int .i64 0) (u1 := .int .i64 1) (by go_simp) ⟨rfl, by decide, by decide⟩ (by go_simp) ⟨rfl, by decide, by decide⟩
  · exact Rs.two (u0 := .int .i64 2) (u1 := .int .i64 3) (by go_simp) ⟨rfl, by decide, by decide⟩ (by go_simp) ⟨rfl, by decide, by decide⟩
set_option maxRecDepth 100000 in
set_option maxHeartbeats 8000000 in
theorem sanity_any (w : World) (hT : Tab w) :
    Calls Tryd.prog 7 #[] w fun e w' => e = .returned (.bool true) ∧ Ext w w' := by
  have HT := Lib.hid hT
  clear hT
  go_enter Tryd.func7, Tryd.ntmps7
  go_wp2_with fail
  refine (example_any _).mono ?_
  rintro e w1 ⟨gG, rfl, hG, hx1⟩
  have hx := (Ext.refl w1).alloc (.cells #[.int .i64 4, .slice (some ⟨gG, 0, none⟩) 2 2, .int .i64 1] 24)
  have hB := cells_new w1 #[.int .i64 4, .slice (some ⟨gG, 0, none⟩) 2 2, .int .i64 1] 24
  have HB := Lib.hid hB
  have HX := Lib.hid (hx1.trans hx)
  have HG := Lib.hid (Rs.ext (Rs.ext RI.ext) _ _ _ _ hx hG)
  clear hG hx1 hx hB
  go_wp2_with fail
  refine (cRows_any 4 1 Cd.exG _ _ (HT.out.ext HX.out) HG.out).mono ?_
  rintro e w2 ⟨v, rfl, hv, hx2⟩
  rw [Cd.ex_rows] at hv
  rw [Cd.ex_check]
  obtain ⟨RA, cR, rfl, _⟩ := hv.form
  have HB2 := Lib.hid (HB.out.ext hx2)
  have HX2 := Lib.hid (HX.out.trans hx2)
  have HG2 := Lib.hid (Rs.ext (Rs.ext RI.ext) _ _ _ _ hx2 HG.out)
  have HV2 := Lib.hid hv
  have b0 : w2.cell? ⟨w1.heap.size, 0, none⟩ = some (.int .i64 4) := HB2.out 0 _ rfl
  have b1 : w2.cell? ⟨w1.heap.size, 1, none⟩ = some (.slice (some ⟨gG, 0, none⟩) 2 2) := HB2.out 1 _ rfl
  have b2 : w2.cell? ⟨w1.heap.size, 2, none⟩ = some (.int .i64 1) := HB2.out 2 _ rfl
  clear hx2 hv
  dsimp only [List.length_cons, List.length_nil, Nat.reduceAdd, Nat.zero_add]
  go_wp2_with fail
  clear b0 b1 b2
  refine (cEncode_own 4 1 Cd.exG Cd.exD _ _ (HT.out.ext HX2.out) HG2.out (by decide)).mono ?_
  rintro e w3 ⟨v, rfl, hv, hO⟩
  rw [Cd.ex_encE]
  rw [Cd.ex_enc] at hv hO
  obtain ⟨gL, cL, rfl⟩ := ownsRow_succ (k := 6) (hO.row 0 rfl)
  have HB3 := Lib.hid (HB2.out.ext hO.ext)
  have HX3 := Lib.hid (HX2.out.trans hO.ext)
  have HG3 := Lib.hid (Rs.ext (Rs.ext RI.ext) _ _ _ _ hO.ext HG2.out)
  have HV3 := Lib.hid (Rs.ext (Rs.ext RB.ext) _ _ _ _ hO.ext HV2.out)
  have HO3 := Lib.hid hO
  have b0 : w3.cell? ⟨w1.heap.size, 0, none⟩ = some (.int .i64 4) := HB3.out 0 _ rfl
  have b1 : w3.cell? ⟨w1.heap.size, 1, none⟩ = some (.slice (some ⟨gG, 0, none⟩) 2 2) := HB3.out 1 _ rfl
  have b2 : w3.cell? ⟨w1.heap.size, 2, none⟩ = some (.int .i64 1) := HB3.out 2 _ rfl
  clear hO hv
  go_wp2_with fail
  clear b0 b1 b2
  refine (cCheck_any 4 1 Cd.exG _ _ HG3.out).mono ?_
  rintro e w4 ⟨rfl, hx⟩
  rw [Cd.ex_check]
  have HB4 := Lib.hid (HB3.out.ext hx)
  have HX4 := Lib.hid (HX3.out.trans hx)
  have HG4 := Lib.hid (Rs.ext (Rs.ext RI.ext) _ _ _ _ hx HG3.out)
  have HV4 := Lib.hid (Rs.ext (Rs.ext RB.ext) _ _ _ _ hx HV3.out)
  have HO4 := Lib.hid (HO3.out.next hx)
  have b0 : w4.cell? ⟨w1.heap.size, 0, none⟩ = some (.int .i64 4) := HB4.out 0 _ rfl
  have b1 : w4.cell? ⟨w1.heap.size, 1, none⟩ = some (.slice (some ⟨gG, 0, none⟩) 2 2) := HB4.out 1 _ rfl
  have b2 : w4.cell? ⟨w1.heap.size, 2, none⟩ = some (.int .i64 1) := HB4.out 2 _ rfl
  clear hx
  go_wp2_with fail
  clear b0 b1 b2
  refine (cPieces_any 4 1 Cd.exG _ _ HG4.out).mono ?_
  rintro e w5 ⟨rfl, hx⟩
  rw [Cd.ex_pieces]
  have HB5 := Lib.hid (HB4.out.ext hx)
  have HX5 := Lib.hid (HX4.out.trans hx)
  have HG5 := Lib.hid (Rs.ext (Rs.ext RI.ext) _ _ _ _ hx HG4.out)
  have HV5 := Lib.hid (Rs.ext (Rs.ext RB.ext) _ _ _ _ hx HV4.out)
  have HO5 := Lib.hid (HO4.out.next hx)
  have b0 : w5.cell? ⟨w1.heap.size, 0, none⟩ = some (.int .i64 4) := HB5.out 0 _ rfl
  have b1 : w5.cell? ⟨w1.heap.size, 1, none⟩ = some (.slice (some ⟨gG, 0, none⟩) 2 2) := HB5.out 1 _ rfl
  have b2 : w5.cell? ⟨w1.heap.size, 2, none⟩ = some (.int .i64 1) := HB5.out 2 _ rfl
  clear hx
  go_wp2_with fail
  clear b0 b1 b2
  refine (cSize_any 4 1 7 Cd.exG _ _ HG5.out).mono ?_
  rintro e w6 ⟨rfl, hx⟩
  rw [Cd.ex_size]
  have HB6 := Lib.hid (HB5.out.ext hx)
  have HX6 := Lib.hid (HX5.out.trans hx)
  have HG6 := Lib.hid (Rs.ext (Rs.ext RI.ext) _ _ _ _ hx HG5.out)
  have HV6 := Lib.hid (Rs.ext (Rs.ext RB.ext) _ _ _ _ hx HV5.out)
  have HO6 := Lib.hid (HO5.out.next hx)
  have b0 : w6.cell? ⟨w1.heap.size, 0, none⟩ = some (.int .i64 4) := HB6.out 0 _ rfl
  have b1 : w6.cell? ⟨w1.heap.size, 1, none⟩ = some (.slice (some ⟨gG, 0, none⟩) 2 2) := HB6.out 1 _ rfl
  have b2 : w6.cell? ⟨w1.heap.size, 2, none⟩ = some (.int .i64 1) := HB6.out 2 _ rfl
  clear hx
  obtain ⟨a4, u4, ha4, r4, hu4⟩ := HV6.out.at (i := 4) (by decide)
  obtain ⟨D4, d4, rfl, _⟩ := hu4.form
  have hcv4 : (convert 57 9 (.slice D4 4 d4)).run Tryd.prog w6 = .ok (.string { data := #[1, 1, 0, 0] }) w6 := str_u8 (c := d4) (n := 4) (l := [1, 1, 0, 0]) rfl hu4.rd
  subst ha4
  dsimp only [List.getElem_cons_succ, List.getElem_cons_zero, List.length_cons, List.length_nil, Nat.reduceAdd] at r4
  have q4 := cell_off r4
  clear hu4 r4
  obtain ⟨a5, u5, ha5, r5, hu5⟩ := HV6.out.at (i := 5) (by decide)
  obtain ⟨D5, d5, rfl, _⟩ := hu5.form
  have hcv5 : (convert 57 9 (.slice D5 4 d5)).run Tryd.prog w6 = .ok (.string { data := #[0, 0, 1, 1] }) w6 := str_u8 (c := d5) (n := 4) (l := [0, 0, 1, 1]) rfl hu5.rd
  injection ha5 with ha5; subst ha5
  dsimp only [List.getElem_cons_succ, List.getElem_cons_zero, List.length_cons, List.length_nil, Nat.reduceAdd] at r5
  have q5 := cell_off r5
  clear hu5 r5
  obtain ⟨a6, u6, ha6, r6, hu6⟩ := HV6.out.at (i := 6) (by decide)
  obtain ⟨D6, d6, rfl, _⟩ := hu6.form
  have hcv6 : (convert 57 9 (.slice D6 4 d6)).run Tryd.prog w6 = .ok (.string { data := #[1, 2, 4, 8] }) w6 := str_u8 (c := d6) (n := 4) (l := [1, 2, 4, 8]) rfl hu6.rd
  injection ha6 with ha6; subst ha6
  dsimp only [List.getElem_cons_succ, List.getElem_cons_zero, List.length_cons, List.length_nil, Nat.reduceAdd] at r6
  have q6 := cell_off r6
  clear hu6 r6
  have l3 : w6.cell? ⟨gL, 3, none⟩ = some (.string { data := #[7, 0] }) := HO6.out.cell 0 rfl 3 rfl
  have l4 : w6.cell? ⟨gL, 4, none⟩ = some (.string { data := #[2, 6] }) := HO6.out.cell 0 rfl 4 rfl
  have l5 : w6.cell? ⟨gL, 5, none⟩ = some (.string { data := #[2, 6] }) := HO6.out.cell 0 rfl 5 rfl
  have l6 : w6.cell? ⟨gL, 6, none⟩ = some (.string { data := #[43, 18] }) := HO6.out.cell 0 rfl 6 rfl
  go_wp2_with fail
  clear b0 b1 b2
  clear q4 hcv4 q5 hcv5 q6 hcv6 l3 l4 l5 l6
  refine (cRec_any 4 1 124 Cd.exG _ _ (HT.out.ext HX6.out) HG6.out).mono ?_
  rintro e w7 ⟨rfl, hx⟩
  rw [Cd.ex_can1]
  have HB7 := Lib.hid (HB6.out.ext hx)
  have HX7 := Lib.hid (HX6.out.trans hx)
  have HG7 := Lib.hid (Rs.ext (Rs.ext RI.ext) _ _ _ _ hx HG6.out)
  have HV7 := Lib.hid (Rs.ext (Rs.ext RB.ext) _ _ _ _ hx HV6.out)
  have HO7 := Lib.hid (HO6.out.next hx)
  have b0 : w7.cell? ⟨w1.heap.size, 0, none⟩ = some (.int .i64 4) := HB7.out 0 _ rfl
  have b1 : w7.cell? ⟨w1.heap.size, 1, none⟩ = some (.slice (some ⟨gG, 0, none⟩) 2 2) := HB7.out 1 _ rfl
  have b2 : w7.cell? ⟨w1.heap.size, 2, none⟩ = some (.int .i64 1) := HB7.out 2 _ rfl
  clear hx
  go_wp2_with fail
  clear b0 b1 b2
  refine (cRec_any 4 1 120 Cd.exG _ _ (HT.out.ext HX7.out) HG7.out).mono ?_
  rintro e w8 ⟨rfl, hx⟩
  rw [Cd.ex_can2]
  have HB8 := Lib.hid (HB7.out.ext hx)
  have HX8 := Lib.hid (HX7.out.trans hx)
  have HG8 := Lib.hid (Rs.ext (Rs.ext RI.ext) _ _ _ _ hx HG7.out)
  have HV8 := Lib.hid (Rs.ext (Rs.ext RB.ext) _ _ _ _ hx HV7.out)
  have HO8 := Lib.hid (HO7.out.next hx)
  have b0 : w8.cell? ⟨w1.heap.size, 0, none⟩ = some (.int .i64 4) := HB8.out 0 _ rfl
  have b1 : w8.cell? ⟨w1.heap.size, 1, none⟩ = some (.slice (some ⟨gG, 0, none⟩) 2 2) := HB8.out 1 _ rfl
  have b2 : w8.cell? ⟨w1.heap.size, 2, none⟩ = some (.int .i64 1) := HB8.out 2 _ rfl
  clear hx
  go_wp2_with fail
  clear b0 b1 b2
  refine (cRec_any 4 1 60 Cd.exG _ _ (HT.out.ext HX8.out) HG8.out).mono ?_
  rintro e w9 ⟨rfl, hx⟩
  rw [Cd.ex_can3]
  have HB9 := Lib.hid (HB8.out.ext hx)
  have HX9 := Lib.hid (HX8.out.trans hx)
  have HG9 := Lib.hid (Rs.ext (Rs.ext RI.ext) _ _ _ _ hx HG8.out)
  have HV9 := Lib.hid (Rs.ext (Rs.ext RB.ext) _ _ _ _ hx HV8.out)
  have HO9 := Lib.hid (HO8.out.next hx)
  have b0 : w9.cell? ⟨w1.heap.size, 0, none⟩ = some (.int .i64 4) := HB9.out 0 _ rfl
  have b1 : w9.cell? ⟨w1.heap.size, 1, none⟩ = some (.slice (some ⟨gG, 0, none⟩) 2 2) := HB9.out 1 _ rfl
  have b2 : w9.cell? ⟨w1.heap.size, 2, none⟩ = some (.int .i64 1) := HB9.out 2 _ rfl
  clear hx
  go_wp2_with fail
  clear b0 b1 b2
  refine (cDist_any 4 1 Cd.exG _ _ (HT.out.ext HX9.out) HG9.out (by decide +kernel)).mono ?_
  rintro e w10 ⟨rfl, hx⟩
  rw [Cd.ex_dist, Cd.ex_check]
  have HB10 := Lib.hid (HB9.out.ext hx)
  have HX10 := Lib.hid (HX9.out.trans hx)
  have HG10 := Lib.hid (Rs.ext (Rs.ext RI.ext) _ _ _ _ hx HG9.out)
  have HV10 := Lib.hid (Rs.ext (Rs.ext RB.ext) _ _ _ _ hx HV9.out)
  have HO10 := Lib.hid (HO9.out.next hx)
  have b0 : w10.cell? ⟨w1.heap.size, 0, none⟩ = some (.int .i64 4) := HB10.out 0 _ rfl
  have b1 : w10.cell? ⟨w1.heap.size, 1, none⟩ = some (.slice (some ⟨gG, 0, none⟩) 2 2) := HB10.out 1 _ rfl
  have b2 : w10.cell? ⟨w1.heap.size, 2, none⟩ = some (.int .i64 1) := HB10.out 2 _ rfl
  clear hx
  go_wp2_with fail
  clear b0 b1 b2
  refine (cDecode_any 4 1 7 30 Cd.exG Cd.exL _ (some ⟨gL, 0, none⟩) cL _ (HT.out.ext HX10.out) HG10.out (Rs.of_rdS (HO10.out.rd 0 rfl) (by decide)) (by decide)).mono ?_
  rintro e w11 ⟨rfl, hx⟩
  rw [Cd.ex_decE, Cd.ex_decS, show sb Cd.exD = ({ data := #[1, 2, 3, 4, 5, 6, 7] } : ByteArray) from rfl]
  have HB11 := Lib.hid (HB10.out.ext hx)
  have HX11 := Lib.hid (HX10.out.trans hx)
  have HG11 := Lib.hid (Rs.ext (Rs.ext RI.ext) _ _ _ _ hx HG10.out)
  have HV11 := Lib.hid (Rs.ext (Rs.ext RB.ext) _ _ _ _ hx HV10.out)
  have HO11 := Lib.hid (HO10.out.next hx)
  have b0 : w11.cell? ⟨w1.heap.size, 0, none⟩ = some (.int .i64 4) := HB11.out 0 _ rfl
  have b1 : w11.cell? ⟨w1.heap.size, 1, none⟩ = some (.slice (some ⟨gG, 0, none⟩) 2 2) := HB11.out 1 _ rfl
  have b2 : w11.cell? ⟨w1.heap.size, 2, none⟩ = some (.int .i64 1) := HB11.out 2 _ rfl
  clear hx
  go_wp2_with fail
  clear b0 b1 b2
  refine (cDecode_any 4 1 7 60 Cd.exG Cd.exL _ (some ⟨gL, 0, none⟩) cL _ (HT.out.ext HX11.out) HG11.out (Rs.of_rdS (HO11.out.rd 0 rfl) (by decide)) (by decide)).mono ?_
  rintro e w12 ⟨rfl, hx⟩
  rw [Cd.ex_decE2]
  have HB12 := Lib.hid (HB11.out.ext hx)
  have HX12 := Lib.hid (HX11.out.trans hx)
  have HG12 := Lib.hid (Rs.ext (Rs.ext RI.ext) _ _ _ _ hx HG11.out)
  have HV12 := Lib.hid (Rs.ext (Rs.ext RB.ext) _ _ _ _ hx HV11.out)
  have HO12 := Lib.hid (HO11.out.next hx)
  have b0 : w12.cell? ⟨w1.heap.size, 0, none⟩ = some (.int .i64 4) := HB12.out 0 _ rfl
  have b1 : w12.cell? ⟨w1.heap.size, 1, none⟩ = some (.slice (some ⟨gG, 0, none⟩) 2 2) := HB12.out 1 _ rfl
  have b2 : w12.cell? ⟨w1.heap.size, 2, none⟩ = some (.int .i64 1) := HB12.out 2 _ rfl
  clear hx
  have l5 : w12.cell? ⟨gL, 5, none⟩ = some (sv [2, 6]) := HO12.out.cell 0 rfl 5 rfl
  have f5 : w12.frozen? ⟨gL, 5, none⟩ = false := HO12.out.frozen 0 rfl 5
  have hst := HO12.out.store 0 rfl 5 (sv [2, 7])
  have HST := Lib.hid hst
  clear hst
  go_wp2_with fail
  clear b0 b1 b2
  refine (cDecode_any 4 1 7 127 Cd.exG Cd.exL2 _ (some ⟨gL, 0, none⟩) cL _ (HT.out.ext (HX2.out.trans HST.out.ext)) (Rs.ext (Rs.ext RI.ext) _ _ _ _ HST.out.ext HG2.out) (Rs.of_rdS (HST.out.rd 0 rfl) (by decide)) (by decide)).mono ?_
  rintro e w13 ⟨rfl, hx⟩
  rw [Cd.ex_decE3]
  have HXF := Lib.hid (HX2.out.trans (HST.out.ext.trans hx))
  clear hx l5 f5
  go_wp2_with fail
  go_ret
  exact ⟨rfl, HXF.out⟩
end Go.Proofs.YtgkohfmgdejkpaaDoor
