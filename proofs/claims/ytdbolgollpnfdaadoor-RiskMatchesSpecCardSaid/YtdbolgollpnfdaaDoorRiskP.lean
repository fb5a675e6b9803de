/- THE WALKS over the statements' own helpers: example, sanity, Few, count. -/
import Derived.Test.YtdbolgollpnfdaaDoorRiskX
import Derived.Test.YtdbolgollpnfdaaDoorRiskT
namespace Go.Proofs.YtdbolgollpnfdaaDoor
open Go.RowKit
theorem results_cell1 {P : Program} {fn : Func} {a : Tmp} {t : TypeId} (h : fn.results = #[.cell a t]) {tmps : Array Value} {ad : Addr} {v : Value} {w : World} (ha : tmps.getD a undef = .pointer (some ad)) (hl : (loadVar t ad).run P w = .ok v w) :
    (results fn tmps).run P w = .ok v w := by
  rw [Array.getD_eq_getD_getElem?] at ha
  simp [results, h, asAddr, ha, hl]
def exAt : List Value := [.int .i64 0, .int .i64 1, .int .i64 2]
def exCh : List Value := [.int .i64 1, .int .i64 2, .int .i64 4]
theorem example_any (w : World) :
    Calls Tryd.prog 20 #[] w fun e w' => ∃ gA gC, e = .returned (.agg #[.int .i64 2, .slice none 0 0, .int .i64 1, .slice (some ⟨gA, 0, none⟩) 3 3, .slice (some ⟨gC, 0, none⟩) 3 3]) ∧
      Owns w w' [⟨.slice (some ⟨gA, 0, none⟩) 3 3, 3, 1, 3, exAt⟩, ⟨.slice (some ⟨gC, 0, none⟩) 3 3, 3, 1, 3, exCh⟩] := by
  go_enter Tryd.func20, Tryd.ntmps20
  go_wp2_with fail
  refine bodyPost_ret (results_cell1 (v := .agg #[.int .i64 2, .slice none 0 0, .int .i64 1, .slice (some ⟨w.heap.size + 1, 0, none⟩) 3 3, .slice (some ⟨w.heap.size + 1 + 1, 0, none⟩) 3 3]) rfl rfl ?_) rfl ?_
  · go_simp
  refine ⟨w.heap.size + 1, w.heap.size + 1 + 1, rfl, ?_⟩
  have h := (((Owns.start w (L := []) (by simp)).wider.new 0 #[.int .i64 2, .slice none 0 0, .int .i64 1, .slice (some ⟨w.heap.size + 1, 0, none⟩) 3 3, .slice (some ⟨w.heap.size + 1 + 1, 0, none⟩) 3 3] 27 (by simp [maxLen])).wider.new 1 #[.int .i64 0, .int .i64 1, .int .i64 2] 3 (by simp [maxLen])).wider.new 2 #[.int .i64 1, .int .i64 2, .int .i64 4] 3 (by simp [maxLen])
  have e1 : ∀ (x : World) (o : Obj), (x.alloc o).heap.size = x.heap.size + 1 := fun x o => by simp
  simp only [e1] at h
  exact h.sublist (List.sublist_cons_self _ _)
/-- The cells of a block. -/
def Cells (w : World) (B : Nat) (cs : List Value) : Prop := ∀ (i : Nat) v, cs[i]? = some v → w.cell? ⟨B, i, none⟩ = some v
theorem Cells.ext {w w' : World} {B : Nat} {cs : List Value} (h : Cells w B cs) (hx : Ext w w') : Cells w' B cs := fun i v hi => hx.cell (h i v hi)
theorem cells_new (w : World) (cs : Array Value) (t : TypeId) : Cells (w.alloc (.cells cs t)) w.heap.size cs.toList := fun i v hi => cell_of_row _ _ i cs t (0, 0) (heap_new _ _) |>.trans (by simpa using hi)
theorem Owns.cells {w0 w : World} {L : List LRow} (h : Owns w0 w L) (i : Nat) {g n c e s : Nat} {xs : List Value} (hi : L[i]? = some ⟨.slice (some ⟨g, 0, none⟩) n c, e, s, n, xs⟩) : Cells w g xs := fun k _ hu => h.cell i hi k hu
theorem RP.slices {w : World} {v : Value} {p : Rk.Pe} (h : RP w v p) : ∃ A1 A2 A3 c1 c2 c3, v = .agg #[.int .i64 p.d, .slice A1 p.gs.length c1, .int .i64 p.gl, .slice A2 p.at'.length c2, .slice A3 p.ch.length c3] := by
  obtain ⟨G, T, C, rfl, hG, hTT, hC⟩ := h
  obtain ⟨A1, c1, rfl, _⟩ := hG.form
  obtain ⟨A2, c2, rfl, _⟩ := hTT.form
  obtain ⟨A3, c3, rfl, _⟩ := hC.form
  exact ⟨A1, A2, A3, c1, c2, c3, rfl⟩
theorem ex_rp {w0 w : World} {gA gC : Nat} (hO : Owns w0 w [⟨.slice (some ⟨gA, 0, none⟩) 3 3, 3, 1, 3, exAt⟩, ⟨.slice (some ⟨gC, 0, none⟩) 3 3, 3, 1, 3, exCh⟩]) :
    RP w (.agg #[.int .i64 2, .slice none 0 0, .int .i64 1, .slice (some ⟨gA, 0, none⟩) 3 3, .slice (some ⟨gC, 0, none⟩) 3 3]) Rk.ex :=
  ⟨_, _, _, rfl, ⟨none, 0, rfl, by decide, fun i x h => by simp [Rk.ex] at h⟩, Rs.of_rdI (l := [0, 1, 2]) (hO.rd 0 rfl) rfl (by decide) (by decide), Rs.of_rdI (l := [1, 2, 4]) (hO.rd 1 rfl) rfl (by decide) (by decide)⟩
theorem nowhere_rp {w0 w : World} {gA gC : Nat} {X : LRow} (hO : Owns w0 w [⟨.slice (some ⟨gA, 0, none⟩) 3 3, 3, 1, 3, exAt.set 2 (.int .i64 (-1))⟩, ⟨.slice (some ⟨gC, 0, none⟩) 3 3, 3, 1, 3, exCh⟩, X]) :
    RP w (.agg #[.int .i64 2, .slice none 0 0, .int .i64 1, .slice (some ⟨gA, 0, none⟩) 3 3, .slice (some ⟨gC, 0, none⟩) 3 3]) Rk.nowhere :=
  ⟨_, _, _, rfl, ⟨none, 0, rfl, by decide, fun i x h => by simp [Rk.nowhere] at h⟩, Rs.of_rdI (l := [0, 1, -1]) (hO.rd 0 rfl) rfl (by decide) (by decide), Rs.of_rdI (l := [1, 2, 4]) (hO.rd 1 rfl) rfl (by decide) (by decide)⟩
set_option maxRecDepth 100000 in
set_option maxHeartbeats 8000000 in
theorem sanity_any (w : World) (hT : Tab w) :
    Calls Tryd.prog 5 #[] w fun e w' => e = .returned (.bool true) ∧ Ext w w' := by
  have HT := Lib.hid hT
  clear hT
  go_enter Tryd.func5, Tryd.ntmps5
  go_wp2_with fail
  refine (example_any _).mono ?_
  rintro e w1 ⟨gA, gC, rfl, hO⟩
  have hx := (Ext.refl w1).alloc (.cells #[.int .i64 2, .slice none 0 0, .int .i64 1, .slice (some ⟨gA, 0, none⟩) 3 3, .slice (some ⟨gC, 0, none⟩) 3 3] 27)
  have HRb1 := Lib.hid (RP.ext _ _ _ _ hx (ex_rp hO))
  have HX1 := Lib.hid (hO.ext.trans hx)
  have HBb1 := Lib.hid (cells_new w1 #[.int .i64 2, .slice none 0 0, .int .i64 1, .slice (some ⟨gA, 0, none⟩) 3 3, .slice (some ⟨gC, 0, none⟩) 3 3] 27)
  clear hO hx
  go_wp2_with fail
  refine (kTotal_any Rk.ex _ _ HRb1.out).mono ?_
  rintro e w2 ⟨rfl, hx⟩
  rw [Rk.ex_total, Rk.ex_check]
  have HX2 := Lib.hid (HX1.out.trans hx)
  have HBb2 := Lib.hid (HBb1.out.ext hx)
  have HRb2 := Lib.hid (RP.ext _ _ _ _ hx HRb1.out)
  clear hx
  have b0 : w2.cell? ⟨w1.heap.size, 0, none⟩ = some (.int .i64 2) := HBb2.out 0 _ rfl
  have b1 : w2.cell? ⟨w1.heap.size, 1, none⟩ = some (.slice none 0 0) := HBb2.out 1 _ rfl
  have b2 : w2.cell? ⟨w1.heap.size, 2, none⟩ = some (.int .i64 1) := HBb2.out 2 _ rfl
  have b3 : w2.cell? ⟨w1.heap.size, 3, none⟩ = some (.slice (some ⟨gA, 0, none⟩) 3 3) := HBb2.out 3 _ rfl
  have b4 : w2.cell? ⟨w1.heap.size, 4, none⟩ = some (.slice (some ⟨gC, 0, none⟩) 3 3) := HBb2.out 4 _ rfl
  go_wp2_with fail
  clear b0 b1 b2 b3 b4
  refine (kLost_any Rk.ex 1 _ _ (HT.out.ext HX2.out) HRb2.out).mono ?_
  rintro e w3 ⟨rfl, hx⟩
  rw [Rk.ex_lost1]
  have HX3 := Lib.hid (HX2.out.trans hx)
  have HBb3 := Lib.hid (HBb2.out.ext hx)
  have HRb3 := Lib.hid (RP.ext _ _ _ _ hx HRb2.out)
  clear hx
  have b0 : w3.cell? ⟨w1.heap.size, 0, none⟩ = some (.int .i64 2) := HBb3.out 0 _ rfl
  have b1 : w3.cell? ⟨w1.heap.size, 1, none⟩ = some (.slice none 0 0) := HBb3.out 1 _ rfl
  have b2 : w3.cell? ⟨w1.heap.size, 2, none⟩ = some (.int .i64 1) := HBb3.out 2 _ rfl
  have b3 : w3.cell? ⟨w1.heap.size, 3, none⟩ = some (.slice (some ⟨gA, 0, none⟩) 3 3) := HBb3.out 3 _ rfl
  have b4 : w3.cell? ⟨w1.heap.size, 4, none⟩ = some (.slice (some ⟨gC, 0, none⟩) 3 3) := HBb3.out 4 _ rfl
  go_wp2_with fail
  clear b0 b1 b2 b3 b4
  refine (kLost_any Rk.ex 3 _ _ (HT.out.ext HX3.out) HRb3.out).mono ?_
  rintro e w4 ⟨rfl, hx⟩
  rw [Rk.ex_lost3]
  have HX4 := Lib.hid (HX3.out.trans hx)
  have HBb4 := Lib.hid (HBb3.out.ext hx)
  have HRb4 := Lib.hid (RP.ext _ _ _ _ hx HRb3.out)
  clear hx
  have b0 : w4.cell? ⟨w1.heap.size, 0, none⟩ = some (.int .i64 2) := HBb4.out 0 _ rfl
  have b1 : w4.cell? ⟨w1.heap.size, 1, none⟩ = some (.slice none 0 0) := HBb4.out 1 _ rfl
  have b2 : w4.cell? ⟨w1.heap.size, 2, none⟩ = some (.int .i64 1) := HBb4.out 2 _ rfl
  have b3 : w4.cell? ⟨w1.heap.size, 3, none⟩ = some (.slice (some ⟨gA, 0, none⟩) 3 3) := HBb4.out 3 _ rfl
  have b4 : w4.cell? ⟨w1.heap.size, 4, none⟩ = some (.slice (some ⟨gC, 0, none⟩) 3 3) := HBb4.out 4 _ rfl
  go_wp2_with fail
  clear b0 b1 b2 b3 b4
  refine (kLoss_any Rk.ex _ _ (HT.out.ext HX4.out) HRb4.out).mono ?_
  rintro e w5 ⟨rfl, hx⟩
  rw [Rk.ex_loss, Rk.ex_check]
  have HX5 := Lib.hid (HX4.out.trans hx)
  have HBb5 := Lib.hid (HBb4.out.ext hx)
  have HRb5 := Lib.hid (RP.ext _ _ _ _ hx HRb4.out)
  clear hx
  have b0 : w5.cell? ⟨w1.heap.size, 0, none⟩ = some (.int .i64 2) := HBb5.out 0 _ rfl
  have b1 : w5.cell? ⟨w1.heap.size, 1, none⟩ = some (.slice none 0 0) := HBb5.out 1 _ rfl
  have b2 : w5.cell? ⟨w1.heap.size, 2, none⟩ = some (.int .i64 1) := HBb5.out 2 _ rfl
  have b3 : w5.cell? ⟨w1.heap.size, 3, none⟩ = some (.slice (some ⟨gA, 0, none⟩) 3 3) := HBb5.out 3 _ rfl
  have b4 : w5.cell? ⟨w1.heap.size, 4, none⟩ = some (.slice (some ⟨gC, 0, none⟩) 3 3) := HBb5.out 4 _ rfl
  go_wp2_with fail
  clear b0 b1 b2 b3 b4
  refine (kLeast_any Rk.ex _ _ (HT.out.ext HX5.out) HRb5.out).mono ?_
  rintro e w6 ⟨rfl, hx⟩
  rw [Rk.ex_least, Rk.ex_check]
  have HX6 := Lib.hid (HX5.out.trans hx)
  have HBb6 := Lib.hid (HBb5.out.ext hx)
  have HRb6 := Lib.hid (RP.ext _ _ _ _ hx HRb5.out)
  clear hx
  have b0 : w6.cell? ⟨w1.heap.size, 0, none⟩ = some (.int .i64 2) := HBb6.out 0 _ rfl
  have b1 : w6.cell? ⟨w1.heap.size, 1, none⟩ = some (.slice none 0 0) := HBb6.out 1 _ rfl
  have b2 : w6.cell? ⟨w1.heap.size, 2, none⟩ = some (.int .i64 1) := HBb6.out 2 _ rfl
  have b3 : w6.cell? ⟨w1.heap.size, 3, none⟩ = some (.slice (some ⟨gA, 0, none⟩) 3 3) := HBb6.out 3 _ rfl
  have b4 : w6.cell? ⟨w1.heap.size, 4, none⟩ = some (.slice (some ⟨gC, 0, none⟩) 3 3) := HBb6.out 4 _ rfl
  go_wp2_with fail
  clear b0 b1 b2 b3 b4
  refine (kGiven_any Rk.ex 0 true _ _ HRb6.out Rk.ex_check (by decide)).mono ?_
  rintro e w7 ⟨u, rfl, hu, hx⟩
  have HX7 := Lib.hid (HX6.out.trans hx)
  have HBb7 := Lib.hid (HBb6.out.ext hx)
  have HRb7 := Lib.hid (RP.ext _ _ _ _ hx HRb6.out)
  clear hx
  obtain ⟨Af1, Af2, Af3, kf1, kf2, kf3, rfl⟩ := hu.slices
  have hu2 : RP w7 (.agg #[.int .i64 2, .slice Af1 0 kf1, .int .i64 1, .slice Af2 3 kf2, .slice Af3 3 kf3]) (Rk.given Rk.ex 0 true) := hu
  clear hu
  simp only [show (Rk.given Rk.ex 0 true).d = 2 from rfl, show (Rk.given Rk.ex 0 true).gl = 1 from rfl, show (Rk.given Rk.ex 0 true).gs.length = 0 from rfl, show (Rk.given Rk.ex 0 true).at'.length = 3 from rfl, show (Rk.given Rk.ex 0 true).ch.length = 3 from rfl]
  have hx := (Ext.refl w7).alloc (.cells #[.int .i64 2, .slice Af1 0 kf1, .int .i64 1, .slice Af2 3 kf2, .slice Af3 3 kf3] 27)
  have HX8 := Lib.hid (HX7.out.trans hx)
  have HBb8 := Lib.hid (HBb7.out.ext hx)
  have HRb8 := Lib.hid (RP.ext _ _ _ _ hx HRb7.out)
  have HRf8 := Lib.hid (RP.ext _ _ _ _ hx hu2)
  have HBf8 := Lib.hid (cells_new w7 #[.int .i64 2, .slice Af1 0 kf1, .int .i64 1, .slice Af2 3 kf2, .slice Af3 3 kf3] 27)
  clear hx hu2
  have b0 : (w7.alloc (.cells #[.int .i64 2, .slice Af1 0 kf1, .int .i64 1, .slice Af2 3 kf2, .slice Af3 3 kf3] 27)).cell? ⟨w1.heap.size, 0, none⟩ = some (.int .i64 2) := HBb8.out 0 _ rfl
  have b1 : (w7.alloc (.cells #[.int .i64 2, .slice Af1 0 kf1, .int .i64 1, .slice Af2 3 kf2, .slice Af3 3 kf3] 27)).cell? ⟨w1.heap.size, 1, none⟩ = some (.slice none 0 0) := HBb8.out 1 _ rfl
  have b2 : (w7.alloc (.cells #[.int .i64 2, .slice Af1 0 kf1, .int .i64 1, .slice Af2 3 kf2, .slice Af3 3 kf3] 27)).cell? ⟨w1.heap.size, 2, none⟩ = some (.int .i64 1) := HBb8.out 2 _ rfl
  have b3 : (w7.alloc (.cells #[.int .i64 2, .slice Af1 0 kf1, .int .i64 1, .slice Af2 3 kf2, .slice Af3 3 kf3] 27)).cell? ⟨w1.heap.size, 3, none⟩ = some (.slice (some ⟨gA, 0, none⟩) 3 3) := HBb8.out 3 _ rfl
  have b4 : (w7.alloc (.cells #[.int .i64 2, .slice Af1 0 kf1, .int .i64 1, .slice Af2 3 kf2, .slice Af3 3 kf3] 27)).cell? ⟨w1.heap.size, 4, none⟩ = some (.slice (some ⟨gC, 0, none⟩) 3 3) := HBb8.out 4 _ rfl
  have f0 : (w7.alloc (.cells #[.int .i64 2, .slice Af1 0 kf1, .int .i64 1, .slice Af2 3 kf2, .slice Af3 3 kf3] 27)).cell? ⟨w7.heap.size, 0, none⟩ = some (.int .i64 2) := HBf8.out 0 _ rfl
  have f1 : (w7.alloc (.cells #[.int .i64 2, .slice Af1 0 kf1, .int .i64 1, .slice Af2 3 kf2, .slice Af3 3 kf3] 27)).cell? ⟨w7.heap.size, 1, none⟩ = some (.slice Af1 0 kf1) := HBf8.out 1 _ rfl
  have f2 : (w7.alloc (.cells #[.int .i64 2, .slice Af1 0 kf1, .int .i64 1, .slice Af2 3 kf2, .slice Af3 3 kf3] 27)).cell? ⟨w7.heap.size, 2, none⟩ = some (.int .i64 1) := HBf8.out 2 _ rfl
  have f3 : (w7.alloc (.cells #[.int .i64 2, .slice Af1 0 kf1, .int .i64 1, .slice Af2 3 kf2, .slice Af3 3 kf3] 27)).cell? ⟨w7.heap.size, 3, none⟩ = some (.slice Af2 3 kf2) := HBf8.out 3 _ rfl
  have f4 : (w7.alloc (.cells #[.int .i64 2, .slice Af1 0 kf1, .int .i64 1, .slice Af2 3 kf2, .slice Af3 3 kf3] 27)).cell? ⟨w7.heap.size, 4, none⟩ = some (.slice Af3 3 kf3) := HBf8.out 4 _ rfl
  go_wp2_with fail
  clear b0 b1 b2 b3 b4
  clear f0 f1 f2 f3 f4
  refine (kGiven_any Rk.ex 0 false _ _ HRb8.out Rk.ex_check (by decide)).mono ?_
  rintro e w8 ⟨u, rfl, hu, hx⟩
  have HX9 := Lib.hid (HX8.out.trans hx)
  have HBb9 := Lib.hid (HBb8.out.ext hx)
  have HBf9 := Lib.hid (HBf8.out.ext hx)
  have HRb9 := Lib.hid (RP.ext _ _ _ _ hx HRb8.out)
  have HRf9 := Lib.hid (RP.ext _ _ _ _ hx HRf8.out)
  clear hx
  obtain ⟨As1, As2, As3, ks1, ks2, ks3, rfl⟩ := hu.slices
  have hu2 : RP w8 (.agg #[.int .i64 2, .slice As1 0 ks1, .int .i64 1, .slice As2 3 ks2, .slice As3 3 ks3]) (Rk.given Rk.ex 0 false) := hu
  clear hu
  simp only [show (Rk.given Rk.ex 0 false).d = 2 from rfl, show (Rk.given Rk.ex 0 false).gl = 1 from rfl, show (Rk.given Rk.ex 0 false).gs.length = 0 from rfl, show (Rk.given Rk.ex 0 false).at'.length = 3 from rfl, show (Rk.given Rk.ex 0 false).ch.length = 3 from rfl]
  have hx := (Ext.refl w8).alloc (.cells #[.int .i64 2, .slice As1 0 ks1, .int .i64 1, .slice As2 3 ks2, .slice As3 3 ks3] 27)
  have HX10 := Lib.hid (HX9.out.trans hx)
  have HBb10 := Lib.hid (HBb9.out.ext hx)
  have HBf10 := Lib.hid (HBf9.out.ext hx)
  have HRb10 := Lib.hid (RP.ext _ _ _ _ hx HRb9.out)
  have HRf10 := Lib.hid (RP.ext _ _ _ _ hx HRf9.out)
  have HRs10 := Lib.hid (RP.ext _ _ _ _ hx hu2)
  have HBs10 := Lib.hid (cells_new w8 #[.int .i64 2, .slice As1 0 ks1, .int .i64 1, .slice As2 3 ks2, .slice As3 3 ks3] 27)
  clear hx hu2
  have b0 : (w8.alloc (.cells #[.int .i64 2, .slice As1 0 ks1, .int .i64 1, .slice As2 3 ks2, .slice As3 3 ks3] 27)).cell? ⟨w1.heap.size, 0, none⟩ = some (.int .i64 2) := HBb10.out 0 _ rfl
  have b1 : (w8.alloc (.cells #[.int .i64 2, .slice As1 0 ks1, .int .i64 1, .slice As2 3 ks2, .slice As3 3 ks3] 27)).cell? ⟨w1.heap.size, 1, none⟩ = some (.slice none 0 0) := HBb10.out 1 _ rfl
  have b2 : (w8.alloc (.cells #[.int .i64 2, .slice As1 0 ks1, .int .i64 1, .slice As2 3 ks2, .slice As3 3 ks3] 27)).cell? ⟨w1.heap.size, 2, none⟩ = some (.int .i64 1) := HBb10.out 2 _ rfl
  have b3 : (w8.alloc (.cells #[.int .i64 2, .slice As1 0 ks1, .int .i64 1, .slice As2 3 ks2, .slice As3 3 ks3] 27)).cell? ⟨w1.heap.size, 3, none⟩ = some (.slice (some ⟨gA, 0, none⟩) 3 3) := HBb10.out 3 _ rfl
  have b4 : (w8.alloc (.cells #[.int .i64 2, .slice As1 0 ks1, .int .i64 1, .slice As2 3 ks2, .slice As3 3 ks3] 27)).cell? ⟨w1.heap.size, 4, none⟩ = some (.slice (some ⟨gC, 0, none⟩) 3 3) := HBb10.out 4 _ rfl
  have f0 : (w8.alloc (.cells #[.int .i64 2, .slice As1 0 ks1, .int .i64 1, .slice As2 3 ks2, .slice As3 3 ks3] 27)).cell? ⟨w7.heap.size, 0, none⟩ = some (.int .i64 2) := HBf10.out 0 _ rfl
  have f1 : (w8.alloc (.cells #[.int .i64 2, .slice As1 0 ks1, .int .i64 1, .slice As2 3 ks2, .slice As3 3 ks3] 27)).cell? ⟨w7.heap.size, 1, none⟩ = some (.slice Af1 0 kf1) := HBf10.out 1 _ rfl
  have f2 : (w8.alloc (.cells #[.int .i64 2, .slice As1 0 ks1, .int .i64 1, .slice As2 3 ks2, .slice As3 3 ks3] 27)).cell? ⟨w7.heap.size, 2, none⟩ = some (.int .i64 1) := HBf10.out 2 _ rfl
  have f3 : (w8.alloc (.cells #[.int .i64 2, .slice As1 0 ks1, .int .i64 1, .slice As2 3 ks2, .slice As3 3 ks3] 27)).cell? ⟨w7.heap.size, 3, none⟩ = some (.slice Af2 3 kf2) := HBf10.out 3 _ rfl
  have f4 : (w8.alloc (.cells #[.int .i64 2, .slice As1 0 ks1, .int .i64 1, .slice As2 3 ks2, .slice As3 3 ks3] 27)).cell? ⟨w7.heap.size, 4, none⟩ = some (.slice Af3 3 kf3) := HBf10.out 4 _ rfl
  have s0 : (w8.alloc (.cells #[.int .i64 2, .slice As1 0 ks1, .int .i64 1, .slice As2 3 ks2, .slice As3 3 ks3] 27)).cell? ⟨w8.heap.size, 0, none⟩ = some (.int .i64 2) := HBs10.out 0 _ rfl
  have s1 : (w8.alloc (.cells #[.int .i64 2, .slice As1 0 ks1, .int .i64 1, .slice As2 3 ks2, .slice As3 3 ks3] 27)).cell? ⟨w8.heap.size, 1, none⟩ = some (.slice As1 0 ks1) := HBs10.out 1 _ rfl
  have s2 : (w8.alloc (.cells #[.int .i64 2, .slice As1 0 ks1, .int .i64 1, .slice As2 3 ks2, .slice As3 3 ks3] 27)).cell? ⟨w8.heap.size, 2, none⟩ = some (.int .i64 1) := HBs10.out 2 _ rfl
  have s3 : (w8.alloc (.cells #[.int .i64 2, .slice As1 0 ks1, .int .i64 1, .slice As2 3 ks2, .slice As3 3 ks3] 27)).cell? ⟨w8.heap.size, 3, none⟩ = some (.slice As2 3 ks2) := HBs10.out 3 _ rfl
  have s4 : (w8.alloc (.cells #[.int .i64 2, .slice As1 0 ks1, .int .i64 1, .slice As2 3 ks2, .slice As3 3 ks3] 27)).cell? ⟨w8.heap.size, 4, none⟩ = some (.slice As3 3 ks3) := HBs10.out 4 _ rfl
  go_wp2_with fail
  clear b0 b1 b2 b3 b4
  clear f0 f1 f2 f3 f4
  clear s0 s1 s2 s3 s4
  refine (kLoss_any (Rk.given Rk.ex 0 true) _ _ (HT.out.ext HX10.out) HRf10.out).mono ?_
  rintro e w9 ⟨rfl, hx⟩
  rw [Rk.ex_loss1, Rk.ex_fails]
  have HX11 := Lib.hid (HX10.out.trans hx)
  have HBb11 := Lib.hid (HBb10.out.ext hx)
  have HBf11 := Lib.hid (HBf10.out.ext hx)
  have HBs11 := Lib.hid (HBs10.out.ext hx)
  have HRb11 := Lib.hid (RP.ext _ _ _ _ hx HRb10.out)
  have HRf11 := Lib.hid (RP.ext _ _ _ _ hx HRf10.out)
  have HRs11 := Lib.hid (RP.ext _ _ _ _ hx HRs10.out)
  clear hx
  have b0 : w9.cell? ⟨w1.heap.size, 0, none⟩ = some (.int .i64 2) := HBb11.out 0 _ rfl
  have b1 : w9.cell? ⟨w1.heap.size, 1, none⟩ = some (.slice none 0 0) := HBb11.out 1 _ rfl
  have b2 : w9.cell? ⟨w1.heap.size, 2, none⟩ = some (.int .i64 1) := HBb11.out 2 _ rfl
  have b3 : w9.cell? ⟨w1.heap.size, 3, none⟩ = some (.slice (some ⟨gA, 0, none⟩) 3 3) := HBb11.out 3 _ rfl
  have b4 : w9.cell? ⟨w1.heap.size, 4, none⟩ = some (.slice (some ⟨gC, 0, none⟩) 3 3) := HBb11.out 4 _ rfl
  have f0 : w9.cell? ⟨w7.heap.size, 0, none⟩ = some (.int .i64 2) := HBf11.out 0 _ rfl
  have f1 : w9.cell? ⟨w7.heap.size, 1, none⟩ = some (.slice Af1 0 kf1) := HBf11.out 1 _ rfl
  have f2 : w9.cell? ⟨w7.heap.size, 2, none⟩ = some (.int .i64 1) := HBf11.out 2 _ rfl
  have f3 : w9.cell? ⟨w7.heap.size, 3, none⟩ = some (.slice Af2 3 kf2) := HBf11.out 3 _ rfl
  have f4 : w9.cell? ⟨w7.heap.size, 4, none⟩ = some (.slice Af3 3 kf3) := HBf11.out 4 _ rfl
  have s0 : w9.cell? ⟨w8.heap.size, 0, none⟩ = some (.int .i64 2) := HBs11.out 0 _ rfl
  have s1 : w9.cell? ⟨w8.heap.size, 1, none⟩ = some (.slice As1 0 ks1) := HBs11.out 1 _ rfl
  have s2 : w9.cell? ⟨w8.heap.size, 2, none⟩ = some (.int .i64 1) := HBs11.out 2 _ rfl
  have s3 : w9.cell? ⟨w8.heap.size, 3, none⟩ = some (.slice As2 3 ks2) := HBs11.out 3 _ rfl
  have s4 : w9.cell? ⟨w8.heap.size, 4, none⟩ = some (.slice As3 3 ks3) := HBs11.out 4 _ rfl
  go_wp2_with fail
  clear b0 b1 b2 b3 b4
  clear f0 f1 f2 f3 f4
  clear s0 s1 s2 s3 s4
  refine (kLoss_any (Rk.given Rk.ex 0 false) _ _ (HT.out.ext HX11.out) HRs11.out).mono ?_
  rintro e w10 ⟨rfl, hx⟩
  rw [Rk.ex_loss2, Rk.ex_stays]
  have HX12 := Lib.hid (HX11.out.trans hx)
  have HBb12 := Lib.hid (HBb11.out.ext hx)
  have HBf12 := Lib.hid (HBf11.out.ext hx)
  have HBs12 := Lib.hid (HBs11.out.ext hx)
  have HRb12 := Lib.hid (RP.ext _ _ _ _ hx HRb11.out)
  have HRf12 := Lib.hid (RP.ext _ _ _ _ hx HRf11.out)
  have HRs12 := Lib.hid (RP.ext _ _ _ _ hx HRs11.out)
  clear hx
  have b0 : w10.cell? ⟨w1.heap.size, 0, none⟩ = some (.int .i64 2) := HBb12.out 0 _ rfl
  have b1 : w10.cell? ⟨w1.heap.size, 1, none⟩ = some (.slice none 0 0) := HBb12.out 1 _ rfl
  have b2 : w10.cell? ⟨w1.heap.size, 2, none⟩ = some (.int .i64 1) := HBb12.out 2 _ rfl
  have b3 : w10.cell? ⟨w1.heap.size, 3, none⟩ = some (.slice (some ⟨gA, 0, none⟩) 3 3) := HBb12.out 3 _ rfl
  have b4 : w10.cell? ⟨w1.heap.size, 4, none⟩ = some (.slice (some ⟨gC, 0, none⟩) 3 3) := HBb12.out 4 _ rfl
  have f0 : w10.cell? ⟨w7.heap.size, 0, none⟩ = some (.int .i64 2) := HBf12.out 0 _ rfl
  have f1 : w10.cell? ⟨w7.heap.size, 1, none⟩ = some (.slice Af1 0 kf1) := HBf12.out 1 _ rfl
  have f2 : w10.cell? ⟨w7.heap.size, 2, none⟩ = some (.int .i64 1) := HBf12.out 2 _ rfl
  have f3 : w10.cell? ⟨w7.heap.size, 3, none⟩ = some (.slice Af2 3 kf2) := HBf12.out 3 _ rfl
  have f4 : w10.cell? ⟨w7.heap.size, 4, none⟩ = some (.slice Af3 3 kf3) := HBf12.out 4 _ rfl
  have s0 : w10.cell? ⟨w8.heap.size, 0, none⟩ = some (.int .i64 2) := HBs12.out 0 _ rfl
  have s1 : w10.cell? ⟨w8.heap.size, 1, none⟩ = some (.slice As1 0 ks1) := HBs12.out 1 _ rfl
  have s2 : w10.cell? ⟨w8.heap.size, 2, none⟩ = some (.int .i64 1) := HBs12.out 2 _ rfl
  have s3 : w10.cell? ⟨w8.heap.size, 3, none⟩ = some (.slice As2 3 ks2) := HBs12.out 3 _ rfl
  have s4 : w10.cell? ⟨w8.heap.size, 4, none⟩ = some (.slice As3 3 ks3) := HBs12.out 4 _ rfl
  go_wp2_with fail
  clear b0 b1 b2 b3 b4
  clear f0 f1 f2 f3 f4
  clear s0 s1 s2 s3 s4
  refine (kMill_any Rk.ex _ _ (HT.out.ext HX12.out) HRb12.out).mono ?_
  rintro e w11 ⟨rfl, hx⟩
  rw [Rk.ex_mill, Rk.ex_check]
  have HX13 := Lib.hid (HX12.out.trans hx)
  have HBb13 := Lib.hid (HBb12.out.ext hx)
  have HRb13 := Lib.hid (RP.ext _ _ _ _ hx HRb12.out)
  clear hx
  have b0 : w11.cell? ⟨w1.heap.size, 0, none⟩ = some (.int .i64 2) := HBb13.out 0 _ rfl
  have b1 : w11.cell? ⟨w1.heap.size, 1, none⟩ = some (.slice none 0 0) := HBb13.out 1 _ rfl
  have b2 : w11.cell? ⟨w1.heap.size, 2, none⟩ = some (.int .i64 1) := HBb13.out 2 _ rfl
  have b3 : w11.cell? ⟨w1.heap.size, 3, none⟩ = some (.slice (some ⟨gA, 0, none⟩) 3 3) := HBb13.out 3 _ rfl
  have b4 : w11.cell? ⟨w1.heap.size, 4, none⟩ = some (.slice (some ⟨gC, 0, none⟩) 3 3) := HBb13.out 4 _ rfl
  go_wp2_with fail
  clear b0 b1 b2 b3 b4
  refine (example_any _).mono ?_
  rintro e w12 ⟨nA, nC, rfl, hO⟩
  have hO2 := hO.wider.new 2 #[.int .i64 2, .slice none 0 0, .int .i64 1, .slice (some ⟨nA, 0, none⟩) 3 3, .slice (some ⟨nC, 0, none⟩) 3 3] 27 (by simp [maxLen])
  have hO3 := hO2.store 0 rfl 2 (.int .i64 (-1))
  have na : (w12.alloc (.cells #[.int .i64 2, .slice none 0 0, .int .i64 1, .slice (some ⟨nA, 0, none⟩) 3 3, .slice (some ⟨nC, 0, none⟩) 3 3] 27)).cell? ⟨nA, 2, none⟩ = some (.int .i64 2) := hO2.cell 0 rfl 2 rfl
  have nf : (w12.alloc (.cells #[.int .i64 2, .slice none 0 0, .int .i64 1, .slice (some ⟨nA, 0, none⟩) 3 3, .slice (some ⟨nC, 0, none⟩) 3 3] 27)).frozen? ⟨nA, 2, none⟩ = false := hO2.frozen 0 rfl 2
  have n3 : (w12.alloc (.cells #[.int .i64 2, .slice none 0 0, .int .i64 1, .slice (some ⟨nA, 0, none⟩) 3 3, .slice (some ⟨nC, 0, none⟩) 3 3] 27)).cell? ⟨w12.heap.size, 3, none⟩ = some (.slice (some ⟨nA, 0, none⟩) 3 3) := hO2.cell 2 rfl 3 rfl
  have hx := hO3.ext
  have HX14 := Lib.hid (HX13.out.trans hx)
  have HBb14 := Lib.hid (HBb13.out.ext hx)
  have HRb14 := Lib.hid (RP.ext _ _ _ _ hx HRb13.out)
  have HRn14 := Lib.hid (nowhere_rp hO3)
  have HBn14 : Hid (Cells ((w12.alloc (.cells #[.int .i64 2, .slice none 0 0, .int .i64 1, .slice (some ⟨nA, 0, none⟩) 3 3, .slice (some ⟨nC, 0, none⟩) 3 3] 27)).setCell ⟨nA, 2, none⟩ (.int .i64 (-1))) w12.heap.size [.int .i64 2, .slice none 0 0, .int .i64 1, .slice (some ⟨nA, 0, none⟩) 3 3, .slice (some ⟨nC, 0, none⟩) 3 3]) := Lib.hid (hO3.cells 2 rfl)
  clear hx hO hO2 hO3
  try clear n0 n1 n2 n4
  have m3 := n3
  clear n3
  have b0 : ((w12.alloc (.cells #[.int .i64 2, .slice none 0 0, .int .i64 1, .slice (some ⟨nA, 0, none⟩) 3 3, .slice (some ⟨nC, 0, none⟩) 3 3] 27)).setCell ⟨nA, 2, none⟩ (.int .i64 (-1))).cell? ⟨w1.heap.size, 0, none⟩ = some (.int .i64 2) := HBb14.out 0 _ rfl
  have b1 : ((w12.alloc (.cells #[.int .i64 2, .slice none 0 0, .int .i64 1, .slice (some ⟨nA, 0, none⟩) 3 3, .slice (some ⟨nC, 0, none⟩) 3 3] 27)).setCell ⟨nA, 2, none⟩ (.int .i64 (-1))).cell? ⟨w1.heap.size, 1, none⟩ = some (.slice none 0 0) := HBb14.out 1 _ rfl
  have b2 : ((w12.alloc (.cells #[.int .i64 2, .slice none 0 0, .int .i64 1, .slice (some ⟨nA, 0, none⟩) 3 3, .slice (some ⟨nC, 0, none⟩) 3 3] 27)).setCell ⟨nA, 2, none⟩ (.int .i64 (-1))).cell? ⟨w1.heap.size, 2, none⟩ = some (.int .i64 1) := HBb14.out 2 _ rfl
  have b3 : ((w12.alloc (.cells #[.int .i64 2, .slice none 0 0, .int .i64 1, .slice (some ⟨nA, 0, none⟩) 3 3, .slice (some ⟨nC, 0, none⟩) 3 3] 27)).setCell ⟨nA, 2, none⟩ (.int .i64 (-1))).cell? ⟨w1.heap.size, 3, none⟩ = some (.slice (some ⟨gA, 0, none⟩) 3 3) := HBb14.out 3 _ rfl
  have b4 : ((w12.alloc (.cells #[.int .i64 2, .slice none 0 0, .int .i64 1, .slice (some ⟨nA, 0, none⟩) 3 3, .slice (some ⟨nC, 0, none⟩) 3 3] 27)).setCell ⟨nA, 2, none⟩ (.int .i64 (-1))).cell? ⟨w1.heap.size, 4, none⟩ = some (.slice (some ⟨gC, 0, none⟩) 3 3) := HBb14.out 4 _ rfl
  have n0 : ((w12.alloc (.cells #[.int .i64 2, .slice none 0 0, .int .i64 1, .slice (some ⟨nA, 0, none⟩) 3 3, .slice (some ⟨nC, 0, none⟩) 3 3] 27)).setCell ⟨nA, 2, none⟩ (.int .i64 (-1))).cell? ⟨w12.heap.size, 0, none⟩ = some (.int .i64 2) := HBn14.out 0 _ rfl
  have n1 : ((w12.alloc (.cells #[.int .i64 2, .slice none 0 0, .int .i64 1, .slice (some ⟨nA, 0, none⟩) 3 3, .slice (some ⟨nC, 0, none⟩) 3 3] 27)).setCell ⟨nA, 2, none⟩ (.int .i64 (-1))).cell? ⟨w12.heap.size, 1, none⟩ = some (.slice none 0 0) := HBn14.out 1 _ rfl
  have n2 : ((w12.alloc (.cells #[.int .i64 2, .slice none 0 0, .int .i64 1, .slice (some ⟨nA, 0, none⟩) 3 3, .slice (some ⟨nC, 0, none⟩) 3 3] 27)).setCell ⟨nA, 2, none⟩ (.int .i64 (-1))).cell? ⟨w12.heap.size, 2, none⟩ = some (.int .i64 1) := HBn14.out 2 _ rfl
  have n3 : ((w12.alloc (.cells #[.int .i64 2, .slice none 0 0, .int .i64 1, .slice (some ⟨nA, 0, none⟩) 3 3, .slice (some ⟨nC, 0, none⟩) 3 3] 27)).setCell ⟨nA, 2, none⟩ (.int .i64 (-1))).cell? ⟨w12.heap.size, 3, none⟩ = some (.slice (some ⟨nA, 0, none⟩) 3 3) := HBn14.out 3 _ rfl
  have n4 : ((w12.alloc (.cells #[.int .i64 2, .slice none 0 0, .int .i64 1, .slice (some ⟨nA, 0, none⟩) 3 3, .slice (some ⟨nC, 0, none⟩) 3 3] 27)).setCell ⟨nA, 2, none⟩ (.int .i64 (-1))).cell? ⟨w12.heap.size, 4, none⟩ = some (.slice (some ⟨nC, 0, none⟩) 3 3) := HBn14.out 4 _ rfl
  go_wp2_with fail
  clear na nf m3
  clear b0 b1 b2 b3 b4
  clear n0 n1 n2 n3 n4
  refine (kLoss_any Rk.nowhere _ _ (HT.out.ext HX14.out) HRn14.out).mono ?_
  rintro e w13 ⟨rfl, hx⟩
  rw [Rk.ex_nowhere, Rk.ex_nowhere0]
  have HX15 := Lib.hid (HX14.out.trans hx)
  have HBb15 := Lib.hid (HBb14.out.ext hx)
  have HBn15 := Lib.hid (HBn14.out.ext hx)
  have HRb15 := Lib.hid (RP.ext _ _ _ _ hx HRb14.out)
  have HRn15 := Lib.hid (RP.ext _ _ _ _ hx HRn14.out)
  clear hx
  have b0 : w13.cell? ⟨w1.heap.size, 0, none⟩ = some (.int .i64 2) := HBb15.out 0 _ rfl
  have b1 : w13.cell? ⟨w1.heap.size, 1, none⟩ = some (.slice none 0 0) := HBb15.out 1 _ rfl
  have b2 : w13.cell? ⟨w1.heap.size, 2, none⟩ = some (.int .i64 1) := HBb15.out 2 _ rfl
  have b3 : w13.cell? ⟨w1.heap.size, 3, none⟩ = some (.slice (some ⟨gA, 0, none⟩) 3 3) := HBb15.out 3 _ rfl
  have b4 : w13.cell? ⟨w1.heap.size, 4, none⟩ = some (.slice (some ⟨gC, 0, none⟩) 3 3) := HBb15.out 4 _ rfl
  have n0 : w13.cell? ⟨w12.heap.size, 0, none⟩ = some (.int .i64 2) := HBn15.out 0 _ rfl
  have n1 : w13.cell? ⟨w12.heap.size, 1, none⟩ = some (.slice none 0 0) := HBn15.out 1 _ rfl
  have n2 : w13.cell? ⟨w12.heap.size, 2, none⟩ = some (.int .i64 1) := HBn15.out 2 _ rfl
  have n3 : w13.cell? ⟨w12.heap.size, 3, none⟩ = some (.slice (some ⟨nA, 0, none⟩) 3 3) := HBn15.out 3 _ rfl
  have n4 : w13.cell? ⟨w12.heap.size, 4, none⟩ = some (.slice (some ⟨nC, 0, none⟩) 3 3) := HBn15.out 4 _ rfl
  go_wp2_with fail
  clear b0 b1 b2 b3 b4
  clear n0 n1 n2 n3 n4
  refine (kCmp_any Rk.ex Rk.nowhere _ _ _ (HT.out.ext HX15.out) HRb15.out HRn15.out).mono ?_
  rintro e w14 ⟨rfl, hx⟩
  rw [Rk.ex_cmp]
  have HX16 := Lib.hid (HX15.out.trans hx)
  have HBb16 := Lib.hid (HBb15.out.ext hx)
  have HBn16 := Lib.hid (HBn15.out.ext hx)
  have HRb16 := Lib.hid (RP.ext _ _ _ _ hx HRb15.out)
  have HRn16 := Lib.hid (RP.ext _ _ _ _ hx HRn15.out)
  clear hx
  have b0 : w14.cell? ⟨w1.heap.size, 0, none⟩ = some (.int .i64 2) := HBb16.out 0 _ rfl
  have b1 : w14.cell? ⟨w1.heap.size, 1, none⟩ = some (.slice none 0 0) := HBb16.out 1 _ rfl
  have b2 : w14.cell? ⟨w1.heap.size, 2, none⟩ = some (.int .i64 1) := HBb16.out 2 _ rfl
  have b3 : w14.cell? ⟨w1.heap.size, 3, none⟩ = some (.slice (some ⟨gA, 0, none⟩) 3 3) := HBb16.out 3 _ rfl
  have b4 : w14.cell? ⟨w1.heap.size, 4, none⟩ = some (.slice (some ⟨gC, 0, none⟩) 3 3) := HBb16.out 4 _ rfl
  have n0 : w14.cell? ⟨w12.heap.size, 0, none⟩ = some (.int .i64 2) := HBn16.out 0 _ rfl
  have n1 : w14.cell? ⟨w12.heap.size, 1, none⟩ = some (.slice none 0 0) := HBn16.out 1 _ rfl
  have n2 : w14.cell? ⟨w12.heap.size, 2, none⟩ = some (.int .i64 1) := HBn16.out 2 _ rfl
  have n3 : w14.cell? ⟨w12.heap.size, 3, none⟩ = some (.slice (some ⟨nA, 0, none⟩) 3 3) := HBn16.out 3 _ rfl
  have n4 : w14.cell? ⟨w12.heap.size, 4, none⟩ = some (.slice (some ⟨nC, 0, none⟩) 3 3) := HBn16.out 4 _ rfl
  go_wp2_with fail
  clear b0 b1 b2 b3 b4
  clear n0 n1 n2 n3 n4
  go_ret
  exact ⟨rfl, HX16.out⟩
end Go.Proofs.YtdbolgollpnfdaaDoor
