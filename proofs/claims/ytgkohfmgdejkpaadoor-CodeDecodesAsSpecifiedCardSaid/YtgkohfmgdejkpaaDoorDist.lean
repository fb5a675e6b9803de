/- THE WALK over Distance. -/
import Derived.Test.YtgkohfmgdejkpaaDoorDistR
namespace Cd
open Go.Proofs.YtgkohfmgdejkpaaDoor
/-- Is each loss of so many pieces recoverable? -/
def lossOk (d gl : Int) (gs : List (List Int)) (s : Nat) : Bool := (setsL (rowsOf d gs gl).length s).all fun x => can d gl gs (((2 ^ (rowsOf d gs gl).length : Nat) : Int) - 1 - x)
def dist (d gl : Int) (gs : List (List Int)) : Nat := ((List.range (rowsOf d gs gl).length).find? fun s => decide (1 ≤ s) && !lossOk d gl gs s).getD (rowsOf d gs gl).length
def distI (d gl : Int) (gs : List (List Int)) : Int := if check d gs gl = 0 then dist d gl gs else 0
theorem dist_found {d gl : Int} {gs : List (List Int)} {s : Nat} (hs : s < (rowsOf d gs gl).length) (h1 : 1 ≤ s) (hb : ∀ t, 1 ≤ t → t < s → lossOk d gl gs t = true) (h : lossOk d gl gs s = false) : dist d gl gs = s := by
  have : (List.range (rowsOf d gs gl).length).find? (fun s => decide (1 ≤ s) && !lossOk d gl gs s) = some s := by
    rw [List.find?_range_eq_some]
    refine ⟨by simp [h1, h], by simpa using hs, fun j hj => ?_⟩
    by_cases h0 : 1 ≤ j
    · simp [hb j h0 hj]
    · simp [h0]
  rw [dist, this]
  rfl
theorem dist_none {d gl : Int} {gs : List (List Int)} (hb : ∀ t, 1 ≤ t → t < (rowsOf d gs gl).length → lossOk d gl gs t = true) : dist d gl gs = (rowsOf d gs gl).length := by
  have : (List.range (rowsOf d gs gl).length).find? (fun s => decide (1 ≤ s) && !lossOk d gl gs s) = none := by
    rw [List.find?_eq_none]
    intro j hj
    have hj := List.mem_range.1 hj
    by_cases h0 : 1 ≤ j
    · simp [hb j h0 hj]
    · simp [h0]
  rw [dist, this]
  rfl
end Cd
namespace Go.Proofs.YtgkohfmgdejkpaaDoor
open Go.RowKit Go.Shelf
attribute [local go_sem] Oper.semAt_some
theorem cDist_no (d gl : Int) (gs : List (List Int)) (G : Value) (w : World) (hT : Tab w) (hG : Rs (Rs RI) w G gs) (h0 : Cd.check d gs gl ≠ 0) :
    Calls Tryd.prog 24 #[.agg #[.int .i64 d, G, .int .i64 gl]] w fun e w' => e = .returned (.tuple #[.int .i64 (Cd.distI d gl gs), .int .i64 (Cd.check d gs gl)]) ∧ Ext w w' := by
  obtain ⟨A, c, rfl, hl⟩ := hG.form
  have hG1 : Rs (Rs RI) (((w.alloc (.cells #[.int .i64 d, .slice A gs.length c, .int .i64 gl] 24)).alloc (.cells #[.int .i64 0] 3)).alloc (.cells #[.int .i64 0] 27)) (.slice A gs.length c) gs := Rs.ext (Rs.ext RI.ext) _ _ _ _ ((((Ext.refl w).alloc _).alloc _).alloc _) hG
  have HT := Lib.hid hT
  have HG := Lib.hid hG1
  have e1 : (Cd.check d gs gl != 0) = true := by rw [bne_iff_ne]; exact h0
  have H0 := Lib.hid h0
  clear hT hG hG1 h0
  refine (callsIn_wide (n := 9)).1 ?_
  refine callsIn_of_wp_marks Tryd.func24 rfl trivial ?_ rfl
  simp only [Tryd.ntmps24, List.size_toArray, List.length_cons, List.length_nil, Nat.reduceAdd, Nat.reduceSub, Array.replicate_succ, Array.replicate_zero, List.push_toArray, List.append_toArray, List.nil_append, List.cons_append]
  gi_wp2_with fail
  refine ⟨trivial, (callsIn_wide.2 (cRows_any d gl gs _ _ (HT.out.ext ((((Ext.refl w).alloc _).alloc _).alloc _)) HG.out)).mono ?_⟩
  rintro e w1 ⟨v, rfl, hv, hx1⟩
  obtain ⟨RA, cR, rfl, _⟩ := hv.form
  have hc1 : w1.cell? ⟨w.heap.size + 1, 0, none⟩ = some (.int .i64 0) := hx1.cell (by go_simp)
  have hc2 : w1.cell? ⟨w.heap.size + 1 + 1, 0, none⟩ = some (.int .i64 0) := hx1.cell (by go_simp)
  have hf1 : w1.frozen? ⟨w.heap.size + 1, 0, none⟩ = false := by rw [Below.frozen hx1 (by simp)]; go_simp
  have hf2 : w1.frozen? ⟨w.heap.size + 1 + 1, 0, none⟩ = false := by rw [Below.frozen hx1 (by simp)]; go_simp
  have hsz1 : w.heap.size + 1 + 1 < w1.heap.size := by have := hx1.size; simp at this; omega
  have HX1 := Lib.hid (((((Ext.refl w).alloc _).alloc _).alloc _).trans hx1)
  have hxa : Ext w1 (w1.alloc (Obj.cells #[Value.slice RA (Cd.rowsOf d gs gl).length cR] 29)) := (Ext.refl w1).alloc _
  have hca1 := hxa.cell hc1
  have hca2 := hxa.cell hc2
  have hfa1 := (Below.frozen hxa (p := ⟨w.heap.size + 1, 0, none⟩) (by simp; omega)).trans hf1
  have hfa2 := (Below.frozen hxa (p := ⟨w.heap.size + 1 + 1, 0, none⟩) (by simp; omega)).trans hf2
  clear hv hx1 hxa
  gi_wp2_with fail
  obtain ⟨wq, hwq⟩ : ∃ wq, w1.alloc (Obj.cells #[Value.slice RA (Cd.rowsOf d gs gl).length cR] 29) = wq := ⟨_, rfl⟩
  have g1 : ((wq.setCell ⟨w.heap.size + 1, 0, none⟩ (.int .i64 0)).setCell ⟨w.heap.size + 1 + 1, 0, none⟩ (.int .i64 (Cd.check d gs gl))).cell? ⟨w.heap.size + 1, 0, none⟩ = some (.int .i64 0) := by subst hwq; go_simp
  have g2 : ((wq.setCell ⟨w.heap.size + 1, 0, none⟩ (.int .i64 0)).setCell ⟨w.heap.size + 1 + 1, 0, none⟩ (.int .i64 (Cd.check d gs gl))).cell? ⟨w.heap.size + 1 + 1, 0, none⟩ = some (.int .i64 (Cd.check d gs gl)) := by subst hwq; go_simp
  have hxq : Ext w wq := by subst hwq; exact HX1.out.alloc _
  rw [hwq]
  refine ⟨.tuple #[.int .i64 0, .int .i64 (Cd.check d gs gl)], by simp [results, Tryd.f24, go_sem, g1, g2], ?_, (hxq.below.setCell (p := ⟨w.heap.size + 1, 0, none⟩) (by simp) _).setCell (p := ⟨w.heap.size + 1 + 1, 0, none⟩) (by simp; omega) _⟩
  rw [Cd.distI, if_neg H0.out]
/-- The size that Distance has come to, read in its box. -/
def sizeAt (a : Act) (w : World) : Nat := match a.tmps.getD 7 undef with
  | .pointer (some p) => match w.cell? p with
    | some (.int _ s) => s.toNat
    | _ => 0
  | _ => 0
theorem sizeAt_eq {a : Act} {w : World} {p : Addr} {s : Nat} (h : a.tmps.getD 7 undef = .pointer (some p)) (hc : w.cell? p = some (.int .i64 s)) : sizeAt a w = s := by
  unfold sizeAt
  rw [h]
  dsimp only
  rw [hc]
  simp
set_option maxRecDepth 100000 in
set_option maxHeartbeats 8000000 in
theorem cDist_ok (d gl : Nat) (gs : List (List Int)) (G : Value) (w : World) (hT : Tab w) (hG : Rs (Rs RI) w G gs) (h0 : Cd.check d gs gl = 0) (hn : (Cd.rowsOf (d : Int) gs (gl : Int)).length ≤ 14) :
    Calls Tryd.prog 24 #[.agg #[.int .i64 d, G, .int .i64 gl]] w fun e w' => e = .returned (.tuple #[.int .i64 (Cd.distI d gl gs), .int .i64 (Cd.check d gs gl)]) ∧ Ext w w' := by
  obtain ⟨A, c, rfl, hl⟩ := hG.form
  have hG1 : Rs (Rs RI) (((w.alloc (.cells #[.int .i64 d, .slice A gs.length c, .int .i64 gl] 24)).alloc (.cells #[.int .i64 0] 3)).alloc (.cells #[.int .i64 0] 27)) (.slice A gs.length c) gs := Rs.ext (Rs.ext RI.ext) _ _ _ _ ((((Ext.refl w).alloc _).alloc _).alloc _) hG
  have HT := Lib.hid hT
  have HG := Lib.hid hG1
  have e1 : (Cd.check (d : Int) gs (gl : Int) != 0) = false := by rw [h0]; rfl
  have hk := Cd.check_ok h0
  have hrl := Cd.rowsOf_len h0
  have H0 := Lib.hid h0
  clear hT hG hG1 h0
  refine (callsIn_wide (n := 9)).1 ?_
  refine callsIn_of_wp_marks Tryd.func24 rfl trivial ?_ rfl
  simp only [Tryd.ntmps24, List.size_toArray, List.length_cons, List.length_nil, Nat.reduceAdd, Nat.reduceSub, Array.replicate_succ, Array.replicate_zero, List.push_toArray, List.append_toArray, List.nil_append, List.cons_append]
  gi_wp2_with fail
  refine ⟨trivial, (callsIn_wide.2 (cRows_any d gl gs _ _ (HT.out.ext ((((Ext.refl w).alloc _).alloc _).alloc _)) HG.out)).mono ?_⟩
  rintro e w1 ⟨v, rfl, hv, hx1⟩
  obtain ⟨RA, cR, rfl, _⟩ := hv.form
  have hc1 : w1.cell? ⟨w.heap.size + 1, 0, none⟩ = some (.int .i64 0) := hx1.cell (by go_simp)
  have hc2 : w1.cell? ⟨w.heap.size + 1 + 1, 0, none⟩ = some (.int .i64 0) := hx1.cell (by go_simp)
  have hf1 : w1.frozen? ⟨w.heap.size + 1, 0, none⟩ = false := by rw [Below.frozen hx1 (by simp)]; go_simp
  have hf2 : w1.frozen? ⟨w.heap.size + 1 + 1, 0, none⟩ = false := by rw [Below.frozen hx1 (by simp)]; go_simp
  have hsz1 : w.heap.size + 1 + 1 < w1.heap.size := by have := hx1.size; simp at this; omega
  have HX1 := Lib.hid (((((Ext.refl w).alloc _).alloc _).alloc _).trans hx1)
  have HV := Lib.hid hv
  have HC := Lib.hid (And.intro hc1 (And.intro hc2 (And.intro hf1 hf2)))
  obtain ⟨n, hnn⟩ : ∃ n, (Cd.rowsOf (d : Int) gs (gl : Int)).length = n := ⟨_, rfl⟩
  rw [hnn] at hn hrl
  rw [hnn]
  have hn1 : 1 ≤ n := by omega
  have HN := Lib.hid hnn
  have HK := Lib.hid hk
  clear hv hx1 hnn hc1 hc2 hf1 hf2 hk hrl
  gi_wp2_with fail
  obtain ⟨wp, hwp⟩ : ∃ wp, ((w1.alloc (Obj.cells #[Value.slice RA n cR] 29)).alloc (Obj.cells #[Value.int IntKind.i64 ↑n] 3)).alloc (Obj.cells #[Value.int IntKind.i64 1] 3) = wp := ⟨_, rfl⟩
  have hxp : Ext w1 wp := by rw [← hwp]; exact (((Ext.refl w1).alloc _).alloc _).alloc _
  have hszp : w1.heap.size + 1 + 1 < wp.heap.size := by rw [← hwp]; simp
  have p4 : wp.cell? ⟨w1.heap.size, 0, none⟩ = some (.slice RA n cR) := by subst hwp; go_simp
  have p6 : wp.cell? ⟨w1.heap.size + 1, 0, none⟩ = some (.int .i64 n) := by subst hwp; go_simp
  have p7 : wp.cell? ⟨w1.heap.size + 1 + 1, 0, none⟩ = some (.int .i64 1) := by subst hwp; go_simp
  rw [hwp]
  have HP := Lib.hid (And.intro hxp (And.intro p4 (And.intro p6 p7)))
  clear hwp hxp p4 p6 p7
  refine wpIn_loop (fun a w' => ∃ (s B7 hi : Nat) (u8 u19 u20 u21 u22 u23 u24 u25 u26 u27 u28 u29 u30 u31 u32 u33 u34 u35 u36 u37 : Value) (ds : List Deferred), 1 ≤ s ∧ s ≤ n ∧ B7 < w'.heap.size ∧ hi ≤ w'.heap.size ∧ a = ⟨#[Value.agg #[Value.int IntKind.i64 ↑d, Value.slice A gs.length c, Value.int IntKind.i64 ↑gl],
          Value.pointer (some { block := w.heap.size, off := 0 }),
          Value.pointer (some { block := w.heap.size + 1, off := 0 }),
          Value.pointer (some { block := w.heap.size + 1 + 1, off := 0 }),
          Value.pointer (some { block := w1.heap.size, off := 0 }), Value.int IntKind.i64 (Cd.check (↑d) gs ↑gl),
          Value.pointer (some { block := w1.heap.size + 1, off := 0 }),
          Value.pointer (some { block := B7, off := 0 }), u8,
          Value.tuple #[Value.slice RA n cR, Value.int IntKind.i64 (Cd.check (↑d) gs ↑gl)],
          Value.agg #[Value.int IntKind.i64 ↑d, Value.slice A gs.length c, Value.int IntKind.i64 ↑gl],
          Value.tuple #[Value.slice RA n cR, Value.int IntKind.i64 (Cd.check (↑d) gs ↑gl)], Value.slice RA n cR,
          Value.int IntKind.i64 (Cd.check (↑d) gs ↑gl), Value.int IntKind.i64 (Cd.check (↑d) gs ↑gl), Value.bool false,
          undef, Value.slice RA n cR, Value.int IntKind.i64 ↑n, u19, u20, u21, u22, u23, u24, u25, u26, u27, u28, u29, u30, u31, u32, u33, u34, u35, u36, u37, undef], ds⟩ ∧ w'.cell? ⟨B7, 0, none⟩ = some (.int .i64 s) ∧ Hid ((∀ t, 1 ≤ t → t < s → Cd.lossOk d gl gs t = true) ∧ Ext wp w' ∧ MarksOk wp.heap.size hi w' ds)) (fun a w' => n - sizeAt a w') ?_ ?_
  · exact ⟨1, w1.heap.size + 1 + 1, wp.heap.size, _, _, _, _, _, _, _, _, _, _, _, _, _, _, _, _, _, _, _, _, [], Nat.le_refl _, hn1, hszp, Nat.le_refl _, rfl, HP.out.2.2.2, fun t h1 h2 => by omega, Ext.refl _, trivial⟩
  · rintro a wr ⟨s, B7, hi, u8, u19, u20, u21, u22, u23, u24, u25, u26, u27, u28, u29, u30, u31, u32, u33, u34, u35, u36, u37, ds, hs1, hsn, hB7, hhi, rfl, c7, HI⟩
    have c4 : wr.cell? ⟨w1.heap.size, 0, none⟩ = some (.slice RA n cR) := HI.out.2.1.cell HP.out.2.1
    have c6 : wr.cell? ⟨w1.heap.size + 1, 0, none⟩ = some (.int .i64 n) := HI.out.2.1.cell HP.out.2.2.1
    have hszw := HI.out.2.1.size
    by_cases hlt : s < n
    · gi_wp2_with fail
      refine ⟨trivial, (callsIn_wide.2 (cSets_any n s wr)).mono ?_⟩
      rintro e w2 ⟨rfl, rfl⟩
      gi_wp2_with fail
      have hMle : 2 ^ n ≤ 16384 := show 2 ^ n ≤ 2 ^ 14 from Nat.pow_le_pow_right (by decide) hn
      have hM1 : 1 ≤ 2 ^ n := Nat.one_le_two_pow
      have hMw : IntKind.i64.wrap (2 ^ n) = ((2 ^ n : Nat) : Int) := by
        have h := wrap_pow n (by omega)
        rw [IntKind.wrap_i64]
        unfold wrap64 at h
        exact h
      obtain ⟨M, hM⟩ : ∃ M, 2 ^ n = M := ⟨_, rfl⟩
      rw [hM] at hMle hM1 hMw
      have HMM := Lib.hid hM
      have HMW := Lib.hid hMw
      have HC7 := Lib.hid (And.intro c4 (And.intro c6 c7))
      clear hM hMw c4 c6 c7
      obtain ⟨W2, hW2⟩ : ∃ W2, (wr.alloc (Obj.cells #[Value.int IntKind.i64 ↑n] 3)).alloc (Obj.cells #[Value.int IntKind.i64 ↑s] 3) = W2 := ⟨_, rfl⟩
      have hx2 : Ext wr W2 := by subst hW2; exact ((Ext.refl wr).alloc _).alloc _
      have hs2 : W2.heap.size = wr.heap.size + 2 := by subst hW2; simp
      have q1 : W2.cell? ⟨wr.heap.size, 0, none⟩ = some (.int .i64 n) := by subst hW2; go_simp
      have q2 : W2.cell? ⟨wr.heap.size + 1, 0, none⟩ = some (.int .i64 s) := by subst hW2; go_simp
      rw [hW2]
      have HX2 := Lib.hid hx2
      clear hW2 hx2
      refine wpIn_rangeFunc_ownF rfl (by decide) (gf := 61) (lb := #[.pointer (some ⟨wr.heap.size, 0, none⟩), .pointer (some ⟨wr.heap.size + 1, 0, none⟩)]) rfl trivial (enters_of Tryd.func61 (by kernel_rfl) rfl) (sets1_stops n s _ _ 8 _ hn q1 q2) belowK_t (belowK_b (Nat.le_refl _)) (Below.refl _ _) (fun _ => rfl)
        (fun pre W => (∀ x ∈ pre, Cd.can d gl gs ((M : Int) - 1 - x.1) = true) ∧ Below W2.heap.size W2 W)
        (fun c pre W => (c = .ret ∧ ∃ x ∈ pre, Cd.can d gl gs ((M : Int) - 1 - x.1) = false) ∧ (W.cell? ⟨w.heap.size + 1, 0, none⟩ = some (.int .i64 s) ∧ W.cell? ⟨w.heap.size + 1 + 1, 0, none⟩ = some (.int .i64 0)) ∧ Below w.heap.size w W ∧ MarksOk wp.heap.size hi W ds)
        (OwnFrom.and (ownFrom_pure _ _) (ownFrom_below (Nat.le_refl _) (Nat.le_refl _)))
        (fun c => OwnFrom.and (ownFrom_pure _ _) (OwnFrom.and (Own.from (fun s A B row hs hg hr => ⟨cell_kept hs.1 hg hr, cell_kept hs.2 hg hr⟩) _) (OwnFrom.and (ownFrom_below (Nat.le_refl _) (by omega)) (ownFrom_marks (by omega)))))
        ⟨by simp, Below.refl _ _⟩
        (fun x => { tmps := #[Value.agg #[Value.int IntKind.i64 ↑d, Value.slice A gs.length c, Value.int IntKind.i64 ↑gl],
          Value.pointer (some { block := w.heap.size, off := 0 }),
          Value.pointer (some { block := w.heap.size + 1, off := 0 }),
          Value.pointer (some { block := w.heap.size + 1 + 1, off := 0 }),
          Value.pointer (some { block := w1.heap.size, off := 0 }), Value.int IntKind.i64 (Cd.check (↑d) gs ↑gl),
          Value.pointer (some { block := w1.heap.size + 1, off := 0 }),
          Value.pointer (some { block := B7, off := 0 }), .int .i64 x.1,
          Value.tuple #[Value.slice RA n cR, Value.int IntKind.i64 (Cd.check (↑d) gs ↑gl)],
          Value.agg #[Value.int IntKind.i64 ↑d, Value.slice A gs.length c, Value.int IntKind.i64 ↑gl],
          Value.tuple #[Value.slice RA n cR, Value.int IntKind.i64 (Cd.check (↑d) gs ↑gl)], Value.slice RA n cR,
          Value.int IntKind.i64 (Cd.check (↑d) gs ↑gl), Value.int IntKind.i64 (Cd.check (↑d) gs ↑gl), Value.bool false,
          undef, Value.slice RA n cR, Value.int IntKind.i64 ↑n, .int .i64 s, .int .i64 n, .bool true, u22, u23, .int .i64 n, .int .i64 s, .func (.func 61) #[] #[.pointer (some ⟨wr.heap.size, 0, none⟩), .pointer (some ⟨wr.heap.size + 1, 0, none⟩)], .int .i64 x.1, u28, u29, u30, u31, u32, u33, u34, u35, u36, u37, undef], defers := [] }) ?assign ?body ?done ?stop
      case assign =>
        intro l x W K hK
        unfold encN
        gi_wp2
        exact hK
      case body =>
        rintro l pre x W ⟨hcan, hB⟩ _
        have hX : Ext wr W := HX2.out.trans hB
        have c4 := hX.cell HC7.out.1
        have c6 := hX.cell HC7.out.2.1
        have HI2 := Lib.hid (And.intro hcan hX)
        have HB := Lib.hid hB
        clear hcan hB hX
        gi_wp2_with fail
        refine wpIn_atEnd' (dist_region l w1.heap.size (w1.heap.size + 1) n M x.1 cR d gl gs RA W hn hMle hM1 HMW.out x.2 c4 c6 (Lib.hid (HT.out.ext (HX1.out.trans (HP.out.1.trans (HI.out.2.1.trans HI2.out.2))))) H0 (Lib.hid (Rs.ext (Rs.ext RB.ext) _ _ _ _ (HP.out.1.trans (HI.out.2.1.trans HI2.out.2)) (by have h := HV.out; rw [HN.out] at h; exact h))) HN _ _ _ _ _ _ _ _ _ _ _ _ _ _ _ _ _ _ _ _ _ _ _ _ _ _ _ _ _ _ _ _ _ _ _ _ _ _ ?_)
        intro q u28 u29 u30 u31 u32 u33 u34 wx hq hxx
        have hxx1 : Ext w1 wx := HP.out.1.trans (HI.out.2.1.trans (HI2.out.2.trans hxx))
        have HXX := Lib.hid hxx
        have HXX1 := Lib.hid hxx1
        cases q with
        | none =>
          have c7 := hxx.cell (HI2.out.2.cell HC7.out.2.2)
          have r1 := hxx1.cell HC.out.1
          have r2 := hxx1.cell HC.out.2.1
          have f1 : wx.frozen? ⟨w.heap.size + 1, 0, none⟩ = false := (Below.frozen hxx1 (by simp; omega)).trans HC.out.2.2.1
          have f2 : wx.frozen? ⟨w.heap.size + 1 + 1, 0, none⟩ = false := (Below.frozen hxx1 (by simp; omega)).trans HC.out.2.2.2
          have HQ := Lib.hid hq
          clear hxx hxx1 hq
          gi_wp2_with fail
          exact ⟨HXX.out.keepsOthers.trans ((KeepsOthers.setCell _ _ _).trans (KeepsOthers.setCell _ _ _)), ⟨rfl, x, by simp, HQ.out⟩, ⟨by go_simp, by go_simp⟩, ((HX1.out.trans HXX1.out).setCell (p := ⟨w.heap.size + 1, 0, none⟩) (by simp) _).setCell (p := ⟨w.heap.size + 1 + 1, 0, none⟩) (by simp; omega) _, (HI.out.2.2.ext (HI2.out.2.trans HXX.out)).kept (Nat.le_refl _) (fun D _ _ h => ((KeepsOthers.setCell _ _ _).trans (KeepsOthers.setCell _ _ _)).same D _ h rfl)⟩
        | some q =>
          have HQ := Lib.hid hq
          clear hxx hxx1 hq
          gi_wp2_with fail
          exact ⟨HXX.out.keepsOthers, Below.mono HXX.out HB.out.size, fun y hy => by
            rcases List.mem_append.1 hy with hy | hy
            · exact HI2.out.1 y hy
            · rw [List.mem_singleton.1 hy]; exact HQ.out, HB.out.trans (Below.mono HXX.out HB.out.size)⟩
      case done =>
        rintro D xs W hD hS ⟨hcan, hB⟩ hK
        have hX : Ext wr W := HX2.out.trans hB
        have c7 := hX.cell HC7.out.2.2
        have hDl := (Array.getElem?_eq_some_iff.1 hK).1
        have hloss : Cd.lossOk d gl gs s = true := by
          unfold Cd.lossOk
          rw [HN.out, HMM.out, List.all_eq_true]
          intro y hy
          rw [← hS] at hy
          obtain ⟨x, hx, rfl⟩ := List.mem_map.1 hy
          exact hcan x hx
        have HX := Lib.hid hX
        have HL := Lib.hid (And.intro hloss hK)
        clear hcan hB hX hloss hS hK
        gi_wp2_with fail
        have cn : (W.alloc (Obj.cells #[Value.int IntKind.i64 ((s : Int) + 1)] 3)).cell? ⟨W.heap.size, 0, none⟩ = some (.int .i64 ((s : Int) + 1)) := by go_simp
        have cn2 := cn.trans (congrArg some (show Value.int .i64 ((s : Int) + 1) = .int .i64 ((s + 1 : Nat) : Int) from rfl))
        have hxa : Ext W (W.alloc (Obj.cells #[Value.int IntKind.i64 ((s : Int) + 1)] 3)) := (Ext.refl W).alloc _
        refine ⟨⟨s + 1, W.heap.size, D + 1, _, _, _, _, _, _, _, _, _, _, _, _, _, _, _, _, _, _, _, _, _, by omega, by omega, by simp, by simp; omega, rfl, cn2, fun t h1 h2 => ?_, HI.out.2.1.trans (HX.out.trans hxa), (HI.out.2.2.ext (HX.out.trans hxa)).push (fun _ _ _ h => h) (by omega) (by omega) (hxa.heap HL.out.2)⟩, ?_⟩
        · by_cases hts : t = s
          · rw [hts]; exact HL.out.1
          · exact HI.out.1 t h1 (by omega)
        · rw [sizeAt_eq rfl cn2, sizeAt_eq rfl HC7.out.2.2]
          omega
      case stop =>
        rintro D c pre W hD hS ⟨⟨rfl, x, hx, hcan⟩, hcells, hBw, hMk⟩ hK
        have hloss : Cd.lossOk d gl gs s = false := by
          obtain ⟨k, hk, hS⟩ := hS
          unfold Cd.lossOk
          rw [HN.out, HMM.out, List.all_eq_false]
          have hin : x.1 ∈ Cd.setsTo s (k + 1) := by rw [← hS]; exact List.mem_map.2 ⟨x, hx, rfl⟩
          have hin2 : x.1 ∈ Cd.setsL n s := by
            unfold Cd.setsTo at hin
            unfold Cd.setsL Cd.setsTo
            rw [List.mem_filter, List.mem_range] at hin ⊢
            exact ⟨by omega, hin.2⟩
          exact ⟨x.1, hin2, by rw [hcan]; simp⟩
        have hdist := Cd.dist_found (by rw [HN.out]; exact hlt) hs1 HI.out.1 hloss
        gi_wp2_with fail
        refine leaves_marks (hMk.push (fun _ _ _ h => h) (by omega) (by omega) hK) fun w' hw' => ?_
        have hr1 := (Below.cell hw' (p := ⟨w.heap.size + 1, 0, none⟩) (by simp; omega)).trans hcells.1
        have hr2 := (Below.cell hw' (p := ⟨w.heap.size + 1 + 1, 0, none⟩) (by simp; omega)).trans hcells.2
        refine ⟨.tuple #[.int .i64 s, .int .i64 0], by simp [results, Tryd.f24, go_sem, hr1, hr2], ?_, hBw.trans (Below.mono hw' (by omega))⟩
        rw [Cd.distI, if_pos H0.out, hdist, H0.out]
    · obtain rfl : s = n := by omega
      have hdist := Cd.dist_none (fun t h1 h2 => HI.out.1 t h1 (by rw [HN.out] at h2; exact h2))
      have hx1 : Ext w1 wr := HP.out.1.trans HI.out.2.1
      have r1 := hx1.cell HC.out.1
      have r2 := hx1.cell HC.out.2.1
      have f1 : wr.frozen? ⟨w.heap.size + 1, 0, none⟩ = false := (Below.frozen hx1 (by simp; omega)).trans HC.out.2.2.1
      have f2 : wr.frozen? ⟨w.heap.size + 1 + 1, 0, none⟩ = false := (Below.frozen hx1 (by simp; omega)).trans HC.out.2.2.2
      have HD := Lib.hid hdist
      have HX := Lib.hid (HX1.out.trans hx1)
      clear hdist hx1
      gi_wp2_with fail
      have hM : MarksOk wp.heap.size hi ((wr.setCell ⟨w.heap.size + 1, 0, none⟩ (.int .i64 s)).setCell ⟨w.heap.size + 1 + 1, 0, none⟩ (.int .i64 0)) ds := HI.out.2.2.kept (Nat.le_refl _) (fun D _ _ h => ((KeepsOthers.setCell _ _ _).trans (KeepsOthers.setCell _ _ _)).same D _ h rfl)
      refine leaves_marks hM fun w' hw' => ?_
      have g1 : ((wr.setCell ⟨w.heap.size + 1, 0, none⟩ (.int .i64 s)).setCell ⟨w.heap.size + 1 + 1, 0, none⟩ (.int .i64 0)).cell? ⟨w.heap.size + 1, 0, none⟩ = some (.int .i64 s) := by go_simp
      have g2 : ((wr.setCell ⟨w.heap.size + 1, 0, none⟩ (.int .i64 s)).setCell ⟨w.heap.size + 1 + 1, 0, none⟩ (.int .i64 0)).cell? ⟨w.heap.size + 1 + 1, 0, none⟩ = some (.int .i64 0) := by go_simp
      have hr1 := (Below.cell hw' (p := ⟨w.heap.size + 1, 0, none⟩) (by simp; omega)).trans g1
      have hr2 := (Below.cell hw' (p := ⟨w.heap.size + 1 + 1, 0, none⟩) (by simp; omega)).trans g2
      refine ⟨.tuple #[.int .i64 s, .int .i64 0], by simp [results, Tryd.f24, go_sem, hr1, hr2], ?_, ((HX.out.below.setCell (p := ⟨w.heap.size + 1, 0, none⟩) (by simp) _).setCell (p := ⟨w.heap.size + 1 + 1, 0, none⟩) (by simp; omega) _).trans (Below.mono hw' (by omega))⟩
      rw [Cd.distI, if_pos H0.out, HD.out, HN.out, H0.out]
/-- DISTANCE: what the plain text says, for codes of at most 14 pieces. -/
theorem cDist_any (d gl : Int) (gs : List (List Int)) (G : Value) (w : World) (hT : Tab w) (hG : Rs (Rs RI) w G gs) (hn : (Cd.rowsOf d gs gl).length ≤ 14) :
    Calls Tryd.prog 24 #[.agg #[.int .i64 d, G, .int .i64 gl]] w fun e w' => e = .returned (.tuple #[.int .i64 (Cd.distI d gl gs), .int .i64 (Cd.check d gs gl)]) ∧ Ext w w' := by
  by_cases h0 : Cd.check d gs gl = 0
  · have hk := Cd.check_ok h0
    obtain ⟨d', rfl⟩ : ∃ k : Nat, d = k := ⟨d.toNat, by omega⟩
    obtain ⟨gl', rfl⟩ : ∃ k : Nat, gl = k := ⟨gl.toNat, by omega⟩
    exact cDist_ok d' gl' gs G w hT hG h0 hn
  · exact cDist_no d gl gs G w hT hG h0
end Go.Proofs.YtgkohfmgdejkpaaDoor
