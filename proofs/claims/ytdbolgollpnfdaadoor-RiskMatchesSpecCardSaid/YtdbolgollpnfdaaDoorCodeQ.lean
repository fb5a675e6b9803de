/- THE WALK over code.Rows. -/
import Derived.Test.YtdbolgollpnfdaaDoorCodeP
import Derived.RegionTactic
import Derived.BigRegion
namespace Cd
/-- The rows of a code; none if Check has an error. -/
def rowsOf (d : Int) (gs : List (List Int)) (gl : Int) : List (List UInt8) := if check d gs gl = 0 then rows d.toNat gs gl.toNat else []
theorem rowsOf_ok {d gl : Int} {gs : List (List Int)} (h : check d gs gl = 0) : rowsOf d gs gl = rows d.toNat gs gl.toNat := if_pos h
theorem rowsOf_no {d gl : Int} {gs : List (List Int)} (h : check d gs gl ≠ 0) : rowsOf d gs gl = [] := if_neg h
def rows1 (d k : Nat) : List (List UInt8) := (List.range k).map fun k => rowOf d (unitAt k)
def rows2 (d : Nat) (gs : List (List Int)) : List (List UInt8) := gs.map fun g => rowOf d (inAt (setOf 0 g))
def rows3 (d k : Nat) : List (List UInt8) := (List.range k).map fun j => rowOf d (gloAt j)
theorem rows_parts (d : Nat) (gs : List (List Int)) (gl : Nat) : rows1 d d ++ rows2 d gs ++ rows3 d gl = rows d gs gl := rfl
theorem rows1_succ (d k : Nat) : rows1 d (k + 1) = rows1 d k ++ [rowOf d (unitAt k)] := by simp [rows1, List.range_succ]
theorem rows3_succ (d k : Nat) : rows3 d (k + 1) = rows3 d k ++ [rowOf d (gloAt k)] := by simp [rows3, List.range_succ]
theorem rows2_take {d k : Nat} {gs : List (List Int)} (h : k < gs.length) : rows2 d (gs.take (k + 1)) = rows2 d (gs.take k) ++ [rowOf d (inAt (setOf 0 gs[k]))] := by
  rw [rows2, List.take_succ_eq_append_getElem h, List.map_append]; rfl
theorem rows1_length (d k : Nat) : (rows1 d k).length = k := by simp [rows1]
theorem rows2_length (d : Nat) (gs : List (List Int)) : (rows2 d gs).length = gs.length := by simp [rows2]
theorem rows3_length (d k : Nat) : (rows3 d k).length = k := by simp [rows3]
theorem rowOf_length (d : Nat) (g : Nat → UInt8) : (rowOf d g).length = d := by simp [rowOf]
theorem rows_len (d : Nat) (gs : List (List Int)) (gl : Nat) : (rows d gs gl).length = d + gs.length + gl := by
  rw [← rows_parts]; simp [rows1_length, rows2_length, rows3_length]; omega
theorem rows_width {d : Nat} {gs : List (List Int)} {gl : Nat} {r : List UInt8} (h : r ∈ rows d gs gl) : r.length = d := by
  simp only [rows, List.mem_append, List.mem_map] at h
  rcases h with (⟨k, _, rfl⟩ | ⟨g, _, rfl⟩) | ⟨k, _, rfl⟩ <;> exact rowOf_length _ _
attribute [irreducible] rowsOf rows1 rows2 rows3
end Cd
namespace Go.Proofs.YtdbolgollpnfdaaDoor
open Go.RowKit

theorem RowsOut.rs {w0 w : World} {P : Nat} {rs : List (List UInt8)} (h : RowsOut w0 w P rs) (hw : ∀ r ∈ rs, r.length ≤ 9223372036854775807) (hn : rs.length ≤ 9223372036854775807) :
    ∃ A c, w.cell? ⟨P, 0, none⟩ = some (.slice A rs.length c) ∧ Rs (Rs RB) w (.slice A rs.length c) rs := by
  obtain ⟨A, c, hs, hl, hO⟩ := h
  refine ⟨A, c, hO.cell 0 rfl 0 rfl, A, c, rfl, hn, fun i r hi => ?_⟩
  have hi' : i < rs.length := (List.getElem?_eq_some_iff.1 hi).1
  have hr := (List.getElem?_eq_some_iff.1 hi).2
  have hin : (inner hs rs)[i]? = some (inner1 (hs[i]'(by omega)) r) := by
    unfold inner
    rw [List.getElem?_eq_getElem (by simp; omega), List.getElem_zipWith, hr]
  have hrd : Rd w A ((inner hs rs).map (·.v)) := hO.rd 1 rfl
  obtain ⟨ad, hA, _, hc⟩ := hrd i _ (by rw [List.getElem?_map, hin]; rfl)
  refine ⟨ad, _, hA, hc, ?_⟩
  refine Rs.of_rd ?_ (hw r (List.mem_of_getElem? hi))
  exact hO.rd (i + 2) (n := r.length) (by simpa [inner1] using hin)

theorem RowsOut.start {wb : World} : RowsOut wb (wb.alloc (.cells #[.slice none 0 0] 62)) wb.heap.size [] := by
  refine ⟨none, 0, [], rfl, ?_⟩
  have h1 := (Owns.start wb (L := [no, nilRow 63]) (by intro r hr; simp [no, nilRow] at hr; rcases hr with rfl | rfl <;> simp)).new 0 #[.slice none 0 0] 62 (by simp [maxLen])
  exact h1

theorem cRows_no (d gl : Int) (gs : List (List Int)) (G : Value) (w : World) (hG : Rs (Rs RI) w G gs) (h0 : Cd.check d gs gl ≠ 0) :
    Calls Tryd.prog 43 #[.agg #[.int .i64 d, G, .int .i64 gl]] w fun e w' => e = .returned (.tuple #[.slice none 0 0, .int .i64 (Cd.check d gs gl)]) ∧ Ext w w' := by
  have hx0 := (Ext.refl w).alloc (.cells #[.int .i64 d, G, .int .i64 gl] 24)
  have HX := Lib.hid (And.intro hx0 (Rs.ext (Rs.ext RI.ext) _ _ _ _ hx0 hG))
  obtain ⟨A, c, rfl, hl⟩ := hG.form
  clear hG hx0
  have e1 : (Cd.check d gs gl != 0) = true := by rw [bne_iff_ne]; exact h0
  clear h0
  go_enter Tryd.func43, Tryd.ntmps43
  go_wp2_with fail
  refine (cCheck_any d gl gs _ _ HX.out.2).mono ?_
  rintro e w1 ⟨rfl, hx1⟩
  have HX1 := Lib.hid (HX.out.1.trans hx1)
  clear hx1
  go_wp2_with fail
  go_ret2
  exact ⟨rfl, HX1.out⟩
set_option maxRecDepth 100000 in
theorem cRows_ok (d gl : Nat) (gs : List (List Int)) (G : Value) (w : World) (hT : Tab w) (hG : Rs (Rs RI) w G gs) (h0 : Cd.check d gs gl = 0) :
    Calls Tryd.prog 43 #[.agg #[.int .i64 d, G, .int .i64 gl]] w fun e w' => ∃ v, e = .returned (.tuple #[v, .int .i64 0]) ∧ Rs (Rs RB) w' v (Cd.rows d gs gl) ∧ Ext w w' := by
  have hx0 := (Ext.refl w).alloc (.cells #[.int .i64 d, G, .int .i64 gl] 24)
  have HX := Lib.hid (And.intro hx0 (Rs.ext (Rs.ext RI.ext) _ _ _ _ hx0 hG))
  have HT := Lib.hid hT
  obtain ⟨A, c, rfl, hl⟩ := hG.form
  have hk := Cd.check_ok h0
  obtain ⟨k1, k2, k3, k4, k5, k6⟩ := hk
  have H0 := Lib.hid h0
  clear hG hx0 hT h0 k1 k3
  have e1 : (Cd.check d gs gl != 0) = false := by rw [H0.out]; rfl
  go_enter Tryd.func43, Tryd.ntmps43
  go_wp2_with fail
  refine (cCheck_any d gl gs _ _ HX.out.2).mono ?_
  rintro e w1 ⟨rfl, hx1⟩
  have HX1 := Lib.hid (HX.out.1.trans hx1)
  have hc0 : w1.cell? ⟨w.heap.size, 0, none⟩ = some (.int .i64 d) := hx1.cell (by go_simp)
  have hc1 : w1.cell? ⟨w.heap.size, 1, none⟩ = some (.slice A gs.length c) := hx1.cell (by go_simp)
  have hc2 : w1.cell? ⟨w.heap.size, 2, none⟩ = some (.int .i64 gl) := hx1.cell (by go_simp)
  have HC := Lib.hid (And.intro hc0 (And.intro hc1 hc2))
  have HG := Lib.hid (Rs.ext (Rs.ext RI.ext) _ _ _ _ hx1 HX.out.2)
  clear hx1
  have HR0 := Lib.hid (RowsOut.start (wb := w1))
  have ha0 := HR0.out.ext.cell hc0
  have Q0 := Lib.hid ha0
  clear hc0 hc1 hc2
  go_wp2_with fail
  clear ha0
  go_loopw [22] (fun vi wr => ∃ k : Nat, k ≤ d ∧ vi = .int .i64 k ∧ Hid (RowsOut w1 wr w1.heap.size (Cd.rows1 d k))) (fun vi _ => d - (intOf vi).toNat)
  case atStart => exact ⟨0, Nat.zero_le _, rfl, by rw [show Cd.rows1 d 0 = [] from by simp [Cd.rows1]]; exact HR0.out⟩
  case round =>
    obtain ⟨k, hk, rfl, HR⟩ := hrel
    by_cases hlt : k < d
    · have hcd := (HR.out.ext.alloc (.cells #[.int .i64 k] 3)).cell HC.out.1
      have HCD := Lib.hid hcd
      clear hcd
      go_wp2_with fail
      refine (rows1_any w1 _ w.heap.size w1.heap.size d (Cd.rows1 d k) _ _ (Cd.unitAt k) (by omega) (by rw [Cd.rows1_length]; omega) enters49 ?_ HCD.out (HR.out.next ((Ext.refl _).alloc _))).mono ?_
      · intro i hi w' hx
        exact rows2_any i k _ w' (hx.cell (by go_simp))
      rintro e w2 ⟨rfl, ho⟩
      rw [← Cd.rows1_succ] at ho
      have HO := Lib.hid ho
      clear ho
      go_wp2_with fail
      go_roundw
      case rel => exact ⟨k + 1, by omega, by go_num, HO.out⟩
      case measure => simp [intOf]; omega
    · obtain rfl : k = d := by omega
      have hc1 := HR.out.ext.cell HC.out.2.1
      go_wp2_with fail
      clear hc1
      go_loopw [32] (fun vi wr => ∃ i : Nat, i ≤ gs.length ∧ vi = .int .i64 i ∧ Hid (RowsOut w1 wr w1.heap.size (Cd.rows1 k k ++ Cd.rows2 k (gs.take i)))) (fun vi _ => gs.length - (intOf vi).toNat)
      case atStart => exact ⟨0, Nat.zero_le _, rfl, by rw [List.take_zero, show Cd.rows2 k [] = [] from by simp [Cd.rows2], List.append_nil]; exact HR.out⟩
      case round =>
        obtain ⟨i, hi, rfl, HI⟩ := hrel
        by_cases hlt2 : i < gs.length
        · obtain ⟨ad, u, rfl, hcell, hu⟩ := HG.out.at hlt2
          obtain ⟨B, cB, rfl, hlB⟩ := hu.form
          have hcell' := HI.out.ext.cell hcell
          have HU := Lib.hid (Rs.ext RI.ext _ _ _ _ HI.out.ext hu)
          have hgb := Cd.check_groups_ok H0.out gs[i] (List.getElem_mem hlt2)
          have hstep := Cd.rows2_take (d := k) hlt2
          obtain ⟨g, hg⟩ : ∃ g, gs[i] = g := ⟨_, rfl⟩
          rw [hg] at hcell' HU hlB hgb hstep
          have HGB := Lib.hid (And.intro hgb hstep)
          clear hcell hu hgb hstep hg
          have hOs := ((Owns.start wr (L := []) (by simp)).push1 (u := .int .i64 0) (e := 3))
          rw [List.nil_append] at hOs
          have HS0 := Lib.hid hOs
          clear hOs
          go_wp2_with fail
          go_loopw [38] (fun vj wj => ∃ j s : Nat, j ≤ g.length ∧ vj = .int .i64 j ∧ s < 65536 ∧ Hid (Owns wr wj [⟨.slice (some ⟨wr.heap.size, 0, none⟩) 1 1, 3, 1, 1, [.int .i64 s]⟩] ∧ s = Cd.setOf 0 (g.take j))) (fun vj _ => g.length - (intOf vj).toNat)
          case atStart => exact ⟨0, 0, Nat.zero_le _, rfl, by omega, HS0.out, by rw [List.take_zero, Cd.setOf_nil]⟩
          case round =>
            obtain ⟨j, s, hj, rfl, hs, HS⟩ := hrel
            by_cases hlt3 : j < g.length
            · obtain ⟨bd, u, rfl, hbc, hu⟩ := HU.out.at hlt3
              obtain ⟨rfl, hlo, hhi⟩ := hu
              have hbc' := HS.out.1.ext.cell hbc
              clear hbc
              have hb2 := HGB.out.1 _ (List.getElem_mem hlt3)
              obtain ⟨m, hm⟩ : ∃ m : Nat, g[j] = (m : Int) := ⟨(g[j]).toNat, by omega⟩
              have hst := Cd.setOf_take (s := 0) hlt3
              rw [hm, Int.toNat_natCast, ← HS.out.2] at hst
              have hm16 : m < 16 := by omega
              rw [hm] at hbc'
              have hor := or_pow s m hs hm16
              have hcs := HS.out.1.cell 0 rfl 0 rfl
              have hfs := HS.out.1.frozen 0 rfl 0
              have HOR := Lib.hid (And.intro hor.1 (And.intro hst hor.2))
              clear hor hst hb2 hm hlo hhi
              go_wp2_with fail
              go_region
              all_goals go_wp2_with fail
              all_goals go_roundw
              case rel => exact ⟨j + 1, s ||| 2 ^ m, by omega, by go_num, HOR.out.2.2, by rw [HOR.out.1]; exact (HS.out.1.store 0 rfl 0 _).drew, HOR.out.2.1.symm⟩
              case measure => simp [intOf]; omega
            · obtain rfl : j = g.length := by omega
              have hse : s = Cd.setOf 0 g := by rw [HS.out.2, List.take_length]
              have hcs := HS.out.1.cell 0 rfl 0 rfl
              have HCS := Lib.hid (And.intro hcs (And.intro hse hs))
              have hro := HI.out.next HS.out.1.ext
              have hcd := hro.ext.cell HC.out.1
              have HRO := Lib.hid (And.intro hro hcd)
              clear hcs hse hro hcd
              go_wp2_with fail
              refine (rows1_any w1 _ w.heap.size w1.heap.size k (Cd.rows1 k k ++ Cd.rows2 k (gs.take i)) _ _ (Cd.inAt s) (by omega) (by rw [List.length_append, Cd.rows1_length, Cd.rows2_length, List.length_take]; omega) enters50 ?_ HRO.out.2 HRO.out.1).mono ?_
              · intro i hi w' hx
                exact rows3_any i s _ w' hs (by omega) (hx.cell HCS.out.1)
              rintro e w2 ⟨rfl, ho⟩
              rw [HCS.out.2.1, List.append_assoc, ← HGB.out.2] at ho
              have HO := Lib.hid ho
              clear ho
              go_wp2_with fail
              go_roundw
              case rel => exact ⟨i + 1, by omega, by go_num, HO.out⟩
              case measure => simp [intOf]; omega
        · obtain rfl : i = gs.length := by omega
          have hro := HI.out
          rw [List.take_length] at hro
          have hc2 := hro.ext.cell HC.out.2.2
          have HRO := Lib.hid hro
          clear hro
          go_wp2_with fail
          clear hc2
          go_loopw [53] (fun vj wr => ∃ j : Nat, j ≤ gl ∧ vj = .int .i64 j ∧ Hid (RowsOut w1 wr w1.heap.size (Cd.rows1 k k ++ Cd.rows2 k gs ++ Cd.rows3 k j))) (fun vj _ => gl - (intOf vj).toNat)
          case atStart => exact ⟨0, Nat.zero_le _, rfl, by rw [show Cd.rows3 k 0 = [] from by simp [Cd.rows3], List.append_nil]; exact HRO.out⟩
          case round =>
            obtain ⟨j, hj, rfl, HJ⟩ := hrel
            by_cases hlt3 : j < gl
            · have hcd := (HJ.out.ext.alloc (.cells #[.int .i64 j] 3)).cell HC.out.1
              have HCD := Lib.hid hcd
              clear hcd
              go_wp2_with fail
              refine (rows1_any w1 _ w.heap.size w1.heap.size k (Cd.rows1 k k ++ Cd.rows2 k gs ++ Cd.rows3 k j) _ _ (Cd.gloAt j) (by omega) (by simp only [List.length_append, Cd.rows1_length, Cd.rows2_length, Cd.rows3_length]; omega) enters51 ?_ HCD.out (HJ.out.next ((Ext.refl _).alloc _))).mono ?_
              · intro i hi w' hx
                exact rows4_any i j _ w' (((HT.out.ext HX1.out).ext HJ.out.ext).ext (((Ext.refl _).alloc _).trans hx)) (by omega) (by omega) (hx.cell (by go_simp))
              rintro e w2 ⟨rfl, ho⟩
              rw [List.append_assoc, ← Cd.rows3_succ] at ho
              have HO := Lib.hid ho
              clear ho
              go_wp2_with fail
              go_roundw
              case rel => exact ⟨j + 1, by omega, by go_num, HO.out⟩
              case measure => simp [intOf]; omega
            · obtain rfl : j = gl := by omega
              have hro := HJ.out
              rw [Cd.rows_parts] at hro
              obtain ⟨A2, c2, hcell, hrs⟩ := hro.rs (fun r hr => by rw [Cd.rows_width hr]; omega) (by rw [Cd.rows_len]; omega)
              have HRO := Lib.hid (And.intro hro hrs)
              clear hro hrs
              go_wp2_with fail
              go_ret2
              exact ⟨_, rfl, HRO.out.2, HX1.out.trans HRO.out.1.ext⟩
/-- `Rows` of a code: a row for each piece, and the first error; nothing that was there is changed. -/
theorem cRows_any (d gl : Int) (gs : List (List Int)) (G : Value) (w : World) (hT : Tab w) (hG : Rs (Rs RI) w G gs) :
    Calls Tryd.prog 43 #[.agg #[.int .i64 d, G, .int .i64 gl]] w fun e w' => ∃ v, e = .returned (.tuple #[v, .int .i64 (Cd.check d gs gl)]) ∧ Rs (Rs RB) w' v (Cd.rowsOf d gs gl) ∧ Ext w w' := by
  by_cases h0 : Cd.check d gs gl = 0
  · have hk := Cd.check_ok h0
    rw [Cd.rowsOf_ok h0, h0]
    obtain ⟨n, rfl⟩ : ∃ n : Nat, d = n := ⟨d.toNat, by omega⟩
    obtain ⟨m, rfl⟩ : ∃ m : Nat, gl = m := ⟨gl.toNat, by omega⟩
    exact cRows_ok n m gs G w hT hG h0
  · refine (cRows_no d gl gs G w hG h0).mono ?_
    rintro e w' ⟨rfl, hx⟩
    rw [Cd.rowsOf_no h0]
    exact ⟨_, rfl, ⟨none, 0, rfl, by simp, fun i x h => by simp at h⟩, hx⟩
end Go.Proofs.YtdbolgollpnfdaaDoor
