/- THE WALK over Given. -/
import Derived.Test.YtdbolgollpnfdaaDoorRiskC
namespace Rk
/-- The peril in which a domain surely fails, or does not. -/
def given (p : Pe) (k : Nat) (fails : Bool) : Pe := ⟨p.d, p.gs, p.gl, p.at', p.ch.set k (if fails then 16 else 0)⟩
end Rk
namespace Go.Proofs.YtdbolgollpnfdaaDoor
open Go.RowKit
theorem Rs.rdI {w : World} {A : Option Addr} {n c : Nat} {xs : List Int} (h : Rs RI w (.slice A n c) xs) : Rd w A (xs.map (.int .i64)) := fun k x hx => by
  rw [List.getElem?_map] at hx
  cases hk : xs[k]? with
  | none => rw [hk] at hx; cases hx
  | some b =>
    rw [hk] at hx
    injection hx with hx
    subst hx
    have hk' : k < xs.length := (List.getElem?_eq_some_iff.1 hk).1
    obtain ⟨ad, u, h1, h2, h3⟩ := h.at hk'
    rw [List.getElem?_eq_getElem hk'] at hk
    injection hk with hk
    rw [hk] at h3
    obtain ⟨rfl, _, _⟩ := h3
    exact ⟨ad, h1, by have := lt_of_cell h2; rwa [block_add] at this, h2⟩
theorem Rs.of_rdI {w : World} {A : Option Addr} {n c : Nat} {l : List Int} (h : Rd w A (l.map (.int .i64))) (hn : n = l.length) (hl : l.length ≤ 9223372036854775807) (hb : ∀ x ∈ l, -9223372036854775808 ≤ x ∧ x ≤ 9223372036854775807) : Rs RI w (.slice A n c) l := by
  subst hn
  exact ⟨A, c, rfl, hl, fun i x hi => by
    obtain ⟨ad, h1, _, h3⟩ := h i (.int .i64 x) (by rw [List.getElem?_map, hi]; rfl)
    exact ⟨ad, .int .i64 x, h1, h3, rfl, hb x (List.mem_of_getElem? hi)⟩⟩
theorem set_ok {l : List Int} {k : Nat} {y : Int} (h : ∀ c ∈ l, 0 ≤ c ∧ c ≤ 16) (hy : 0 ≤ y ∧ y ≤ 16) : ∀ x ∈ l.set k y, -9223372036854775808 ≤ x ∧ x ≤ 9223372036854775807 := fun x hx => by
  rcases List.mem_or_eq_of_mem_set hx with h1 | rfl
  · have := h x h1; omega
  · omega
theorem results_cell_tmp {P : Program} {fn : Func} {a b : Tmp} {t : TypeId} (h : fn.results = #[.cell a t, .tmp b]) {tmps : Array Value} {ad : Addr} {v : Value} {w : World} (ha : tmps.getD a undef = .pointer (some ad)) (hl : (loadVar t ad).run P w = .ok v w) :
    (results fn tmps).run P w = .ok (.tuple #[v, tmps.getD b undef]) w := by
  rw [Array.getD_eq_getD_getElem?] at ha
  simp [results, h, asAddr, ha, hl]
set_option maxRecDepth 100000 in
set_option maxHeartbeats 4000000 in
theorem kGiven_any (p : Rk.Pe) (k : Nat) (fails : Bool) (v : Value) (w : World) (hv : RP w v p) (h0 : Rk.check p = 0) (hk : k < p.ch.length) :
    Calls Tryd.prog 21 #[v, .int .i64 k, .bool fails] w fun e w' => ∃ u, e = .returned (.tuple #[u, .int .i64 0]) ∧ RP w' u (Rk.given p k fails) ∧ Ext w w' := by
  obtain ⟨G, T, C, rfl, hG, hTT, hC⟩ := hv
  have hx0 := ((Ext.refl w).alloc (.cells #[.int .i64 p.d, G, .int .i64 p.gl, T, C] 27)).alloc (.cells #[.int .i64 0, .slice none 0 0, .int .i64 0, .slice none 0 0, .slice none 0 0] 27)
  have hC0 := Rs.ext RI.ext _ _ _ _ hx0 hC
  have hG0 := Rs.ext (Rs.ext RI.ext) _ _ _ _ hx0 hG
  have hT0 := Rs.ext RI.ext _ _ _ _ hx0 hTT
  have hO := (Owns.start w (L := []) (by simp)).wider.new 0 #[.int .i64 p.d, G, .int .i64 p.gl, T, C] 27 (by simp [maxLen])
  have hO2 := hO.wider.new 1 #[.int .i64 0, .slice none 0 0, .int .i64 0, .slice none 0 0, .slice none 0 0] 27 (by simp [maxLen])
  obtain ⟨A3, c3, rfl, hl3⟩ := hC.form
  obtain ⟨A1, c1, rfl, hl1⟩ := hG.form
  obtain ⟨A2, c2, rfl, hl2⟩ := hTT.form
  have hsz : (w.alloc (.cells #[.int .i64 p.d, (.slice A1 p.gs.length c1), .int .i64 p.gl, (.slice A2 p.at'.length c2), .slice A3 p.ch.length c3] 27)).heap.size = w.heap.size + 1 := by simp
  have hO3 : Owns w ((w.alloc (.cells #[.int .i64 p.d, (.slice A1 p.gs.length c1), .int .i64 p.gl, (.slice A2 p.at'.length c2), .slice A3 p.ch.length c3] 27)).alloc (.cells #[.int .i64 0, .slice none 0 0, .int .i64 0, .slice none 0 0, .slice none 0 0] 27)) [⟨.slice (some ⟨w.heap.size, 0, none⟩) 5 5, 27, 1, 5, [.int .i64 p.d, (.slice A1 p.gs.length c1), .int .i64 p.gl, (.slice A2 p.at'.length c2), .slice A3 p.ch.length c3]⟩, ⟨.slice (some ⟨w.heap.size + 1, 0, none⟩) 5 5, 27, 1, 5, [.int .i64 0, .slice none 0 0, .int .i64 0, .slice none 0 0, .slice none 0 0]⟩] := by
    have h := hO2
    rw [hsz] at h
    exact h
  have HO := Lib.hid hO3
  have HR := Lib.hid (And.intro hG0 (And.intro hT0 hC0))
  have HX := Lib.hid hx0
  have HW := Lib.hid (And.intro hG hTT)
  have e1 : (Rk.check p != 0) = false := by rw [h0]; rfl
  have ho := Rk.ok_of h0
  have hfew := ho.few
  have HOK := Lib.hid (And.intro ho h0)
  clear hG hTT hC hx0 hC0 hG0 hT0 hO hO2 hO3 hsz ho h0
  go_enter Tryd.func21, Tryd.ntmps21
  go_wp2_with fail
  refine (kCheck_any p _ _ ⟨_, _, _, rfl, HR.out⟩).mono ?_
  rintro e w1 ⟨rfl, hx1⟩
  have hO1 := HO.out.next hx1
  have hc0 : w1.cell? ⟨w.heap.size, 0, none⟩ = some (.int .i64 p.d) := hO1.cell 0 rfl 0 rfl
  have hc1 : w1.cell? ⟨w.heap.size, 1, none⟩ = some (.slice A1 p.gs.length c1) := hO1.cell 0 rfl 1 rfl
  have hc2 : w1.cell? ⟨w.heap.size, 2, none⟩ = some (.int .i64 p.gl) := hO1.cell 0 rfl 2 rfl
  have hc3 : w1.cell? ⟨w.heap.size, 3, none⟩ = some (.slice A2 p.at'.length c2) := hO1.cell 0 rfl 3 rfl
  have hc4 : w1.cell? ⟨w.heap.size, 4, none⟩ = some (.slice A3 p.ch.length c3) := hO1.cell 0 rfl 4 rfl
  have HX1 := Lib.hid hx1
  have HO1 := Lib.hid hO1
  clear hx1 hO1
  have hC1 := Rs.ext RI.ext _ _ _ _ HX1.out HR.out.2.2
  obtain ⟨ad, u, rfl, hcell, hu⟩ := hC1.at hk
  have HC1 := Lib.hid hC1
  clear hC1 hcell hu
  go_wp2_with fail
  refine (clone_any p.ch ad c3 w1 ?_ (by omega) (by omega)).mono ?_
  · exact HC1.out.rdI
  rintro e w2 ⟨g, c', rfl, hO2⟩
  have hO4 := HO1.out.behind hO2.ext (hO2.row 0 rfl)
  have far1 : w.heap.size ≠ g := by
    have h := hO4.far 0 2 _ _ (by decide) rfl rfl
    rcases h with h | h
    · cases h
    · intro he; exact h (by rw [he]; rfl)
  have far2 : w.heap.size + 1 ≠ g := by
    have h := hO4.far 1 2 _ _ (by decide) rfl rfl
    rcases h with h | h
    · cases h
    · intro he; exact h (by rw [he]; rfl)
  have hmk : (p.ch.map (Value.int .i64))[k]? = some (.int .i64 p.ch[k]) := by rw [List.getElem?_map, List.getElem?_eq_getElem hk]; rfl
  have q0 : w2.cell? ⟨w.heap.size, 0, none⟩ = some (.int .i64 p.d) := hO4.cell 0 rfl 0 rfl
  have q1 : w2.cell? ⟨w.heap.size, 1, none⟩ = some (.slice A1 p.gs.length c1) := hO4.cell 0 rfl 1 rfl
  have q2 : w2.cell? ⟨w.heap.size, 2, none⟩ = some (.int .i64 p.gl) := hO4.cell 0 rfl 2 rfl
  have q3 : w2.cell? ⟨w.heap.size, 3, none⟩ = some (.slice A2 p.at'.length c2) := hO4.cell 0 rfl 3 rfl
  have q4 : w2.cell? ⟨w.heap.size, 4, none⟩ = some (.slice (some ad) p.ch.length c3) := hO4.cell 0 rfl 4 rfl
  have f4 : w2.frozen? ⟨w.heap.size, 4, none⟩ = false := hO4.frozen 0 rfl 4
  have r0 : w2.cell? ⟨w.heap.size + 1, 0, none⟩ = some (.int .i64 0) := hO4.cell 1 rfl 0 rfl
  have r1 : w2.cell? ⟨w.heap.size + 1, 1, none⟩ = some (.slice none 0 0) := hO4.cell 1 rfl 1 rfl
  have r2 : w2.cell? ⟨w.heap.size + 1, 2, none⟩ = some (.int .i64 0) := hO4.cell 1 rfl 2 rfl
  have r3 : w2.cell? ⟨w.heap.size + 1, 3, none⟩ = some (.slice none 0 0) := hO4.cell 1 rfl 3 rfl
  have r4 : w2.cell? ⟨w.heap.size + 1, 4, none⟩ = some (.slice none 0 0) := hO4.cell 1 rfl 4 rfl
  have rf0 : w2.frozen? ⟨w.heap.size + 1, 0, none⟩ = false := hO4.frozen 1 rfl 0
  have rf1 : w2.frozen? ⟨w.heap.size + 1, 1, none⟩ = false := hO4.frozen 1 rfl 1
  have rf2 : w2.frozen? ⟨w.heap.size + 1, 2, none⟩ = false := hO4.frozen 1 rfl 2
  have rf3 : w2.frozen? ⟨w.heap.size + 1, 3, none⟩ = false := hO4.frozen 1 rfl 3
  have rf4 : w2.frozen? ⟨w.heap.size + 1, 4, none⟩ = false := hO4.frozen 1 rfl 4
  have g0 : w2.cell? ⟨g, k, none⟩ = some (.int .i64 p.ch[k]) := hO4.cell 2 rfl k hmk
  have gf : w2.frozen? ⟨g, k, none⟩ = false := hO4.frozen 2 rfl k
  have HO5 := Lib.hid (hO4.store 0 rfl 4 (.slice (some ⟨g, 0, none⟩) p.ch.length c'))
  have HX2 := Lib.hid hO2.ext
  have far1' : g ≠ w.heap.size := fun h => far1 h.symm
  have far2' : g ≠ w.heap.size + 1 := fun h => far2 h.symm
  clear hO2 hO4 hmk
  cases fails with
  | true =>
    go_wp2_with fail
    have hfin := ((((((HO5.out.store 2 rfl k (.int .i64 0)).store 2 rfl k (.int .i64 16)).store 1 rfl 0 (.int .i64 p.d)).store 1 rfl 1 (.slice A1 p.gs.length c1)).store 1 rfl 2 (.int .i64 p.gl)).store 1 rfl 3 (.slice A2 p.at'.length c2)).store 1 rfl 4 (.slice (some ⟨g, 0, none⟩) p.ch.length c')
    refine bodyPost_ret (results_cell_tmp (v := .agg #[.int .i64 p.d, .slice A1 p.gs.length c1, .int .i64 p.gl, .slice A2 p.at'.length c2, .slice (some ⟨g, 0, none⟩) p.ch.length c']) rfl rfl ?_) rfl ?_
    · go_simp
    have hrd := hfin.rd (A := some ⟨g, 0, none⟩) 2 rfl
    rw [List.set_set, ← List.map_set] at hrd
    exact ⟨_, rfl, ⟨_, _, _, rfl, Rs.ext (Rs.ext RI.ext) _ _ _ _ hfin.ext HW.out.1, Rs.ext RI.ext _ _ _ _ hfin.ext HW.out.2, Rs.of_rdI (l := p.ch.set k 16) hrd (List.length_set).symm (by rw [List.length_set]; omega) (set_ok HOK.out.1.ch_ok (by omega))⟩, hfin.ext⟩
  | false =>
    go_wp2_with fail
    have hfin := (((((HO5.out.store 2 rfl k (.int .i64 0)).store 1 rfl 0 (.int .i64 p.d)).store 1 rfl 1 (.slice A1 p.gs.length c1)).store 1 rfl 2 (.int .i64 p.gl)).store 1 rfl 3 (.slice A2 p.at'.length c2)).store 1 rfl 4 (.slice (some ⟨g, 0, none⟩) p.ch.length c')
    refine bodyPost_ret (results_cell_tmp (v := .agg #[.int .i64 p.d, .slice A1 p.gs.length c1, .int .i64 p.gl, .slice A2 p.at'.length c2, .slice (some ⟨g, 0, none⟩) p.ch.length c']) rfl rfl ?_) rfl ?_
    · go_simp
    have hrd := hfin.rd (A := some ⟨g, 0, none⟩) 2 rfl
    rw [← List.map_set] at hrd
    exact ⟨_, rfl, ⟨_, _, _, rfl, Rs.ext (Rs.ext RI.ext) _ _ _ _ hfin.ext HW.out.1, Rs.ext RI.ext _ _ _ _ hfin.ext HW.out.2, Rs.of_rdI (l := p.ch.set k 0) hrd (List.length_set).symm (by rw [List.length_set]; omega) (set_ok HOK.out.1.ch_ok (by omega))⟩, hfin.ext⟩
end Go.Proofs.YtdbolgollpnfdaaDoor
