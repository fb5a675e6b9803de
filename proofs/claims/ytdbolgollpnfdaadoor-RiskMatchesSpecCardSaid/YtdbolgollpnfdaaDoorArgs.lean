/- ARGUMENTS that are codes read as such. -/
import Derived.Test.YtdbolgollpnfdaaDoorLaw
import Derived.Test.YtdbolgollpnfdaaDoorGfW
import Derived.Deep.Matrix
import Derived.Lib.SmallJoins
namespace Go.Proofs.YtdbolgollpnfdaaDoor
open Go.ChangeShapes Go.WideShapes Go.ChangeAt Go.RowKit Go.ChangeMaps Go.Deep
variable {H : Type} {enc : TypeId × Value → H} {W : World} {base : Nat}
theorem list_getD {l : List Int} {k : Nat} (h : k < l.length) : l.getD k 0 = l[k] := by rw [List.getD_eq_getElem?_getD, List.getElem?_eq_getElem h]; rfl
theorem read_ints {fuel : Nat} {v : Value} {x : DataW H × List MemPlace} (h : DataW.trod enc Tryd.prog W base (fun _ => true) true fuel 25 [v] = some x) : ∃ l, Rs RI W v l := by
  rcases open_ints Tryd.underlying25 Tryd.underlying3 (by kernel_rfl) h with ⟨hcs, _⟩ | ⟨a, len, cap, zs, hcs, _, hl, hm, hz, _, hcell, hwz⟩
  · injection hcs with hcs _
    subst hcs
    exact ⟨[], none, 0, rfl, by simp, fun i x h => by simp at h⟩
  · injection hcs with hcs _
    subst hcs
    rw [if_pos rfl] at hz
    have hll : (zs.take len).length = len := by rw [List.length_take]; omega
    refine ⟨zs.take len, some a, cap, by rw [hll], by rw [hll]; unfold maxLen at hm; omega, fun i y hi => ?_⟩
    have hi1 : i < (zs.take len).length := (List.getElem?_eq_some_iff.1 hi).1
    have hi2 : i < zs.length := by rw [List.length_take] at hi1; omega
    have h1 := hcell i (by omega)
    rw [list_getD hi2] at h1
    have e : y = zs[i] := by
      have := (List.getElem?_eq_some_iff.1 hi).2
      rw [← this, List.getElem_take]
    subst e
    have hb := bounds_i64 (hwz _ (List.getElem_mem hi2))
    exact ⟨a, _, rfl, h1, rfl, by omega, by omega⟩
theorem read_rows {fuel : Nat} {v : Value} {x : DataW H × List MemPlace} (h : DataW.trod enc Tryd.prog W base (fun _ => true) true fuel 22 [v] = some x) : ∃ l, Rs (Rs RI) W v l := by
  rcases open_int_rows Tryd.underlying22 Tryd.underlying25 Tryd.underlying3 (by kernel_rfl) (by kernel_rfl) h with ⟨hcs, _⟩ | ⟨a, len, cap, A, L, C, Z, hcs, _, hl, hm, _, hx⟩
  · injection hcs with hcs _
    subst hcs
    exact ⟨[], none, 0, rfl, by simp, fun i x h => by simp at h⟩
  · injection hcs with hcs _
    subst hcs
    refine ⟨(List.range len).map fun r => (Z r).take (L r), some a, cap, by simp, by simp; unfold maxLen at hm; omega, fun i y hi => ?_⟩
    have hi1 : i < len := by have := (List.getElem?_eq_some_iff.1 hi).1; simpa using this
    have e : y = (Z i).take (L i) := by
      have := (List.getElem?_eq_some_iff.1 hi).2
      rw [← this]; simp
    subst e
    obtain ⟨h1, h2, h3, h4, h5, h6, h7⟩ := hx i (by omega)
    refine ⟨a, _, rfl, h1, A i, C i, ?_, ?_, fun k z hk => ?_⟩
    · rw [List.length_take]; congr 1; omega
    · rw [List.length_take]; unfold maxLen at h3; omega
    · have hk1 : k < ((Z i).take (L i)).length := (List.getElem?_eq_some_iff.1 hk).1
      have hk2 : k < (Z i).length := by rw [List.length_take] at hk1; omega
      have hk3 : k < C i := by omega
      have e : z = (Z i)[k] := by
        have := (List.getElem?_eq_some_iff.1 hk).2
        rw [← this, List.getElem_take]
      subst e
      have hb := bounds_i64 (h5 _ (List.getElem_mem hk2))
      cases hA : A i with
      | none => have := h6 hA; omega
      | some b =>
        have h8 := (h7 b hA).2 k hk3
        rw [list_getD hk2] at h8
        exact ⟨b, _, rfl, h8, rfl, by omega, by omega⟩
theorem cellsCode : Tryd.prog.cellsOf 24 = 3 := by kernel_rfl
theorem cellsInts : Tryd.prog.cellsOf 25 = 1 := by kernel_rfl
theorem cellsRows : Tryd.prog.cellsOf 22 = 1 := by kernel_rfl
theorem cellsInt : Tryd.prog.cellsOf 3 = 1 := by kernel_rfl
theorem array3 {α : Type} {cs : Array α} (h : cs.size = 3) : ∃ c0 c1 c2, cs = #[c0, c1, c2] := by
  obtain ⟨l⟩ := cs
  match l, h with
  | [c0, c1, c2], _ => exact ⟨c0, c1, c2, rfl⟩
set_option maxRecDepth 100000 in
theorem open_code {b0 : Nat} {v : Value} {d : DataW H} {ps : List MemPlace} (hval : Value.okWide Tryd.prog W .any b0 24 v) (hd : DataW.Trod enc Tryd.prog W base (fun _ => true) true 24 v d ps) :
    ∃ (a0 a2 : Int) (G : Value) (gs : List (List Int)), v = .agg #[.int .i64 a0, G, .int .i64 a2] ∧ Rs (Rs RI) W G gs ∧ (-9223372036854775808 ≤ a0 ∧ a0 ≤ 9223372036854775807) ∧ (-9223372036854775808 ≤ a2 ∧ a2 ≤ 9223372036854775807) := by
  obtain ⟨cs, rfl, hsz⟩ := okWide_struct Tryd.underlying24 hval
  obtain ⟨c0, c1, c2, rfl⟩ := array3 (hsz.trans (by kernel_rfl))
  obtain ⟨fuel, hf⟩ := hd
  obtain ⟨zs, m, _, _, _, hlen2, hz⟩ := DataW.trod_struct Tryd.underlying24 hf
  obtain ⟨z0, z1, z2, rfl⟩ : ∃ z0 z1 z2, zs = [z0, z1, z2] := by
    match zs, hlen2 with
    | [z0, z1, z2], _ => exact ⟨z0, z1, z2, rfl⟩
  have g0 : DataW.trod enc Tryd.prog W base (fun _ => true) true m 3 [c0] = some z0 := by
    have := hz 0 _ rfl
    simpa [Value.cells, cellsInt] using this
  have g1 : DataW.trod enc Tryd.prog W base (fun _ => true) true m 22 [c1] = some z1 := by
    have := hz 1 _ rfl
    simpa [Value.cells, cellsRows] using this
  have g2 : DataW.trod enc Tryd.prog W base (fun _ => true) true m 3 [c2] = some z2 := by
    have := hz 2 _ rfl
    simpa [Value.cells, cellsInt] using this
  obtain ⟨gs, h1⟩ := read_rows g1
  obtain ⟨a0, ha0, _, w0⟩ := DataW.trod_int Tryd.underlying3 g0
  obtain ⟨a2, ha2, _, w2⟩ := DataW.trod_int Tryd.underlying3 g2
  injection ha0 with ha0 _
  injection ha2 with ha2 _
  subst ha0 ha2
  have b0 := bounds_i64 w0
  have b2 := bounds_i64 w2
  exact ⟨a0, a2, c1, gs, rfl, h1, by omega, by omega⟩
end Go.Proofs.YtdbolgollpnfdaaDoor
