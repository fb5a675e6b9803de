/- What the program's functions do, step by step: part F of the texts for this claim; no condition beyond what each theorem states. -/
import Derived.Deep.Matrix
import Derived.Lib.SmallJoins
import Derived.Deep.Slices
import Derived.Test.YtkbiffbmjgmcaaaDoorMvPlnBunA
import Derived.Test.YtkbiffbmjgmcaaaDoorMvPlnBunB
import Derived.Test.YtkbiffbmjgmcaaaDoorMvPlnBunC
import Derived.Test.YtkbiffbmjgmcaaaDoorMvPlnBunD
import Derived.Test.YtkbiffbmjgmcaaaDoorMvPlnBunE
/- ARGUMENTS that are codes read as such. -/
namespace Go.Proofs.YtkbiffbmjgmcaaaDoor
open Go.ChangeShapes Go.WideShapes Go.ChangeAt Go.RowKit Go.ChangeMaps Go.Deep
variable {H : Type} {enc : TypeId × Value → H} {W : World} {base : Nat}
theorem list_getD {l : List Int} {k : Nat} (h : k < l.length) : l.getD k 0 = l[k] := by rw [List.getD_eq_getElem?_getD, List.getElem?_eq_getElem h]; rfl
theorem read_ints {fuel : Nat} {v : Value} {x : DataW H × List MemPlace} (h : DataW.trod enc Tryd.prog W base (fun _ => true) true fuel 22 [v] = some x) : ∃ l, Rs RI W v l := by
  rcases open_ints Tryd.underlying22 Tryd.underlying3 (by kernel_rfl) h with ⟨hcs, _⟩ | ⟨a, len, cap, zs, hcs, _, hl, hm, hz, _, hcell, hwz⟩
  · injection hcs with hcs _
    subst hcs
    exact ⟨[], none, 0, rfl, by simp, fun i x h => by simp at h⟩
  · injection hcs with hcs _
    subst hcs
    rw [if_pos rfl] at hz
    have hll : (zs.take len).length = len := by rw [List.length_take]; omega
    refine ⟨zs.take len, some a, cap, by rw [hll], by rw [hll]; unfold maxLen at hm; omega, fun i y hi => ?_⟩
    have hi1 : i < (zs.take len).length := (List.getElem?_eq_some_iff.1 hi).1
    have hi2 : i < zs.length := by rw [List.length_take] at hi1; omega
    have h1 := hcell i (by omega)
    rw [list_getD hi2] at h1
    have e : y = zs[i] := by
      have := (List.getElem?_eq_some_iff.1 hi).2
      rw [← this, List.getElem_take]
    subst e
    have hb := bounds_i64 (hwz _ (List.getElem_mem hi2))
    exact ⟨a, _, rfl, h1, rfl, by omega, by omega⟩
theorem read_rows {fuel : Nat} {v : Value} {x : DataW H × List MemPlace} (h : DataW.trod enc Tryd.prog W base (fun _ => true) true fuel 26 [v] = some x) : ∃ l, Rs (Rs RI) W v l := by
  rcases open_int_rows Tryd.underlying26 Tryd.underlying22 Tryd.underlying3 (by kernel_rfl) (by kernel_rfl) h with ⟨hcs, _⟩ | ⟨a, len, cap, A, L, C, Z, hcs, _, hl, hm, _, hx⟩
  · injection hcs with hcs _
    subst hcs
    exact ⟨[], none, 0, rfl, by simp, fun i x h => by simp at h⟩
  · injection hcs with hcs _
    subst hcs
    refine ⟨(List.range len).map fun r => (Z r).take (L r), some a, cap, by simp, by simp; unfold maxLen at hm; omega, fun i y hi => ?_⟩
    have hi1 : i < len := by have := (List.getElem?_eq_some_iff.1 hi).1; simpa using this
    have e : y = (Z i).take (L i) := by
      have := (List.getElem?_eq_some_iff.1 hi).2
      rw [← this]; simp
    subst e
    obtain ⟨h1, h2, h3, h4, h5, h6, h7⟩ := hx i (by omega)
    refine ⟨a, _, rfl, h1, A i, C i, ?_, ?_, fun k z hk => ?_⟩
    · rw [List.length_take]; congr 1; omega
    · rw [List.length_take]; unfold maxLen at h3; omega
    · have hk1 : k < ((Z i).take (L i)).length := (List.getElem?_eq_some_iff.1 hk).1
      have hk2 : k < (Z i).length := by rw [List.length_take] at hk1; omega
      have hk3 : k < C i := by omega
      have e : z = (Z i)[k] := by
        have := (List.getElem?_eq_some_iff.1 hk).2
        rw [← this, List.getElem_take]
      subst e
      have hb := bounds_i64 (h5 _ (List.getElem_mem hk2))
      cases hA : A i with
      | none => have := h6 hA; omega
      | some b =>
        have h8 := (h7 b hA).2 k hk3
        rw [list_getD hk2] at h8
        exact ⟨b, _, rfl, h8, rfl, by omega, by omega⟩
theorem cellsCode : Tryd.prog.cellsOf 28 = 3 := by kernel_rfl
theorem cellsInts : Tryd.prog.cellsOf 22 = 1 := by kernel_rfl
theorem cellsRows : Tryd.prog.cellsOf 26 = 1 := by kernel_rfl
theorem cellsInt : Tryd.prog.cellsOf 3 = 1 := by kernel_rfl
end Go.Proofs.YtkbiffbmjgmcaaaDoor

/- ARGUMENTS of law 13: shifts. -/
namespace Go.Proofs.YtkbiffbmjgmcaaaDoor
open Go.ChangeShapes Go.WideShapes Go.ChangeAt Go.RowKit Go.ChangeMaps Go.Deep
variable {H : Type} {enc : TypeId × Value → H} {W : World} {base : Nat}
theorem spot_free {a : Addr} {v : Value} (h : W.cell? a = some v) : a.spot = none := by
  unfold World.cell? at h
  split at h
  · split at h
    · cases h
    · rename_i hs; simpa using hs
  · cases h
set_option maxRecDepth 100000 in
theorem read_racks {fuel : Nat} {v : Value} {x : DataW H × List MemPlace} (h : DataW.trod enc Tryd.prog W base (fun _ => true) true fuel 23 [v] = some x) : ∃ l, RK W v l := by
  have ce : Tryd.prog.cellsOf 74 = 2 := by kernel_rfl
  rcases open_slice Tryd.underlying23 h with ⟨hcs, _⟩ | ⟨a, len, cap, m, n, D, Pl, hcs, _, hl, hm, hmm, _, hx⟩
  · injection hcs with hcs _
    subst hcs
    exact ⟨[], none, 0, rfl, by simp, fun i x hi => by simp at hi⟩
  · injection hcs with hcs _
    subst hcs
    rw [if_pos rfl] at hmm
    have each : ∀ i, i < len → ∃ x : Int, ∃ b : Bool, W.cell? (a.add (i * 2)) = some (.int .i64 x) ∧ W.cell? ((a.add (i * 2)).add 1) = some (.bool b) ∧ -9223372036854775808 ≤ x ∧ x ≤ 9223372036854775807 := by
      intro i hi
      obtain ⟨cs', h1, h2⟩ := hx i (by omega)
      rw [ce] at h1
      obtain ⟨_, hlen, hcell⟩ := World.cells?_some h1
      obtain ⟨xs, k, _, _, _, hxl, hg⟩ := DataW.trod_struct Tryd.underlying74 h2
      obtain ⟨c0, c1, rfl⟩ : ∃ c0 c1, cs' = [c0, c1] := by
        match cs', hlen with
        | [c0, c1], _ => exact ⟨c0, c1, rfl⟩
      obtain ⟨y0, y1, rfl⟩ : ∃ y0 y1, xs = [y0, y1] := by
        match xs, hxl with
        | [y0, y1], _ => exact ⟨y0, y1, rfl⟩
      have cb : Tryd.prog.cellsOf 4 = 1 := by kernel_rfl
      have f0 : DataW.trod enc Tryd.prog W base (fun _ => true) true k 3 [c0] = some y0 := by
        have := hg 0 _ rfl
        simpa [cellsInt] using this
      have f1 : DataW.trod enc Tryd.prog W base (fun _ => true) true k 4 [c1] = some y1 := by
        have := hg 1 _ rfl
        simpa [cb] using this
      obtain ⟨z0, e0, _, w0⟩ := DataW.trod_int Tryd.underlying3 f0
      obtain ⟨z1, e1, _⟩ := DataW.trod_bool Tryd.underlying4 f1
      injection e0 with e0 _
      injection e1 with e1 _
      subst e0 e1
      have b0 := bounds_i64 w0
      exact ⟨z0, z1, hcell 0 (by decide), hcell 1 (by decide), by omega, by omega⟩
    refine ⟨(List.range len).map fun k => if h : k < len then (each k h).choose else 0, some a, cap, by simp, by simp; unfold maxLen at hm; omega, fun i x hi => ?_⟩
    have hil : i < len := by
      have := (List.getElem?_eq_some_iff.1 hi).1
      simpa using this
    have hxe : x = (each i hil).choose := by
      have := (List.getElem?_eq_some_iff.1 hi).2
      rw [← this]
      simp [hil]
    obtain ⟨b, h1, h2, h3, h4⟩ := (each i hil).choose_spec
    rw [← hxe] at h1 h3 h4
    refine ⟨a, b, rfl, h1, ?_, h3, h4⟩
    have hs := spot_free h1
    have e : (a.add (i * 2)).add 1 = ⟨(a.add (i * 2)).block, (a.add (i * 2)).off + 1, none⟩ := by
      generalize a.add (i * 2) = p at hs
      obtain ⟨b, o, s⟩ := p
      simp only at hs
      subst hs
      unfold Addr.add
      rfl
    rw [← e]
    exact h2
theorem array11 {α : Type} {cs : Array α} (h : cs.size = 11) : ∃ c0 c1 c2 c3 c4 c5 c6 c7 c8 c9 c10, cs = #[c0, c1, c2, c3, c4, c5, c6, c7, c8, c9, c10] := by
  obtain ⟨l⟩ := cs
  match l, h with
  | [c0, c1, c2, c3, c4, c5, c6, c7, c8, c9, c10], _ => exact ⟨c0, c1, c2, c3, c4, c5, c6, c7, c8, c9, c10, rfl⟩
theorem cellsDom : Tryd.prog.cellsOf 25 = 4 := by kernel_rfl
theorem cellsRacks : Tryd.prog.cellsOf 23 = 1 := by kernel_rfl
set_option maxRecDepth 100000 in
theorem open_shift {b0 : Nat} {v : Value} {d : DataW H} {ps : List MemPlace} (hval : Value.okWide Tryd.prog W .any b0 30 v) (hd : DataW.Trod enc Tryd.prog W base (fun _ => true) true 30 v d ps) :
    ∃ s : Mv.Sh, RSh W v s := by
  obtain ⟨cs, rfl, hsz⟩ := okWide_struct Tryd.underlying30 hval
  obtain ⟨c0, c1, c2, c3, c4, c5, c6, c7, c8, c9, c10, rfl⟩ := array11 (hsz.trans (by kernel_rfl))
  obtain ⟨fuel, hf⟩ := hd
  obtain ⟨xs, n, _, _, hl, hlen, hx⟩ := DataW.trod_struct Tryd.underlying30 hf
  obtain ⟨y0, y1, y2, y3, y4, y5, rfl⟩ : ∃ y0 y1 y2 y3 y4 y5, xs = [y0, y1, y2, y3, y4, y5] := by
    match xs, hlen with
    | [y0, y1, y2, y3, y4, y5], _ => exact ⟨y0, y1, y2, y3, y4, y5, rfl⟩
  have f0 : DataW.trod enc Tryd.prog W base (fun _ => true) true n 25 [c0, c1, c2, c3] = some y0 := by
    have := hx 0 _ rfl
    simpa [Value.cells, cellsDom] using this
  have f1 : DataW.trod enc Tryd.prog W base (fun _ => true) true n 28 [c4, c5, c6] = some y1 := by
    have := hx 1 _ rfl
    simpa [Value.cells, cellsCode] using this
  have f2 : DataW.trod enc Tryd.prog W base (fun _ => true) true n 3 [c7] = some y2 := by
    have := hx 2 _ rfl
    simpa [Value.cells, cellsInt] using this
  have f3 : DataW.trod enc Tryd.prog W base (fun _ => true) true n 22 [c8] = some y3 := by
    have := hx 3 _ rfl
    simpa [Value.cells, cellsInts] using this
  have f4 : DataW.trod enc Tryd.prog W base (fun _ => true) true n 22 [c9] = some y4 := by
    have := hx 4 _ rfl
    simpa [Value.cells, cellsInts] using this
  have f5 : DataW.trod enc Tryd.prog W base (fun _ => true) true n 22 [c10] = some y5 := by
    have := hx 5 _ rfl
    simpa [Value.cells, cellsInts] using this
  obtain ⟨zs, m, _, _, _, hlen2, hz⟩ := DataW.trod_struct Tryd.underlying25 f0
  obtain ⟨z0, z1, z2, z3, rfl⟩ : ∃ z0 z1 z2 z3, zs = [z0, z1, z2, z3] := by
    match zs, hlen2 with
    | [z0, z1, z2, z3], _ => exact ⟨z0, z1, z2, z3, rfl⟩
  have g0 : DataW.trod enc Tryd.prog W base (fun _ => true) true m 22 [c0] = some z0 := by
    have := hz 0 _ rfl
    simpa [cellsInts] using this
  have g1 : DataW.trod enc Tryd.prog W base (fun _ => true) true m 23 [c1] = some z1 := by
    have := hz 1 _ rfl
    simpa [cellsRacks] using this
  have g2 : DataW.trod enc Tryd.prog W base (fun _ => true) true m 22 [c2] = some z2 := by
    have := hz 2 _ rfl
    simpa [cellsInts] using this
  have g3 : DataW.trod enc Tryd.prog W base (fun _ => true) true m 3 [c3] = some z3 := by
    have := hz 3 _ rfl
    simpa [cellsInt] using this
  obtain ⟨us, m2, _, _, _, hlen3, hu⟩ := DataW.trod_struct Tryd.underlying28 f1
  obtain ⟨u0, u1, u2, rfl⟩ : ∃ u0 u1 u2, us = [u0, u1, u2] := by
    match us, hlen3 with
    | [u0, u1, u2], _ => exact ⟨u0, u1, u2, rfl⟩
  have e0 : DataW.trod enc Tryd.prog W base (fun _ => true) true m2 3 [c4] = some u0 := by
    have := hu 0 _ rfl
    simpa [cellsInt] using this
  have e1 : DataW.trod enc Tryd.prog W base (fun _ => true) true m2 26 [c5] = some u1 := by
    have := hu 1 _ rfl
    simpa [cellsRows] using this
  have e2 : DataW.trod enc Tryd.prog W base (fun _ => true) true m2 3 [c6] = some u2 := by
    have := hu 2 _ rfl
    simpa [cellsInt] using this
  obtain ⟨disks, h0⟩ := read_ints g0
  obtain ⟨racks, h1⟩ := read_racks g1
  obtain ⟨houses, h2⟩ := read_ints g2
  obtain ⟨gs, h3⟩ := read_rows e1
  obtain ⟨room, h4⟩ := read_ints f3
  obtain ⟨src, h5⟩ := read_ints f4
  obtain ⟨dst, h6⟩ := read_ints f5
  obtain ⟨a0, ha0, _, wa0⟩ := DataW.trod_int Tryd.underlying3 g3
  obtain ⟨a1, ha1, _, wa1⟩ := DataW.trod_int Tryd.underlying3 e0
  obtain ⟨a2, ha2, _, wa2⟩ := DataW.trod_int Tryd.underlying3 e2
  obtain ⟨a3, ha3, _, wa3⟩ := DataW.trod_int Tryd.underlying3 f2
  injection ha0 with ha0 _
  injection ha1 with ha1 _
  injection ha2 with ha2 _
  injection ha3 with ha3 _
  subst ha0 ha1 ha2 ha3
  have b0 := bounds_i64 wa0
  have b1 := bounds_i64 wa1
  have b2 := bounds_i64 wa2
  have b3 := bounds_i64 wa3
  exact ⟨⟨disks, racks, houses, a0, a1, gs, a2, a3, room, src, dst⟩, _, _, _, _, _, _, _, rfl, h0, h1, h2, h3, h4, h5, h6, by unfold w64; dsimp only; omega, by unfold w64; dsimp only; omega, by unfold w64; dsimp only; omega, by unfold w64; dsimp only; omega⟩
set_option maxRecDepth 100000 in
theorem open_intl {b0 : Nat} {v : Value} {d : DataW H} {ps : List MemPlace} (hval : Value.okWide Tryd.prog W .any b0 22 v) (hd : DataW.Trod enc Tryd.prog W base (fun _ => true) true 22 v d ps) : ∃ l, Rs RI W v l := by
  obtain ⟨a0, len, cap, rfl⟩ := okWide_slice Tryd.underlying22 hval
  obtain ⟨fuel, hf⟩ := hd
  exact read_ints hf
end Go.Proofs.YtkbiffbmjgmcaaaDoor
