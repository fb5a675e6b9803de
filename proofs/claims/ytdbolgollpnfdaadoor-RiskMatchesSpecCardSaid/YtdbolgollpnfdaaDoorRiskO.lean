/- AN ARGUMENT that is a peril reads as one. -/
import Derived.Test.YtdbolgollpnfdaaDoorRiskP
import Derived.Test.YtdbolgollpnfdaaDoorArgs
namespace Go.Proofs.YtdbolgollpnfdaaDoor
open Go.ChangeShapes Go.WideShapes Go.ChangeAt Go.RowKit Go.ChangeMaps Go.Deep
variable {H : Type} {enc : TypeId × Value → H} {W : World} {base : Nat}
theorem array5 {α : Type} {cs : Array α} (h : cs.size = 5) : ∃ c0 c1 c2 c3 c4, cs = #[c0, c1, c2, c3, c4] := by
  obtain ⟨l⟩ := cs
  match l, h with
  | [c0, c1, c2, c3, c4], _ => exact ⟨c0, c1, c2, c3, c4, rfl⟩
theorem open_peril {b0 : Nat} {v : Value} {d : DataW H} {ps : List MemPlace} (hval : Value.okWide Tryd.prog W .any b0 27 v) (hd : DataW.Trod enc Tryd.prog W base (fun _ => true) true 27 v d ps) :
    ∃ p, RP W v p := by
  obtain ⟨cs, rfl, hsz⟩ := okWide_struct Tryd.underlying27 hval
  obtain ⟨c0, c1, c2, c3, c4, rfl⟩ := array5 (hsz.trans (by kernel_rfl))
  obtain ⟨fuel, hf⟩ := hd
  obtain ⟨xs, n, _, _, hl, hlen, hx⟩ := DataW.trod_struct Tryd.underlying27 hf
  obtain ⟨y0, y1, y2, rfl⟩ : ∃ y0 y1 y2, xs = [y0, y1, y2] := by
    match xs, hlen with
    | [y0, y1, y2], _ => exact ⟨y0, y1, y2, rfl⟩
  have f0 : DataW.trod enc Tryd.prog W base (fun _ => true) true n 24 [c0, c1, c2] = some y0 := by
    have := hx 0 _ rfl
    simpa [Value.cells, cellsCode] using this
  have f1 : DataW.trod enc Tryd.prog W base (fun _ => true) true n 25 [c3] = some y1 := by
    have := hx 1 _ rfl
    simpa [Value.cells, cellsInts] using this
  have f2 : DataW.trod enc Tryd.prog W base (fun _ => true) true n 25 [c4] = some y2 := by
    have := hx 2 _ rfl
    simpa [Value.cells, cellsInts] using this
  obtain ⟨zs, m, _, _, _, hlen2, hz⟩ := DataW.trod_struct Tryd.underlying24 f0
  obtain ⟨z0, z1, z2, rfl⟩ : ∃ z0 z1 z2, zs = [z0, z1, z2] := by
    match zs, hlen2 with
    | [z0, z1, z2], _ => exact ⟨z0, z1, z2, rfl⟩
  have g0 : DataW.trod enc Tryd.prog W base (fun _ => true) true m 3 [c0] = some z0 := by
    have := hz 0 _ rfl
    simpa [cellsInt] using this
  have g1 : DataW.trod enc Tryd.prog W base (fun _ => true) true m 22 [c1] = some z1 := by
    have := hz 1 _ rfl
    simpa [cellsRows] using this
  have g2 : DataW.trod enc Tryd.prog W base (fun _ => true) true m 3 [c2] = some z2 := by
    have := hz 2 _ rfl
    simpa [cellsInt] using this
  obtain ⟨at', h3⟩ := read_ints f1
  obtain ⟨ch, h4⟩ := read_ints f2
  obtain ⟨gs, h1⟩ := read_rows g1
  obtain ⟨a0, ha0, _, _⟩ := DataW.trod_int Tryd.underlying3 g0
  obtain ⟨a2, ha2, _, _⟩ := DataW.trod_int Tryd.underlying3 g2
  injection ha0 with ha0 _
  injection ha2 with ha2 _
  subst ha0 ha2
  exact ⟨⟨a0, gs, a2, at', ch⟩, c1, c3, c4, rfl, h1, h3, h4⟩
end Go.Proofs.YtdbolgollpnfdaaDoor
