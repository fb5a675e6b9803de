/- AN ARGUMENT that is an array of two numbers reads as such. -/
import Derived.Test.YtgkohfmgdejkpaaDoorArgs
import Derived.Test.YtgkohfmgdejkpaaDoorLaw
namespace Go.Proofs.YtgkohfmgdejkpaaDoor
open Go.ChangeShapes Go.WideShapes Go.ChangeAt Go.RowKit Go.ChangeMaps Go.Deep
variable {H : Type} {enc : TypeId × Value → H} {W : World} {base : Nat}
theorem okWide_array {P : Program} {r : Reach} {b0 n : Nat} {t e : TypeId} {v : Value} (ht : P.underlying t = some (.array n e)) (h : Value.okWide P W r b0 t v) : ∃ cs, v = .agg cs ∧ cs.size = P.cellsOf t := by
  unfold Value.okWide at h
  rw [ht] at h
  obtain ⟨cs, h1, h2, _⟩ := h
  exact ⟨cs, h1, h2⟩
theorem open_intx2_cells : Tryd.prog.cellsOf 44 = 2 := by kernel_rfl
set_option maxRecDepth 100000 in
theorem open_intx2 {b0 : Nat} {v : Value} {d : DataW H} {ps : List MemPlace} (hval : Value.okWide Tryd.prog W .any b0 44 v) (hd : DataW.Trod enc Tryd.prog W base (fun _ => true) true 44 v d ps) :
    ∃ a0 a1 : Int, v = .agg #[.int .i64 a0, .int .i64 a1] ∧ (Lit.int .i64 a0).wf = true ∧ (Lit.int .i64 a1).wf = true := by
  obtain ⟨cs, rfl, hsz⟩ := okWide_array Tryd.underlying44 hval
  have hsz2 : cs.size = 2 := hsz.trans open_intx2_cells
  obtain ⟨c0, c1, rfl⟩ : ∃ c0 c1, cs = #[c0, c1] := by
    obtain ⟨l⟩ := cs
    match l, hsz2 with
    | [c0, c1], _ => exact ⟨c0, c1, rfl⟩
  obtain ⟨fuel, hf⟩ := hd
  obtain ⟨xs, n, _, _, _, hlen, hx⟩ := DataW.trod_array Tryd.underlying44 hf
  obtain ⟨y0, y1, rfl⟩ : ∃ y0 y1, xs = [y0, y1] := by
    match xs, hlen with
    | [y0, y1], _ => exact ⟨y0, y1, rfl⟩
  have hc : Tryd.prog.cellsOf 3 = 1 := by kernel_rfl
  have f0 : DataW.trod enc Tryd.prog W base (fun _ => true) true n 3 [c0] = some y0 := by
    have := hx 0 (by decide)
    simpa [Value.cells, hc] using this
  obtain ⟨z0, h0, _, w0⟩ := DataW.trod_int Tryd.underlying3 f0
  injection h0 with h0 _
  have f1 : DataW.trod enc Tryd.prog W base (fun _ => true) true n 3 [c1] = some y1 := by
    have := hx 1 (by decide)
    simpa [Value.cells, hc] using this
  obtain ⟨z1, h1, _, w1⟩ := DataW.trod_int Tryd.underlying3 f1
  injection h1 with h1 _
  subst h0 h1
  exact ⟨z0, z1, rfl, w0, w1⟩
end Go.Proofs.YtgkohfmgdejkpaaDoor
