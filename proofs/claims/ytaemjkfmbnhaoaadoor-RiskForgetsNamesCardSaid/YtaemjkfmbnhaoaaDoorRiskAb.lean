/- ARGUMENTS that are pairs of bytes read as such. -/
import Derived.Test.YtaemjkfmbnhaoaaDoorRiskA
namespace Go.Proofs.YtaemjkfmbnhaoaaDoor
open Go.ChangeShapes Go.WideShapes Go.ChangeAt Go.RowKit Go.ChangeMaps Go.Deep
variable {H : Type} {enc : TypeId × Value → H} {W : World} {base : Nat}
theorem open_bytes2 {b0 : Nat} {v : Value} {d : DataW H} {ps : List MemPlace} (hval : Value.okWide Tryd.prog W .any b0 54 v) (hd : DataW.Trod enc Tryd.prog W base (fun _ => true) true 54 v d ps) :
    ∃ a0 a1 : Nat, v = .agg #[.int .u8 a0, .int .u8 a1] ∧ a0 < 256 ∧ a1 < 256 := by
  obtain ⟨cs, rfl, hsz⟩ := okWide_array Tryd.underlying54 hval
  obtain ⟨c0, c1, rfl⟩ := array2' (hsz.trans (by kernel_rfl))
  obtain ⟨fuel, hf⟩ := hd
  obtain ⟨xs, n, _, _, _, hlen, hx⟩ := DataW.trod_array Tryd.underlying54 hf
  obtain ⟨y0, y1, rfl⟩ : ∃ y0 y1, xs = [y0, y1] := by
    match xs, hlen with
    | [y0, y1], _ => exact ⟨y0, y1, rfl⟩
  have f0 : DataW.trod enc Tryd.prog W base (fun _ => true) true n 5 [c0] = some y0 := by
    have := hx 0 (by decide)
    simpa [Value.cells, cellsByte] using this
  have f1 : DataW.trod enc Tryd.prog W base (fun _ => true) true n 5 [c1] = some y1 := by
    have := hx 1 (by decide)
    simpa [Value.cells, cellsByte] using this
  obtain ⟨z0, h0, _, w0⟩ := DataW.trod_int Tryd.underlying5 f0
  obtain ⟨z1, h1, _, w1⟩ := DataW.trod_int Tryd.underlying5 f1
  injection h0 with h0 _
  injection h1 with h1 _
  obtain ⟨k0, rfl, b0⟩ := small_u8 w0
  obtain ⟨k1, rfl, b1⟩ := small_u8 w1
  subst h0 h1
  exact ⟨k0, k1, rfl, b0, b1⟩
end Go.Proofs.YtaemjkfmbnhaoaaDoor
