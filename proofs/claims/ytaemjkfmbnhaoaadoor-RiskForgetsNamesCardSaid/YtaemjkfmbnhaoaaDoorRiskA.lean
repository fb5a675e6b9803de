/- ARGUMENTS that are small arrays of numbers read as such. -/
import Derived.Test.YtaemjkfmbnhaoaaDoorRiskO
namespace Go.Proofs.YtaemjkfmbnhaoaaDoor
open Go.ChangeShapes Go.WideShapes Go.ChangeAt Go.RowKit Go.ChangeMaps Go.Deep
variable {H : Type} {enc : TypeId × Value → H} {W : World} {base : Nat}
theorem okWide_array {P : Program} {r : Reach} {b0 n : Nat} {t e : TypeId} {v : Value} (ht : P.underlying t = some (.array n e)) (h : Value.okWide P W r b0 t v) : ∃ cs, v = .agg cs ∧ cs.size = P.cellsOf t := by
  unfold Value.okWide at h
  rw [ht] at h
  obtain ⟨cs, h1, h2, _⟩ := h
  exact ⟨cs, h1, h2⟩
theorem cellsByte : Tryd.prog.cellsOf 5 = 1 := by kernel_rfl
theorem cellsU16 : Tryd.prog.cellsOf 48 = 1 := by kernel_rfl
theorem array3' {α : Type} {cs : Array α} (h : cs.size = 3) : ∃ c0 c1 c2, cs = #[c0, c1, c2] := by
  obtain ⟨l⟩ := cs
  match l, h with
  | [c0, c1, c2], _ => exact ⟨c0, c1, c2, rfl⟩
theorem array2' {α : Type} {cs : Array α} (h : cs.size = 2) : ∃ c0 c1, cs = #[c0, c1] := by
  obtain ⟨l⟩ := cs
  match l, h with
  | [c0, c1], _ => exact ⟨c0, c1, rfl⟩
theorem small_u8 {n : Int} (h : (Lit.int .u8 n).wf = true) : ∃ k : Nat, n = k ∧ k < 256 := by
  have hb := bounds_u8 h
  exact ⟨n.toNat, by omega, by omega⟩
theorem small_u16 {n : Int} (h : (Lit.int .u16 n).wf = true) : ∃ k : Nat, n = k ∧ k < 65536 := by
  have hb : 0 ≤ n ∧ n ≤ 65535 := by simpa [Lit.wf, IntKind.min, IntKind.max, IntKind.signed, IntKind.bits] using h
  exact ⟨n.toNat, by omega, by omega⟩
theorem open_bytes3 {b0 : Nat} {v : Value} {d : DataW H} {ps : List MemPlace} (hval : Value.okWide Tryd.prog W .any b0 47 v) (hd : DataW.Trod enc Tryd.prog W base (fun _ => true) true 47 v d ps) :
    ∃ a0 a1 a2 : Nat, v = .agg #[.int .u8 a0, .int .u8 a1, .int .u8 a2] ∧ a0 < 256 ∧ a1 < 256 ∧ a2 < 256 := by
  obtain ⟨cs, rfl, hsz⟩ := okWide_array Tryd.underlying47 hval
  obtain ⟨c0, c1, c2, rfl⟩ := array3' (hsz.trans (by kernel_rfl))
  obtain ⟨fuel, hf⟩ := hd
  obtain ⟨xs, n, _, _, _, hlen, hx⟩ := DataW.trod_array Tryd.underlying47 hf
  obtain ⟨y0, y1, y2, rfl⟩ : ∃ y0 y1 y2, xs = [y0, y1, y2] := by
    match xs, hlen with
    | [y0, y1, y2], _ => exact ⟨y0, y1, y2, rfl⟩
  have f0 : DataW.trod enc Tryd.prog W base (fun _ => true) true n 5 [c0] = some y0 := by
    have := hx 0 (by decide)
    simpa [Value.cells, cellsByte] using this
  have f1 : DataW.trod enc Tryd.prog W base (fun _ => true) true n 5 [c1] = some y1 := by
    have := hx 1 (by decide)
    simpa [Value.cells, cellsByte] using this
  have f2 : DataW.trod enc Tryd.prog W base (fun _ => true) true n 5 [c2] = some y2 := by
    have := hx 2 (by decide)
    simpa [Value.cells, cellsByte] using this
  obtain ⟨z0, h0, _, w0⟩ := DataW.trod_int Tryd.underlying5 f0
  obtain ⟨z1, h1, _, w1⟩ := DataW.trod_int Tryd.underlying5 f1
  obtain ⟨z2, h2, _, w2⟩ := DataW.trod_int Tryd.underlying5 f2
  injection h0 with h0 _
  injection h1 with h1 _
  injection h2 with h2 _
  obtain ⟨k0, rfl, b0⟩ := small_u8 w0
  obtain ⟨k1, rfl, b1⟩ := small_u8 w1
  obtain ⟨k2, rfl, b2⟩ := small_u8 w2
  subst h0 h1 h2
  exact ⟨k0, k1, k2, rfl, b0, b1, b2⟩
theorem open_pair {b0 : Nat} {v : Value} {d : DataW H} {ps : List MemPlace} (hval : Value.okWide Tryd.prog W .any b0 49 v) (hd : DataW.Trod enc Tryd.prog W base (fun _ => true) true 49 v d ps) :
    ∃ a0 a1 : Nat, v = .agg #[.int .u16 a0, .int .u16 a1] ∧ a0 < 65536 ∧ a1 < 65536 := by
  obtain ⟨cs, rfl, hsz⟩ := okWide_array Tryd.underlying49 hval
  obtain ⟨c0, c1, rfl⟩ := array2' (hsz.trans (by kernel_rfl))
  obtain ⟨fuel, hf⟩ := hd
  obtain ⟨xs, n, _, _, _, hlen, hx⟩ := DataW.trod_array Tryd.underlying49 hf
  obtain ⟨y0, y1, rfl⟩ : ∃ y0 y1, xs = [y0, y1] := by
    match xs, hlen with
    | [y0, y1], _ => exact ⟨y0, y1, rfl⟩
  have f0 : DataW.trod enc Tryd.prog W base (fun _ => true) true n 48 [c0] = some y0 := by
    have := hx 0 (by decide)
    simpa [Value.cells, cellsU16] using this
  have f1 : DataW.trod enc Tryd.prog W base (fun _ => true) true n 48 [c1] = some y1 := by
    have := hx 1 (by decide)
    simpa [Value.cells, cellsU16] using this
  obtain ⟨z0, h0, _, w0⟩ := DataW.trod_int Tryd.underlying48 f0
  obtain ⟨z1, h1, _, w1⟩ := DataW.trod_int Tryd.underlying48 f1
  injection h0 with h0 _
  injection h1 with h1 _
  obtain ⟨k0, rfl, b0⟩ := small_u16 w0
  obtain ⟨k1, rfl, b1⟩ := small_u16 w1
  subst h0 h1
  exact ⟨k0, k1, rfl, b0, b1⟩
end Go.Proofs.YtaemjkfmbnhaoaaDoor
