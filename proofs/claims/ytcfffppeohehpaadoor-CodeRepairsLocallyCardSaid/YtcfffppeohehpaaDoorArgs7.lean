/- ARGUMENTS that are small arrays of numbers read as such. -/
import Derived.Test.YtcfffppeohehpaaDoorArgs
import Derived.Test.YtcfffppeohehpaaDoorLaw
namespace Go.Proofs.YtcfffppeohehpaaDoor
open Go.ChangeShapes Go.WideShapes Go.ChangeAt Go.RowKit Go.ChangeMaps Go.Deep
variable {H : Type} {enc : TypeId × Value → H} {W : World} {base : Nat}
theorem okWide_array {P : Program} {r : Reach} {b0 n : Nat} {t e : TypeId} {v : Value} (ht : P.underlying t = some (.array n e)) (h : Value.okWide P W r b0 t v) : ∃ cs, v = .agg cs ∧ cs.size = P.cellsOf t := by
  unfold Value.okWide at h
  rw [ht] at h
  obtain ⟨cs, h1, h2, _⟩ := h
  exact ⟨cs, h1, h2⟩
theorem small_u8 {n : Int} (h : (Lit.int .u8 n).wf = true) : ∃ k : Nat, n = k ∧ k < 256 := by
  have hb : 0 ≤ n ∧ n ≤ 255 := by simpa [Lit.wf, IntKind.min, IntKind.max, IntKind.signed, IntKind.bits] using h
  exact ⟨n.toNat, by omega, by omega⟩
theorem small_u16 {n : Int} (h : (Lit.int .u16 n).wf = true) : ∃ k : Nat, n = k ∧ k < 65536 := by
  have hb : 0 ≤ n ∧ n ≤ 65535 := by simpa [Lit.wf, IntKind.min, IntKind.max, IntKind.signed, IntKind.bits] using h
  exact ⟨n.toNat, by omega, by omega⟩
theorem small_u32 {n : Int} (h : (Lit.int .u32 n).wf = true) : ∃ k : Nat, n = k ∧ k < 4294967296 := by
  have hb : 0 ≤ n ∧ n ≤ 4294967295 := by simpa [Lit.wf, IntKind.min, IntKind.max, IntKind.signed, IntKind.bits] using h
  exact ⟨n.toNat, by omega, by omega⟩
theorem open_u32x4_cells : Tryd.prog.cellsOf 56 = 4 := by kernel_rfl
set_option maxRecDepth 100000 in
theorem open_u32x4 {b0 : Nat} {v : Value} {d : DataW H} {ps : List MemPlace} (hval : Value.okWide Tryd.prog W .any b0 56 v) (hd : DataW.Trod enc Tryd.prog W base (fun _ => true) true 56 v d ps) :
    ∃ a0 a1 a2 a3 : Int, v = .agg #[.int .u32 a0, .int .u32 a1, .int .u32 a2, .int .u32 a3] ∧ (Lit.int .u32 a0).wf = true ∧ (Lit.int .u32 a1).wf = true ∧ (Lit.int .u32 a2).wf = true ∧ (Lit.int .u32 a3).wf = true := by
  obtain ⟨cs, rfl, hsz⟩ := okWide_array Tryd.underlying56 hval
  have hsz2 : cs.size = 4 := hsz.trans open_u32x4_cells
  obtain ⟨c0, c1, c2, c3, rfl⟩ : ∃ c0 c1 c2 c3, cs = #[c0, c1, c2, c3] := by
    obtain ⟨l⟩ := cs
    match l, hsz2 with
    | [c0, c1, c2, c3], _ => exact ⟨c0, c1, c2, c3, rfl⟩
  obtain ⟨fuel, hf⟩ := hd
  obtain ⟨xs, n, _, _, _, hlen, hx⟩ := DataW.trod_array Tryd.underlying56 hf
  obtain ⟨y0, y1, y2, y3, rfl⟩ : ∃ y0 y1 y2 y3, xs = [y0, y1, y2, y3] := by
    match xs, hlen with
    | [y0, y1, y2, y3], _ => exact ⟨y0, y1, y2, y3, rfl⟩
  have hc : Tryd.prog.cellsOf 55 = 1 := by kernel_rfl
  have f0 : DataW.trod enc Tryd.prog W base (fun _ => true) true n 55 [c0] = some y0 := by
    have := hx 0 (by decide)
    simpa [Value.cells, hc] using this
  obtain ⟨z0, h0, _, w0⟩ := DataW.trod_int Tryd.underlying55 f0
  injection h0 with h0 _
  have f1 : DataW.trod enc Tryd.prog W base (fun _ => true) true n 55 [c1] = some y1 := by
    have := hx 1 (by decide)
    simpa [Value.cells, hc] using this
  obtain ⟨z1, h1, _, w1⟩ := DataW.trod_int Tryd.underlying55 f1
  injection h1 with h1 _
  have f2 : DataW.trod enc Tryd.prog W base (fun _ => true) true n 55 [c2] = some y2 := by
    have := hx 2 (by decide)
    simpa [Value.cells, hc] using this
  obtain ⟨z2, h2, _, w2⟩ := DataW.trod_int Tryd.underlying55 f2
  injection h2 with h2 _
  have f3 : DataW.trod enc Tryd.prog W base (fun _ => true) true n 55 [c3] = some y3 := by
    have := hx 3 (by decide)
    simpa [Value.cells, hc] using this
  obtain ⟨z3, h3, _, w3⟩ := DataW.trod_int Tryd.underlying55 f3
  injection h3 with h3 _
  subst h0 h1 h2 h3
  exact ⟨z0, z1, z2, z3, rfl, w0, w1, w2, w3⟩
theorem open_intx2_cells : Tryd.prog.cellsOf 44 = 2 := by kernel_rfl
set_option maxRecDepth 100000 in
theorem open_intx2 {b0 : Nat} {v : Value} {d : DataW H} {ps : List MemPlace} (hval : Value.okWide Tryd.prog W .any b0 44 v) (hd : DataW.Trod enc Tryd.prog W base (fun _ => true) true 44 v d ps) :
    ∃ a0 a1 : Int, v = .agg #[.int .i64 a0, .int .i64 a1] ∧ (Lit.int .i64 a0).wf = true ∧ (Lit.int .i64 a1).wf = true := by
  obtain ⟨cs, rfl, hsz⟩ := okWide_array Tryd.underlying44 hval
  have hsz2 : cs.size = 2 := hsz.trans open_intx2_cells
  obtain ⟨c0, c1, rfl⟩ : ∃ c0 c1, cs = #[c0, c1] := by
    obtain ⟨l⟩ := cs
    match l, hsz2 with
    | [c0, c1], _ => exact ⟨c0, c1, rfl⟩
  obtain ⟨fuel, hf⟩ := hd
  obtain ⟨xs, n, _, _, _, hlen, hx⟩ := DataW.trod_array Tryd.underlying44 hf
  obtain ⟨y0, y1, rfl⟩ : ∃ y0 y1, xs = [y0, y1] := by
    match xs, hlen with
    | [y0, y1], _ => exact ⟨y0, y1, rfl⟩
  have hc : Tryd.prog.cellsOf 3 = 1 := by kernel_rfl
  have f0 : DataW.trod enc Tryd.prog W base (fun _ => true) true n 3 [c0] = some y0 := by
    have := hx 0 (by decide)
    simpa [Value.cells, hc] using this
  obtain ⟨z0, h0, _, w0⟩ := DataW.trod_int Tryd.underlying3 f0
  injection h0 with h0 _
  have f1 : DataW.trod enc Tryd.prog W base (fun _ => true) true n 3 [c1] = some y1 := by
    have := hx 1 (by decide)
    simpa [Value.cells, hc] using this
  obtain ⟨z1, h1, _, w1⟩ := DataW.trod_int Tryd.underlying3 f1
  injection h1 with h1 _
  subst h0 h1
  exact ⟨z0, z1, rfl, w0, w1⟩
end Go.Proofs.YtcfffppeohehpaaDoor
