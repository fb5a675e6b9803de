/- ARGUMENTS of FieldCombinesLinearly: a slice of pairs of bytes, and two slices of strings. -/
import Derived.Test.YtheeafhpjffbkaaDoorLaw
import Derived.Test.YtheeafhpjffbkaaDoorGfW
import Derived.Deep.Slices
namespace Go.Proofs.YtheeafhpjffbkaaDoor
open Go.ChangeShapes Go.WideShapes Go.ChangeAt Go.RowKit Go.ChangeMaps Go.Deep
variable {H : Type} {enc : TypeId × Value → H} {W : World} {base : Nat}
theorem okWide_array {P : Program} {r : Reach} {b0 n : Nat} {t e : TypeId} {v : Value} (ht : P.underlying t = some (.array n e)) (h : Value.okWide P W r b0 t v) : ∃ cs, v = .agg cs ∧ cs.size = P.cellsOf t := by
  unfold Value.okWide at h
  rw [ht] at h
  obtain ⟨cs, h1, h2, _⟩ := h
  exact ⟨cs, h1, h2⟩
theorem byte_of {n : Int} (h : (Lit.int .u8 n).wf = true) : ∃ k : UInt8, Value.int .u8 n = bv k := by
  have hb := bounds_u8 h
  refine ⟨UInt8.ofNat n.toNat, ?_⟩
  congr 1
  simp
  omega
theorem spot_none {a : Addr} {v : Value} (h : W.cell? a = some v) : a.spot = none := by
  unfold World.cell? at h
  split at h
  · split at h
    · cases h
    · rename_i hs; simpa using hs
  · cases h
theorem open_pairs {b0 : Nat} {v : Value} {d : DataW H} {ps : List MemPlace} (hval : Value.okWide Tryd.prog W .any b0 22 v) (hd : DataW.Trod enc Tryd.prog W base (fun _ => true) true 22 v d ps) :
    ∃ (P : Option Addr) (n c : Nat) (pa pb : Nat → UInt8), v = .slice P n c ∧ n ≤ maxLen ∧ ∀ k, k < n → ∃ b o, P = some ⟨b, o, none⟩ ∧ W.cell? ⟨b, o + k * 2, none⟩ = some (bv (pa k)) ∧ W.cell? ⟨b, o + k * 2 + 1, none⟩ = some (bv (pb k)) := by
  obtain ⟨a0, len, cap, rfl⟩ := okWide_slice Tryd.underlying22 hval
  obtain ⟨fuel, hf⟩ := hd
  have ce : Tryd.prog.cellsOf 27 = 2 := by kernel_rfl
  have cu : Tryd.prog.cellsOf 5 = 1 := by kernel_rfl
  rcases open_slice Tryd.underlying22 hf with ⟨hcs, _⟩ | ⟨a, len', cap', m, n, D, Pl, hcs, _, hl, hm, hmm, _, hx⟩
  · simp [Value.cells] at hcs
    obtain ⟨rfl, rfl, rfl⟩ := hcs
    exact ⟨none, 0, 0, fun _ => 0, fun _ => 0, rfl, Nat.zero_le _, fun k hk => absurd hk (Nat.not_lt_zero k)⟩
  · simp [Value.cells] at hcs
    obtain ⟨rfl, rfl, rfl⟩ := hcs
    rw [if_pos rfl] at hmm
    have each : ∀ i, i < len → ∃ x y : UInt8, W.cell? (a.add (i * 2)) = some (bv x) ∧ W.cell? ((a.add (i * 2)).add 1) = some (bv y) := by
      intro i hi
      obtain ⟨cs', h1, h2⟩ := hx i (by omega)
      rw [ce] at h1
      obtain ⟨_, hlen, hcell⟩ := World.cells?_some h1
      obtain ⟨xs, k, _, _, _, hxl, hg⟩ := DataW.trod_array Tryd.underlying27 h2
      obtain ⟨c0, c1, rfl⟩ : ∃ c0 c1, cs' = [c0, c1] := by
        match cs', hlen with
        | [c0, c1], _ => exact ⟨c0, c1, rfl⟩
      obtain ⟨y0, y1, rfl⟩ : ∃ y0 y1, xs = [y0, y1] := by
        match xs, hxl with
        | [y0, y1], _ => exact ⟨y0, y1, rfl⟩
      have f0 : DataW.trod enc Tryd.prog W base (fun _ => true) true k 5 [c0] = some y0 := by
        have := hg 0 (by decide)
        simpa [cu] using this
      have f1 : DataW.trod enc Tryd.prog W base (fun _ => true) true k 5 [c1] = some y1 := by
        have := hg 1 (by decide)
        simpa [cu] using this
      obtain ⟨z0, e0, _, w0⟩ := DataW.trod_int Tryd.underlying5 f0
      obtain ⟨z1, e1, _, w1⟩ := DataW.trod_int Tryd.underlying5 f1
      injection e0 with e0 _
      injection e1 with e1 _
      subst e0 e1
      obtain ⟨x, hx0⟩ := byte_of w0
      obtain ⟨y, hy0⟩ := byte_of w1
      have g0 := hcell 0 (by decide)
      have g1 := hcell 1 (by decide)
      exact ⟨x, y, by rw [← hx0]; exact g0, by rw [← hy0]; exact g1⟩
    refine ⟨some a, len, cap, fun k => if h : k < len then (each k h).choose else 0, fun k => if h : k < len then (each k h).choose_spec.choose else 0, rfl, by omega, fun k hk => ?_⟩
    have h0 := (each 0 (by omega)).choose_spec.choose_spec.1
    have hs := spot_none h0
    obtain ⟨b, o, s⟩ := a
    have hs' : s = none := by simpa [Addr.add] using hs
    subst hs'
    refine ⟨b, o, rfl, ?_, ?_⟩
    · have h1 := (each k hk).choose_spec.choose_spec.1
      simp only [dif_pos hk]
      have e : (⟨b, o, none⟩ : Addr).add (k * 2) = ⟨b, o + k * 2, none⟩ := by
        unfold Addr.add
        split
        · rename_i h; rw [h]; rfl
        · rfl
      exact (congrArg W.cell? e).symm.trans h1
    · have h1 := (each k hk).choose_spec.choose_spec.2
      simp only [dif_pos hk]
      have e : ((⟨b, o, none⟩ : Addr).add (k * 2)).add 1 = ⟨b, o + k * 2 + 1, none⟩ := by
        have e2 : (⟨b, o, none⟩ : Addr).add (k * 2) = ⟨b, o + k * 2, none⟩ := by
          unfold Addr.add
          split
          · rename_i h; rw [h]; rfl
          · rfl
        rw [e2]
        rfl
      exact (congrArg W.cell? e).symm.trans h1
theorem read_strs {fuel : Nat} {v : Value} {x : DataW H × List MemPlace} (h : DataW.trod enc Tryd.prog W base (fun _ => true) true fuel 23 [v] = some x) :
    ∃ (A : Option Addr) (c : Nat) (l : List (List UInt8)), v = .slice A l.length c ∧ l.length ≤ maxLen ∧ (∀ p ∈ l, p.length ≤ maxLen) ∧ Rd W A (l.map fun p => .string (sb p)) := by
  have hc : Tryd.prog.cellsOf 9 = 1 := by kernel_rfl
  rcases open_strings Tryd.underlying23 Tryd.underlying9 hc h with ⟨hcs, _⟩ | ⟨a, len, cap, ss, hcs, _, hl, hm, hz, _, hcell, hwz⟩
  · injection hcs with hcs _
    subst hcs
    exact ⟨none, 0, [], rfl, by simp, by simp, Rd.nil _ _⟩
  · injection hcs with hcs _
    subst hcs
    rw [if_pos rfl] at hz
    have hll : (ss.take len).length = len := by rw [List.length_take]; omega
    refine ⟨some a, cap, (ss.take len).map bl, by rw [List.length_map, hll], by rw [List.length_map, hll]; omega, ?_, ?_⟩
    · intro p hp
      rw [List.mem_map] at hp
      obtain ⟨s, hs, rfl⟩ := hp
      rw [← size_bl]
      exact hwz s (List.mem_of_mem_take hs)
    · intro k x hx
      have hk : k < len := by
        rcases Nat.lt_or_ge k len with h | h
        · exact h
        · rw [List.getElem?_eq_none (by simp; omega)] at hx; cases hx
      have h1 := hcell k (by omega)
      have e : x = .string (ss.getD k ByteArray.empty) := by
        rw [List.getElem?_map, List.getElem?_map, List.getElem?_take, if_pos hk, List.getElem?_eq_getElem (by omega)] at hx
        simp only [Option.map_some, Option.some.injEq, sb_bl] at hx
        rw [← hx, List.getD_eq_getElem?_getD, List.getElem?_eq_getElem (by omega)]
        rfl
      rw [e]
      exact ⟨a, rfl, by have := lt_of_cell h1; rwa [block_add] at this, h1⟩
theorem open_strs2 {b0 : Nat} {v : Value} {d : DataW H} {ps : List MemPlace} (hval : Value.okWide Tryd.prog W .any b0 24 v) (hd : DataW.Trod enc Tryd.prog W base (fun _ => true) true 24 v d ps) :
    ∃ (A B : Option Addr) (ca cb : Nat) (l m : List (List UInt8)), v = .agg #[.slice A l.length ca, .slice B m.length cb] ∧ l.length ≤ maxLen ∧ m.length ≤ maxLen ∧ (∀ p ∈ l, p.length ≤ maxLen) ∧ (∀ p ∈ m, p.length ≤ maxLen) ∧
      Rd W A (l.map fun p => .string (sb p)) ∧ Rd W B (m.map fun p => .string (sb p)) := by
  obtain ⟨cs, rfl, hsz⟩ := okWide_array Tryd.underlying24 hval
  have hsz2 : cs.size = 2 := hsz.trans (by kernel_rfl)
  obtain ⟨c0, c1, rfl⟩ : ∃ c0 c1, cs = #[c0, c1] := by
    obtain ⟨l⟩ := cs
    match l, hsz2 with
    | [c0, c1], _ => exact ⟨c0, c1, rfl⟩
  obtain ⟨fuel, hf⟩ := hd
  obtain ⟨xs, n, _, _, _, hlen, hx⟩ := DataW.trod_array Tryd.underlying24 hf
  obtain ⟨y0, y1, rfl⟩ : ∃ y0 y1, xs = [y0, y1] := by
    match xs, hlen with
    | [y0, y1], _ => exact ⟨y0, y1, rfl⟩
  have hc : Tryd.prog.cellsOf 23 = 1 := by kernel_rfl
  have f0 : DataW.trod enc Tryd.prog W base (fun _ => true) true n 23 [c0] = some y0 := by
    have := hx 0 (by decide)
    simpa [Value.cells, hc] using this
  have f1 : DataW.trod enc Tryd.prog W base (fun _ => true) true n 23 [c1] = some y1 := by
    have := hx 1 (by decide)
    simpa [Value.cells, hc] using this
  obtain ⟨A, ca, l, rfl, h1, h2, h3⟩ := read_strs f0
  obtain ⟨B, cb, m, rfl, g1, g2, g3⟩ := read_strs f1
  exact ⟨A, B, ca, cb, l, m, rfl, h1, g1, h2, g2, h3, g3⟩
end Go.Proofs.YtheeafhpjffbkaaDoor
