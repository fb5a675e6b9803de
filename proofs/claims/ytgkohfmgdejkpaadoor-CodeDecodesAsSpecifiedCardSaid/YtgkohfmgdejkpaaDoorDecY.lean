/- `Decode`, whatever is given. -/
import Derived.Test.YtgkohfmgdejkpaaDoorDecW
namespace Go.Proofs.YtgkohfmgdejkpaaDoor
open Go.RowKit
/-- `Decode`, whatever is given. -/
theorem cDecode_any (d gl n m : Int) (gs : List (List Int)) (pieces : List (List UInt8)) (G : Value) (PA : Option Addr) (cp : Nat) (w : World) (hT : Tab w) (hG : Rs (Rs RI) w G gs)
    (hP : Rs RS w (.slice PA pieces.length cp) pieces) (hpm : ∀ p ∈ pieces, p.length ≤ 140737488351232) :
    Calls Tryd.prog 20 #[.agg #[.int .i64 d, G, .int .i64 gl], .int .i64 n, .int .i64 m, .slice PA pieces.length cp] w fun e w' => e = .returned (.tuple #[.string (sb (Cd.decS d gl gs n m pieces)), .int .i64 (Cd.decE d gl gs n m pieces)]) ∧ Ext w w' := by
  by_cases h0 : Cd.check d gs gl = 0
  · cases hb : Cd.badArgs d gl gs n m pieces with
    | true =>
      have he := Cd.decE_arg h0 hb
      rw [Cd.decS_no (by rw [he]; decide), he]
      exact cDecode_arg d gl n m gs pieces G PA cp w hT hG h0 hb
    | false =>
      have hk := Cd.check_ok h0
      have hb2 := hb
      unfold Cd.badArgs at hb2
      rw [decide_eq_false_iff_not] at hb2
      obtain ⟨d', rfl⟩ : ∃ k : Nat, d = k := ⟨d.toNat, by omega⟩
      obtain ⟨gl', rfl⟩ : ∃ k : Nat, gl = k := ⟨gl.toNat, by omega⟩
      obtain ⟨n', rfl⟩ : ∃ k : Nat, n = k := ⟨n.toNat, by omega⟩
      obtain ⟨m', rfl⟩ : ∃ k : Nat, m = k := ⟨m.toNat, by omega⟩
      exact cDecode_in d' gl' n' m' gs pieces G PA cp w hT hG h0 hb hP hpm
  · have he := Cd.decE_no (n := n) (m := m) (pieces := pieces) h0
    rw [Cd.decS_no (by rw [he]; exact h0), he]
    exact cDecode_no d gl n m gs pieces G PA cp w hT hG h0
end Go.Proofs.YtgkohfmgdejkpaaDoor
