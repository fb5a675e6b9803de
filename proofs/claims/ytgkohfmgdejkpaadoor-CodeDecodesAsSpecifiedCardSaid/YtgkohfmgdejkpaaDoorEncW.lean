/- THE WALKS over Size and Encode. -/
import Derived.Test.YtgkohfmgdejkpaaDoorDec
import Derived.Test.YtgkohfmgdejkpaaDoorGfC
import Derived.Laws.CopyOwn
namespace Go.Proofs.YtgkohfmgdejkpaaDoor
open Go.RowKit
/- COPY FROM A STRING, and a part of a slice. -/
section
variable {P : Program} {w0 w : World} {L : List LRow}
theorem run_copy_str (dT sT ty elem : TypeId) (g dLen dCap : Nat) (l : List UInt8) (cur : Array Value) (t : TypeId)
    (hu : P.underlying dT = some (.slice elem)) (hs : (P.info? elem).map (·.size) = some 1) (hg : w.heap[g]? = some (.cells cur t (0, 0))) (hn : l.length ≤ dLen) (hfit : l.length ≤ cur.size) :
    (Builtin.copy_ #[dT, sT] ty #[.slice (some ⟨g, 0, none⟩) dLen dCap, .string (sb l)]).run P w = .ok (goInt l.length) (w.setRow g (l.map bv ++ cur.toList.drop l.length).toArray) := by
  have h1 : ∀ v ∈ l.map bv, v.oneCell' = true := fun v hv => by
    obtain ⟨b, _, rfl⟩ := List.mem_map.1 hv
    rfl
  have hst := run_storeCells_at P g 0 t (l.map bv) 0 cur w hg (by simpa using hfit) h1
  have hmin : Nat.min (sb l).size dLen = l.length := by rw [size_sb]; exact Nat.min_eq_left hn
  have hex : ((sb l).extract 0 l.length).data.toList = l := by simp [sb]
  have hcells : (Array.map (fun b : UInt8 => Value.int .u8 (b.toNat : Int)) ((sb l).extract 0 l.length).data).toList = l.map bv := by
    rw [Array.toList_map, hex]
  cases hq : P.info? elem with
  | none => simp [hq] at hs
  | some i =>
    simp only [Builtin.copy_, sizeOf, typeInfo, Builtin.lenOf, Builtin.firstCells, Sem.run_bind, Sem.run_pure, Result.andThen_ok, run_underlying hu, hmin, hcells, List.getElem?_toArray, List.getElem?_cons_zero, List.getElem?_cons_succ]
    have hst2 : (storeCells ⟨g, 0, none⟩ (l.map bv)).run P w = .ok () (w.setRow g (l.map bv ++ cur.toList.drop l.length).toArray) := by simpa using hst
    simp [hq, hst2]
theorem Owns.copied (h : Owns w0 w L) (i : Nat) {g n c e : Nat} {xs : List Value} (hi : L[i]? = some ⟨.slice (some ⟨g, 0, none⟩) n c, e, 1, n, xs⟩) (l : List UInt8) (hl : l.length ≤ n) :
    ∃ cur, w.heap[g]? = some (.cells cur e (0, 0)) ∧ l.length ≤ cur.size ∧ Owns w0 (w.setRow g (l.map bv ++ cur.toList.drop l.length).toArray) (L.set i ⟨.slice (some ⟨g, 0, none⟩) n c, e, 1, n, l.map bv ++ xs.drop l.length⟩) := by
  have h1 := h.row i hi
  have hB := (h1.lt g rfl).1
  rcases h1.2 with ⟨h2, _⟩ | ⟨g', cap, cur, hv, _, hg, hc, hm, hs, ht⟩
  · cases h2
  · injection hv with e1 e2 e3
    injection e1 with e1
    injection e1 with e1
    subst e1 e3
    rw [Nat.mul_one] at hs ht
    refine ⟨cur, hg, by omega, h.put i _ ?_ ?_ ?_ ?_⟩
    · exact below_setRow h.ext hB _
    · refine ⟨?_, .inr ⟨g, c, (l.map bv ++ cur.toList.drop l.length).toArray, rfl, hB, setRow_heap w g _ _ e _ hg, hc, hm, ?_, ?_⟩⟩
      · have := h1.1
        simp
        omega
      · simp
        omega
      · show List.take (n * 1) _ = _
        rw [Nat.mul_one, List.toList_toArray, List.take_append, List.take_of_length_le (by simpa using hl), ← ht, List.length_map, List.drop_take]
    · intro j r hj hr g' hg'
      have hf := h.far j i _ _ hj hr hi
      refine setRow_other w g g' _ ?_
      rintro rfl
      rcases hf with h2 | h2
      · rw [hg'] at h2; cases h2
      · exact h2 hg'
    · intro j r hj hr
      have := h.far i j _ _ (Ne.symm hj) hi hr
      exact this
theorem wpl_copy_str {ops : Array Oper} {rest : List Oper} {o : Oper} {a : Act} {Q : Exit → Act → World → Prop} (hgd : o.guard = none) (d s : Operand) (dT sT : TypeId)
    (ho : o.op = .call { callee := .builtin .copy, args := #[d, s], argTypes := #[dT, sT] }) {e : TypeId} (hu : P.underlying dT = some (.slice e)) (hsz : (P.info? e).map (·.size) = some 1)
    (h : Owns w0 w L) (i : Nat) {g n c : Nat} {xs : List Value} (hL : L[i]? = some ⟨.slice (some ⟨g, 0, none⟩) n c, e, 1, n, xs⟩) (hd : a.eval d = .slice (some ⟨g, 0, none⟩) n c) {l : List UInt8} (hs : a.eval s = .string (sb l)) (hl : l.length ≤ n)
    (hK : ∀ w', Owns w0 w' (L.set i ⟨.slice (some ⟨g, 0, none⟩) n c, e, 1, n, l.map bv ++ xs.drop l.length⟩) → wpList P ops Q rest (a.put o.dst (goInt l.length)) w') :
    wpList P ops Q (o :: rest) a w := by
  refine wpList_plain hgd fun K hK' => ?_
  obtain ⟨cur, hg, hc, hO⟩ := h.copied i hL l hl
  have hr := run_copy_str (P := P) (w := w) dT sT o.type e g n c l cur e hu hsz hg hl hc
  unfold Oper.wp execOp
  simp only [ho, resolve, invoke, builtin, Sem.run_bind, Sem.run_pure, Result.andThen_ok, List.map_toArray, List.map_cons, List.map_nil, hd, hs, hr]
  exact hK' _ _ (hK _ hO)
theorem run_part (t e : TypeId) (hu : P.underlying t = some (.slice e)) (hsz : (P.info? e).map (·.size) = some 1) (ad : Addr) (n c l h : Nat) (hlh : l ≤ h) (hhc : h ≤ c) :
    (Instr.sliceAt t (.slice (some ad) n c) (some (.int .i64 (l : Int))) (some (.int .i64 (h : Int))) none).run P w = .ok (.slice (if c = l then some ad else some (ad.add l)) (h - l) (c - l)) w := by
  have e1 : (0 : Int) ≤ (h : Int) ∧ (h : Int) ≤ (c : Int) := by omega
  have e2 : (0 : Int) ≤ (l : Int) ∧ (l : Int) ≤ (h : Int) := by omega
  cases hq : P.info? e with
  | none => simp [hq] at hsz
  | some i =>
    have hi : i.size = 1 := by simpa [hq] using hsz
    simp [Instr.sliceAt, Instr.slice, Instr.sliceBounds, Instr.sliceBound, asIntOf, run_underlying hu, sizeOf, typeInfo, hq, hi, e1, e2, hlh, hhc]
theorem wpl_part {ops : Array Oper} {rest : List Oper} {o : Oper} {a : Act} {Q : Exit → Act → World → Prop} (hgd : o.guard = none) (t e : TypeId) (x lo hi : Operand) (ho : o.op = .slice t x (some lo) (some hi) none)
    (hu : P.underlying t = some (.slice e)) (hsz : (P.info? e).map (·.size) = some 1) {ad : Addr} {n c l h : Nat} (hx : a.eval x = .slice (some ad) n c) (hlo : a.eval lo = .int .i64 (l : Int)) (hhi : a.eval hi = .int .i64 (h : Int)) (hlh : l ≤ h) (hhc : h ≤ c)
    (hK : ∀ A, A = (if c = l then some ad else some (ad.add l)) → wpList P ops Q rest (a.put o.dst (.slice A (h - l) (c - l))) w) :
    wpList P ops Q (o :: rest) a w := by
  refine wpList_plain hgd fun K hK' => ?_
  have hr := run_part (P := P) (w := w) t e hu hsz ad n c l h hlh hhc
  unfold Oper.wp execOp
  simp only [ho, Option.map_some, Option.map_none, hx, hlo, hhi, hr, Sem.run_bind, Sem.run_pure, Result.andThen_ok]
  exact hK' _ _ (hK _ rfl)
end
end Go.Proofs.YtgkohfmgdejkpaaDoor
