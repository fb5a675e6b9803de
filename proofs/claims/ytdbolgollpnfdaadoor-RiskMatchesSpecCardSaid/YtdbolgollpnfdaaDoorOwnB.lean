/- ROWS THAT A CALL HAS MADE: their order, and which are named, is free. A call as a step of a region that draws. -/
import Derived.Test.YtdbolgollpnfdaaDoorOwn
namespace Go.Proofs.YtdbolgollpnfdaaDoor
open Go.RowKit
theorem Owns.pairwise {w0 w : World} {L : List LRow} (h : Owns w0 w L) : L.Pairwise LRow.far :=
  List.pairwise_iff_getElem.2 fun i j hi hj hij => h.far i j _ _ (by omega) (List.getElem?_eq_getElem hi) (List.getElem?_eq_getElem hj)
theorem Owns.all {w0 w : World} {L : List LRow} (h : Owns w0 w L) : ∀ r ∈ L, r.ok w0 w := fun r hr => by
  obtain ⟨i, hi, rfl⟩ := List.getElem_of_mem hr
  exact h.ok i _ (List.getElem?_eq_getElem hi)
theorem Owns.of_pairwise {w0 w : World} {L : List LRow} (hx : Ext w0 w) (ho : ∀ r ∈ L, r.ok w0 w) (hp : L.Pairwise LRow.far) : Owns w0 w L where
  ext := hx
  ok i r hr := ho r (List.mem_of_getElem? hr)
  far i j a b hij ha hb := by
    obtain ⟨hi, rfl⟩ := List.getElem?_eq_some_iff.1 ha
    obtain ⟨hj, rfl⟩ := List.getElem?_eq_some_iff.1 hb
    rcases Nat.lt_or_ge i j with h1 | h1
    · exact List.pairwise_iff_getElem.1 hp i j hi hj h1
    · exact LRow.far_symm (List.pairwise_iff_getElem.1 hp j i hj hi (by omega))
theorem Owns.perm {w0 w : World} {L L' : List LRow} (h : Owns w0 w L) (hp : L.Perm L') : Owns w0 w L' :=
  Owns.of_pairwise h.ext (fun r hr => h.all r (hp.mem_iff.2 hr)) ((hp.pairwise_iff (fun h => LRow.far_symm h)).1 h.pairwise)
theorem Owns.sublist {w0 w : World} {L L' : List LRow} (h : Owns w0 w L) (hp : L'.Sublist L) : Owns w0 w L' :=
  Owns.of_pairwise h.ext (fun r hr => h.all r (hp.subset hr)) (h.pairwise.sublist hp)
/-- A call of a function, as a step of a region that draws its order. -/
theorem step_calls {P : Program} {ops : Array Oper} {o : Oper} {a : Act} {w : World} {K : Act → World → Prop} {Q : Exit → Act → World → Prop} {E : Prop} {f : FuncId} {args : Array Value} {v : Value} {R : World → Prop} (hgd : o.guard = none)
    (ho : (execOp a.eval o).run P w = .ok (.enter f args) w) (h : Calls P f args w fun e w' => e = .returned v ∧ R w')
    (hK : ∀ w', R w' → K (a.put o.dst v) w') : if Region.wanted o (yielded ops a.tmps) = true then Oper.wp P o a w K Q else E := by
  have hw : Region.wanted o (yielded ops a.tmps) = true := by simp [Region.wanted, hgd]
  rw [if_pos hw]
  unfold Oper.wp
  simp only [ho, Oper.upon]
  refine h.mono ?_
  rintro e w' ⟨rfl, hr⟩
  exact hK w' hr
end Go.Proofs.YtdbolgollpnfdaaDoor
