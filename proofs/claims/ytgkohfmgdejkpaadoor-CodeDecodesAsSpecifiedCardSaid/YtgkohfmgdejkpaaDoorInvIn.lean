/- A REGION THAT DRAWS ITS ORDER, by an invariant (XInv), inside a fence: in the body of a range over a function. -/
import Derived.Test.YtgkohfmgdejkpaaDoorInv
import Derived.RangeFuncNested
import Derived.RangeFuncBound
import Derived.RangeFuncCalls
import Derived.RangeFuncLeaves
import Derived.Shelf.Abstract
import Derived.Shelf.RegionOpen
import Derived.OwnWalkIn
import Derived.TacticsInMore
import Derived.LoopNIn
import Derived.LoopIn
import Derived.OrdersIn
namespace Go.Proofs.YtgkohfmgdejkpaaDoor
open Go.RowKit Go.Shelf
section
variable {F : Fence} {n : Nat} {P : Program} {ops : Array Oper} {Q : Exit → Act → World → Prop} {md : Region.Mode}
theorem wpAnyIn_inv (I : Array Bool → Act → World → Prop)
    (hstep : ∀ listed a w i, I listed a w → i ∈ Region.ready md ops listed → wpOpIn F n P ops Q i (I (listed.setIfInBounds i true)) a w)
    (hend : ∀ listed a w, I listed a w → Region.ready md ops listed = [] → Q .normal a w) :
    ∀ (fuel : Nat) (listed : Array Bool) (a : Act) (w : World), undone listed ≤ fuel → I listed a w → wpAnyIn F n P md ops Q fuel listed a w := by
  have hun : ∀ (listed : Array Bool) (i : Nat), i ∈ Region.ready md ops listed → listed.getD i true = false := fun listed i hi => by
    unfold Region.ready at hi
    have := (List.mem_filter.1 hi).2
    simp only [Bool.and_eq_true, Bool.not_eq_true'] at this
    exact this.1
  intro fuel
  induction fuel with
  | zero =>
    intro listed a w hf hI
    have hr : Region.ready md ops listed = [] := by
      cases h : Region.ready md ops listed with
      | nil => rfl
      | cons i r =>
        exfalso
        have := undone_set (hun listed i (by rw [h]; simp))
        omega
    exact ⟨hr, hend _ _ _ hI hr⟩
  | succ fuel ih =>
    intro listed a w hf hI
    refine ⟨fun hr => hend _ _ _ hI hr, fun i hi => ?_⟩
    have h1 := undone_set (hun listed i hi)
    exact wpOpIn_mono (fun a w h => ih _ a w (by omega) h) (hstep _ _ _ _ hI hi)
def StepOkIn (F : Fence) (n : Nat) (P : Program) (ops : Array Oper) (Q : Exit → Act → World → Prop) (deps : List (List Nat)) (I : (Nat → Bool) → Act → World → Prop) (i : Nat) : Prop :=
  ∀ L a w, I L a w → L i = false → Closed deps L → (∀ j ∈ deps.getD i [], L j = true) → wpOpIn F n P ops Q i (I (upd L i)) a w
def StepsIn' (F : Fence) (n : Nat) (P : Program) (ops : Array Oper) (Q : Exit → Act → World → Prop) (deps : List (List Nat)) (I : (Nat → Bool) → Act → World → Prop) : Nat → Nat → Prop
  | _, 0 => True
  | m, k + 1 => StepOkIn F n P ops Q deps I m ∧ StepsIn' F n P ops Q deps I (m + 1) k
theorem StepsIn'.at {deps : List (List Nat)} {I : (Nat → Bool) → Act → World → Prop} : ∀ {k m i : Nat}, StepsIn' F n P ops Q deps I m k → m ≤ i → i < m + k → StepOkIn F n P ops Q deps I i
  | 0, m, i, _, h1, h2 => by omega
  | k + 1, m, i, h, h1, h2 => by
    by_cases he : i = m
    · rw [he]; exact h.1
    · exact StepsIn'.at h.2 (by omega) (by omega)
theorem region_invIn {id : Nat} {a : Act} {w : World} (hm : P.follows .mixedOrders = true) (deps : List (List Nat)) (hdeps : depsOf ops = deps) (ord : List Nat) (ht : topo deps ord [] = true) (ho : ((List.range deps.length).all fun i => ord.contains i) = true) (ho2 : (ord.all fun i => decide (i < deps.length)) = true)
    (I : (Nat → Bool) → Act → World → Prop) (h0 : I (fun _ => false) a { w with drawn := w.drawn + 1 })
    (hs : StepsIn' F n P ops Q deps I 0 deps.length)
    (hend : ∀ L a w, I L a w → (∀ i, i < deps.length → L i = true) → Q .normal a w) : (Code.region id ops true).wpIn F n P Q a w := by
  refine wpIn_region_any hm ?_
  have hlen : deps.length = ops.size := by rw [← hdeps]; simp [depsOf]
  have hdep : ∀ (i : Nat) (o : Oper), ops[i]? = some o → deps.getD i [] = (o.after.toList.filter (Region.binds .any)).map (·.on) := fun i o hi => by
    rw [← hdeps, depsOf, List.getD_eq_getElem?_getD, List.getElem?_map]
    rw [← Array.getElem?_toList] at hi
    rw [hi]
    rfl
  have hun : undone (Array.replicate ops.size false) ≤ ops.size := by
    unfold undone
    have := List.countP_le_length (p := (· == false)) (l := (Array.replicate ops.size false).toList)
    simpa using this
  refine wpAnyIn_inv (fun listed a w => listed.size = ops.size ∧ Closed deps (fun j => listed.getD j false) ∧ I (fun j => listed.getD j false) a w) ?_ ?_ ops.size _ _ _ hun ?_
  · rintro listed a w i ⟨hsz, hc, hI⟩ hi
    obtain ⟨h1, h2, h3⟩ := ready_spec hi
    have hL : listed.getD i false = false := by
      rw [Array.getD_eq_getD_getElem?] at h2 ⊢
      rw [Array.getElem?_eq_getElem (by omega)] at h2 ⊢
      exact h2
    obtain ⟨o, hoi⟩ : ∃ o, ops[i]? = some o := ⟨_, Array.getElem?_eq_getElem h1⟩
    have hd : ∀ j ∈ deps.getD i [], listed.getD j false = true := fun j hj => by
      rw [hdep i o hoi] at hj
      obtain ⟨e, he, rfl⟩ := List.mem_map.1 hj
      exact h3 o hoi e (by simpa using (List.mem_filter.1 he).1) (List.mem_filter.1 he).2
    have hu : (fun j => (listed.setIfInBounds i true).getD j false) = upd (fun j => listed.getD j false) i := by
      funext j
      unfold upd
      by_cases hji : j = i
      · subst hji
        rw [if_pos rfl, Array.getD_eq_getD_getElem?, Array.getElem?_setIfInBounds_self_of_lt (by omega)]
        rfl
      · rw [if_neg hji]
        exact getD_set_ne false (Ne.symm hji)
    have hstep := StepsIn'.at hs (Nat.zero_le i) (by omega) (fun j => listed.getD j false) a w hI hL hc hd
    refine wpOpIn_mono ?_ hstep
    intro a' w' hI'
    refine ⟨by rw [Array.size_setIfInBounds]; exact hsz, ?_, by rw [hu]; exact hI'⟩
    rw [hu]
    intro k hk j hj
    unfold upd at hk ⊢
    by_cases hki : k = i
    · subst hki
      split
      · rfl
      · exact hd j hj
    · rw [if_neg hki] at hk
      split
      · rfl
      · exact hc k hk j hj
  · rintro listed a w ⟨hsz, hc, hI⟩ hr
    refine hend _ a w hI ?_
    have hall : ∀ i, i < deps.length → (∀ j ∈ deps.getD i [], listed.getD j false = true) → listed.getD i false = true := by
      intro i hi hdi
      by_cases hL : listed.getD i false = true
      · exact hL
      · exfalso
        have hmem : i ∈ Region.ready .any ops listed := by
          rw [mem_ready]
          obtain ⟨o, hoi⟩ : ∃ o, ops[i]? = some o := ⟨_, Array.getElem?_eq_getElem (by omega)⟩
          refine ⟨?_, o, hoi, fun e he hbn => hdi e.on (by rw [hdep i o hoi]; exact List.mem_map.2 ⟨e, List.mem_filter.2 ⟨by simpa using he, hbn⟩, rfl⟩)⟩
          rw [Array.getD_eq_getD_getElem?] at hL ⊢
          rw [Array.getElem?_eq_getElem (by omega)] at hL ⊢
          simpa using hL
        rw [hr] at hmem
        cases hmem
    intro i hi
    refine topo_all (L := fun j => listed.getD j false) hall ord [] ht (fun i hi => by simpa using List.all_eq_true.1 ho2 i hi) (fun j hj => by cases hj) i ?_
    have := List.all_eq_true.1 ho i (by simpa using hi)
    simpa using this
  · refine ⟨by simp, fun i hi => ?_, ?_⟩
    · simp [Array.getElem?_replicate] at hi
      split at hi <;> simp at hi
    · have e : (fun j => (Array.replicate ops.size false).getD j false) = fun _ => false := by
        funext j
        simp [Array.getElem?_replicate]
        split <;> simp
      rw [e]
      exact h0
theorem wpIn_atEnd {c : Code} {K : Act → World → Prop} {Q : Exit → Act → World → Prop} {a : Act} {w : World} (h : Code.wpIn F n P c (AtEnd K) a w) : Code.wpIn F n P c (Exit.then K Q) a w :=
  Code.wpIn_mono (fun e a w hr => by
    cases e with
    | normal => exact hr
    | _ => exact (hr : False).elim) h
theorem wpIn_atEnd' {c : Code} {Q : Exit → Act → World → Prop} {a : Act} {w : World} (h : Code.wpIn F n P c (AtEnd fun a w => Q .normal a w) a w) : Code.wpIn F n P c Q a w :=
  Code.wpIn_mono (fun e a w hr => by
    cases e with
    | normal => exact hr
    | _ => exact (hr : False).elim) h
theorem wpOpIn_value {i : Nat} {o : Oper} {a : Act} {w w' : World} {K : Act → World → Prop} {v : Value} (hF : ∀ f, F.fn f) (hi : ops[i]? = some o) (hg : o.guard = none) (hdf : ∀ c, o.op ≠ .defer c) (hr : (execOp a.eval o).run P w = .ok (.value v) w') (hK : K (a.put o.dst v) w') : wpOpIn F n P ops Q i K a w := by
  have hw : Region.wanted o (yielded ops a.tmps) = true := by simp [Region.wanted, hg]
  unfold wpOpIn
  simp only [hi, hw, if_true, Oper.wpIn, Oper.semAt_plain F _ _ hdf, hr, Oper.uponIn]
  exact ⟨fun f _ => hF f, hK⟩
theorem wpOpIn_skip {i : Nat} {o : Oper} {a : Act} {w w' : World} {K : Act → World → Prop} (hF : ∀ f, F.fn f) (hi : ops[i]? = some o) (hg : o.guard = none) (hdf : ∀ c, o.op ≠ .defer c) (hd : o.dst = none) (hr : (execOp a.eval o).run P w = .ok .skip w') (hK : K a w') : wpOpIn F n P ops Q i K a w := by
  have hw : Region.wanted o (yielded ops a.tmps) = true := by simp [Region.wanted, hg]
  unfold wpOpIn
  simp only [hi, hw, if_true, Oper.wpIn, Oper.semAt_plain F _ _ hdf, hr, Oper.uponIn, hd, Act.put]
  exact ⟨fun f _ => hF f, hK⟩
theorem wpOpIn_call {i : Nat} {o : Oper} {a : Act} {w w1 : World} {K : Act → World → Prop} {f : FuncId} {args : Array Value} {R : Value → World → Prop} (hF : ∀ f, F.fn f) (hD : F.depth = none) (hi : ops[i]? = some o) (hg : o.guard = none) (hdf : ∀ c, o.op ≠ .defer c) (hr : (execOp a.eval o).run P w = .ok (.enter f args) w1)
    (h : CallsIn F (n - 1) P f args w1 fun e w' => ∃ v, e = .returned v ∧ R v w') (hK : ∀ v w', R v w' → K (a.put o.dst v) w') : wpOpIn F n P ops Q i K a w := by
  have hw : Region.wanted o (yielded ops a.tmps) = true := by simp [Region.wanted, hg]
  unfold wpOpIn
  simp only [hi, hw, if_true, Oper.wpIn, Oper.semAt_plain F _ _ hdf, hr, Oper.uponIn]
  refine ⟨fun f _ => hF f, ⟨fun hh => absurd hh (by rw [hD]; simp), h.mono ?_⟩⟩
  rintro e w' ⟨v, rfl, hv⟩
  exact hK v w' hv
theorem wpOpIn_val {i : Nat} {o : Oper} {a : Act} {w w' : World} {K : Act → World → Prop} {v : Value} (hF : ∀ f, F.fn f) (hi : ops[i]? = some o) (hw : Region.wanted o (yielded ops a.tmps) = true) (hdf : ∀ c, o.op ≠ .defer c) (hr : (execOp a.eval o).run P w = .ok (.value v) w') (hK : K (a.put o.dst v) w') : wpOpIn F n P ops Q i K a w := by
  unfold wpOpIn
  simp only [hi, hw, if_true, Oper.wpIn, Oper.semAt_plain F _ _ hdf, hr, Oper.uponIn]
  exact ⟨fun f _ => hF f, hK⟩
theorem wpOpIn_off {i : Nat} {o : Oper} {a : Act} {w : World} {K : Act → World → Prop} (hF : ∀ f, F.fn f) (hi : ops[i]? = some o) (hw : Region.wanted o (yielded ops a.tmps) = false) (hK : K (a.put o.dst undef) w) : wpOpIn F n P ops Q i K a w := by
  unfold wpOpIn
  simp only [hi, hw]
  exact ⟨fun f _ => hF f, hK⟩
theorem wpOpIn_yield {i : Nat} {o : Oper} {a : Act} {w : World} {K : Act → World → Prop} {l : Nat} {f : Operand} {args : Array Operand} {ts : Array TypeId} {vs : Array Value} {R : Ending → World → Prop} (hF : ∀ f, F.fn f) (hD : F.depth = none) (hi : ops[i]? = some o) (hw : Region.wanted o (yielded ops a.tmps) = true) (ho : o.op = .call { callee := .value f, args := args, argTypes := ts }) (hf : a.eval f = .func (.yield l) #[] #[]) (ha : args.map a.eval = vs)
    (hy : YieldAt F (n - 1) P l vs w R) (hR : ∀ e w', R e w' → ∃ v, e = .returned v ∧ K (a.put o.dst v) w') : wpOpIn F n P ops Q i K a w := by
  obtain ⟨fn, tmps, assign, body, hy, hr⟩ := hy
  have he : (execOp a.eval o).run P w = .ok (.round l fn tmps assign body) w := by
    unfold execOp
    simp only [ho, resolve, hf, Deferred.ofValue, invoke, Sem.run_bind, Sem.run_pure, Result.andThen_ok, Array.empty_append, ha, hy]
  unfold wpOpIn
  simp only [hi, hw, if_true, Oper.wpIn, Oper.semAt_plain F _ _ (fun c => by rw [ho]; intro hh; cases hh), he, Oper.uponIn]
  refine ⟨fun f _ => hF f, ⟨fun hh => absurd hh (by rw [hD]; simp), hr.mono ?_⟩⟩
  intro e w' h
  obtain ⟨v, rfl, hk⟩ := hR e w' h
  exact hk
end
end Go.Proofs.YtgkohfmgdejkpaaDoor
