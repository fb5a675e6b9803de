/- A REGION THAT DRAWS ITS ORDER, by an invariant: what each operation yields, and what the world is by those that are done. One obligation per operation. -/
import Derived.Test.YtdbolgollpnfdaaDoorAnyOrd
import Derived.WalkKit
import Derived.Test.YtdbolgollpnfdaaDoorOwnB
namespace Go.Proofs.YtdbolgollpnfdaaDoor
open Go.RowKit
def upd (L : Nat → Bool) (i : Nat) : Nat → Bool := fun j => if j = i then true else L j
def depsOf (ops : Array Oper) : List (List Nat) := ops.toList.map fun o => (o.after.toList.filter (Region.binds .any)).map (·.on)
def Closed (deps : List (List Nat)) (L : Nat → Bool) : Prop := ∀ i, L i = true → ∀ j ∈ deps.getD i [], L j = true
/-- The order: each waits for such alone as stand before it. -/
def topo (deps : List (List Nat)) : List Nat → List Nat → Bool
  | [], _ => true
  | i :: r, done => (deps.getD i []).all (fun j => done.contains j) && topo deps r (i :: done)
section
variable {P : Program} {ops : Array Oper} {Q : Exit → Act → World → Prop}
def StepOk (P : Program) (ops : Array Oper) (Q : Exit → Act → World → Prop) (deps : List (List Nat)) (I : (Nat → Bool) → Act → World → Prop) (i : Nat) : Prop :=
  ∀ L a w, I L a w → L i = false → Closed deps L → (∀ j ∈ deps.getD i [], L j = true) → wpOp P ops Q i (I (upd L i)) a w
def Steps (P : Program) (ops : Array Oper) (Q : Exit → Act → World → Prop) (deps : List (List Nat)) (I : (Nat → Bool) → Act → World → Prop) : Nat → Nat → Prop
  | _, 0 => True
  | n, k + 1 => StepOk P ops Q deps I n ∧ Steps P ops Q deps I (n + 1) k
theorem Steps.at {deps : List (List Nat)} {I : (Nat → Bool) → Act → World → Prop} : ∀ {k n i : Nat}, Steps P ops Q deps I n k → n ≤ i → i < n + k → StepOk P ops Q deps I i
  | 0, n, i, _, h1, h2 => by omega
  | k + 1, n, i, h, h1, h2 => by
    by_cases he : i = n
    · rw [he]; exact h.1
    · exact Steps.at h.2 (by omega) (by omega)
theorem topo_all {deps : List (List Nat)} {L : Nat → Bool} (hr : ∀ i, i < deps.length → (∀ j ∈ deps.getD i [], L j = true) → L i = true) : ∀ (ord done : List Nat), topo deps ord done = true → (∀ i ∈ ord, i < deps.length) → (∀ j ∈ done, L j = true) → ∀ i ∈ ord, L i = true
  | [], _, _, _, _ => fun i h => by cases h
  | k :: r, done, ht, hl, hd => by
    rw [topo, Bool.and_eq_true] at ht
    have hk : L k = true := hr k (hl k (by simp)) fun j hj => hd j (by
      have := List.all_eq_true.1 ht.1 j hj
      simpa using this)
    intro i hi
    rcases List.mem_cons.1 hi with rfl | hi
    · exact hk
    · exact topo_all hr r (k :: done) ht.2 (fun i hi => hl i (by simp [hi])) (fun j hj => by
        rcases List.mem_cons.1 hj with rfl | hj
        · exact hk
        · exact hd j hj) i hi
theorem region_inv {id : Nat} {a : Act} {w : World} (hm : P.follows .mixedOrders = true) (deps : List (List Nat)) (hdeps : depsOf ops = deps) (ord : List Nat) (ht : topo deps ord [] = true) (ho : ((List.range deps.length).all fun i => ord.contains i) = true) (ho2 : (ord.all fun i => decide (i < deps.length)) = true)
    (I : (Nat → Bool) → Act → World → Prop) (h0 : I (fun _ => false) a { w with drawn := w.drawn + 1 })
    (hs : Steps P ops Q deps I 0 deps.length)
    (hend : ∀ L a w, I L a w → (∀ i, i < deps.length → L i = true) → Q .normal a w) : (Code.region id ops true).wp P Q a w := by
  refine wp_region_any hm ?_
  have hlen : deps.length = ops.size := by rw [← hdeps]; simp [depsOf]
  have hdep : ∀ (i : Nat) (o : Oper), ops[i]? = some o → deps.getD i [] = (o.after.toList.filter (Region.binds .any)).map (·.on) := fun i o hi => by
    rw [← hdeps, depsOf, List.getD_eq_getElem?_getD, List.getElem?_map]
    rw [← Array.getElem?_toList] at hi
    rw [hi]
    rfl
  have hun : undone (Array.replicate ops.size false) ≤ ops.size := by
    unfold undone
    have := List.countP_le_length (p := (· == false)) (l := (Array.replicate ops.size false).toList)
    simpa using this
  refine wpAny_inv (fun listed a w => listed.size = ops.size ∧ Closed deps (fun j => listed.getD j false) ∧ I (fun j => listed.getD j false) a w) ?_ ?_ ops.size _ _ _ hun ?_
  · rintro listed a w i ⟨hsz, hc, hI⟩ hi
    obtain ⟨h1, h2, h3⟩ := ready_spec hi
    have hL : listed.getD i false = false := by
      rw [Array.getD_eq_getD_getElem?] at h2 ⊢
      rw [Array.getElem?_eq_getElem (by omega)] at h2 ⊢
      exact h2
    obtain ⟨o, hoi⟩ : ∃ o, ops[i]? = some o := ⟨_, Array.getElem?_eq_getElem h1⟩
    have hd : ∀ j ∈ deps.getD i [], listed.getD j false = true := fun j hj => by
      rw [hdep i o hoi] at hj
      obtain ⟨e, he, rfl⟩ := List.mem_map.1 hj
      exact h3 o hoi e (by simpa using (List.mem_filter.1 he).1) (List.mem_filter.1 he).2
    have hu : (fun j => (listed.setIfInBounds i true).getD j false) = upd (fun j => listed.getD j false) i := by
      funext j
      unfold upd
      by_cases hji : j = i
      · subst hji
        rw [if_pos rfl, Array.getD_eq_getD_getElem?, Array.getElem?_setIfInBounds_self_of_lt (by omega)]
        rfl
      · rw [if_neg hji]
        exact getD_set_ne false (Ne.symm hji)
    have hstep := Steps.at hs (Nat.zero_le i) (by omega) (fun j => listed.getD j false) a w hI hL hc hd
    refine wpOp_mono ?_ hstep
    intro a' w' hI'
    refine ⟨by rw [Array.size_setIfInBounds]; exact hsz, ?_, by rw [hu]; exact hI'⟩
    rw [hu]
    intro k hk j hj
    unfold upd at hk ⊢
    by_cases hki : k = i
    · subst hki
      split
      · rfl
      · exact hd j hj
    · rw [if_neg hki] at hk
      split
      · rfl
      · exact hc k hk j hj
  · rintro listed a w ⟨hsz, hc, hI⟩ hr
    refine hend _ a w hI ?_
    have hall : ∀ i, i < deps.length → (∀ j ∈ deps.getD i [], listed.getD j false = true) → listed.getD i false = true := by
      intro i hi hdi
      by_cases hL : listed.getD i false = true
      · exact hL
      · exfalso
        have hmem : i ∈ Region.ready .any ops listed := by
          rw [mem_ready]
          obtain ⟨o, hoi⟩ : ∃ o, ops[i]? = some o := ⟨_, Array.getElem?_eq_getElem (by omega)⟩
          refine ⟨?_, o, hoi, fun e he hbn => hdi e.on (by rw [hdep i o hoi]; exact List.mem_map.2 ⟨e, List.mem_filter.2 ⟨by simpa using he, hbn⟩, rfl⟩)⟩
          rw [Array.getD_eq_getD_getElem?] at hL ⊢
          rw [Array.getElem?_eq_getElem (by omega)] at hL ⊢
          simpa using hL
        rw [hr] at hmem
        cases hmem
    intro i hi
    refine topo_all (L := fun j => listed.getD j false) hall ord [] ht (fun i hi => by simpa using List.all_eq_true.1 ho2 i hi) (fun j hj => by cases hj) i ?_
    have := List.all_eq_true.1 ho i (by simpa using hi)
    simpa using this
  · refine ⟨by simp, fun i hi => ?_, ?_⟩
    · simp [Array.getElem?_replicate] at hi
      split at hi <;> simp at hi
    · have e : (fun j => (Array.replicate ops.size false).getD j false) = fun _ => false := by
        funext j
        simp [Array.getElem?_replicate]
        split <;> simp
      rw [e]
      exact h0
theorem wpOp_value {i : Nat} {o : Oper} {a : Act} {w w' : World} {K : Act → World → Prop} {v : Value} (hi : ops[i]? = some o) (hg : o.guard = none) (hr : (execOp a.eval o).run P w = .ok (.value v) w') (hK : K (a.put o.dst v) w') : wpOp P ops Q i K a w := by
  have hw : Region.wanted o (yielded ops a.tmps) = true := by simp [Region.wanted, hg]
  unfold wpOp
  simp only [hi, hw, if_true, Oper.wp, hr, Oper.upon]
  exact .inl hK
theorem wpOp_skip {i : Nat} {o : Oper} {a : Act} {w w' : World} {K : Act → World → Prop} (hi : ops[i]? = some o) (hg : o.guard = none) (hd : o.dst = none) (hr : (execOp a.eval o).run P w = .ok .skip w') (hK : K a w') : wpOp P ops Q i K a w := by
  have hw : Region.wanted o (yielded ops a.tmps) = true := by simp [Region.wanted, hg]
  unfold wpOp
  simp only [hi, hw, if_true, Oper.wp, hr, Oper.upon, hd, Act.put]
  exact .inl hK
theorem wpOp_call {i : Nat} {o : Oper} {a : Act} {w w1 : World} {K : Act → World → Prop} {f : FuncId} {args : Array Value} {R : Value → World → Prop} (hi : ops[i]? = some o) (hg : o.guard = none) (hr : (execOp a.eval o).run P w = .ok (.enter f args) w1)
    (h : Calls P f args w1 fun e w' => ∃ v, e = .returned v ∧ R v w') (hK : ∀ v w', R v w' → K (a.put o.dst v) w') : wpOp P ops Q i K a w := by
  have hw : Region.wanted o (yielded ops a.tmps) = true := by simp [Region.wanted, hg]
  unfold wpOp
  simp only [hi, hw, if_true, Oper.wp, hr, Oper.upon]
  refine .inl (h.mono ?_)
  rintro e w' ⟨v, rfl, hv⟩
  exact hK v w' hv
end
section
variable {P : Program} {o : Oper} {a : Act} {w : World}
theorem ex_move {x : Operand} {v : Value} (ho : o.op = .move x) (hx : a.eval x = v) : (execOp a.eval o).run P w = .ok (.value v) w := by
  subst hx
  unfold execOp
  simp only [ho, Sem.run_pure]
theorem ex_nil {x : Operand} {ad : Addr} (ho : o.op = .nilCheck x) (hx : a.eval x = .pointer (some ad)) : (execOp a.eval o).run P w = .ok (.value (.pointer (some ad))) w := by
  unfold execOp
  simp only [ho, hx, Sem.run_pure]
theorem ex_field {s : TypeId} {x : Operand} {f : Nat} {v u : Value} (ho : o.op = .fieldAddr s x f) (hx : a.eval x = u) (hr : (Instr.fieldAt s u f).run P w = .ok v w) : (execOp a.eval o).run P w = .ok (.value v) w := by
  unfold execOp
  simp only [ho, hx, hr, Sem.run_bind, Sem.run_pure, Result.andThen_ok]
theorem ex_index {s : TypeId} {x y : Operand} {v u z : Value} (ho : o.op = .indexAddr s x y) (hx : a.eval x = u) (hy : a.eval y = z) (hr : (Instr.indexAt s u z).run P w = .ok v w) : (execOp a.eval o).run P w = .ok (.value v) w := by
  unfold execOp
  simp only [ho, hx, hy, hr, Sem.run_bind, Sem.run_pure, Result.andThen_ok]
theorem ex_load {t : TypeId} {x : Operand} {u v : Value} (ho : o.op = .load t x) (hx : a.eval x = u) (hr : (Instr.loadAt t u).run P w = .ok v w) : (execOp a.eval o).run P w = .ok (.value v) w := by
  unfold execOp
  simp only [ho, hx, hr, Sem.run_bind, Sem.run_pure, Result.andThen_ok]
theorem ex_store {t : TypeId} {x y : Operand} {u v : Value} {w' : World} (ho : o.op = .store t x y) (hx : a.eval x = u) (hy : a.eval y = v) (hr : (Instr.storeAt t u v).run P w = .ok () w') : (execOp a.eval o).run P w = .ok .skip w' := by
  unfold execOp
  simp only [ho, hx, hy, hr, Sem.run_bind, Sem.run_pure, Result.andThen_ok]
theorem ex_build {t e : TypeId} {z : Value} {bytes : Nat} {x : Operand} {u : Value} (ho : o.op = .buildSlice t 1 #[(0, x)]) (ht : P.underlying t = some (.slice e)) (hi : (P.info? e).map (fun i => (i.zero, i.size, i.bytes)) = some (some z, 1, bytes)) (hx : a.eval x = u) (hu : u.cells = #[u]) :
    (execOp a.eval o).run P w = .ok (.value (.slice (some ⟨w.heap.size, 0, none⟩) 1 1)) (w.alloc (.cells #[u] e)) := by
  have hr := run_build_one (P := P) ht hi w u hu
  unfold execOp
  simp only [ho, List.map_toArray, List.map_cons, List.map_nil, hx, hr, Sem.run_bind, Sem.run_pure, Result.andThen_ok]
theorem ex_assign {x : Operand} {v : Value} (ho : o.op = .assign x) (hx : a.eval x = v) : (execOp a.eval o).run P w = .ok (.value v) w := by
  subst hx
  unfold execOp
  simp only [ho, Sem.run_pure]
theorem ex_convert {s d : TypeId} {x : Operand} {u v : Value} {w' : World} (ho : o.op = .convert s d x) (hx : a.eval x = u) (hr : (convert s d u).run P w = .ok v w') : (execOp a.eval o).run P w = .ok (.value v) w' := by
  unfold execOp
  simp only [ho, hx, hr, Sem.run_bind, Sem.run_pure, Result.andThen_ok]
theorem ex_bin {op : BinOp} {t t2 : TypeId} {x y : Operand} {u v r : Value} (ho : o.op = .binOp op t x y t2) (hx : a.eval x = u) (hy : a.eval y = v) (hr : (do eqGuard op t x y u v; binOp op t u v : Sem Value).run P w = .ok r w) : (execOp a.eval o).run P w = .ok (.value r) w := by
  unfold execOp
  simp only [ho, hx, hy, Sem.run_bind, Sem.run_pure] at hr ⊢
  rw [hr]
  rfl
theorem ex_un {op : UnOp} {t : TypeId} {x : Operand} {u r : Value} (ho : o.op = .unOp op t x) (hx : a.eval x = u) (hr : (Op.unary op u).run P w = .ok r w) : (execOp a.eval o).run P w = .ok (.value r) w := by
  unfold execOp
  simp only [ho, hx, hr, Sem.run_bind, Sem.run_pure, Result.andThen_ok]
theorem ex_pick {c x y : Operand} {b : Bool} {u : Value} (ho : o.op = .pick c x y) (hc : a.eval c = .bool b) (hx : (if b then a.eval x else a.eval y) = u) : (execOp a.eval o).run P w = .ok (.value u) w := by
  subst hx
  unfold execOp
  simp [ho, hc, asBool, Sem.run_pure]
theorem ex_slice {t : TypeId} {x : Operand} {lo hi mx : Option Operand} {v : Value} (ho : o.op = .slice t x lo hi mx) (hr : (Instr.sliceAt t (a.eval x) (lo.map a.eval) (hi.map a.eval) (mx.map a.eval)).run P w = .ok v w) : (execOp a.eval o).run P w = .ok (.value v) w := by
  unfold execOp
  simp only [ho, hr, Sem.run_bind, Sem.run_pure, Result.andThen_ok]
theorem ex_len {x : Operand} {A : Option Addr} {n c : Nat} {t : TypeId} (ho : o.op = .call { callee := .builtin .len, args := #[x], argTypes := #[t] }) (hx : a.eval x = .slice A n c) (hr : (Builtin.len_ #[t] o.type #[.slice A n c]).run P w = .ok (.int .i64 n) w) : (execOp a.eval o).run P w = .ok (.value (.int .i64 n)) w := by
  unfold execOp
  simp only [ho, resolve, invoke, builtin, Sem.run_bind, Sem.run_pure, Result.andThen_ok, List.map_toArray, List.map_cons, List.map_nil, hx, hr]
theorem map1 {x : Operand} {u : Value} (h : a.eval x = u) : #[x].map a.eval = #[u] := by rw [List.map_toArray, List.map_cons, List.map_nil, h]
theorem map0c : (#[] : Array Operand).map a.eval ++ #[] = (#[] : Array Value) := by simp
theorem map1c {x : Operand} {u : Value} (h : a.eval x = u) : #[x].map a.eval ++ #[] = #[u] := by rw [map1 h]; rfl
theorem map2c {x y : Operand} {u v : Value} (h : a.eval x = u) (h2 : a.eval y = v) : #[x, y].map a.eval ++ #[] = #[u, v] := by simp [h, h2]
theorem map3c {x y z : Operand} {u v s : Value} (h : a.eval x = u) (h2 : a.eval y = v) (h3 : a.eval z = s) : #[x, y, z].map a.eval ++ #[] = #[u, v, s] := by simp [h, h2, h3]
theorem map4c {x y z x2 : Operand} {u v s r : Value} (h : a.eval x = u) (h2 : a.eval y = v) (h3 : a.eval z = s) (h4 : a.eval x2 = r) : #[x, y, z, x2].map a.eval ++ #[] = #[u, v, s, r] := by simp [h, h2, h3, h4]
theorem ex_call {f : Operand} {k : FuncId} {args : Array Operand} {ts : Array TypeId} {cap vs : Array Value} (ho : o.op = .call { callee := .value f, args := args, argTypes := ts }) (hf : a.eval f = .func (.func k) #[] cap) (ha : args.map a.eval ++ cap = vs) (he : (callFunc k vs).run P w = .ok (.enter k vs) w) : (execOp a.eval o).run P w = .ok (.enter k vs) w := by
  subst ha
  unfold execOp
  simp only [ho, resolve, hf, Deferred.ofValue, invoke, Sem.run_bind, Sem.run_pure, Result.andThen_ok, Array.empty_append, he]
/-- 'append(row, x)' onto a row of the call's own, x laid in a row of one cell. -/
theorem ex_append {w0 : World} {L : List LRow} (t e : TypeId) {s x : Operand} (ho : o.op = .call { callee := .builtin .append, args := #[s, x], argTypes := #[t, t] })
    {z : Value} {bytes : Nat} (ht : P.underlying t = some (.slice e)) (hi : (P.info? e).map (fun i => (i.zero, i.size, i.bytes)) = some (some z, 1, bytes)) (hzs : z.cells.size = 1)
    (h : Owns w0 w L) (i : Nat) {v : Value} {n : Nat} {xs : List Value} (hL : L[i]? = some ⟨v, e, 1, n, xs⟩) (hs : a.eval s = v) {g0 : Nat} {u : Value}
    (hx : a.eval x = .slice (some ⟨g0, 0, none⟩) 1 1) (hu : w.cell? ⟨g0, 0, none⟩ = some u) (h1 : u.oneCell' = true) (hm : n < 1000000000000) (hb : bytes ≤ 100) :
    ∃ g cap w', (execOp a.eval o).run P w = .ok (.value (.slice (some ⟨g, 0, none⟩) (n + 1) cap)) w' ∧ Owns w0 w' (L.set i ⟨.slice (some ⟨g, 0, none⟩) (n + 1) cap, e, 1, n + 1, xs ++ [u]⟩) := by
  have hbb : (n + 1) * bytes ≤ (n + 1) * 100 := Nat.mul_le_mul_left _ hb
  obtain ⟨g, cap, w', hr, h2, _, h3⟩ := run_append_owns (P := P) t o.type e ht hi hzs (by decide) h i hL ⟨g0, 0, none⟩ 1 1 [u] rfl (fun j y hj => by
    match j, hj with
    | 0, hj => simp at hj; subst hj; exact hu) (fun y hy => by simp at hy; subst hy; exact h1) (by decide) (by unfold maxLen; omega) (by omega)
  refine ⟨g, cap, w', ?_, h2⟩
  unfold execOp
  simp only [ho, resolve, invoke, builtin, Sem.run_bind, Sem.run_pure, Result.andThen_ok, List.map_toArray, List.map_cons, List.map_nil, hs, hx, hr]
theorem wpOp_append {ops : Array Oper} {Q : Exit → Act → World → Prop} {K : Act → World → Prop} {w0 : World} {L : List LRow} {i0 : Nat} (hi0 : ops[i0]? = some o) (hg : o.guard = none) (t e : TypeId) {s x : Operand} (ho : o.op = .call { callee := .builtin .append, args := #[s, x], argTypes := #[t, t] })
    {z : Value} {bytes : Nat} (ht : P.underlying t = some (.slice e)) (hi : (P.info? e).map (fun i => (i.zero, i.size, i.bytes)) = some (some z, 1, bytes)) (hzs : z.cells.size = 1)
    (h : Owns w0 w L) (i : Nat) {v : Value} {n : Nat} {xs : List Value} (hL : L[i]? = some ⟨v, e, 1, n, xs⟩) (hs : a.eval s = v) {g0 : Nat} {u : Value}
    (hx : a.eval x = .slice (some ⟨g0, 0, none⟩) 1 1) (hu : w.cell? ⟨g0, 0, none⟩ = some u) (h1 : u.oneCell' = true) (hm : n < 1000000000000) (hb : bytes ≤ 100)
    (hK : ∀ g cap w', Owns w0 w' (L.set i ⟨.slice (some ⟨g, 0, none⟩) (n + 1) cap, e, 1, n + 1, xs ++ [u]⟩) → K (a.put o.dst (.slice (some ⟨g, 0, none⟩) (n + 1) cap)) w') : wpOp P ops Q i0 K a w := by
  obtain ⟨g, cap, w', hr, h2⟩ := ex_append (P := P) t e ho ht hi hzs h i hL hs hx hu h1 hm hb
  exact wpOp_value hi0 hg hr (hK g cap w' h2)
theorem wanted_at {ops : Array Oper} {o : Oper} {a : Act} {g t : Nat} {b want : Bool} (hg : o.guard = some (g, want)) (hd : (ops[g]?).bind (·.dst) = some t) (he : a.eval (.tmp t) = .bool b) : Region.wanted o (yielded ops a.tmps) = (b == want) := by
  have ht : a.tmps[t]? = some (.bool b) := by
    simp only [Act.eval, Array.getD_eq_getD_getElem?] at he
    cases h : a.tmps[t]? with
    | none => rw [h] at he; cases he
    | some v => rw [h] at he; simp at he; rw [he]
  unfold Region.wanted yielded
  rw [hg]
  dsimp only
  rw [hd]
  simp [ht]
theorem wpOp_val {ops : Array Oper} {Q : Exit → Act → World → Prop} {i : Nat} {w' : World} {K : Act → World → Prop} {v : Value} (hi : ops[i]? = some o) (hw : Region.wanted o (yielded ops a.tmps) = true) (hr : (execOp a.eval o).run P w = .ok (.value v) w') (hK : K (a.put o.dst v) w') : wpOp P ops Q i K a w := by
  unfold wpOp
  simp only [hi, hw, if_true, Oper.wp, hr, Oper.upon]
  exact .inl hK
theorem wpOp_callw {ops : Array Oper} {Q : Exit → Act → World → Prop} {i : Nat} {w1 : World} {K : Act → World → Prop} {f : FuncId} {args : Array Value} {R : Value → World → Prop} (hi : ops[i]? = some o) (hw : Region.wanted o (yielded ops a.tmps) = true) (hr : (execOp a.eval o).run P w = .ok (.enter f args) w1)
    (h : Calls P f args w1 fun e w' => ∃ v, e = .returned v ∧ R v w') (hK : ∀ v w', R v w' → K (a.put o.dst v) w') : wpOp P ops Q i K a w := by
  unfold wpOp
  simp only [hi, hw, if_true, Oper.wp, hr, Oper.upon]
  refine .inl (h.mono ?_)
  rintro e w' ⟨v, rfl, hv⟩
  exact hK v w' hv
theorem wpOp_off {ops : Array Oper} {Q : Exit → Act → World → Prop} {i : Nat} {K : Act → World → Prop} (hi : ops[i]? = some o) (hw : Region.wanted o (yielded ops a.tmps) = false) (hK : K (a.put o.dst undef) w) : wpOp P ops Q i K a w := by
  unfold wpOp
  simp only [hi, hw]
  exact hK
end
/-- A post that a region meets at its end, and nowhere else. -/
def AtEnd (R : Act → World → Prop) : Exit → Act → World → Prop
  | .normal, a, w => R a w
  | _, _, _ => False
theorem wp_atEnd {P : Program} {c : Code} {K : Act → World → Prop} {Q : Exit → Act → World → Prop} {a : Act} {w : World} (h : Code.wp P c (AtEnd K) a w) : Code.wp P c (Exit.then K Q) a w :=
  Code.wp_mono (fun e a w hr => by
    cases e with
    | normal => exact hr
    | _ => exact (hr : False).elim) h
/-- A region of a function's text, by its number. -/
def regionOf (n : Nat) : Code → Option Code
  | .region id ops b => if id == n then some (.region id ops b) else none
  | .seq a b => match regionOf n a with
    | some c => some c
    | none => regionOf n b
  | .loop c => regionOf n c
  | .rangeFunc _ _ a b => match regionOf n a with
    | some c => some c
    | none => regionOf n b
  | .block _ c => regionOf n c
  | .scope c => regionOf n c
  | .cond _ a b => match regionOf n a with
    | some c => some c
    | none => regionOf n b
  | _ => none
/-- WHAT THE OPERATIONS THAT ARE DONE HAVE YIELDED: vals, in the slots dsts; other slots are as they were. -/
structure Inv (dsts : List (Option Nat)) (vals : List Value) (a0 : Act) (L : Nat → Bool) (a : Act) : Prop where
  size : a.tmps.size = a0.tmps.size
  defers : a.defers = a0.defers
  fixed : ∀ t, (dsts.contains (some t)) = false → a.eval (.tmp t) = a0.eval (.tmp t)
  vals : ∀ (i d : Nat) (v : Value), dsts[i]? = some (some d) → vals[i]? = some v → L i = true → a.eval (.tmp d) = v
def apartD (dsts : List (Option Nat)) : Bool := (List.range dsts.length).all fun i => (List.range dsts.length).all fun j => i == j || dsts.getD i none == none || dsts.getD i none != dsts.getD j none
theorem apartD_spec {dsts : List (Option Nat)} (h : apartD dsts = true) {i j d : Nat} (hi : dsts[i]? = some (some d)) (hj : dsts[j]? = some (some d)) : i = j := by
  have h1 := (List.getElem?_eq_some_iff.1 hi).1
  have h2 := (List.getElem?_eq_some_iff.1 hj).1
  have h3 := List.all_eq_true.1 (List.all_eq_true.1 h i (by simpa using h1)) j (by simpa using h2)
  rw [List.getD_eq_getElem?_getD, List.getD_eq_getElem?_getD, hi, hj] at h3
  simpa using h3
theorem eval_put_same {a : Act} {d : Nat} {v : Value} (h : d < a.tmps.size) : (a.put (some d) v).eval (.tmp d) = v := by
  simp [Act.eval, Act.put, Array.getElem?_setIfInBounds_self_of_lt h]
theorem eval_put_ne {a : Act} {d t : Nat} {v : Value} (h : t ≠ d) : (a.put (some d) v).eval (.tmp t) = a.eval (.tmp t) := by
  simp [Act.eval, Act.put, Array.getElem?_setIfInBounds_ne (Ne.symm h)]
theorem Inv.start {dsts : List (Option Nat)} {vals : List Value} {a0 : Act} : Inv dsts vals a0 (fun _ => false) a0 := ⟨rfl, rfl, fun _ _ => rfl, fun _ _ _ _ _ h => by cases h⟩
theorem Inv.get {dsts : List (Option Nat)} {vals : List Value} {a0 a : Act} {L : Nat → Bool} (h : Inv dsts vals a0 L a) (i : Nat) {d : Nat} {v : Value} (hd : dsts[i]? = some (some d)) (hv : vals[i]? = some v) (hL : L i = true) : a.eval (.tmp d) = v := h.vals i d v hd hv hL
theorem Inv.put {dsts : List (Option Nat)} {vals : List Value} {a0 a : Act} {L : Nat → Bool} (h : Inv dsts vals a0 L a) (hap : apartD dsts = true) (i : Nat) {d : Nat} {v : Value} (hd : dsts[i]? = some (some d)) (hds : d < a0.tmps.size) (hi : i < vals.length) {vals' : List Value} (hv : vals' = vals.set i v) : Inv dsts vals' a0 (upd L i) (a.put (some d) v) := by
  subst hv
  have hsz : d < a.tmps.size := by rw [h.size]; exact hds
  have hmem : dsts.contains (some d) = true := by
    rw [List.contains_iff_mem]
    exact List.mem_of_getElem? hd
  refine ⟨by simp [Act.put, h.size], by simp [Act.put, h.defers], fun t ht => ?_, fun j d' v' hj hv' hL => ?_⟩
  · have hne : t ≠ d := by
      rintro rfl
      rw [hmem] at ht
      cases ht
    rw [eval_put_ne hne]
    exact h.fixed t ht
  · by_cases hji : j = i
    · subst hji
      rw [hd] at hj
      injection hj with hj
      injection hj with hj
      subst hj
      rw [List.getElem?_set_self hi] at hv'
      injection hv' with hv'
      rw [eval_put_same hsz, hv']
    · have hne : d' ≠ d := by
        rintro rfl
        exact hji (apartD_spec hap hj hd)
      rw [eval_put_ne hne]
      rw [List.getElem?_set_ne (Ne.symm hji)] at hv'
      unfold upd at hL
      rw [if_neg hji] at hL
      exact h.vals j d' v' hj hv' hL
theorem Inv.reset {dsts : List (Option Nat)} {vals : List Value} {a0 a : Act} {L : Nat → Bool} (h : Inv dsts vals a0 L a) (i : Nat) (hL : L i = false) (v : Value) : Inv dsts (vals.set i v) a0 L a :=
  ⟨h.size, h.defers, h.fixed, fun j d v' hj hv' hLj => by
    have hji : j ≠ i := by
      rintro rfl
      rw [hL] at hLj
      cases hLj
    rw [List.getElem?_set_ne (Ne.symm hji)] at hv'
    exact h.vals j d v' hj hv' hLj⟩
theorem Inv.skip {dsts : List (Option Nat)} {vals : List Value} {a0 a : Act} {L : Nat → Bool} (h : Inv dsts vals a0 L a) (i : Nat) (hd : dsts[i]? = some none) : Inv dsts vals a0 (upd L i) a := by
  refine ⟨h.size, h.defers, h.fixed, fun j d' v' hj hv' hL => ?_⟩
  unfold upd at hL
  split at hL
  · rename_i he
    subst he
    rw [hd] at hj
    injection hj with hj
    cases hj
  · exact h.vals j d' v' hj hv' hL
/-- A frame, out of its slots' values. -/
theorem act_lit (a : Act) : a = ⟨((List.range a.tmps.size).map fun t => a.eval (.tmp t)).toArray, a.defers⟩ := by
  obtain ⟨t, d⟩ := a
  congr 1
  apply Array.ext
  · simp
  · intro i h1 h2
    simp [Act.eval, Array.getElem?_eq_getElem h1]
end Go.Proofs.YtdbolgollpnfdaaDoor
