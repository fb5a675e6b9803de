/- THE ROWS THAT A CALL HAS MADE, all in one list: what each holds, that no two share a block, and that nothing older has turned. -/
import Derived.Test.YtdbolgollpnfdaaDoorLib
import Derived.Maps.AppendAt
import Derived.Deep.AppendLies
import Derived.RegionTactic
namespace Go.Proofs.YtdbolgollpnfdaaDoor
open Go.RowKit

/-- A row: the slice value, its element type, cells to an element, the number of elements, the cells. -/
structure LRow where
  v : Value
  e : TypeId
  s : Nat
  n : Nat
  xs : List Value
def LRow.far (a b : LRow) : Prop := a.v.ownBlock = none ∨ a.v.ownBlock ≠ b.v.ownBlock
def LRow.ok (w0 w : World) (r : LRow) : Prop := w.ownsRow w0.heap.size r.e r.s r.v r.n r.xs
/-- No row. -/
def no : LRow := ⟨.slice none 0 0, 0, 1, 0, []⟩
/-- A nil slice. -/
def nilRow (e : TypeId) : LRow := ⟨.slice none 0 0, e, 1, 0, []⟩

structure Owns (w0 w : World) (L : List LRow) : Prop where
  ext : Ext w0 w
  ok : ∀ (i : Nat) (r : LRow), L[i]? = some r → r.ok w0 w
  far : ∀ (i j : Nat) (a b : LRow), i ≠ j → L[i]? = some a → L[j]? = some b → a.far b

section
variable {w0 w w' : World} {L : List LRow} {P : Program}
theorem no_ok (w0 w : World) : no.ok w0 w := World.ownsRow_nil _ _ _ _
theorem nilRow_ok (w0 w : World) (e : TypeId) : (nilRow e).ok w0 w := World.ownsRow_nil _ _ _ _
theorem LRow.far_none {a b : LRow} (h : b.v.ownBlock = none) : a.far b := by
  unfold LRow.far
  cases ha : a.v.ownBlock with
  | none => exact .inl rfl
  | some g => exact .inr (by rw [h]; simp)
theorem LRow.far_symm {a b : LRow} (h : a.far b) : b.far a := by
  unfold LRow.far at h ⊢
  rcases h with h | h
  · exact LRow.far_none h
  · exact .inr (Ne.symm h)

/-- At the call's beginning: rows that own nothing. -/
theorem Owns.start (w : World) (h : ∀ r ∈ L, r.v = .slice none 0 0 ∧ r.n = 0 ∧ r.xs = []) : Owns w w L where
  ext := Ext.refl w
  ok i r hr := by
    obtain ⟨h1, h2, h3⟩ := h r (List.mem_of_getElem? hr)
    unfold LRow.ok
    rw [h1, h2, h3]
    exact World.ownsRow_nil _ _ _ _
  far i j a b _ ha _ := .inl (by rw [(h a (List.mem_of_getElem? ha)).1]; rfl)

theorem Owns.move (h : Owns w0 w L) (hx : Ext w0 w') (hg : ∀ g, w0.heap.size ≤ g → g < w.heap.size → w'.heap[g]? = w.heap[g]?) : Owns w0 w' L where
  ext := hx
  ok i r hr := by
    have h1 := h.ok i r hr
    refine ⟨h1.1, ?_⟩
    rcases h1.2 with h2 | ⟨g, cap, cur, hv, hB, hh, rest⟩
    · exact .inl h2
    · exact .inr ⟨g, cap, cur, hv, hB, (hg g hB (lt_of_block hh)).trans hh, rest⟩
  far := h.far
theorem Owns.next (h : Owns w0 w L) (hx : Ext w w') : Owns w0 w' L := h.move (h.ext.trans hx) fun g _ hlt => Below.block hx g hlt
theorem Owns.alloc (h : Owns w0 w L) (o : Obj) : Owns w0 (w.alloc o) L := h.next ((Ext.refl w).alloc o)
theorem Owns.drew (h : Owns w0 w L) : Owns w0 w.drew L := h.next (Ext.refl w).drew
theorem Owns.drewN (h : Owns w0 w L) (n : Nat) : Owns w0 (w.drewN n) L := h.next ((Ext.refl w).drewN n)

/-- One row anew: of a new block, or of the block that it had; the other rows' blocks are as they were. -/
theorem Owns.put (h : Owns w0 w L) (i : Nat) (r' : LRow) (hx : Ext w0 w') (hr' : r'.ok w0 w')
    (hg : ∀ j r, j ≠ i → L[j]? = some r → ∀ g, r.v.ownBlock = some g → w'.heap[g]? = w.heap[g]?) (hf : ∀ j r, j ≠ i → L[j]? = some r → r'.far r) : Owns w0 w' (L.set i r') where
  ext := hx
  ok j r hr := by
    by_cases hj : j = i
    · subst hj
      rw [List.getElem?_set] at hr
      split at hr
      · split at hr
        · injection hr with hr; subst hr; exact hr'
        · cases hr
      · rename_i hne; exact absurd rfl hne
    · rw [List.getElem?_set_ne (Ne.symm hj)] at hr
      have h1 := h.ok j r hr
      refine ⟨h1.1, ?_⟩
      rcases h1.2 with h2 | ⟨g, cap, cur, hv, hB, hh, rest⟩
      · exact .inl h2
      · exact .inr ⟨g, cap, cur, hv, hB, (hg j r hj hr g (by rw [hv]; rfl)).trans hh, rest⟩
  far j k a b hjk ha hb := by
    by_cases hj : j = i
    · subst hj
      rw [List.getElem?_set_ne hjk] at hb
      rw [List.getElem?_set] at ha
      simp only [↓reduceIte] at ha
      split at ha
      · injection ha with ha; subst ha; exact hf k b (Ne.symm hjk) hb
      · cases ha
    · by_cases hk : k = i
      · subst hk
        rw [List.getElem?_set_ne (Ne.symm hj)] at ha
        rw [List.getElem?_set] at hb
        simp only [↓reduceIte] at hb
        split at hb
        · injection hb with hb; subst hb; exact LRow.far_symm (a := r') (b := a) (hf j a hj ha)
        · cases hb
      · rw [List.getElem?_set_ne (Ne.symm hj)] at ha
        rw [List.getElem?_set_ne (Ne.symm hk)] at hb
        exact h.far j k a b hjk ha hb

/-- A new block of cells, as a row. -/
theorem Owns.new (h : Owns w0 w L) (i : Nat) (cs : Array Value) (e : TypeId) (hm : cs.size ≤ maxLen) : Owns w0 (w.alloc (.cells cs e)) (L.set i ⟨.slice (some ⟨w.heap.size, 0, none⟩) cs.size cs.size, e, 1, cs.size, cs.toList⟩) := by
  have hlt : ∀ r : LRow, r.ok w0 w → ∀ g, r.v.ownBlock = some g → g < w.heap.size := fun r hr g hg => (World.ownsRow.lt hr g hg).2
  refine h.put i _ (h.ext.alloc _) ⟨by simp, .inr ⟨w.heap.size, cs.size, cs, rfl, h.ext.size, heap_new w _, Nat.le_refl _, hm, by simp, List.take_of_length_le (by simp)⟩⟩ ?_ ?_
  · intro j r _ hr g hg
    exact Below.heap_alloc w _ g (hlt r (h.ok j r hr) g hg)
  · intro j r _ hr
    refine .inr ?_
    intro he
    have := hlt r (h.ok j r hr) w.heap.size he.symm
    omega

theorem Owns.wider (h : Owns w0 w L) : Owns w0 w (L ++ [no]) where
  ext := h.ext
  ok i r hr := by
    rw [List.getElem?_append] at hr
    split at hr
    · exact h.ok i r hr
    · have : r = no := by
        cases hk : i - L.length with
        | zero => rw [hk] at hr; simpa using hr.symm
        | succ k => rw [hk] at hr; simp at hr
      subst this
      exact no_ok _ _
  far i j a b hij ha hb := by
    rw [List.getElem?_append] at ha hb
    split at ha
    · split at hb
      · exact h.far i j a b hij ha hb
      · have : b = no := by
          cases hk : j - L.length with
          | zero => rw [hk] at hb; simpa using hb.symm
          | succ k => rw [hk] at hb; simp at hb
        subst this
        exact LRow.far_none rfl
    · have : a = no := by
        cases hk : i - L.length with
        | zero => rw [hk] at ha; simpa using ha.symm
        | succ k => rw [hk] at ha; simp at ha
      subst this
      exact .inl rfl
/-- One, two, three new blocks of one cell each, as rows behind the others. -/
theorem Owns.push1 {u : Value} {e : TypeId} (h : Owns w0 w L) : Owns w0 (w.alloc (.cells #[u] e)) (L ++ [⟨.slice (some ⟨w.heap.size, 0, none⟩) 1 1, e, 1, 1, [u]⟩]) := by
  have := h.wider.new L.length #[u] e (by simp [maxLen])
  simpa using this
theorem Owns.push2 {u u' : Value} {e e' : TypeId} (h : Owns w0 w L) : Owns w0 ((w.alloc (.cells #[u] e)).alloc (.cells #[u'] e')) (L ++ [⟨.slice (some ⟨w.heap.size, 0, none⟩) 1 1, e, 1, 1, [u]⟩, ⟨.slice (some ⟨w.heap.size + 1, 0, none⟩) 1 1, e', 1, 1, [u']⟩]) := by
  have := (h.push1 (u := u) (e := e)).push1 (u := u') (e := e')
  simpa using this
theorem Owns.push3 {u u' u'' : Value} {e e' e'' : TypeId} (h : Owns w0 w L) : Owns w0 (((w.alloc (.cells #[u] e)).alloc (.cells #[u'] e')).alloc (.cells #[u''] e'')) (L ++ [⟨.slice (some ⟨w.heap.size, 0, none⟩) 1 1, e, 1, 1, [u]⟩, ⟨.slice (some ⟨w.heap.size + 1, 0, none⟩) 1 1, e', 1, 1, [u']⟩, ⟨.slice (some ⟨w.heap.size + 2, 0, none⟩) 1 1, e'', 1, 1, [u'']⟩]) := by
  have := (h.push2 (u := u) (e := e) (u' := u') (e' := e')).push1 (u := u'') (e := e'')
  simpa using this

theorem Owns.row (h : Owns w0 w L) (i : Nat) {v : Value} {e s n : Nat} {xs : List Value} (hi : L[i]? = some ⟨v, e, s, n, xs⟩) : w.ownsRow w0.heap.size e s v n xs := h.ok i _ hi
/-- A cell of a row. -/
theorem Owns.cell (h : Owns w0 w L) (i : Nat) {g n c e s : Nat} {xs : List Value} (hi : L[i]? = some ⟨.slice (some ⟨g, 0, none⟩) n c, e, s, n, xs⟩) (k : Nat) {u : Value} (hu : xs[k]? = some u) : w.cell? ⟨g, k, none⟩ = some u := by
  have h1 := h.row i hi
  have hk : k < n * s := by
    have := h1.1
    rcases Nat.lt_or_ge k xs.length with h2 | h2
    · omega
    · rw [List.getElem?_eq_none h2] at hu; cases hu
  rw [h1.cellAt k hk]; exact hu
theorem Owns.frozen (h : Owns w0 w L) (i : Nat) {g n c e s : Nat} {xs : List Value} (hi : L[i]? = some ⟨.slice (some ⟨g, 0, none⟩) n c, e, s, n, xs⟩) (k : Nat) : w.frozen? ⟨g, k, none⟩ = false := (h.row i hi).frozenAt k
theorem Owns.rd (h : Owns w0 w L) (i : Nat) {A : Option Addr} {n c e : Nat} {xs : List Value} (hi : L[i]? = some ⟨.slice A n c, e, 1, n, xs⟩) : Rd w A xs := own_rd (h.row i hi)
/-- A store into a row. -/
theorem Owns.store (h : Owns w0 w L) (i : Nat) {g n c e s : Nat} {xs : List Value} (hi : L[i]? = some ⟨.slice (some ⟨g, 0, none⟩) n c, e, s, n, xs⟩) (k : Nat) (u : Value) :
    Owns w0 (w.setCell ⟨g, k, none⟩ u) (L.set i ⟨.slice (some ⟨g, 0, none⟩) n c, e, s, n, xs.set k u⟩) := by
  have h1 := h.row i hi
  have hB := (h1.lt g rfl).1
  refine h.put i _ (h.ext.setCell hB u) (h1.stored k u).1 ?_ ?_
  · intro j r hj hr g' hg'
    refine Below.heap_setCell _ _ _ _ ?_
    rintro rfl
    have := h.far j i _ _ hj hr hi
    rcases this with h2 | h2
    · rw [hg'] at h2; cases h2
    · exact h2 hg'
  · intro j r hj hr
    have := h.far i j _ _ (Ne.symm hj) hi hr
    exact this
/-- A row that is given up. -/
theorem Owns.drop (h : Owns w0 w L) (i : Nat) : Owns w0 w (L.set i no) :=
  h.put i no h.ext (no_ok _ _) (fun _ _ _ _ _ _ => rfl) fun _ _ _ _ => .inl rfl

/-- 'out = append(out, xs...)' onto a row. -/
theorem run_append_owns (t ty e : TypeId) {z : Value} {s bytes : Nat} (ht : P.underlying t = some (.slice e)) (hi : (P.info? e).map (fun i => (i.zero, i.size, i.bytes)) = some (some z, s, bytes)) (hzs : z.cells.size = s) (hs : 0 < s)
    (h : Owns w0 w L) (i : Nat) {v : Value} {n : Nat} {xs : List Value} (hL : L[i]? = some ⟨v, e, s, n, xs⟩)
    (ad : Addr) (m c : Nat) (news : List Value) (hl : news.length = m * s) (hnews : ∀ j u, news[j]? = some u → w.cell? (ad.add j) = some u) (h1 : ∀ u ∈ news, u.oneCell' = true) (hm : 0 < m)
    (h63 : n + m ≤ maxLen) (hb : (n + m) * bytes ≤ 140737488355328) :
    ∃ g cap w', (Builtin.append_ #[t, t] ty #[v, .slice (some ad) m c]).run P w = .ok (.slice (some ⟨g, 0, none⟩) (n + m) cap) w' ∧ Owns w0 w' (L.set i ⟨.slice (some ⟨g, 0, none⟩) (n + m) cap, e, s, n + m, xs ++ news⟩) ∧ Ext w0 w' ∧ w.grownBy w' v.ownBlock := by
  obtain ⟨i0, hi0, hiz, hi1, hi2⟩ := info_parts hi
  have hown := h.row i hL
  obtain ⟨g, cap, w', hr, h2, h3, h4, h5⟩ := run_append_lies (P := P) w t ty w0.heap.size e i0 z s bytes ht hi0 hiz hi1 hi2 hzs hs v n xs hown ad m c news hl hnews h1 hm h63 hb h.ext.size _ rfl
  have hx : Ext w0 w' := h.ext.grown h3 (fun k hk => own_ge hown k hk)
  refine ⟨g, cap, w', hr, h.put i _ hx h2 ?_ ?_, hx, h3⟩
  · intro j r hj hrr g' hg'
    have hok := h.ok j r hrr
    refine h3.block g' (World.ownsRow.lt hok g' hg').2 ?_
    have hf := h.far j i r _ hj hrr hL
    rcases hf with hf | hf
    · rw [hg'] at hf; cases hf
    · rw [← hg']; exact hf
  · intro j r hj hrr
    have hf := h.far i j _ r (Ne.symm hj) hL hrr
    rcases h4 with h4 | h4
    · rcases hf with hf | hf
      · simp only at hf; rw [h4] at hf; cases hf
      · refine .inr ?_
        show some g ≠ _
        rw [← h4]; exact hf
    · refine .inr ?_
      show some g ≠ _
      intro he
      have := (World.ownsRow.lt (h.ok j r hrr) g he.symm).2
      omega
/-- The same at the list of a region's operations, one element. -/
theorem wpl_append_owns {ops : Array Oper} {rest : List Oper} {o : Oper} {a : Act} {Q : Exit → Act → World → Prop} (t e : TypeId) (hgd : o.guard = none) (s x : Operand)
    (ho : o.op = .call { callee := .builtin .append, args := #[s, x], argTypes := #[t, t] })
    {z : Value} {bytes : Nat} (ht : P.underlying t = some (.slice e)) (hi : (P.info? e).map (fun i => (i.zero, i.size, i.bytes)) = some (some z, 1, bytes)) (hzs : z.cells.size = 1)
    (h : Owns w0 w L) (i : Nat) {v : Value} {n : Nat} {xs : List Value} (hL : L[i]? = some ⟨v, e, 1, n, xs⟩) (hs : a.eval s = v) {g0 : Nat} {u : Value}
    (hx : a.eval x = .slice (some ⟨g0, 0, none⟩) 1 1) (hu : w.cell? ⟨g0, 0, none⟩ = some u) (h1 : u.oneCell' = true) (hm : n < 1000000000000) (hb : bytes ≤ 100)
    (hK : ∀ g cap w', Owns w0 w' (L.set i ⟨.slice (some ⟨g, 0, none⟩) (n + 1) cap, e, 1, n + 1, xs ++ [u]⟩) → w.grownBy w' v.ownBlock → wpList P ops Q rest (a.put o.dst (.slice (some ⟨g, 0, none⟩) (n + 1) cap)) w') :
    wpList P ops Q (o :: rest) a w := by
  refine wpList_plain hgd fun K hK' => ?_
  have hbb : (n + 1) * bytes ≤ (n + 1) * 100 := Nat.mul_le_mul_left _ hb
  obtain ⟨g, cap, w', hr, h2, _, h3⟩ := run_append_owns (P := P) t o.type e ht hi hzs (by decide) h i hL ⟨g0, 0, none⟩ 1 1 [u] rfl (fun j y hj => by
    match j, hj with
    | 0, hj => simp at hj; subst hj; exact hu) (fun y hy => by simp at hy; subst hy; exact h1) (by decide) (by unfold maxLen; omega) (by omega)
  unfold Oper.wp execOp
  simp only [ho, resolve, invoke, builtin, Sem.run_bind, Sem.run_pure, Result.andThen_ok, List.map_toArray, List.map_cons, List.map_nil, hs, hx, hr]
  exact hK' _ _ (hK g cap w' h2 h3)
/-- The same at a step of a region that draws its order. -/
theorem step_append_owns {ops : Array Oper} {o : Oper} {a : Act} {K : Act → World → Prop} {Q : Exit → Act → World → Prop} {E : Prop} (t e : TypeId) (hgd : o.guard = none) (s x : Operand)
    (ho : o.op = .call { callee := .builtin .append, args := #[s, x], argTypes := #[t, t] })
    {z : Value} {bytes : Nat} (ht : P.underlying t = some (.slice e)) (hi : (P.info? e).map (fun i => (i.zero, i.size, i.bytes)) = some (some z, 1, bytes)) (hzs : z.cells.size = 1)
    (h : Owns w0 w L) (i : Nat) {v : Value} {n : Nat} {xs : List Value} (hL : L[i]? = some ⟨v, e, 1, n, xs⟩) (hs : a.eval s = v) {g0 : Nat} {u : Value}
    (hx : a.eval x = .slice (some ⟨g0, 0, none⟩) 1 1) (hu : w.cell? ⟨g0, 0, none⟩ = some u) (h1 : u.oneCell' = true) (hm : n < 1000000000000) (hb : bytes ≤ 100)
    (hK : ∀ g cap w', Owns w0 w' (L.set i ⟨.slice (some ⟨g, 0, none⟩) (n + 1) cap, e, 1, n + 1, xs ++ [u]⟩) → w.grownBy w' v.ownBlock → K (a.put o.dst (.slice (some ⟨g, 0, none⟩) (n + 1) cap)) w') :
    if Region.wanted o (yielded ops a.tmps) = true then Oper.wp P o a w K Q else E := by
  have hw : Region.wanted o (yielded ops a.tmps) = true := by simp [Region.wanted, hgd]
  rw [if_pos hw]
  have hbb : (n + 1) * bytes ≤ (n + 1) * 100 := Nat.mul_le_mul_left _ hb
  obtain ⟨g, cap, w', hr, h2, _, h3⟩ := run_append_owns (P := P) t o.type e ht hi hzs (by decide) h i hL ⟨g0, 0, none⟩ 1 1 [u] rfl (fun j y hj => by
    match j, hj with
    | 0, hj => simp at hj; subst hj; exact hu) (fun y hy => by simp at hy; subst hy; exact h1) (by decide) (by unfold maxLen; omega) (by omega)
  unfold Oper.wp execOp
  simp only [ho, resolve, invoke, builtin, Sem.run_bind, Sem.run_pure, Result.andThen_ok, List.map_toArray, List.map_cons, List.map_nil, hs, hx, hr]
  exact hK g cap w' h2 h3
/-- '[]T{x}' laid in a block of its own. -/
theorem run_build_one {t e : TypeId} {z : Value} {bytes : Nat} (ht : P.underlying t = some (.slice e)) (hi : (P.info? e).map (fun i => (i.zero, i.size, i.bytes)) = some (some z, 1, bytes)) (w : World) (u : Value) (hu : u.cells = #[u]) :
    (Instr.buildSlice t 1 #[(0, u)]).run P w = .ok (.slice (some ⟨w.heap.size, 0, none⟩) 1 1) (w.alloc (.cells #[u] e)) := by
  obtain ⟨i0, hi0, hiz, hi1, hi2⟩ := info_parts hi
  simp [Instr.buildSlice, run_underlying ht, sizeOf, typeInfo, hi0, hi1, zeroValue, hiz, Instr.fill, hu]
  rw [show (Array.map (fun x => z.cells[x % z.cells.size]!) (Array.range 1)).setIfInBounds 0 u = #[u] from by apply Array.ext'; simp [Array.toList_range, List.range_succ]]
  rfl
theorem step_build_owns {ops : Array Oper} {o : Oper} {a : Act} {K : Act → World → Prop} {Q : Exit → Act → World → Prop} {E : Prop} (t e : TypeId) (hgd : o.guard = none) (x : Operand)
    (ho : o.op = .buildSlice t 1 #[(0, x)])
    {z : Value} {bytes : Nat} (ht : P.underlying t = some (.slice e)) (hi : (P.info? e).map (fun i => (i.zero, i.size, i.bytes)) = some (some z, 1, bytes))
    (h : Owns w0 w L) (i : Nat) {u : Value} (hx : a.eval x = u) (hu : u.cells = #[u])
    (hK : ∀ g w', Owns w0 w' (L.set i ⟨.slice (some ⟨g, 0, none⟩) 1 1, e, 1, 1, [u]⟩) → Ext w w' → K (a.put o.dst (.slice (some ⟨g, 0, none⟩) 1 1)) w') :
    if Region.wanted o (yielded ops a.tmps) = true then Oper.wp P o a w K Q else E := by
  have hw : Region.wanted o (yielded ops a.tmps) = true := by simp [Region.wanted, hgd]
  rw [if_pos hw]
  have hr := run_build_one (P := P) ht hi w u hu
  unfold Oper.wp execOp
  simp only [ho, List.map_toArray, List.map_cons, List.map_nil, hx, hr, Sem.run_bind, Sem.run_pure, Result.andThen_ok]
  exact hK w.heap.size _ (h.new i #[u] e (by simp [maxLen])) ((Ext.refl w).alloc _)
end
end Go.Proofs.YtdbolgollpnfdaaDoor
