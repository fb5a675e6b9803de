/- What the program's functions do, step by step: part A of the texts for this claim; no condition beyond what each theorem states. -/
import Derived.WalkKit
import Derived.WalkSpells
import Derived.WalkLawsBesides
import Derived.Lib.Hide
import Derived.Laws.BitsAllLaws
import Derived.Laws.BitsLemmas
import Derived.Deep.Draws
import Derived.Deep.QuietTactic
import Derived.BigQuiet
import Derived.Laws.BytesArg
import Derived.Shelf.Abstract
import Derived.ProofKit
import Derived.OpenShut
import Derived.Deep.DeepHandedRow
import Derived.Lib.LaidTab
import Derived.SliceStrings
import Derived.ChangeMaps5
import Derived.KernelRfl
import Derived.Test.YtggfkpalkdkbdaaDoorRows
import Derived.Orders
import Derived.Maps.AppendAt
import Derived.Deep.AppendLies
import Derived.RegionTactic
import Derived.RangeFuncNested
import Derived.RangeFuncBound
import Derived.RangeFuncCalls
import Derived.RangeFuncLeaves
import Derived.Shelf.RegionOpen
import Derived.OwnWalkIn
import Derived.TacticsInMore
import Derived.LoopNIn
import Derived.LoopIn
import Derived.OrdersIn
import Derived.RangeFuncFrom
import Derived.WalkMore
import Derived.Deep.LoopGhost
namespace Go.Proofs.YtggfkpalkdkbdaaDoor
theorem lb {n m : Nat} (h : Nat.ble n m = true) : n ≤ m := Nat.le_of_ble_eq_true h
end Go.Proofs.YtggfkpalkdkbdaaDoor

/- Small laws on bits, worlds and endings that several walks share. -/
namespace Go.Proofs.YtggfkpalkdkbdaaDoor
open Go.RowKit

theorem ret_int {k : IntKind} {a b : Int} (h : a = b) : Ending.returned (.int k a) = .returned (.int k b) := by rw [h]
theorem ret_bool {a b : Bool} (h : a = b) : Ending.returned (.bool a) = .returned (.bool b) := by rw [h]

theorem ofInt64 (a : Nat) (ha : a < 9223372036854775808) : (BitVec.ofInt 64 (a : Int)).toNat = a := by
  rw [BitVec.ofInt_natCast, BitVec.toNat_ofNat]; exact Nat.mod_eq_of_lt (by omega)
theorem and64 (a b : Nat) (ha : a < 9223372036854775808) (hb : b < 9223372036854775808) : bits .and .i64 (a : Int) (b : Int) = ((a &&& b : Nat) : Int) := by
  have hx : a &&& b < 2 ^ 63 := Nat.and_lt_two_pow _ (by omega)
  show IntKind.i64.wrap ((BitVec.ofInt 64 (a : Int) &&& BitVec.ofInt 64 (b : Int)).toNat : Int) = _
  rw [BitVec.toNat_and, ofInt64 a ha, ofInt64 b hb, IntKind.wrap_i64]
  omega
theorem or64 (a b : Nat) (ha : a < 9223372036854775808) (hb : b < 9223372036854775808) : bits .or .i64 (a : Int) (b : Int) = ((a ||| b : Nat) : Int) := by
  have hx : a ||| b < 2 ^ 63 := Nat.or_lt_two_pow (by omega) (by omega)
  show IntKind.i64.wrap ((BitVec.ofInt 64 (a : Int) ||| BitVec.ofInt 64 (b : Int)).toNat : Int) = _
  rw [BitVec.toNat_or, ofInt64 a ha, ofInt64 b hb, IntKind.wrap_i64]
  omega
theorem xor64 (a b : Nat) (ha : a < 9223372036854775808) (hb : b < 9223372036854775808) : bits .xor .i64 (a : Int) (b : Int) = ((a ^^^ b : Nat) : Int) := by
  have hx : a ^^^ b < 2 ^ 63 := Nat.xor_lt_two_pow (by omega) (by omega)
  show IntKind.i64.wrap ((BitVec.ofInt 64 (a : Int) ^^^ BitVec.ofInt 64 (b : Int)).toNat : Int) = _
  rw [BitVec.toNat_xor, ofInt64 a ha, ofInt64 b hb, IntKind.wrap_i64]
  omega
theorem odd64 (a : Nat) (ha : a < 9223372036854775808) : bits .and .i64 (a : Int) 1 = ((a % 2 : Nat) : Int) := by
  have := and64 a 1 ha (by omega)
  rw [nat_mask1] at this
  exact this

/- A CALL THAT ONLY DRAWS, inside a region whose order is open. -/
theorem quiet_left {P : Program} {f : FuncId} {args : Array Value} {w : World} {n : Nat} {v : Value}
    (h : Calls P f args (w.drewN n) fun e w' => e = .returned v ∧ w.drewN n = w') : Calls P f args (w.drewN n) fun e w'' => e = .returned v ∧ ∃ m, w'' = w.drewN m :=
  h.mono fun _ _ ⟨he, hm⟩ => ⟨he, n, hm.symm⟩
theorem quiet_add_left {P : Program} {f : FuncId} {args : Array Value} {w : World} {a n : Nat} {v : Value}
    (h : Calls P f args (w.drewN (a + n)) fun e w' => e = .returned v ∧ w.drewN (a + n) = w') :
    Calls P f args (w.drewN (a + n)) fun e w'' => e = .returned v ∧ ∃ m, w'' = w.drewN (a + m) :=
  h.mono fun _ _ ⟨he, hm⟩ => ⟨he, n, hm.symm⟩

/-- NOTHING THAT WAS THERE HAS TURNED. -/
def Ext (w w' : World) : Prop := Below w.heap.size w w'
theorem Ext.refl (w : World) : Ext w w := Below.refl _ _
theorem Ext.trans {a b c : World} (h : Ext a b) (k : Ext b c) : Ext a c := Below.trans h (Below.mono k h.size)
theorem Ext.drewN {a w : World} (h : Ext a w) (n : Nat) : Ext a (w.drewN n) := ⟨h.os, h.tape, h.output, h.size, h.block⟩
theorem Ext.drew {a w : World} (h : Ext a w) : Ext a w.drew := Below.drew h
theorem Ext.alloc {a w : World} (h : Ext a w) (o : Obj) : Ext a (w.alloc o) := Below.alloc h h.size o
theorem Ext.setCell {a w : World} (h : Ext a w) {p : Addr} (hp : a.heap.size ≤ p.block) (u : Value) : Ext a (w.setCell p u) := Below.setCell h hp u
theorem Ext.grown {a w w' : World} {row : Option Nat} (h : Ext a w) (hg : w.grownBy w' row) (hr : ∀ k, row = some k → a.heap.size ≤ k) : Ext a w' := Below.grown h hg h.size hr
theorem Ext.cell {a w : World} (h : Ext a w) {p : Addr} {v : Value} (hp : a.cell? p = some v) : w.cell? p = some v := by
  have hlt : p.block < a.heap.size := by
    rcases Nat.lt_or_ge p.block a.heap.size with h1 | h1
    · exact h1
    · simp [World.cell?, Array.getElem?_eq_none h1] at hp
  rw [Below.cell h hlt]; exact hp
theorem Ext.below {w w' : World} (h : Ext w w') : Below w.heap.size w w' := h
theorem lt_of_cell {w : World} {p : Addr} {v : Value} (hp : w.cell? p = some v) : p.block < w.heap.size := by
  rcases Nat.lt_or_ge p.block w.heap.size with h1 | h1
  · exact h1
  · simp [World.cell?, Array.getElem?_eq_none h1] at hp

/-- A byte as a value; a list of bytes as a string; a string as a list of bytes. -/
abbrev bv (b : UInt8) : Value := .int .u8 (b.toNat : Int)
def sb (l : List UInt8) : ByteArray := ⟨l.toArray⟩
def bl (s : ByteArray) : List UInt8 := s.data.toList
@[simp] theorem bl_sb (l : List UInt8) : bl (sb l) = l := rfl
@[simp] theorem sb_bl (s : ByteArray) : sb (bl s) = s := rfl
theorem size_bl (s : ByteArray) : s.size = (bl s).length := by
  show s.data.size = s.data.toList.length
  rw [Array.length_toList]
theorem get_bl (s : ByteArray) (k : Nat) (h : k < s.size) : s[k] = (bl s)[k]'(by rw [← size_bl]; exact h) := by
  simp [bl]; rfl
@[simp] theorem size_sb (l : List UInt8) : (sb l).size = l.length := by simp [sb, ByteArray.size]

/-- THE SLICE AT A READS AS THE CELLS xs, below the heap's end. -/
def Rd (w : World) (A : Option Addr) (xs : List Value) : Prop := ∀ k x, xs[k]? = some x → ∃ ad, A = some ad ∧ ad.block < w.heap.size ∧ w.cell? (ad.add k) = some x
theorem Rd.nil (w : World) (A : Option Addr) : Rd w A [] := fun k x h => by simp at h
theorem block_add (a : Addr) (n : Nat) : (a.add n).block = a.block := by unfold Addr.add; split <;> rfl
theorem Rd.ext {w w' : World} {A : Option Addr} {xs : List Value} (h : Rd w A xs) (he : Ext w w') : Rd w' A xs := fun k x hx => by
  obtain ⟨ad, h1, h2, h3⟩ := h k x hx
  exact ⟨ad, h1, Nat.lt_of_lt_of_le h2 he.size, he.cell h3⟩
theorem Rd.at {w : World} {A : Option Addr} {xs : List Value} (h : Rd w A xs) {k : Nat} (hk : k < xs.length) : ∃ ad, A = some ad ∧ ad.block < w.heap.size ∧ w.cell? (ad.add k) = some xs[k] :=
  h k _ (List.getElem?_eq_getElem hk)
theorem Rd.all {w : World} {ad : Addr} {xs : List Value} (h : Rd w (some ad) xs) {k : Nat} (hk : k < xs.length) : w.cell? (ad.add k) = some xs[k] := by
  obtain ⟨_, e, _, h3⟩ := h.at hk
  injection e with e
  subst e
  exact h3
theorem Rd.drewN {w : World} {A : Option Addr} {xs : List Value} (h : Rd w A xs) (n : Nat) : Rd (w.drewN n) A xs := h
/-- A row of the call's own, read. -/
theorem Rd.of_own {w : World} {B e c : Nat} {A : Option Addr} {xs : List Value} (h : w.ownsRow B e 1 (.slice A xs.length c) xs.length xs) : Rd w A xs := by
  intro k x hx
  rcases h.2 with ⟨hn, h0⟩ | ⟨g, cap, cur, hv, hB, hg, hc, hm, hs, ht⟩
  · rw [List.length_eq_zero_iff] at h0
    subst h0
    simp at hx
  · injection hv with e1 e2 e3
    subst e1
    have hlt : g < w.heap.size := lt_of_block hg
    have := h.cells (g := g) rfl k x hx
    exact ⟨_, rfl, hlt, this⟩

/-- 'string(b)' over a row of bytes. -/
theorem run_str {P : Program} {src dst e : TypeId} (hs : P.underlying src = some (.slice e)) (he : P.underlying e = some (.int .u8)) (hd : P.underlying dst = some .string)
    {w : World} {A : Option Addr} {l : List UInt8} {c n : Nat} (hn : n = l.length) (h : Rd w A (l.map bv)) : (convert src dst (.slice A n c)).run P w = .ok (.string (sb l)) w := by
  subst hn
  by_cases h0 : l = []
  · subst h0
    rcases A with _ | a
    · exact run_convert_bytes_nil w src e hs he _ _ dst hd
    · have := run_bytesToString w a 0 c [] (P := P) (by simp [loadCells, loadCellsFrom])
      rw [run_convert_bytes_string w src dst e _ _ _ hs he hd]
      exact this
  · obtain ⟨ad, rfl, hb, _⟩ := h.at (k := 0) (by have := List.length_pos_iff.2 h0; simpa using this)
    have hsp : ∀ k (hk : k < l.length), w.cell? (ad.add k) = some (bv l[k]) := fun k hk => by
      have := h.all (k := k) (by simpa using hk)
      simpa using this
    have h00 := hsp 0 (List.length_pos_iff.2 h0)
    have hspot : ad.spot = none := by
      cases hq : ad.spot with
      | none => rfl
      | some q =>
        exfalso
        simp [Addr.add, World.cell?, hq] at h00
        split at h00 <;> simp at h00
    obtain ⟨b, off, sp⟩ := ad
    simp at hspot
    subst hspot
    have := run_convert_bytes_arg (P := P) w src e hs he b off l.length c (l.map fun b => (b.toNat : Int)) (by simp) (fun i hi => by
      have h1 := hsp i hi
      have h2 : (⟨b, off, none⟩ : Addr).add i = ⟨b, off + i, none⟩ := by unfold Addr.add; split <;> simp_all
      rw [h2] at h1
      rw [h1]
      simp [bv, List.getD_eq_getElem?_getD, hi]) dst hd
    rw [this]
    congr 2
    apply ByteArray.ext
    apply Array.ext'
    rw [strOfNums_data, List.map_map]
    show List.map _ l = l
    conv => rhs; rw [← List.map_id l]
    apply List.map_congr_left
    intro b _
    simp
theorem own_ext {w w' : World} {B e size n : Nat} {v : Value} {xs : List Value} (h : w.ownsRow B e size v n xs) (hx : Ext w w') : w'.ownsRow B e size v n xs := by
  refine ⟨h.1, ?_⟩
  rcases h.2 with h2 | ⟨g, cap, cur, hv, hB, hg, r⟩
  · exact Or.inl h2
  · exact Or.inr ⟨g, cap, cur, hv, hB, (Below.block hx g (lt_of_block hg)).trans hg, r⟩
theorem heap_new (w : World) (o : Obj) : (w.alloc o).heap[w.heap.size]? = some o := heap_alloc_new w o
theorem own_form {w : World} {B e size n : Nat} {v : Value} {xs : List Value} (h : w.ownsRow B e size v n xs) : ∃ A c, v = .slice A n c := by
  rcases h.2 with ⟨h2, h0⟩ | ⟨g, cap, cur, hv, r⟩
  · exact ⟨none, 0, by rw [h2, h0]⟩
  · exact ⟨_, cap, hv⟩
theorem own_rd {w : World} {B e n c : Nat} {A : Option Addr} {xs : List Value} (h : w.ownsRow B e 1 (.slice A n c) n xs) : Rd w A xs := by
  have hl : xs.length = n := by have := h.1; omega
  subst hl
  exact Rd.of_own h
theorem own_ge {w : World} {B e size n : Nat} {v : Value} {xs : List Value} (h : w.ownsRow B e size v n xs) : ∀ k, v.ownBlock = some k → B ≤ k := fun k hk => (h.lt k hk).1
/-- 'out = append(out, x)': one element, which the statement has just laid in a block of its own. -/
theorem wpl_append_new {P : Program} {w : World} {u : Value} {e' : TypeId} {ops : Array Oper} {rest : List Oper} {o : Oper} {a : Act} {Q : Exit → Act → World → Prop} (w0 : World) (t e : TypeId) (hgd : o.guard = none) (s x : Operand)
    (ho : o.op = .call { callee := .builtin .append, args := #[s, x], argTypes := #[t, t] })
    {z : Value} {bytes : Nat} (ht : P.underlying t = some (.slice e)) (hi : (P.info? e).map (fun i => (i.zero, i.size, i.bytes)) = some (some z, 1, bytes)) (hz1 : z.cells.size = 1)
    {v : Value} {n : Nat} {xs : List Value} (hs : a.eval s = v) (hown : w.ownsRow w0.heap.size e 1 v n xs) (hx0 : Ext w0 w)
    (hx : a.eval x = .slice (some ⟨w.heap.size, 0, none⟩) 1 1) (h1 : u.oneCell' = true)
    (hm : n < 1000000000000) (hb : bytes ≤ 100)
    (h : ∀ A c w', w'.ownsRow w0.heap.size e 1 (.slice A (n + 1) c) (n + 1) (xs ++ [u]) → Ext w0 w' → (w.alloc (.cells #[u] e')).grownBy w' v.ownBlock → wpList P ops Q rest (a.put o.dst (.slice A (n + 1) c)) w') :
    wpList P ops Q (o :: rest) a (w.alloc (.cells #[u] e')) := by
  obtain ⟨i, hi0, hiz, hi1, hi2⟩ := info_parts hi
  have hbb : (n + 1) * bytes ≤ (n + 1) * 100 := Nat.mul_le_mul_left _ hb
  refine wpList_append_own _ hgd s x t ho w0.heap.size e i z 1 bytes ht hi0 hiz hi1 hi2 hz1 (by decide) v n xs hs (hown.alloc _) ⟨w.heap.size, 0, none⟩ 1 1 [u] hx rfl ?_ ?_ ?_ ?_ ?_ ?_
  · intro j y hj
    match j, hj with
    | 0, hj =>
      simp at hj
      subst hj
      exact cell_of_row _ _ 0 #[u] e' (0, 0) (heap_new w _)
  · intro y hy
    simp at hy
    subst hy
    exact h1
  · unfold maxLen; omega
  · omega
  · have := hx0.size; simp; omega
  · intro v' w' ho' hg _
    obtain ⟨A, c, rfl⟩ := own_form ho'
    exact h A c w' ho' (((hx0.alloc _).grown hg (fun k hk => own_ge hown k hk))) hg
theorem Ext.heap {a w : World} (h : Ext a w) {g : Nat} {o : Obj} (hb : a.heap[g]? = some o) : w.heap[g]? = some o := by
  rw [Below.block h g (lt_of_block hb)]; exact hb

/-- v READS AS THE LIST xs: a slice whose elements read as the list's, each by R. -/
def Rs {α : Type} (R : World → Value → α → Prop) (w : World) (v : Value) (xs : List α) : Prop :=
  ∃ (A : Option Addr) (c : Nat), v = .slice A xs.length c ∧ xs.length ≤ 9223372036854775807 ∧ ∀ i x, xs[i]? = some x → ∃ ad u, A = some ad ∧ w.cell? (ad.add i) = some u ∧ R w u x
/-- What is read stays as it is while nothing old turns. -/
def Stable {α : Type} (R : World → Value → α → Prop) : Prop := ∀ w w' v x, Ext w w' → R w v x → R w' v x
theorem Rs.ext {α : Type} {R : World → Value → α → Prop} (hR : Stable R) : Stable (Rs R) := fun w w' v xs hx h => by
  obtain ⟨A, c, rfl, hl, h⟩ := h
  refine ⟨A, c, rfl, hl, fun i x hi => ?_⟩
  obtain ⟨ad, u, h1, h2, h3⟩ := h i x hi
  exact ⟨ad, u, h1, hx.cell h2, hR w w' u x hx h3⟩
def RI (_ : World) (v : Value) (n : Int) : Prop := v = .int .i64 n ∧ -9223372036854775808 ≤ n ∧ n ≤ 9223372036854775807
def RB (_ : World) (v : Value) (b : UInt8) : Prop := v = bv b
def RS (_ : World) (v : Value) (l : List UInt8) : Prop := v = .string (sb l)
theorem RI.ext : Stable RI := fun _ _ _ _ _ h => h
theorem RB.ext : Stable RB := fun _ _ _ _ _ h => h
theorem RS.ext : Stable RS := fun _ _ _ _ _ h => h
theorem Rs.at {α : Type} {R : World → Value → α → Prop} {w : World} {A : Option Addr} {n c : Nat} {xs : List α} (h : Rs R w (.slice A n c) xs) {i : Nat} (hi : i < xs.length) : ∃ ad u, A = some ad ∧ w.cell? (ad.add i) = some u ∧ R w u xs[i] := by
  obtain ⟨A', c', e, _, h⟩ := h
  injection e with e1 e2 e3
  subst e1
  exact h i _ (List.getElem?_eq_getElem hi)
theorem Rs.form {α : Type} {R : World → Value → α → Prop} {w : World} {v : Value} {xs : List α} (h : Rs R w v xs) : ∃ A c, v = .slice A xs.length c ∧ xs.length ≤ 9223372036854775807 := by
  obtain ⟨A, c, e, hl, _⟩ := h
  exact ⟨A, c, e, hl⟩
theorem Rs.len {α : Type} {R : World → Value → α → Prop} {w : World} {A : Option Addr} {n c : Nat} {xs : List α} (h : Rs R w (.slice A n c) xs) : n = xs.length := by
  obtain ⟨A', c', e, _, h⟩ := h
  injection e
theorem Rs.rd {w : World} {A : Option Addr} {n c : Nat} {xs : List UInt8} (h : Rs RB w (.slice A n c) xs) : Rd w A (xs.map bv) := fun k x hx => by
  rw [List.getElem?_map] at hx
  cases hk : xs[k]? with
  | none => rw [hk] at hx; cases hx
  | some b =>
    rw [hk] at hx
    injection hx with hx
    subst hx
    have hk' : k < xs.length := by
      rcases Nat.lt_or_ge k xs.length with h1 | h1
      · exact h1
      · rw [List.getElem?_eq_none h1] at hk; cases hk
    obtain ⟨ad, u, h1, h2, h3⟩ := h.at hk'
    rw [List.getElem?_eq_getElem hk'] at hk
    injection hk with hk
    rw [hk] at h3
    subst h3
    exact ⟨ad, h1, by have := lt_of_cell h2; rwa [block_add] at this, h2⟩
theorem Rs.of_rd {w : World} {A : Option Addr} {c : Nat} {xs : List UInt8} (h : Rd w A (xs.map bv)) (hl : xs.length ≤ 9223372036854775807) : Rs RB w (.slice A xs.length c) xs :=
  ⟨A, c, rfl, hl, fun i x hi => by
    obtain ⟨ad, h1, _, h3⟩ := h i (bv x) (by rw [List.getElem?_map, hi]; rfl)
    exact ⟨ad, bv x, h1, h3, rfl⟩⟩
end Go.Proofs.YtggfkpalkdkbdaaDoor

/- FROM A LAW's WALK TO ITS ROW: what the form asks behind a call that returned true and turned nothing that was there. -/
namespace Go.Proofs.YtggfkpalkdkbdaaDoor
open Go.RowKit Go.ChangeShapes Go.WideShapes Go.ChangeAt

variable {H : Type} {enc : TypeId × Value → H} {P : Program}
theorem trodAll_ext (hl : laidOutB P = true) {W W' : World} (hx : Ext W W') : ∀ {ts : List TypeId} {vs : List Value} {ds : List (DataW H)} {ps : List MemPlace},
    (∀ t ∈ ts, P.readableRec t = true ∧ t < P.types.size) → (∀ x ∈ ps, x.block < W.heap.size) →
    DataW.TrodAll enc P W 0 (fun _ => true) true ts vs ds ps → DataW.TrodAll enc P W' 0 (fun b => decide (b < W.heap.size)) true ts vs ds ps
  | [], [], [], _, _, _, h => h
  | t :: ts, v :: vs, d :: ds, ps, hr, hlt, h => by
    obtain ⟨p, q, h1, h2, rfl⟩ := h
    have h3 := hr t (by simp)
    exact ⟨p, q, Below.trod hl h3.1 h3.2 h1 hx (fun x hx => hlt x (by simp [hx])), trodAll_ext hl hx (fun t ht => hr t (by simp [ht])) (fun x hx => hlt x (by simp [hx])) h2, rfl⟩
  | [], _ :: _, _, _, _, _, h => h.elim
  | [], [], _ :: _, _, _, _, h => h.elim
  | _ :: _, [], _, _, _, _, h => h.elim
  | _ :: _, _ :: _, [], _, _, _, h => h.elim

/-- WHAT THE FORM ASKS BEHIND THE CALL. -/
theorem law_post {f : Func} {s : ChangeSpec} {W W' : World} {args : Array Value} {ds gs : List (DataW H)} {before : List MemPlace} {tb : TypeId}
    (hl : laidOutB P = true) (hr : (f.params.toList.all fun t => P.readableRec t && decide (t < P.types.size)) = true)
    (hv : s.vars = []) (hres : f.resultTypes = #[tb]) (htb : P.underlying tb = some .bool)
    (hspec : (s.fn H (ds ++ gs)).results = [.lit (.bool true)] ∧ (s.fn H (ds ++ gs)).args = ds ∧ (s.fn H (ds ++ gs)).vars = [])
    (hW : DataW.Whole enc P f.params.toList s.vars false W args.toList ds gs before) (hx : Ext W W') :
    s.post enc P f false true false false W args (.bool true) W' := by
  have hW' := hW
  have hlt : ∀ x ∈ before, x.block < W.heap.size := fun x hx => hW.lt x hx
  obtain ⟨p, q, hA, hV, rfl, hfz, hnd⟩ := hW
  have hr' : ∀ t ∈ f.params.toList, P.readableRec t = true ∧ t < P.types.size := fun t ht => by
    have := List.all_eq_true.1 hr t ht
    simpa using this
  refine ⟨ds, gs, p ++ q, [], p, [], hW', ?_, ?_, ?_, hx.frame _, fun h => by cases h⟩
  · rw [hspec.1, hres]
    exact trodAll_cons_mk (shut_bool htb _) trodAll_mk0
  · rw [hspec.2.1]
    exact trodAll_ext hl hx hr' (fun x hx => hlt x (by simp [hx])) hA
  · rw [hspec.2.2, hv]
    rfl

/-- AN ARGUMENT that is a slice of strings reads as a list of strings. -/
theorem open_strs {W : World} {base j : Nat} {t e : TypeId} {v : Value} {d : DataW H} {ps : List MemPlace} (ht : P.underlying t = some (.slice e)) (he : P.underlying e = some .string) (hc : P.cellsOf e = 1)
    (hval : Value.okWide P W .any base t v) (hd : DataW.Trod enc P W j (fun _ => true) true t v d ps) :
    ∃ (A : Option Addr) (c : Nat) (l : List (List UInt8)), v = .slice A l.length c ∧ l.length ≤ maxLen ∧ (∀ p ∈ l, p.length ≤ maxLen) ∧ Rd W A (l.map fun p => .string (sb p)) := by
  obtain ⟨a0, len, cap, rfl⟩ := okWide_slice ht hval
  obtain ⟨fuel, hf⟩ := hd
  rcases open_strings ht he hc hf with ⟨hcs, hx⟩ | ⟨a, len', cap', ss, hcs, _, hl, hm, hz, hx, hcell, hwz⟩
  · simp [Value.cells] at hcs
    obtain ⟨rfl, rfl, rfl⟩ := hcs
    exact ⟨none, 0, [], rfl, by simp, by simp, Rd.nil _ _⟩
  · simp [Value.cells] at hcs
    obtain ⟨rfl, rfl, rfl⟩ := hcs
    rw [if_pos rfl] at hz
    have hll : (ss.take len).length = len := by rw [List.length_take]; omega
    refine ⟨some a, cap, (ss.take len).map bl, by rw [List.length_map, hll], by rw [List.length_map, hll]; omega, ?_, ?_⟩
    · intro p hp
      rw [List.mem_map] at hp
      obtain ⟨s, hs, rfl⟩ := hp
      rw [← size_bl]
      exact hwz s (List.mem_of_mem_take hs)
    · intro k x hx
      have hk : k < len := by
        rcases Nat.lt_or_ge k len with h | h
        · exact h
        · rw [List.getElem?_eq_none (by simp; omega)] at hx; cases hx
      have h1 := hcell k (by omega)
      have e : x = .string (ss.getD k ByteArray.empty) := by
        rw [List.getElem?_map, List.getElem?_map, List.getElem?_take, if_pos hk, List.getElem?_eq_getElem (by omega)] at hx
        simp only [Option.map_some, Option.some.injEq, sb_bl] at hx
        rw [← hx, List.getD_eq_getElem?_getD, List.getElem?_eq_getElem (by omega)]
        rfl
      rw [e]
      exact ⟨a, rfl, by have := lt_of_cell h1; rwa [block_add] at this, h1⟩
end Go.Proofs.YtggfkpalkdkbdaaDoor

/- THE FIELD OF 256 ELEMENTS, in plain numbers: products bit by bit, and what the program's and the specification's products come to. No program in sight. -/
namespace Gf

/-- What four high bits of a product are modulo the polynomial. -/
def hiL : List Nat := [0, 29, 58, 39, 116, 105, 78, 83, 232, 245, 210, 207, 156, 129, 166, 187]
def hi (k : Nat) : Nat := hiL.getD k 0
def red (x : Nat) : Nat := (x % 256) ^^^ hi (x / 256 % 16)
/-- The sum of the shifted bytes that the lowest k bits of n choose. -/
def tacc (a n : Nat) : Nat → Nat
  | 0 => 0
  | k + 1 => if n / 2 ^ k % 2 = 1 then tacc a n k ^^^ (a * 2 ^ k) else tacc a n k
def tms (a n : Nat) : Nat := red (tacc a n 4)
/-- The program's product. -/
def mulG (a b : Nat) : Nat := red (tms a (b / 16) * 16) ^^^ tms a (b % 16)

/-- A byte times x. -/
def xt (x : Nat) : Nat := (2 * x) ^^^ (285 * (x / 128))
/-- The product that the laws are proved of: n bits of y. -/
def mulK : Nat → Nat → Nat → Nat
  | 0, _, _ => 0
  | n + 1, x, y => (y % 2 * x) ^^^ mulK n (xt x) (y / 2)
def mulN (a b : Nat) : Nat := mulK 8 a b

theorem all1_of {p : Nat → Bool} {n : Nat} (h : (List.range n).all p = true) {a : Nat} (ha : a < n) : p a = true := by
  rw [List.all_eq_true] at h
  exact h a (by simpa using ha)
theorem all2_of {p : Nat → Nat → Bool} {m n : Nat} (h : ((List.range m).all fun a => (List.range n).all fun b => p a b) = true) {a b : Nat} (ha : a < m) (hb : b < n) : p a b = true := by
  have h1 := all1_of (p := fun a => (List.range n).all fun b => p a b) h ha
  exact all1_of (p := fun b => p a b) h1 hb
theorem eq1_of {f g : Nat → Nat} {n : Nat} (h : ((List.range n).all fun a => Nat.beq (f a) (g a)) = true) {a : Nat} (ha : a < n) : f a = g a :=
  Nat.eq_of_beq_eq_true (all1_of (p := fun a => Nat.beq (f a) (g a)) h ha)
theorem eq2_of {f g : Nat → Nat → Nat} {m n : Nat} (h : ((List.range m).all fun a => (List.range n).all fun b => Nat.beq (f a b) (g a b)) = true) {a b : Nat} (ha : a < m) (hb : b < n) : f a b = g a b :=
  Nat.eq_of_beq_eq_true (all2_of (p := fun a b => Nat.beq (f a b) (g a b)) h ha hb)

theorem xor_lt {x y : Nat} (h : x < 256) (h' : y < 256) : x ^^^ y < 256 := Nat.xor_lt_two_pow (n := 8) h h'
theorem mul_pow_xor (x y k : Nat) : (x ^^^ y) * 2 ^ k = (x * 2 ^ k) ^^^ (y * 2 ^ k) := by
  rw [← Nat.shiftLeft_eq, ← Nat.shiftLeft_eq, ← Nat.shiftLeft_eq, Nat.shiftLeft_xor_distrib]
theorem bit_mul_xor {p q : Nat} (z : Nat) (hp : p < 2) (hq : q < 2) : z * (p ^^^ q) = (z * p) ^^^ (z * q) := by
  have h : (p = 0 ∨ p = 1) ∧ (q = 0 ∨ q = 1) := by omega
  rcases h with ⟨rfl | rfl, rfl | rfl⟩ <;> simp
theorem xor4 (a b c d : Nat) : (a ^^^ b) ^^^ (c ^^^ d) = (a ^^^ c) ^^^ (b ^^^ d) := by
  rw [Nat.xor_assoc, Nat.xor_assoc, ← Nat.xor_assoc b c d, Nat.xor_comm b c, Nat.xor_assoc c b d]

theorem xt_lt {x : Nat} (h : x < 256) : xt x < 256 := of_decide_eq_true (all1_of (p := fun x => decide (xt x < 256)) (n := 256) (by decide +kernel) h)
theorem xt_xor {x y : Nat} (h : x < 256) (h' : y < 256) : xt (x ^^^ y) = xt x ^^^ xt y := by
  unfold xt
  have e1 : 2 * (x ^^^ y) = (2 * x) ^^^ (2 * y) := by have := mul_pow_xor x y 1; simpa [Nat.mul_comm] using this
  have e2 : (x ^^^ y) / 128 = (x / 128) ^^^ (y / 128) := Nat.xor_div_two_pow (n := 7)
  rw [e1, e2, bit_mul_xor 285 (by omega) (by omega), xor4]

/-- f takes sums of bytes to sums. -/
def Lin (f : Nat → Nat) : Prop := ∀ x y, x < 256 → y < 256 → f (x ^^^ y) = f x ^^^ f y
theorem Lin.zero {f : Nat → Nat} (h : Lin f) : f 0 = 0 := by
  have := h 0 0 (by omega) (by omega)
  simpa using this
theorem top_bit {n x : Nat} (hn : n < 8) (hx : x < 256) (h1 : 2 ^ n ≤ x) (h2 : x < 2 ^ (n + 1)) : 2 ^ n ^^^ (x - 2 ^ n) = x := by
  have h : ((List.range 8).all fun n => (List.range 256).all fun x => !(Nat.ble (2 ^ n) x) || !(Nat.ble (x + 1) (2 ^ (n + 1))) || Nat.beq (2 ^ n ^^^ (x - 2 ^ n)) x) = true := by decide +kernel
  have h3 := all2_of (p := fun n x => !(Nat.ble (2 ^ n) x) || !(Nat.ble (x + 1) (2 ^ (n + 1))) || Nat.beq (2 ^ n ^^^ (x - 2 ^ n)) x) h hn hx
  simp only [Nat.ble_eq_true_of_le h1, Nat.ble_eq_true_of_le (show x + 1 ≤ 2 ^ (n + 1) from h2), Bool.not_true, Bool.false_or] at h3
  exact Nat.eq_of_beq_eq_true h3
theorem lin_ext {f g : Nat → Nat} (hf : Lin f) (hg : Lin g) (h : ∀ k, k < 8 → f (2 ^ k) = g (2 ^ k)) {x : Nat} (hx : x < 256) : f x = g x := by
  have key : ∀ n, n ≤ 8 → ∀ x, x < 2 ^ n → f x = g x := by
    intro n
    induction n with
    | zero => intro _ x hx; obtain rfl : x = 0 := by omega
              rw [hf.zero, hg.zero]
    | succ n ih =>
      intro hn x hx
      have hp : 2 ^ (n + 1) ≤ 2 ^ 8 := Nat.pow_le_pow_right (by omega) hn
      have hp' : 2 ^ (n + 1) = 2 * 2 ^ n := by rw [Nat.pow_succ]; omega
      by_cases hlt : x < 2 ^ n
      · exact ih (by omega) x hlt
      · have e := top_bit (n := n) (x := x) (by omega) (by omega) (by omega) hx
        rw [← e, hf _ _ (by omega) (by omega), hg _ _ (by omega) (by omega), h n (by omega), ih (by omega) _ (by omega)]
  exact key 8 (by omega) x (by simpa using hx)

theorem lin_xor {f g : Nat → Nat} (hf : Lin f) (hg : Lin g) : Lin fun x => f x ^^^ g x := fun x y hx hy => by
  show f (x ^^^ y) ^^^ g (x ^^^ y) = (f x ^^^ g x) ^^^ (f y ^^^ g y)
  rw [hf x y hx hy, hg x y hx hy, xor4]
theorem lin_comp {f g : Nat → Nat} (hf : Lin f) (hg : Lin g) (hb : ∀ x, x < 256 → g x < 256) : Lin fun x => f (g x) := fun x y hx hy => by
  show f (g (x ^^^ y)) = f (g x) ^^^ f (g y)
  rw [hg x y hx hy, hf _ _ (hb x hx) (hb y hy)]

theorem mulK_lt : ∀ n x y, x < 256 → mulK n x y < 256
  | 0, _, _, _ => by simp [mulK]
  | n + 1, x, y, h => by
    unfold mulK
    refine xor_lt ?_ (mulK_lt n _ _ (xt_lt h))
    have h2 : y % 2 = 0 ∨ y % 2 = 1 := by omega
    rcases h2 with e | e <;> rw [e] <;> omega
theorem mulN_lt {a b : Nat} (h : a < 256) : mulN a b < 256 := mulK_lt 8 a b h
theorem mulK_lin1 : ∀ n y, Lin fun x => mulK n x y
  | 0, _ => fun _ _ _ _ => by simp [mulK]
  | n + 1, y => by
    have h1 : Lin fun x => y % 2 * x := fun a b _ _ => by
      have h2 : y % 2 = 0 ∨ y % 2 = 1 := by omega
      rcases h2 with e | e <;> simp [e]
    exact lin_xor h1 (lin_comp (f := fun x => mulK n x (y / 2)) (g := xt) (mulK_lin1 n (y / 2)) (fun a b ha hb => xt_xor ha hb) fun x h => xt_lt h)
theorem mulK_xor2 (x : Nat) : ∀ n y z, mulK n x (y ^^^ z) = mulK n x y ^^^ mulK n x z := by
  intro n
  induction n generalizing x with
  | zero => intro y z; simp [mulK]
  | succ n ih =>
    intro y z
    have e1 : (y ^^^ z) % 2 = (y % 2) ^^^ (z % 2) := Nat.xor_mod_two_pow (n := 1)
    have e2 : (y ^^^ z) / 2 = (y / 2) ^^^ (z / 2) := Nat.xor_div_two_pow (n := 1)
    simp only [mulK]
    rw [e1, e2, ih, Nat.mul_comm _ x, bit_mul_xor x (by omega) (by omega), xor4, Nat.mul_comm x, Nat.mul_comm x]
theorem mulN_lin1 (b : Nat) : Lin fun a => mulN a b := mulK_lin1 8 b
theorem mulN_lin2 (a : Nat) : Lin fun b => mulN a b := fun x y _ _ => mulK_xor2 a 8 x y

theorem two_pow_lt {k : Nat} (h : k < 8) : 2 ^ k < 256 := by
  have : 2 ^ k ≤ 2 ^ 7 := Nat.pow_le_pow_right (by omega) (by omega)
  omega
theorem mulN_comm {a b : Nat} (h : a < 256) (h' : b < 256) : mulN a b = mulN b a := by
  refine lin_ext (f := fun a => mulN a b) (g := fun a => mulN b a) (mulN_lin1 b) (mulN_lin2 b) (fun j hj => ?_) h
  refine lin_ext (f := fun b => mulN (2 ^ j) b) (g := fun b => mulN b (2 ^ j)) (mulN_lin2 _) (mulN_lin1 _) (fun k hk => ?_) h'
  exact eq2_of (f := fun j k => mulN (2 ^ j) (2 ^ k)) (g := fun j k => mulN (2 ^ k) (2 ^ j)) (by decide +kernel) hj hk
theorem mulN_assoc {a b c : Nat} (h : a < 256) (h' : b < 256) (h'' : c < 256) : mulN (mulN a b) c = mulN a (mulN b c) := by
  refine lin_ext (f := fun a => mulN (mulN a b) c) (g := fun a => mulN a (mulN b c)) (lin_comp (mulN_lin1 c) (mulN_lin1 b) fun x hx => mulN_lt hx) (mulN_lin1 _) (fun i hi => ?_) h
  refine lin_ext (f := fun b => mulN (mulN (2 ^ i) b) c) (g := fun b => mulN (2 ^ i) (mulN b c)) (lin_comp (mulN_lin1 c) (mulN_lin2 _) fun x _ => mulN_lt (two_pow_lt hi)) (lin_comp (mulN_lin2 _) (mulN_lin1 c) fun x hx => mulN_lt hx) (fun j hj => ?_) h'
  refine lin_ext (f := fun c => mulN (mulN (2 ^ i) (2 ^ j)) c) (g := fun c => mulN (2 ^ i) (mulN (2 ^ j) c)) (mulN_lin2 _) (lin_comp (mulN_lin2 _) (mulN_lin2 _) fun x _ => mulN_lt (two_pow_lt hj)) (fun k hk => ?_) h''
  have := all2_of (p := fun i j => (List.range 8).all fun k => Nat.beq (mulN (mulN (2 ^ i) (2 ^ j)) (2 ^ k)) (mulN (2 ^ i) (mulN (2 ^ j) (2 ^ k)))) (m := 8) (n := 8) (by decide +kernel) hi hj
  exact Nat.eq_of_beq_eq_true (all1_of (p := fun k => Nat.beq (mulN (mulN (2 ^ i) (2 ^ j)) (2 ^ k)) (mulN (2 ^ i) (mulN (2 ^ j) (2 ^ k)))) this hk)

theorem hi_xor {p q : Nat} (hp : p < 16) (hq : q < 16) : hi (p ^^^ q) = hi p ^^^ hi q :=
  eq2_of (f := fun p q => hi (p ^^^ q)) (g := fun p q => hi p ^^^ hi q) (by decide +kernel) hp hq
theorem red_xor (x y : Nat) : red (x ^^^ y) = red x ^^^ red y := by
  unfold red
  have e1 : (x ^^^ y) % 256 = (x % 256) ^^^ (y % 256) := Nat.xor_mod_two_pow (n := 8)
  have e2 : (x ^^^ y) / 256 % 16 = (x / 256 % 16) ^^^ (y / 256 % 16) := by
    rw [show (x ^^^ y) / 256 = (x / 256) ^^^ (y / 256) from Nat.xor_div_two_pow (n := 8)]
    exact Nat.xor_mod_two_pow (n := 4)
  rw [e1, e2, hi_xor (by omega) (by omega), xor4]
theorem tacc_xor1 (n x y : Nat) : ∀ k, tacc (x ^^^ y) n k = tacc x n k ^^^ tacc y n k
  | 0 => by simp [tacc]
  | k + 1 => by
    unfold tacc
    split
    · rw [tacc_xor1 n x y k, mul_pow_xor, xor4]
    · exact tacc_xor1 n x y k
theorem mulG_lin1 (b : Nat) : Lin fun a => mulG a b := fun x y _ _ => by
  have e (n : Nat) : tms (x ^^^ y) n = tms x n ^^^ tms y n := by unfold tms; rw [tacc_xor1, red_xor]
  show mulG (x ^^^ y) b = mulG x b ^^^ mulG y b
  unfold mulG
  rw [e, e, show (16 : Nat) = 2 ^ 4 from rfl, mul_pow_xor, red_xor, xor4]
theorem mulG_eq {a b : Nat} (h : a < 256) (h' : b < 256) : mulG a b = mulN a b := by
  refine lin_ext (f := fun a => mulG a b) (g := fun a => mulN a b) (mulG_lin1 b) (mulN_lin1 b) (fun j hj => ?_) h
  exact eq2_of (f := fun j b => mulG (2 ^ j) b) (g := fun j b => mulN (2 ^ j) b) (by decide +kernel) hj h'

theorem tacc_lt (a n : Nat) (ha : a < 256) : ∀ k, tacc a n k < 2 ^ (8 + k)
  | 0 => by simp [tacc]
  | k + 1 => by
    have ih := tacc_lt a n ha k
    have h1 : a * 2 ^ k < 2 ^ (8 + (k + 1)) := by
      have : a * 2 ^ k < 256 * 2 ^ k := Nat.mul_lt_mul_of_pos_right ha (Nat.two_pow_pos k)
      have e : 2 ^ (8 + (k+1)) = 2 * (256 * 2 ^ k) := by rw [Nat.pow_add, Nat.pow_succ]; omega
      omega
    have h2 : tacc a n k < 2 ^ (8 + (k + 1)) := by
      have : 2 ^ (8 + (k + 1)) = 2 * 2 ^ (8 + k) := by rw [← Nat.add_assoc, Nat.pow_succ]; omega
      omega
    unfold tacc; split
    · exact Nat.xor_lt_two_pow h2 h1
    · exact h2
theorem hi_lt {k : Nat} (h : k < 16) : hi k < 256 := of_decide_eq_true (all1_of (p := fun k => decide (hi k < 256)) (n := 16) (by decide +kernel) h)
theorem red_lt (x : Nat) : red x < 256 := xor_lt (by omega) (hi_lt (by omega))
theorem tms_lt (a n : Nat) : tms a n < 256 := red_lt _

theorem mulN_zero1 (b : Nat) : mulN 0 b = 0 := (mulN_lin1 b).zero
theorem mulN_zero2 (a : Nat) : mulN a 0 = 0 := (mulN_lin2 a).zero
theorem mulN_one2 {a : Nat} (h : a < 256) : mulN a 1 = a := eq1_of (f := fun a => mulN a 1) (g := fun a => a) (n := 256) (by decide +kernel) h
theorem mulN_one1 {a : Nat} (h : a < 256) : mulN 1 a = a := by rw [mulN_comm (by omega) h, mulN_one2 h]

/-- a times itself, n times. -/
def powN (a : Nat) : Nat → Nat
  | 0 => 1
  | n + 1 => mulN (powN a n) a
theorem powN_lt {a : Nat} : ∀ n, powN a n < 256
  | 0 => by simp [powN]
  | n + 1 => mulN_lt (powN_lt n)
theorem powN_two {a : Nat} (h : a < 256) : ∀ n, powN (mulN a a) n = powN a (2 * n)
  | 0 => rfl
  | n + 1 => by rw [powN, powN_two h n, show 2 * (n + 1) = 2 * n + 1 + 1 from by omega, powN, powN, mulN_assoc (powN_lt _) h h]
theorem powN_zero {n : Nat} (h : n ≠ 0) : powN 0 n = 0 := by
  cases n with
  | zero => exact absurd rfl h
  | succ n => exact mulN_zero2 _
/-- By squares. -/
def pow8 (a : Nat) (n : Nat) : Nat → Nat → Nat
  | 0, x => x
  | f + 1, x => pow8 (mulN a a) (n / 2) f (if n % 2 = 1 then mulN x a else x)
theorem pow8_eq : ∀ (f a n x : Nat), a < 256 → x < 256 → n < 2 ^ f → pow8 a n f x = mulN x (powN a n)
  | 0, a, n, x, _, hx, hn => by
    obtain rfl : n = 0 := by simpa using hn
    rw [pow8, powN, mulN_one2 hx]
  | f + 1, a, n, x, ha, hx, hn => by
    have hn2 : n / 2 < 2 ^ f := by rw [Nat.pow_succ] at hn; omega
    have e2 := powN_two ha (n / 2)
    rw [pow8]
    split
    · rename_i h1
      rw [pow8_eq f _ _ _ (mulN_lt ha) (mulN_lt hx) hn2, e2, mulN_assoc hx ha (powN_lt _), mulN_comm ha (powN_lt _), show mulN (powN a (2 * (n / 2))) a = powN a (2 * (n / 2) + 1) from rfl]
      rw [show 2 * (n / 2) + 1 = n from by omega]
    · rename_i h1
      rw [pow8_eq f _ _ _ (mulN_lt ha) hx hn2, e2, show 2 * (n / 2) = n from by omega]
theorem powN_eq8 {a n : Nat} (ha : a < 256) (hn : n < 256) : powN a n = pow8 a n 8 1 := by
  rw [pow8_eq 8 a n 1 ha (by omega) hn, mulN_one1 (powN_lt n)]
theorem powN_255 {a : Nat} (ha : a < 256) (h0 : a ≠ 0) : powN a 255 = 1 := by
  rw [powN_eq8 ha (by omega)]
  have h := all1_of (p := fun a => Nat.beq a 0 || Nat.beq (pow8 a 255 8 1) 1) (n := 256) (by decide +kernel) ha
  rw [Bool.or_eq_true] at h
  rcases h with h | h
  · exact absurd (Nat.eq_of_beq_eq_true h) h0
  · exact Nat.eq_of_beq_eq_true h
def invN (a : Nat) : Nat := powN a 254
theorem invN_lt (a : Nat) : invN a < 256 := powN_lt _
theorem mul_invN {a : Nat} (ha : a < 256) (h0 : a ≠ 0) : mulN a (invN a) = 1 := by
  rw [mulN_comm ha (invN_lt a)]; exact powN_255 ha h0
theorem mulN_eq_zero {a b : Nat} (ha : a < 256) (hb : b < 256) : mulN a b = 0 ↔ a = 0 ∨ b = 0 := by
  constructor
  · intro h
    by_cases h0 : a = 0
    · exact .inl h0
    · right
      have e : mulN (invN a) (mulN a b) = b := by rw [← mulN_assoc (invN_lt a) ha hb, mulN_comm (invN_lt a) ha, mul_invN ha h0, mulN_one1 hb]
      rw [← e, h, mulN_zero2]
  · rintro (rfl | rfl)
    · exact mulN_zero1 b
    · exact mulN_zero2 a
/-- The place of a among the powers of 2, counted from x. -/
def logF (a : Nat) : Nat → Nat → Nat → Nat
  | 0, _, k => k
  | f + 1, x, k => if Nat.beq x a then k else logF a f (xt x) (k + 1)
def logN (a : Nat) : Nat := logF a 255 1 0
/-- The same over the walk's numbers. -/
def mulI (a b : Int) : Int := (mulN a.toNat b.toNat : Nat)
theorem mulI_nat (a b : Nat) : mulI a b = (mulN a b : Nat) := rfl
/-- The code of Inv's and Log's error. -/
def noneI (a : Int) : Int := if a = 0 then 1 else 0
/-- Pow's result. -/
def powI (a n : Int) : Int := if a = 0 ∧ n ≠ 0 then 0 else (powN a.toNat (n % 255).toNat : Nat)
/-- Log's first result. -/
def logI (a : Int) : Int := if a = 0 then 0 else (logN a.toNat : Nat)
theorem red_def (x : Nat) : red x = (x % 256) ^^^ hi (x / 256 % 16) := rfl
theorem tms_def (a n : Nat) : tms a n = red (tacc a n 4) := rfl
theorem mulN_def (a b : Nat) : mulN a b = mulK 8 a b := rfl
theorem powN_nil (a : Nat) : powN a 0 = 1 := rfl
theorem powN_succ (a k : Nat) : powN a (k + 1) = mulN (powN a k) a := rfl
theorem powN_step (a k : Nat) : mulI (powN a k : Nat) (a : Nat) = (powN a (k + 1) : Nat) := rfl
theorem powN_step2 (k : Nat) : mulI (powN 2 k : Nat) 2 = (powN 2 (k + 1) : Nat) := rfl
theorem invN_def (a : Nat) : invN a = powN a 254 := rfl
theorem noneI_zero : noneI 0 = 1 := rfl
theorem noneI_nat {a : Int} (h : a ≠ 0) : noneI a = 0 := if_neg h
/- A walk must not look into these. -/
attribute [irreducible] mulN mulI powN invN logN logI noneI powI red tms hi
end Gf

/- THE WALKS over package gf: what each of its functions returns, in the numbers of the text on the field. -/
namespace Go.Proofs.YtggfkpalkdkbdaaDoor
open Go.RowKit

/-- The table of package gf lies in memory. -/
def Tab (w : World) : Prop := ∀ k, k < 16 → w.cell? ⟨0, k, none⟩ = some (.int .u8 (Gf.hi k : Nat))
theorem Tab.below {B : Nat} {w w' : World} (h : Tab w) (hb : Below B w w') (hB : 0 < B) : Tab w' :=
  fun k hk => (hb.cell (p := ⟨0, k, none⟩) hB).trans (h k hk)
theorem Tab.size {w : World} (h : Tab w) : 0 < w.heap.size := by
  have := h 0 (by omega)
  rcases Nat.lt_or_ge 0 w.heap.size with h1 | h1
  · exact h1
  · simp [World.cell?, Array.getElem?_eq_none h1] at this
theorem Tab.ext {w w' : World} (h : Tab w) (hb : Below w.heap.size w w') : Tab w' := h.below hb h.size

theorem reduce_nat (n : Nat) (h1 : n < 4096) (w : World) (hT : Tab w) :
    Calls Tryd.prog 94 #[.int .u64 n] w fun e w' => e = .returned (.int .u8 (Gf.red n : Nat)) ∧ w = w' := by
  have e1 : bits .and .u64 ((n : Int) / 256) 15 = ((n / 256 % 16 : Nat) : Int) := by
    have := u64_and_nat (n / 256) 15 (by omega) (by omega)
    rw [nat_mask4] at this
    simpa using this
  have hc := hT (n / 256 % 16) (by omega)
  have hl := Gf.hi_lt (k := n / 256 % 16) (by omega)
  have e2 : bits .xor .u8 ((n : Int) % 256) ((Gf.hi (n / 256 % 16) : Nat) : Int) = ((Gf.red n : Nat) : Int) := by
    have := u8_xor_nat (n % 256) (Gf.hi (n / 256 % 16)) (by omega) hl
    rw [Gf.red_def]
    simpa using this
  go_enter Tryd.func94, Tryd.ntmps94
  go_wp2_with fail
  go_ret
  first | exact ⟨rfl, rfl⟩ | exact ⟨ret_int e2, rfl⟩

theorem times_nat (a n : Nat) (ha : a < 256) (hn : n < 16) (w : World) (hT : Tab w) :
    Calls Tryd.prog 95 #[.int .u8 a, .int .u64 n] w fun e w' => e = .returned (.int .u8 (Gf.tms a n : Nat)) ∧ w = w' := by
  have HT := Lib.hid hT
  clear hT
  go_enter Tryd.func95, Tryd.ntmps95
  go_wp2_with fail
  go_loop [5, 7] (fun x i => ∃ k : Nat, k ≤ 4 ∧ i = .int .i64 k ∧ x = .int .u64 (Gf.tacc a n k : Nat)) (fun _ i => 4 - (intOf i).toNat)
  case atStart => exact ⟨0, by omega, rfl, rfl⟩
  case round =>
    obtain ⟨k, hk, rfl, rfl⟩ := hrel
    have hb := Gf.tacc_lt a n ha k
    have hb2 : 2 ^ (8 + k) ≤ 2 ^ 12 := Nat.pow_le_pow_right (by omega) (by omega)
    have hb3 : Gf.tacc a n k < 4096 := by omega
    clear hb hb2
    by_cases hlt : k < 4
    · have hp : 2 ^ k ≤ 2 ^ 4 := Nat.pow_le_pow_right (by omega) (by omega)
      have hap : a * 2 ^ k < 256 * 16 := Nat.mul_lt_mul_of_lt_of_le ha (by omega) (by omega)
      have e0 : bits .and .u64 ((n : Int) / 2 ^ k) 1 = ((n / 2 ^ k % 2 : Nat) : Int) := by
        have hd : n / 2 ^ k ≤ n := Nat.div_le_self _ _
        have := u64_and_nat (n / 2 ^ k) 1 (by omega) (by omega)
        rw [nat_mask1] at this
        simpa using this
      have e1 : IntKind.u64.wrap ((a : Int) * 2 ^ k) = ((a * 2 ^ k : Nat) : Int) := by
        have h : ((a : Int) * 2 ^ k) = ((a * 2 ^ k : Nat) : Int) := by simp
        rw [h, IntKind.wrap_u64]
        omega
      have e2 : bits .xor .u64 ((Gf.tacc a n k : Nat) : Int) (IntKind.u64.wrap ((a : Int) * 2 ^ k)) = ((Gf.tacc a n k ^^^ (a * 2 ^ k) : Nat) : Int) := by
        rw [e1]; exact u64_xor_nat _ _ (by omega) (by omega)
      have HP := Lib.hid hp
      have HA := Lib.hid hap
      have H1 := Lib.hid e1
      clear hp hap e1
      by_cases hbit : n / 2 ^ k % 2 = 1
      · have H : Gf.tacc a n (k + 1) = Gf.tacc a n k ^^^ (a * 2 ^ k) := by rw [Gf.tacc, if_pos hbit]
        have HH := Lib.hid H
        clear H
        have e3 : (bits .and .u64 ((n : Int) / 2 ^ k) 1 == 1) = true := by rw [e0, hbit]; rfl
        clear e0
        have HB := Lib.hid hbit
        clear hbit
        go_wp2_with fail
        go_round
        case rel => exact ⟨k + 1, by omega, by go_num, by rw [HH.out]⟩
        case measure => simp [intOf]; omega
      · have H : Gf.tacc a n (k + 1) = Gf.tacc a n k := by rw [Gf.tacc, if_neg hbit]
        have HH := Lib.hid H
        clear H
        have e3 : (bits .and .u64 ((n : Int) / 2 ^ k) 1 == 1) = false := by
          have h0 : n / 2 ^ k % 2 = 0 := by omega
          rw [e0, h0]; rfl
        clear e0
        have HB := Lib.hid hbit
        clear hbit
        go_wp2_with fail
        go_round
        case rel => exact ⟨k + 1, by omega, by go_num, by rw [HH.out]⟩
        case measure => simp [intOf]; omega
    · obtain rfl : k = 4 := by omega
      go_wp2_with (go_at_call 94; refine (reduce_nat _ hb3 _ HT.out).mono ?_; rintro e w' ⟨rfl, rfl⟩)
      go_ret
      exact ⟨ret_int (by rw [Gf.tms_def]), rfl⟩

theorem mul_nat (a b : Nat) (ha : a < 256) (hb : b < 256) (w : World) (hT : Tab w) :
    Calls Tryd.prog 68 #[.int .u8 a, .int .u8 b] w fun e w' => e = .returned (.int .u8 (Gf.mulN a b : Nat)) ∧ w = w' := by
  have HT := Lib.hid hT
  clear hT
  have h1 := Gf.tms_lt a (b / 16)
  have h2 := Gf.tms_lt a (b % 16)
  have e1 : bits .and .u8 (b : Int) 15 = ((b % 16 : Nat) : Int) := by
    have := u8_and_nat b 15 (by omega) (by omega)
    rw [nat_mask4] at this
    simpa using this
  have e2 : bits .xor .u8 ((Gf.red (Gf.tms a (b / 16) * 16) : Nat) : Int) ((Gf.tms a (b % 16) : Nat) : Int) = ((Gf.mulN a b : Nat) : Int) := by
    rw [u8_xor_nat _ _ (Gf.red_lt _) h2, ← Gf.mulG_eq ha hb, Gf.mulG]
  have H2 := Lib.hid e2
  clear e2
  go_enter Tryd.func68, Tryd.ntmps68
  go_wp2_with fail
  refine (times_nat a (b / 16) ha (by omega) _ HT.out).mono ?_
  rintro e w' ⟨rfl, rfl⟩
  go_wp2_with fail
  refine (reduce_nat (Gf.tms a (b / 16) * 16) (by omega) _ HT.out).mono ?_
  rintro e w' ⟨rfl, rfl⟩
  go_wp2_with fail
  refine (times_nat a (b % 16) ha (by omega) _ HT.out).mono ?_
  rintro e w' ⟨rfl, rfl⟩
  go_wp2_with fail
  go_ret
  exact ⟨ret_int H2.out, rfl⟩
/-- Mul, whatever the terms for its arguments are. -/
theorem mul_any (a b : Int) (w : World) (hT : Tab w) (ha : 0 ≤ a) (ha' : a < 256) (hb : 0 ≤ b) (hb' : b < 256) :
    Calls Tryd.prog 68 #[.int .u8 a, .int .u8 b] w fun e w' => e = .returned (.int .u8 (Gf.mulI a b)) ∧ w = w' := by
  obtain ⟨a, rfl⟩ := Int.eq_ofNat_of_zero_le ha
  obtain ⟨b, rfl⟩ := Int.eq_ofNat_of_zero_le hb
  rw [Gf.mulI_nat]
  exact mul_nat a b (by omega) (by omega) w hT

theorem power_nat (a n : Nat) (ha : a < 256) (hn : n < 1000) (w : World) (hT : Tab w) :
    Calls Tryd.prog 92 #[.int .u8 a, .int .i64 n] w fun e w' => e = .returned (.int .u8 (Gf.powN a n : Nat)) ∧ w = w' := by
  have HT := Lib.hid hT
  clear hT
  go_enter Tryd.func92, Tryd.ntmps92
  go_wp2_with fail
  go_loop [0, 1, 5] (fun va vn vx => ∃ A N X : Nat, A < 256 ∧ X < 256 ∧ N < 1000 ∧ va = .int .u8 A ∧ vn = .int .i64 N ∧ vx = .int .u8 X ∧ Gf.mulN X (Gf.powN A N) = Gf.powN a n) (fun _ vn _ => (intOf vn).toNat)
  case atStart => exact ⟨a, n, 1, ha, by omega, hn, rfl, rfl, rfl, Gf.mulN_one1 (Gf.powN_lt n)⟩
  case round =>
    obtain ⟨A, N, X, hA, hX, hN, rfl, rfl, rfl, hm⟩ := hrel
    have HM := Lib.hid hm
    clear hm
    have e0 := odd64 N (by omega)
    by_cases hp : 0 < N
    · have hAA := Gf.mulN_lt (a := A) (b := A) hA
      by_cases hbit : N % 2 = 1
      · have hXA := Gf.mulN_lt (a := X) (b := A) hX
        have e3 : (bits .and .i64 (N : Int) 1 == 1) = true := by rw [e0, hbit]; rfl
        have H : Gf.mulN (Gf.mulN X A) (Gf.powN (Gf.mulN A A) (N / 2)) = Gf.powN a n := by
          rw [Gf.powN_two hA, Gf.mulN_assoc hX hA (Gf.powN_lt _), Gf.mulN_comm hA (Gf.powN_lt _), ← HM.out]
          rw [← Gf.powN_succ, show 2 * (N / 2) + 1 = N from by omega]
        have HH := Lib.hid H
        have HB := Lib.hid hbit
        clear H hbit e0
        go_wp2_with fail
        refine (mul_nat X A hX hA _ HT.out).mono ?_
        rintro e w' ⟨rfl, rfl⟩
        go_wp2_with fail
        refine (mul_nat A A hA hA _ HT.out).mono ?_
        rintro e w' ⟨rfl, rfl⟩
        go_wp2_with fail
        go_round
        case rel => exact ⟨Gf.mulN A A, N / 2, Gf.mulN X A, hAA, hXA, by omega, rfl, by go_num, rfl, HH.out⟩
        case measure => simp [intOf]; omega
      · have e3 : (bits .and .i64 (N : Int) 1 == 1) = false := by
          have h0 : N % 2 = 0 := by omega
          rw [e0, h0]; rfl
        have H : Gf.mulN X (Gf.powN (Gf.mulN A A) (N / 2)) = Gf.powN a n := by
          rw [Gf.powN_two hA, show 2 * (N / 2) = N from by omega]; exact HM.out
        have HH := Lib.hid H
        have HB := Lib.hid hbit
        clear H hbit e0
        go_wp2_with fail
        refine (mul_nat A A hA hA _ HT.out).mono ?_
        rintro e w' ⟨rfl, rfl⟩
        go_wp2_with fail
        go_round
        case rel => exact ⟨Gf.mulN A A, N / 2, X, hAA, hX, by omega, rfl, by go_num, rfl, HH.out⟩
        case measure => simp [intOf]; omega
    · obtain rfl : N = 0 := by omega
      have hx : X = Gf.powN a n := by rw [← HM.out, Gf.powN_nil, Gf.mulN_one2 hX]
      have HX := Lib.hid hx
      clear hx e0
      go_wp2_with fail
      go_ret
      exact ⟨ret_int (by rw [HX.out]), rfl⟩

theorem modulo_any (n : Int) (w : World) (h1 : -9223372036854775808 ≤ n) (h2 : n ≤ 9223372036854775807) :
    Calls Tryd.prog 93 #[.int .i64 n] w fun e w' => e = .returned (.int .i64 (n % 255)) ∧ w = w' := by
  by_cases h0 : 0 ≤ n
  · go_enter Tryd.func93, Tryd.ntmps93
    go_wp2_with fail
    go_ret
    exact ⟨rfl, rfl⟩
  · have e : n.tmod 255 = -((-n) % 255) := by
      have h := Int.neg_tmod (-n) 255
      rw [Int.neg_neg, Int.tmod_eq_emod_of_nonneg (a := -n) (by omega)] at h
      exact h
    have e2 : n.tmod 255 < 0 → n.tmod 255 + 255 = n % 255 := fun h => by rw [e] at h ⊢; omega
    have e3 : 0 ≤ n.tmod 255 → n.tmod 255 = n % 255 := fun h => by rw [e] at h ⊢; omega
    have hl : -255 < n.tmod 255 := by rw [e]; omega
    have H2 := Lib.hid e2
    have H3 := Lib.hid e3
    clear e e2 e3
    go_enter Tryd.func93, Tryd.ntmps93
    go_wp2_with fail
    · go_ret
      exact ⟨ret_int (H2.out (by assumption)), rfl⟩
    · go_ret
      exact ⟨ret_int (H3.out (by assumption)), rfl⟩

theorem power_any (a n : Int) (w : World) (hT : Tab w) (ha : 0 ≤ a) (ha' : a < 256) (hn : 0 ≤ n) (hn' : n < 1000) :
    Calls Tryd.prog 92 #[.int .u8 a, .int .i64 n] w fun e w' => e = .returned (.int .u8 (Gf.powN a.toNat n.toNat : Nat)) ∧ w = w' := by
  obtain ⟨a, rfl⟩ := Int.eq_ofNat_of_zero_le ha
  obtain ⟨n, rfl⟩ := Int.eq_ofNat_of_zero_le hn
  exact power_nat a n (by omega) (by omega) w hT

/-- What Inv returns: the zero, and the code of ErrArg, for 0. -/
theorem inv_zero (w : World) : Calls Tryd.prog 75 #[.int .u8 0] w fun e w' => e = .returned (.tuple #[.int .u8 0, .int .i64 1]) ∧ w = w' := by
  go_enter Tryd.func75, Tryd.ntmps75
  go_wp2_with fail
  go_ret2
  exact ⟨rfl, rfl⟩
theorem inv_nat (a : Nat) (ha : a < 256) (h0 : a ≠ 0) (w : World) (hT : Tab w) :
    Calls Tryd.prog 75 #[.int .u8 a] w fun e w' => e = .returned (.tuple #[.int .u8 (Gf.invN a : Nat), .int .i64 0]) ∧ w = w' := by
  have HT := Lib.hid hT
  clear hT
  go_enter Tryd.func75, Tryd.ntmps75
  go_wp2_with fail
  refine (power_any a 254 _ HT.out (by omega) (by omega) (by omega) (by omega)).mono ?_
  rintro e w' ⟨rfl, rfl⟩
  go_wp2_with fail
  go_ret2
  exact ⟨by rw [Gf.invN_def]; rfl, rfl⟩
/-- Both results of Inv, for every byte. -/
theorem inv_any (a : Int) (w : World) (hT : Tab w) (ha : 0 ≤ a) (ha' : a < 256) :
    Calls Tryd.prog 75 #[.int .u8 a] w fun e w' => e = .returned (.tuple #[.int .u8 (Gf.invN a.toNat : Nat), .int .i64 (Gf.noneI a)]) ∧ w = w' := by
  obtain ⟨a, rfl⟩ := Int.eq_ofNat_of_zero_le ha
  by_cases h0 : a = 0
  · subst h0
    refine (inv_zero w).mono ?_
    rintro e w' ⟨rfl, rfl⟩
    refine ⟨?_, rfl⟩
    rw [show Gf.noneI ((0 : Nat) : Int) = 1 from Gf.noneI_zero, show Gf.invN ((0 : Nat) : Int).toNat = 0 from by rw [Gf.invN_def]; exact Gf.powN_zero (by omega)]
    rfl
  · refine (inv_nat a (by omega) h0 w hT).mono ?_
    rintro e w' ⟨rfl, rfl⟩
    refine ⟨?_, rfl⟩
    rw [Gf.noneI_nat (by omega), Int.toNat_natCast]
theorem exp_any (n : Int) (w : World) (hT : Tab w) (h1 : -9223372036854775808 ≤ n) (h2 : n ≤ 9223372036854775807) :
    Calls Tryd.prog 65 #[.int .i64 n] w fun e w' => e = .returned (.int .u8 (Gf.powN 2 (n % 255).toNat : Nat)) ∧ w = w' := by
  have HT := Lib.hid hT
  clear hT
  go_enter Tryd.func65, Tryd.ntmps65
  go_wp2_with fail
  refine (modulo_any n _ h1 h2).mono ?_
  rintro e w' ⟨rfl, rfl⟩
  go_wp2_with fail
  refine (power_any 2 (n % 255) _ HT.out (by omega) (by omega) (by omega) (by omega)).mono ?_
  rintro e w' ⟨rfl, rfl⟩
  go_wp2_with fail
  go_ret
  exact ⟨rfl, rfl⟩
end Go.Proofs.YtggfkpalkdkbdaaDoor

/- THE FIELD OVER BYTES: what the walks return, as bytes and strings of bytes. No program in sight. -/
namespace Gf
/-- The product of two bytes. -/
def mul (a b : UInt8) : UInt8 := UInt8.ofNat (mulN a.toNat b.toNat)
theorem lt8 (a : UInt8) : a.toNat < 256 := a.toNat_lt
theorem mul_toNat (a b : UInt8) : (mul a b).toNat = mulN a.toNat b.toNat := by
  unfold mul
  have := mulN_lt (a := a.toNat) (b := b.toNat) (lt8 a)
  simp
  omega
theorem mulI_toNat (a b : UInt8) : mulI (a.toNat : Int) (b.toNat : Int) = ((mul a b).toNat : Int) := by rw [mulI_nat, mul_toNat]
theorem mul_comm (a b : UInt8) : mul a b = mul b a := by rw [← UInt8.toNat_inj, mul_toNat, mul_toNat, mulN_comm (lt8 a) (lt8 b)]
theorem mul_assoc (a b c : UInt8) : mul (mul a b) c = mul a (mul b c) := by rw [← UInt8.toNat_inj]; simp only [mul_toNat]; exact mulN_assoc (lt8 a) (lt8 b) (lt8 c)
theorem mul_zero (a : UInt8) : mul a 0 = 0 := by rw [← UInt8.toNat_inj, mul_toNat]; exact mulN_zero2 _
theorem zero_mul (a : UInt8) : mul 0 a = 0 := by rw [mul_comm, mul_zero]
theorem mul_one (a : UInt8) : mul a 1 = a := by rw [← UInt8.toNat_inj, mul_toNat]; exact mulN_one2 (lt8 a)
theorem one_mul (a : UInt8) : mul 1 a = a := by rw [mul_comm, mul_one]
theorem mul_xor (a b c : UInt8) : mul a (b ^^^ c) = mul a b ^^^ mul a c := by rw [← UInt8.toNat_inj]; simp only [mul_toNat, UInt8.toNat_xor]; exact mulN_lin2 _ _ _ (lt8 b) (lt8 c)
theorem xor_mul (a b c : UInt8) : mul (a ^^^ b) c = mul a c ^^^ mul b c := by rw [mul_comm, mul_xor, mul_comm c a, mul_comm c b]
theorem mul_eq_zero {a b : UInt8} : mul a b = 0 ↔ a = 0 ∨ b = 0 := by
  rw [← UInt8.toNat_inj, mul_toNat, ← UInt8.toNat_inj (a := a), ← UInt8.toNat_inj (a := b)]
  exact mulN_eq_zero (lt8 a) (lt8 b)
/-- The inverse; 0 for 0. -/
def inv (a : UInt8) : UInt8 := UInt8.ofNat (invN a.toNat)
theorem inv_toNat (a : UInt8) : (inv a).toNat = invN a.toNat := by
  unfold inv
  have := invN_lt a.toNat
  simp
  omega
theorem mul_inv {a : UInt8} (h : a ≠ 0) : mul a (inv a) = 1 := by
  rw [← UInt8.toNat_inj, mul_toNat, inv_toNat]
  exact Gf.mul_invN (lt8 a) (fun e => h (by rw [← UInt8.toNat_inj]; exact e))
theorem inv_mul {a : UInt8} (h : a ≠ 0) : mul (inv a) a = 1 := by rw [mul_comm, mul_inv h]
theorem xor_assoc (a b c : UInt8) : a ^^^ b ^^^ c = a ^^^ (b ^^^ c) := UInt8.xor_assoc a b c
theorem xor_comm (a b : UInt8) : a ^^^ b = b ^^^ a := UInt8.xor_comm a b

/-- The sum of two strings, the shorter one filled up with zeros. -/
def sum (s t : List UInt8) : List UInt8 := (List.range (max s.length t.length)).map fun k => s.getD k 0 ^^^ t.getD k 0
def scale (c : UInt8) (s : List UInt8) : List UInt8 := s.map (mul c)
/-- The byte at place k of the sum of the strings with coefficients, from the first n of them. -/
def comb (coef : List UInt8) (parts : List (List UInt8)) (k : Nat) : Nat → UInt8
  | 0 => 0
  | n + 1 => comb coef parts k n ^^^ mul (coef.getD n 0) ((parts.getD n []).getD k 0)
/-- Combine's string. -/
def combine (coef : List UInt8) (parts : List (List UInt8)) : List UInt8 := (List.range (parts.headD []).length).map fun k => comb coef parts k coef.length
/-- Whether Combine takes its arguments. -/
def combOk (coef : List UInt8) (parts : List (List UInt8)) : Bool := coef.length == parts.length && parts.all fun p => p.length == (parts.headD []).length
/-- Both results of Combine. -/
def combS (coef : List UInt8) (parts : List (List UInt8)) : List UInt8 := if combOk coef parts then combine coef parts else []
def combE (coef : List UInt8) (parts : List (List UInt8)) : Int := if combOk coef parts then 0 else 1
theorem combS_ok {coef : List UInt8} {parts : List (List UInt8)} (h : combOk coef parts = true) : combS coef parts = combine coef parts := if_pos h
theorem combS_no {coef : List UInt8} {parts : List (List UInt8)} (h : combOk coef parts = false) : combS coef parts = [] := if_neg (by rw [h]; simp)
theorem combE_ok {coef : List UInt8} {parts : List (List UInt8)} (h : combOk coef parts = true) : combE coef parts = 0 := if_pos h
theorem combE_no {coef : List UInt8} {parts : List (List UInt8)} (h : combOk coef parts = false) : combE coef parts = 1 := if_neg (by rw [h]; simp)
theorem combOk_ne {coef : List UInt8} {parts : List (List UInt8)} (h : coef.length ≠ parts.length) : combOk coef parts = false := by
  unfold combOk
  rw [show (coef.length == parts.length) = false from by simpa using h]
  rfl
attribute [irreducible] combS combE mul inv
end Gf

/- LINEAR ALGEBRA over bytes, in plain terms: sums, spans, and that more vectors than coordinates depend on each other. No program in sight. -/
namespace Gf
/-- The sum of f 0 .. f (k-1). -/
def sm : Nat → (Nat → UInt8) → UInt8
  | 0, _ => 0
  | k + 1, f => sm k f ^^^ f k
theorem sm_congr {f g : Nat → UInt8} : ∀ {k : Nat}, (∀ j, j < k → f j = g j) → sm k f = sm k g
  | 0, _ => rfl
  | k + 1, h => by rw [sm, sm, sm_congr (k := k) fun j hj => h j (by omega), h k (by omega)]
theorem sm_zero : ∀ {k : Nat} {f : Nat → UInt8}, (∀ j, j < k → f j = 0) → sm k f = 0
  | 0, _, _ => rfl
  | k + 1, f, h => by rw [sm, sm_zero (k := k) fun j hj => h j (by omega), h k (by omega)]; rfl
theorem xor4b (a b c d : UInt8) : (a ^^^ b) ^^^ (c ^^^ d) = (a ^^^ c) ^^^ (b ^^^ d) := by
  rw [xor_assoc, xor_assoc, ← xor_assoc b c d, xor_comm b c, xor_assoc c b d]
theorem sm_add (f g : Nat → UInt8) : ∀ k, sm k (fun j => f j ^^^ g j) = sm k f ^^^ sm k g
  | 0 => by simp [sm]
  | k + 1 => by rw [sm, sm, sm, sm_add f g k, xor4b]
theorem sm_mul (c : UInt8) (f : Nat → UInt8) : ∀ k, mul c (sm k f) = sm k (fun j => mul c (f j))
  | 0 => mul_zero c
  | k + 1 => by rw [sm, mul_xor, sm_mul c f k, sm]
theorem sm_swap (f : Nat → Nat → UInt8) : ∀ m k, sm m (fun i => sm k (fun j => f i j)) = sm k (fun j => sm m (fun i => f i j))
  | 0, k => (sm_zero fun _ _ => rfl).symm
  | m + 1, k => by rw [sm, sm_swap f m k, ← sm_add]; rfl
theorem sm_one {p : Nat} (f : Nat → UInt8) : ∀ {k : Nat}, p < k → (∀ j, j < k → j ≠ p → f j = 0) → sm k f = f p
  | 0, h, _ => by omega
  | k + 1, h, hz => by
    rw [sm]
    by_cases hp : p = k
    · subst hp
      rw [sm_zero fun j hj => hz j (by omega) (by omega)]
      exact UInt8.zero_xor
    · rw [sm_one f (by omega) fun j hj hne => hz j (by omega) hne, hz k (by omega) (Ne.symm hp)]
      exact UInt8.xor_zero
/-- All indices but p. -/
def skip (p j : Nat) : Nat := if j < p then j else j + 1
theorem skip_ne (p j : Nat) : skip p j ≠ p := by unfold skip; split <;> omega
theorem skip_lt {p j k : Nat} (h : j < k) : skip p j < k + 1 := by unfold skip; split <;> omega
theorem sm_skip {p : Nat} (f : Nat → UInt8) : ∀ {k : Nat}, p < k + 1 → sm (k + 1) f = sm k (fun j => f (skip p j)) ^^^ f p
  | 0, h => by
    obtain rfl : p = 0 := by omega
    rfl
  | k + 1, h => by
    by_cases hp : p = k + 1
    · subst hp
      rw [sm]
      congr 1
      exact sm_congr fun j hj => by unfold skip; rw [if_pos (by omega)]
    · rw [sm, sm_skip f (show p < k + 1 by omega), sm]
      have e : skip p k = k + 1 := if_neg (by omega)
      rw [e, xor_assoc, xor_assoc, xor_comm (f p)]
theorem xor_eq_zero {a b : UInt8} : a ^^^ b = 0 ↔ a = b := by
  constructor
  · intro h
    have : a ^^^ b ^^^ b = b := by rw [h]; exact UInt8.zero_xor
    rwa [xor_assoc, UInt8.xor_self, UInt8.xor_zero] at this
  · rintro rfl; exact UInt8.xor_self
/-- MORE VECTORS THAN COORDINATES DEPEND ON EACH OTHER. -/
theorem depend : ∀ (m k : Nat) (a : Nat → Nat → UInt8), m < k → ∃ x : Nat → UInt8, (∃ j, j < k ∧ x j ≠ 0) ∧ ∀ i, i < m → sm k (fun j => mul (x j) (a j i)) = 0
  | 0, k, a, h => ⟨fun _ => 1, ⟨0, h, by decide⟩, fun i hi => by omega⟩
  | m + 1, k, a, h => by
    by_cases hz : ∀ j, j < k → a j m = 0
    · obtain ⟨x, hx, he⟩ := depend m k a (by omega)
      refine ⟨x, hx, fun i hi => ?_⟩
      by_cases him : i = m
      · subst him
        exact sm_zero fun j hj => by rw [hz j hj, mul_zero]
      · exact he i (by omega)
    · have hz' : ∃ p, p < k ∧ a p m ≠ 0 := by
        apply Classical.byContradiction
        intro hn
        exact hz fun j hj => Classical.byContradiction fun hne => hn ⟨j, hj, hne⟩
      obtain ⟨p, hp, hpm⟩ := hz'
      obtain ⟨k, rfl⟩ : ∃ l, k = l + 1 := ⟨k - 1, by omega⟩
      obtain ⟨x, ⟨j0, hj0, hx0⟩, he⟩ := depend m k (fun j i => a (skip p j) i ^^^ mul (mul (a (skip p j) m) (inv (a p m))) (a p i)) (by omega)
      let s := sm k (fun j => mul (x j) (mul (a (skip p j) m) (inv (a p m))))
      have hback : ∀ j, j < k → ∃ i, i < k ∧ skip p i = skip p j ∧ i = j := fun j hj => ⟨j, hj, rfl, rfl⟩
      have hinj : ∀ i j, skip p i = skip p j → i = j := by
        intro i j hij
        unfold skip at hij
        split at hij <;> split at hij <;> omega
      let y : Nat → UInt8 := fun q => if q = p then s else x (if q < p then q else q - 1)
      have hy : ∀ j, y (skip p j) = x j := by
        intro j
        show (if skip p j = p then s else x (if skip p j < p then skip p j else skip p j - 1)) = x j
        rw [if_neg (skip_ne p j)]
        congr 1
        unfold skip
        by_cases hjp : j < p
        · rw [if_pos hjp, if_pos hjp]
        · rw [if_neg hjp, if_neg (by omega)]; omega
      have hyp : y p = s := if_pos rfl
      refine ⟨y, ⟨skip p j0, skip_lt hj0, by rw [hy]; exact hx0⟩, fun i hi => ?_⟩
      rw [sm_skip _ hp, hyp]
      have e1 : sm k (fun j => mul (y (skip p j)) (a (skip p j) i)) = sm k (fun j => mul (x j) (a (skip p j) i)) := sm_congr fun j _ => by rw [hy]
      rw [e1]
      have e2 : mul s (a p i) = sm k (fun j => mul (x j) (mul (mul (a (skip p j) m) (inv (a p m))) (a p i))) := by
        rw [mul_comm, sm_mul]
        exact sm_congr fun j _ => by rw [mul_comm, mul_assoc]
      rw [e2, ← sm_add]
      by_cases him : i = m
      · subst him
        refine sm_zero fun j _ => ?_
        rw [mul_assoc (a (skip p j) i), inv_mul hpm, mul_one]
        exact UInt8.xor_self
      · rw [← he i (by omega)]
        exact sm_congr fun j _ => by rw [mul_xor]

/-- v is a combination of the m vectors vs, on the first n places. -/
def InSpan (n m : Nat) (vs : Nat → Nat → UInt8) (v : Nat → UInt8) : Prop := ∃ c : Nat → UInt8, ∀ i, i < n → v i = sm m (fun k => mul (c k) (vs k i))
theorem InSpan.zero (n m : Nat) (vs : Nat → Nat → UInt8) {v : Nat → UInt8} (h : ∀ i, i < n → v i = 0) : InSpan n m vs v :=
  ⟨fun _ => 0, fun i hi => by rw [h i hi, sm_zero fun j _ => zero_mul _]⟩
theorem InSpan.add {n m : Nat} {vs : Nat → Nat → UInt8} {u v : Nat → UInt8} (hu : InSpan n m vs u) (hv : InSpan n m vs v) : InSpan n m vs fun i => u i ^^^ v i := by
  obtain ⟨c, hc⟩ := hu
  obtain ⟨d, hd⟩ := hv
  exact ⟨fun k => c k ^^^ d k, fun i hi => by show u i ^^^ v i = _; rw [hc i hi, hd i hi, ← sm_add]; exact sm_congr fun j _ => by rw [xor_mul]⟩
theorem InSpan.smul {n m : Nat} {vs : Nat → Nat → UInt8} {v : Nat → UInt8} (a : UInt8) (hv : InSpan n m vs v) : InSpan n m vs fun i => mul a (v i) := by
  obtain ⟨d, hd⟩ := hv
  exact ⟨fun k => mul a (d k), fun i hi => by show mul a (v i) = _; rw [hd i hi, sm_mul]; exact sm_congr fun j _ => by rw [mul_assoc]⟩
theorem InSpan.mem {n m : Nat} {vs : Nat → Nat → UInt8} {k : Nat} (hk : k < m) : InSpan n m vs (vs k) :=
  ⟨fun j => if j = k then 1 else 0, fun i _ => by rw [sm_one (p := k) _ hk fun j _ hne => by simp [hne, zero_mul]]; simp [one_mul]⟩
theorem InSpan.congr {n m : Nat} {vs : Nat → Nat → UInt8} {u v : Nat → UInt8} (h : InSpan n m vs u) (he : ∀ i, i < n → v i = u i) : InSpan n m vs v := by
  obtain ⟨c, hc⟩ := h
  exact ⟨c, fun i hi => by rw [he i hi, hc i hi]⟩
theorem InSpan.sum {n m : Nat} {vs : Nat → Nat → UInt8} (c : Nat → UInt8) (us : Nat → Nat → UInt8) : ∀ k, (∀ j, j < k → InSpan n m vs (us j)) → InSpan n m vs fun i => sm k fun j => mul (c j) (us j i)
  | 0, _ => InSpan.zero n m vs fun _ _ => rfl
  | k + 1, h => (InSpan.sum c us k fun j hj => h j (by omega)).add ((h k (by omega)).smul (c k))
/-- What is in the span of vectors of a span is in it. -/
theorem InSpan.trans {n m k : Nat} {vs us : Nat → Nat → UInt8} {v : Nat → UInt8} (h : InSpan n k us v) (hu : ∀ j, j < k → InSpan n m vs (us j)) : InSpan n m vs v := by
  obtain ⟨c, hc⟩ := h
  exact (InSpan.sum c us k hu).congr hc
/-- k vectors in the span of fewer depend on each other. -/
theorem InSpan.depend {n m k : Nat} {vs us : Nat → Nat → UInt8} (h : m < k) (hu : ∀ j, j < k → InSpan n m vs (us j)) :
    ∃ x : Nat → UInt8, (∃ j, j < k ∧ x j ≠ 0) ∧ ∀ i, i < n → sm k (fun j => mul (x j) (us j i)) = 0 := by
  have hc : ∃ c : Nat → Nat → UInt8, ∀ j, j < k → ∀ i, i < n → us j i = sm m (fun l => mul (c j l) (vs l i)) := by
    refine ⟨fun j => if hj : j < k then (hu j hj).choose else fun _ => 0, fun j hj => ?_⟩
    simp only [hj, ↓reduceDIte]
    exact (hu j hj).choose_spec
  obtain ⟨c, hc⟩ := hc
  obtain ⟨x, hx, he⟩ := Gf.depend m k c h
  refine ⟨x, hx, fun i hi => ?_⟩
  have e : sm k (fun j => mul (x j) (us j i)) = sm k (fun j => sm m (fun l => mul (x j) (mul (c j l) (vs l i)))) := sm_congr fun j hj => by rw [hc j hj i hi, sm_mul]
  rw [e, sm_swap]
  refine sm_zero fun l hl => ?_
  have e2 : sm k (fun j => mul (x j) (mul (c j l) (vs l i))) = mul (vs l i) (sm k (fun j => mul (x j) (c j l))) := by
    rw [sm_mul]
    exact sm_congr fun j _ => by rw [← mul_assoc, mul_comm]
  rw [e2, he l hl, mul_zero]
end Gf

/- ROWS IN THE FORM OF STAIRS, in plain terms: as many as columns exactly if the rows span all. No program in sight. -/
namespace Gf
def vec (l : List UInt8) : Nat → UInt8 := fun i => l.getD i 0
/-- The place of the first element that is not 0; the length if there is none. -/
def firstNZ : List UInt8 → Nat
  | [] => 0
  | x :: r => if x = 0 then firstNZ r + 1 else 0
theorem firstNZ_le : ∀ l, firstNZ l ≤ l.length
  | [] => Nat.le_refl _
  | x :: r => by
    have := firstNZ_le r
    unfold firstNZ
    split <;> simp <;> omega
theorem firstNZ_before : ∀ (l : List UInt8) (j : Nat), j < firstNZ l → l.getD j 0 = 0
  | [], j, h => by simp [firstNZ] at h
  | x :: r, j, h => by
    unfold firstNZ at h
    split at h
    · rename_i hx
      cases j with
      | zero => simpa using hx
      | succ j => simpa using firstNZ_before r j (by omega)
    · omega
theorem firstNZ_at : ∀ (l : List UInt8), firstNZ l < l.length → l.getD (firstNZ l) 0 ≠ 0
  | [], h => by simp at h
  | x :: r, h => by
    unfold firstNZ at h ⊢
    split
    · rename_i hx
      rw [if_pos hx] at h
      have := firstNZ_at r (by simpa using h)
      simpa using this
    · rename_i hx
      simpa using hx
theorem getD_out {l : List UInt8} {i : Nat} (h : l.length ≤ i) : l.getD i 0 = 0 := by
  rw [List.getD_eq_getElem?_getD, List.getElem?_eq_none h]; rfl
theorem getD_map_range (n : Nat) (f : Nat → UInt8) {i : Nat} (h : i < n) : ((List.range n).map f).getD i 0 = f i := by
  rw [List.getD_eq_getElem?_getD, List.getElem?_map, List.getElem?_eq_getElem (by simpa using h)]
  simp

/-- r without its multiple of x that makes it 0 at x's first place. -/
def redRow (r x : List UInt8) : List UInt8 := (List.range r.length).map fun i => r.getD i 0 ^^^ mul (r.getD (firstNZ x) 0) (x.getD i 0)
theorem redRow_length (r x : List UInt8) : (redRow r x).length = r.length := by simp [redRow]
theorem redRow_get (r x : List UInt8) {i : Nat} (h : i < r.length) : (redRow r x).getD i 0 = r.getD i 0 ^^^ mul (r.getD (firstNZ x) 0) (x.getD i 0) := getD_map_range _ _ h
theorem redRow_same {r x : List UInt8} (h : r.getD (firstNZ x) 0 = 0) : redRow r x = r := by
  apply List.ext_getElem
  · exact redRow_length r x
  · intro i h1 h2
    have e := redRow_get r x h2
    rw [h, zero_mul, UInt8.xor_zero, List.getD_eq_getElem?_getD, List.getElem?_eq_getElem h1, List.getD_eq_getElem?_getD, List.getElem?_eq_getElem h2] at e
    exact e
def reduce (S : List (List UInt8)) (r : List UInt8) : List UInt8 := S.foldl redRow r
theorem reduce_length : ∀ (S : List (List UInt8)) (r : List UInt8), (reduce S r).length = r.length
  | [], _ => rfl
  | x :: S, r => by
    show (reduce S (redRow r x)).length = _
    rw [reduce_length S, redRow_length]

structure Stairs (n : Nat) (S : List (List UInt8)) : Prop where
  len : ∀ x ∈ S, x.length = n
  nz : ∀ x ∈ S, firstNZ x < n
  one : ∀ x ∈ S, x.getD (firstNZ x) 0 = 1
  tri : S.Pairwise fun x y => y.getD (firstNZ x) 0 = 0

theorem reduce_keep {p : Nat} : ∀ (S : List (List UInt8)) (r : List UInt8), (∀ y ∈ S, y.getD p 0 = 0) → r.getD p 0 = 0 → (reduce S r).getD p 0 = 0
  | [], _, _, h => h
  | x :: S, r, hS, h => by
    show (reduce S (redRow r x)).getD p 0 = 0
    refine reduce_keep S _ (fun y hy => hS y (by simp [hy])) ?_
    by_cases hp : p < r.length
    · rw [redRow_get r x hp, h, hS x (by simp), mul_zero]; rfl
    · exact getD_out (by rw [redRow_length]; omega)
theorem reduce_zero {n : Nat} : ∀ (S : List (List UInt8)) (r : List UInt8), Stairs n S → r.length = n → ∀ x ∈ S, (reduce S r).getD (firstNZ x) 0 = 0
  | [], _, _, _, x, hx => by cases hx
  | y :: S, r, h, hr, x, hx => by
    show (reduce S (redRow r y)).getD (firstNZ x) 0 = 0
    have htri := List.pairwise_cons.1 h.tri
    rcases List.mem_cons.1 hx with rfl | hx
    · refine reduce_keep S _ (fun z hz => htri.1 z hz) ?_
      have hp : firstNZ x < r.length := by rw [hr]; exact h.nz x (by simp)
      rw [redRow_get r x hp, h.one x (by simp), mul_one]
      exact UInt8.xor_self
    · exact reduce_zero S _ ⟨fun z hz => h.len z (by simp [hz]), fun z hz => h.nz z (by simp [hz]), fun z hz => h.one z (by simp [hz]), htri.2⟩ (by rw [redRow_length, hr]) x hx

/-- v is a combination of the rows of L. -/
def SpanL (n : Nat) (L : List (List UInt8)) (v : Nat → UInt8) : Prop := InSpan n L.length (fun k => vec (L.getD k [])) v
theorem SpanL.mem {n : Nat} {L : List (List UInt8)} {x : List UInt8} (h : x ∈ L) : SpanL n L (vec x) := by
  obtain ⟨k, hk, rfl⟩ := List.getElem_of_mem h
  have := InSpan.mem (n := n) (vs := fun k => vec (L.getD k [])) hk
  have e : L.getD k [] = L[k] := by rw [List.getD_eq_getElem?_getD, List.getElem?_eq_getElem hk]; rfl
  simp only [e] at this
  exact this
theorem SpanL.trans {n : Nat} {L M : List (List UInt8)} {v : Nat → UInt8} (h : SpanL n L v) (hm : ∀ x ∈ L, SpanL n M (vec x)) : SpanL n M v :=
  InSpan.trans h fun j hj => by
    have e : L.getD j [] = L[j] := by rw [List.getD_eq_getElem?_getD, List.getElem?_eq_getElem hj]; rfl
    simp only [e]
    exact hm _ (List.getElem_mem hj)
theorem SpanL.mono {n : Nat} {L M : List (List UInt8)} {v : Nat → UInt8} (h : SpanL n L v) (hm : ∀ x ∈ L, x ∈ M) : SpanL n M v := h.trans fun x hx => SpanL.mem (hm x hx)
theorem SpanL.add {n : Nat} {L : List (List UInt8)} {u v : Nat → UInt8} (hu : SpanL n L u) (hv : SpanL n L v) : SpanL n L fun i => u i ^^^ v i := InSpan.add hu hv
theorem SpanL.smul {n : Nat} {L : List (List UInt8)} {v : Nat → UInt8} (a : UInt8) (hv : SpanL n L v) : SpanL n L fun i => mul a (v i) := InSpan.smul a hv
theorem SpanL.congr {n : Nat} {L : List (List UInt8)} {u v : Nat → UInt8} (h : SpanL n L u) (he : ∀ i, i < n → v i = u i) : SpanL n L v := InSpan.congr h he

theorem reduce_span {n : Nat} {M : List (List UInt8)} : ∀ (S : List (List UInt8)) (r : List UInt8), r.length = n → (∀ x ∈ S, SpanL n M (vec x)) → SpanL n M (vec r) → SpanL n M (vec (reduce S r))
  | [], _, _, _, h => h
  | x :: S, r, hr, hS, h => by
    refine reduce_span S (redRow r x) (by rw [redRow_length, hr]) (fun y hy => hS y (by simp [hy])) ?_
    exact (h.add ((hS x (by simp)).smul (r.getD (firstNZ x) 0))).congr fun i hi => redRow_get r x (by rw [hr]; exact hi)
theorem reduce_back {n : Nat} {M : List (List UInt8)} : ∀ (S : List (List UInt8)) (r : List UInt8), r.length = n → (∀ x ∈ S, SpanL n M (vec x)) → SpanL n M (vec (reduce S r)) → SpanL n M (vec r)
  | [], _, _, _, h => h
  | x :: S, r, hr, hS, h => by
    have h1 := reduce_back S (redRow r x) (by rw [redRow_length, hr]) (fun y hy => hS y (by simp [hy])) h
    refine (h1.add ((hS x (by simp)).smul (r.getD (firstNZ x) 0))).congr fun i hi => ?_
    have e : vec (redRow r x) i = _ := redRow_get r x (by rw [hr]; exact hi)
    rw [e]
    show r.getD i 0 = r.getD i 0 ^^^ mul _ (x.getD i 0) ^^^ mul _ (x.getD i 0)
    rw [xor_assoc, UInt8.xor_self, UInt8.xor_zero]

/-- The stairs with one row more; none if it is a combination of those that are there. -/
def addRow (S : List (List UInt8)) (r : List UInt8) : Option (List UInt8) :=
  if firstNZ (reduce S r) = r.length then none else some ((reduce S r).map (mul (inv ((reduce S r).getD (firstNZ (reduce S r)) 0))))
theorem addRow_none {n : Nat} {S : List (List UInt8)} {r : List UInt8} (hr : r.length = n) (h : addRow S r = none) : SpanL n S (vec r) := by
  unfold addRow at h
  split at h
  · rename_i h1
    refine reduce_back S r hr (fun x hx => SpanL.mem hx) (InSpan.zero _ _ _ fun i hi => ?_)
    exact firstNZ_before _ i (by rw [h1, hr]; exact hi)
  · cases h
theorem getD_map_mul (c : UInt8) (l : List UInt8) (i : Nat) : (l.map (mul c)).getD i 0 = mul c (l.getD i 0) := by
  rw [List.getD_eq_getElem?_getD, List.getElem?_map, List.getD_eq_getElem?_getD]
  cases l[i]? with
  | none => exact (mul_zero c).symm
  | some x => rfl
theorem mul_ne_zero {a b : UInt8} (ha : a ≠ 0) (hb : b ≠ 0) : mul a b ≠ 0 := fun h => by
  rcases mul_eq_zero.1 h with h | h
  · exact ha h
  · exact hb h
theorem firstNZ_map {c : UInt8} (hc : c ≠ 0) : ∀ l : List UInt8, firstNZ (l.map (mul c)) = firstNZ l
  | [] => rfl
  | x :: r => by
    simp only [List.map_cons, firstNZ]
    by_cases hx : x = 0
    · rw [if_pos hx, if_pos (by rw [hx, mul_zero]), firstNZ_map hc r]
    · rw [if_neg hx, if_neg (mul_ne_zero hc hx)]
theorem inv_ne_zero {a : UInt8} (h : a ≠ 0) : inv a ≠ 0 := fun e => by
  have := mul_inv h
  rw [e, mul_zero] at this
  exact absurd this (by decide)
theorem addRow_some {n : Nat} {S : List (List UInt8)} {r t : List UInt8} (hS : Stairs n S) (hr : r.length = n) (h : addRow S r = some t) :
    Stairs n (S ++ [t]) ∧ SpanL n (S ++ [r]) (vec t) ∧ SpanL n (S ++ [t]) (vec r) := by
  unfold addRow at h
  split at h
  · cases h
  · rename_i h1
    injection h with h
    have hl : (reduce S r).length = n := by rw [reduce_length, hr]
    have hle := firstNZ_le (reduce S r)
    have hlt : firstNZ (reduce S r) < (reduce S r).length := by rw [hl] at hle ⊢; omega
    have hnz := firstNZ_at _ hlt
    have hi := inv_ne_zero hnz
    subst h
    refine ⟨⟨?_, ?_, ?_, ?_⟩, ?_, ?_⟩
    · intro x hx
      rcases List.mem_append.1 hx with hx | hx
      · exact hS.len x hx
      · obtain rfl := List.mem_singleton.1 hx; simp [hl]
    · intro x hx
      rcases List.mem_append.1 hx with hx | hx
      · exact hS.nz x hx
      · obtain rfl := List.mem_singleton.1 hx; rw [firstNZ_map hi]; omega
    · intro x hx
      rcases List.mem_append.1 hx with hx | hx
      · exact hS.one x hx
      · obtain rfl := List.mem_singleton.1 hx; rw [firstNZ_map hi, getD_map_mul, inv_mul hnz]
    · rw [List.pairwise_append]
      refine ⟨hS.tri, by simp, fun x hx y hy => ?_⟩
      obtain rfl := List.mem_singleton.1 hy
      rw [getD_map_mul, reduce_zero S r hS hr x hx, mul_zero]
    · have h2 : SpanL n (S ++ [r]) (vec (reduce S r)) := reduce_span S r hr (fun x hx => SpanL.mem (by simp [hx])) (SpanL.mem (by simp))
      exact (h2.smul _).congr fun i _ => getD_map_mul _ _ i
    · refine reduce_back S r hr (fun x hx => SpanL.mem (by simp [hx])) ?_
      have h2 : SpanL n (S ++ [(reduce S r).map (mul (inv ((reduce S r).getD (firstNZ (reduce S r)) 0)))]) (vec ((reduce S r).map (mul (inv ((reduce S r).getD (firstNZ (reduce S r)) 0))))) := SpanL.mem (by simp)
      refine (h2.smul ((reduce S r).getD (firstNZ (reduce S r)) 0)).congr fun i _ => ?_
      show (reduce S r).getD i 0 = mul _ (((reduce S r).map _).getD i 0)
      rw [getD_map_mul, ← mul_assoc, mul_inv hnz, one_mul]

/-- Rows of stairs depend on none of the others. -/
theorem stairs_indep {n : Nat} : ∀ (S : List (List UInt8)) (x : Nat → UInt8), Stairs n S → (∀ i, i < n → sm S.length (fun j => mul (x j) ((S.getD j []).getD i 0)) = 0) → ∀ j, j < S.length → x j = 0
  | [], _, _, _, j, hj => by simp at hj
  | y :: S, x, h, hz, j, hj => by
    have htri := List.pairwise_cons.1 h.tri
    have hp := h.nz y (by simp)
    have h0 : x 0 = 0 := by
      have h1 := hz _ hp
      rw [sm_one (p := 0) _ (by simp) (fun j hj hne => ?_)] at h1
      · rw [show ((y :: S).getD 0 []) = y from rfl, h.one y (by simp), mul_one] at h1
        exact h1
      · obtain ⟨k, rfl⟩ : ∃ k, j = k + 1 := ⟨j - 1, by omega⟩
        have hk : k < S.length := by simpa using hj
        have e : (y :: S).getD (k + 1) [] = S[k] := by rw [List.getD_eq_getElem?_getD, List.getElem?_cons_succ, List.getElem?_eq_getElem hk]; rfl
        rw [e, htri.1 _ (List.getElem_mem hk), mul_zero]
    cases j with
    | zero => exact h0
    | succ j =>
      refine stairs_indep S (fun k => x (k + 1)) ⟨fun z hz => h.len z (by simp [hz]), fun z hz => h.nz z (by simp [hz]), fun z hz => h.one z (by simp [hz]), htri.2⟩ (fun i hi => ?_) j (by simpa using hj)
      have h1 := hz i hi
      rw [show (y :: S).length = S.length + 1 from rfl, sm_skip (p := 0) _ (by omega), h0, zero_mul, UInt8.xor_zero] at h1
      refine Eq.trans ?_ h1
      exact sm_congr fun k hk => by rw [show skip 0 k = k + 1 from if_neg (by omega)]; rfl

/-- The vector that is 1 at q alone. -/
def unit (q : Nat) : Nat → UInt8 := fun i => if i = q then 1 else 0
theorem stairs_full {n : Nat} {S : List (List UInt8)} (h : Stairs n S) (hn : S.length = n) (v : Nat → UInt8) : SpanL n S v := by
  obtain ⟨x, ⟨j0, hj0, hx0⟩, he⟩ := depend n (n + 1) (fun j i => if j < n then (S.getD j []).getD i 0 else v i) (by omega)
  have hlast : x n ≠ 0 := by
    intro h0
    have h1 : ∀ j, j < S.length → x j = 0 := stairs_indep S x h fun i hi => by
      have h2 := he i hi
      rw [sm, if_neg (by omega), h0, zero_mul, UInt8.xor_zero] at h2
      refine Eq.trans ?_ h2
      rw [hn]
      exact sm_congr fun j hj => by rw [if_pos hj]
    by_cases hj : j0 = n
    · rw [hj] at hx0; exact hx0 h0
    · exact hx0 (h1 j0 (by omega))
  refine ⟨fun k => mul (inv (x n)) (x k), fun i hi => ?_⟩
  have h2 := he i hi
  rw [sm, if_neg (by omega), xor_eq_zero] at h2
  have h3 : sm n (fun j => mul (x j) (if j < n then (S.getD j []).getD i 0 else v i)) = sm S.length (fun j => mul (x j) ((S.getD j []).getD i 0)) := by
    rw [hn]; exact sm_congr fun j hj => by rw [if_pos hj]
  rw [h3] at h2
  have h4 : v i = mul (inv (x n)) (mul (x n) (v i)) := by rw [← mul_assoc, inv_mul hlast, one_mul]
  rw [h4, ← h2, sm_mul]
  exact sm_congr fun j _ => by rw [mul_assoc]; rfl
theorem stairs_few {n : Nat} {S : List (List UInt8)} (hn : S.length < n) : ¬ ∀ q, q < n → SpanL n S (unit q) := by
  intro h
  obtain ⟨x, ⟨j0, hj0, hx0⟩, he⟩ := InSpan.depend hn h
  have := he j0 hj0
  rw [sm_one (p := j0) _ hj0 (fun j _ hne => by rw [unit, if_neg (Ne.symm hne), mul_zero]), unit, if_pos rfl, mul_one] at this
  exact hx0 this

/-- The stairs of rows, one after the other, as long as there are fewer than columns. -/
def step (n : Nat) (S : List (List UInt8)) (r : List UInt8) : List (List UInt8) :=
  if S.length < n then (match addRow S r with | none => S | some t => S ++ [t]) else S
def stairs (n : Nat) (L : List (List UInt8)) : List (List UInt8) := L.foldl (step n) []
theorem stairs_inv {n : Nat} : ∀ (L P S : List (List UInt8)), (∀ r ∈ P ++ L, r.length = n) → Stairs n S → S.length ≤ n → (∀ x ∈ S, SpanL n P (vec x)) → (S.length < n → ∀ r ∈ P, SpanL n S (vec r)) →
    Stairs n (L.foldl (step n) S) ∧ (L.foldl (step n) S).length ≤ n ∧ (∀ x ∈ L.foldl (step n) S, SpanL n (P ++ L) (vec x)) ∧ ((L.foldl (step n) S).length < n → ∀ r ∈ P ++ L, SpanL n (L.foldl (step n) S) (vec r))
  | [], P, S, _, h1, h2, h3, h4 => by
    simp only [List.append_nil, List.foldl_nil]
    exact ⟨h1, h2, h3, h4⟩
  | r :: L, P, S, hl, h1, h2, h3, h4 => by
    have hr : r.length = n := hl r (by simp)
    rw [List.foldl_cons, show P ++ r :: L = (P ++ [r]) ++ L by simp]
    refine stairs_inv L (P ++ [r]) (step n S r) (fun x hx => hl x (by simpa using hx)) ?_ ?_ ?_ ?_
    all_goals
      unfold step
      split
      · rename_i hlt
        split
        · rename_i hn
          have hs := addRow_none hr hn
          first
            | exact h1
            | exact h2
            | exact fun x hx => (h3 x hx).mono fun y hy => by simp [hy]
            | (intro _ x hx
               rcases List.mem_append.1 hx with hx | hx
               · exact h4 hlt x hx
               · obtain rfl := List.mem_singleton.1 hx; exact hs)
        · rename_i t ht
          obtain ⟨g1, g2, g3⟩ := addRow_some h1 hr ht
          first
            | exact g1
            | (simp; omega)
            | (intro x hx
               rcases List.mem_append.1 hx with hx | hx
               · exact (h3 x hx).mono fun y hy => by simp [hy]
               · obtain rfl := List.mem_singleton.1 hx
                 exact g2.trans fun y hy => by
                   rcases List.mem_append.1 hy with hy | hy
                   · exact (h3 y hy).mono fun z hz => by simp [hz]
                   · exact SpanL.mem (by simp at hy; simp [hy]))
            | (intro _ x hx
               rcases List.mem_append.1 hx with hx | hx
               · exact (h4 hlt x hx).mono fun y hy => by simp [hy]
               · obtain rfl := List.mem_singleton.1 hx; exact g3)
      · rename_i hge
        first
          | exact h1
          | exact h2
          | exact fun x hx => (h3 x hx).mono fun y hy => by simp [hy]
          | exact fun h => absurd h hge
/-- THE STAIRS HAVE AS MANY ROWS AS COLUMNS EXACTLY IF THE ROWS SPAN ALL. -/
theorem stairs_iff {n : Nat} {L : List (List UInt8)} (hl : ∀ r ∈ L, r.length = n) : (stairs n L).length = n ↔ ∀ v, SpanL n L v := by
  obtain ⟨h1, h2, h3, h4⟩ := stairs_inv L [] [] (by simpa using hl) ⟨by simp, by simp, by simp, by simp⟩ (by simp) (by simp) (fun _ r hr => by cases hr)
  rw [List.nil_append] at h3 h4
  constructor
  · intro h v
    exact (stairs_full h1 h v).trans h3
  · intro h
    rcases Nat.lt_or_ge (stairs n L).length n with hlt | hge
    · exact absurd (fun q _ => (h (unit q)).trans (h4 hlt)) (stairs_few hlt)
    · exact Nat.le_antisymm h2 hge
end Gf

/- CODES, in plain terms: what their functions compute. No program in sight. -/
namespace Cd
def bitAt (s i : Nat) : Nat := s / 2 ^ i % 2
/-- A set of small numbers, with those of a list. -/
def setOf (s : Nat) (g : List Int) : Nat := g.foldl (fun s i => s ||| 2 ^ i.toNat) s
def badAt (d : Int) (s : Nat) (g : List Int) (k : Nat) : Bool :=
  decide (g.getD k 0 < 0) || decide (d ≤ g.getD k 0) || (decide (0 < k) && decide (g.getD k 0 ≤ g.getD (k - 1) 0)) || (bitAt s (g.getD k 0).toNat == 1)
def bad (d : Int) (s : Nat) (g : List Int) : Bool := (List.range g.length).any (badAt d s g)
/-- The first error of groups, if the numbers s were met before. -/
def checkG (d : Int) : Nat → List (List Int) → Int
  | _, [] => 0
  | s, g :: r => if g = [] then 8 else if bad d s g then 1 else checkG d (setOf s g) r
def check (d : Int) (gs : List (List Int)) (gl : Int) : Int :=
  if d < 1 ∨ 16 < d ∨ gl < 0 ∨ 4 < gl then 3 else if 24 < gs.length ∨ 24 < d + gs.length + gl then 2 else checkG d 0 gs
theorem check_range {d gl : Int} {gs : List (List Int)} (h : d < 1 ∨ 16 < d ∨ gl < 0 ∨ 4 < gl) : check d gs gl = 3 := if_pos h
theorem check_limit {d gl : Int} {gs : List (List Int)} (h : ¬ (d < 1 ∨ 16 < d ∨ gl < 0 ∨ 4 < gl)) (h2 : 24 < gs.length ∨ 24 < d + gs.length + gl) : check d gs gl = 2 := by rw [check, if_neg h, if_pos h2]
theorem check_groups {d gl : Int} {gs : List (List Int)} (h : ¬ (d < 1 ∨ 16 < d ∨ gl < 0 ∨ 4 < gl)) (h2 : ¬ (24 < gs.length ∨ 24 < d + gs.length + gl)) : check d gs gl = checkG d 0 gs := by rw [check, if_neg h, if_neg h2]
theorem bad_false {d : Int} {s : Nat} {g : List Int} (h : ∀ k, k < g.length → badAt d s g k = false) : bad d s g = false := by
  unfold bad
  rw [List.any_eq_false]
  intro k hk
  rw [h k (by simpa using hk)]
  simp
theorem bad_true {d : Int} {s : Nat} {g : List Int} {k : Nat} (hk : k < g.length) (h : badAt d s g k = true) : bad d s g = true := by
  unfold bad
  rw [List.any_eq_true]
  exact ⟨k, by simpa using hk, h⟩
theorem badAt_of {d : Int} {s : Nat} {g : List Int} (h : bad d s g = false) {k : Nat} (hk : k < g.length) : badAt d s g k = false := by
  unfold bad at h
  rw [List.any_eq_false] at h
  simpa using h k (by simpa using hk)
theorem bad_bounds {d : Int} {s : Nat} {g : List Int} (h : bad d s g = false) {i : Int} (hi : i ∈ g) : 0 ≤ i ∧ i < d := by
  obtain ⟨k, hk, rfl⟩ := List.getElem_of_mem hi
  have := badAt_of h hk
  unfold badAt at this
  rw [List.getD_eq_getElem?_getD, List.getElem?_eq_getElem hk] at this
  simp only [Option.getD_some, Bool.or_eq_false_iff, decide_eq_false_iff_not] at this
  omega
theorem badAt_def (d : Int) (s : Nat) (g : List Int) (k : Nat) : badAt d s g k = (decide (g.getD k 0 < 0) || decide (d ≤ g.getD k 0) || (decide (0 < k) && decide (g.getD k 0 ≤ g.getD (k - 1) 0)) || (bitAt s (g.getD k 0).toNat == 1)) := rfl
theorem setOf_nil (s : Nat) : setOf s [] = s := rfl
theorem checkG_end (d : Int) (s : Nat) : checkG d s [] = 0 := rfl
theorem checkG_nil {d : Int} {s : Nat} {r : List (List Int)} : checkG d s ([] :: r) = 8 := by simp [checkG]
theorem checkG_bad {d : Int} {s : Nat} {g : List Int} {r : List (List Int)} (hg : g ≠ []) (h : bad d s g = true) : checkG d s (g :: r) = 1 := by simp [checkG, hg, h]
theorem checkG_next {d : Int} {s : Nat} {g : List Int} {r : List (List Int)} (hg : g ≠ []) (h : bad d s g = false) : checkG d s (g :: r) = checkG d (setOf s g) r := by simp [checkG, hg, h]
theorem setOf_take {s : Nat} {g : List Int} {k : Nat} (h : k < g.length) : setOf s (g.take (k + 1)) = setOf s (g.take k) ||| 2 ^ (g[k]).toNat := by
  unfold setOf
  rw [List.take_succ_eq_append_getElem h, List.foldl_append]
  rfl
theorem drop_cons {α : Type} {l : List α} {i : Nat} (h : i < l.length) : l.drop i = l[i] :: l.drop (i + 1) := (List.drop_eq_getElem_cons h)
attribute [irreducible] checkG check bad badAt setOf
end Cd

/- SETS AND THEIR PARTS in plain terms: what `without` of package locate yields. No program in sight. -/
namespace Lo
open Cd
/-- The lists of so many elements of a list, in order. -/
def ch {α : Type} : List α → Nat → List (List α)
  | _, 0 => [[]]
  | [], _ + 1 => []
  | x :: l, n + 1 => (ch l n).map (x :: ·) ++ ch l (n + 1)
theorem ch_zero {α : Type} (l : List α) : ch l 0 = [[]] := by cases l <;> rfl
theorem mem_ch {α : Type} : ∀ (l : List α) (n : Nat) (s : List α), s ∈ ch l n ↔ s.Sublist l ∧ s.length = n
  | l, 0, s => by
    rw [ch_zero, List.mem_singleton, List.length_eq_zero_iff]
    exact ⟨fun h => ⟨h ▸ List.nil_sublist l, h⟩, fun h => h.2⟩
  | [], n + 1, s => by
    simp only [ch, List.not_mem_nil, false_iff, List.sublist_nil, not_and]
    intro h; rw [h]; simp
  | x :: l, n + 1, s => by
    rw [ch, List.mem_append, List.mem_map, mem_ch l (n + 1) s]
    constructor
    · rintro (⟨t, ht, rfl⟩ | ⟨h1, h2⟩)
      · obtain ⟨h1, h2⟩ := (mem_ch l n t).mp ht
        exact ⟨h1.cons_cons x, by simp [h2]⟩
      · exact ⟨h1.cons x, h2⟩
    · rintro ⟨h1, h2⟩
      cases h1 with
      | cons _ h => exact Or.inr ⟨h, h2⟩
      | @cons_cons t _ _ h => exact Or.inl ⟨t, (mem_ch l n t).mpr ⟨h, by simpa using h2⟩, rfl⟩
/-- The elements of a set from i on, below N. -/
def els (m N i : Nat) : List Nat := (List.range' i (N - i)).filter fun k => bitAt m k == 1
theorem els_end {m N i : Nat} (h : N ≤ i) : els m N i = [] := by
  unfold els
  rw [Nat.sub_eq_zero_of_le h]; rfl
theorem els_at {m N i : Nat} (h : i < N) : els m N i = if bitAt m i = 1 then i :: els m N (i + 1) else els m N (i + 1) := by
  unfold els
  obtain ⟨d, hd⟩ : ∃ d, N - i = d + 1 := ⟨N - i - 1, by omega⟩
  have hd2 : N - (i + 1) = d := by omega
  rw [hd, hd2, List.range'_succ, List.filter_cons]
  by_cases hb : bitAt m i = 1
  · rw [if_pos (by simp [hb]), if_pos hb]
  · rw [if_neg (by simp [hb]), if_neg hb]
theorem bit_two (m i : Nat) : bitAt m i = 0 ∨ bitAt m i = 1 := by
  unfold bitAt
  omega
theorem bit_above {m i k : Nat} (h : m < 2 ^ i) (hk : i ≤ k) : bitAt m k = 0 := by
  unfold bitAt
  have h2 : 2 ^ i ≤ 2 ^ k := Nat.pow_le_pow_right (by decide) hk
  rw [Nat.div_eq_of_lt (by omega)]
theorem els_above {m N i : Nat} (h : m < 2 ^ i) : els m N i = [] := by
  unfold els
  rw [List.filter_eq_nil_iff]
  intro k hk
  rw [bit_above h (by have := List.mem_range'_1.mp hk; omega)]
  simp
theorem mem_els {m N i k : Nat} : k ∈ els m N i ↔ i ≤ k ∧ k < N ∧ bitAt m k = 1 := by
  unfold els
  rw [List.mem_filter, List.mem_range'_1]
  simp
  omega
/-- The set of some elements. -/
def toSet (l : List Nat) : Nat := (l.map (2 ^ ·)).sum
theorem toSet_cons (x : Nat) (l : List Nat) : toSet (x :: l) = 2 ^ x + toSet l := by simp [toSet]
theorem split (m i : Nat) : m / 2 ^ i * 2 ^ i = bitAt m i * 2 ^ i + m / 2 ^ (i + 1) * 2 ^ (i + 1) := by
  unfold bitAt
  rw [Nat.pow_succ, ← Nat.div_div_eq_div_mul]
  generalize m / 2 ^ i = q
  generalize 2 ^ i = p
  have h := Nat.div_add_mod q 2
  calc q * p = (2 * (q / 2) + q % 2) * p := by rw [h]
    _ = q % 2 * p + q / 2 * (p * 2) := by rw [Nat.add_mul, Nat.add_comm, Nat.mul_comm 2, Nat.mul_assoc, Nat.mul_comm 2 p]
theorem set_els {m N : Nat} (hm : m < 2 ^ N) : ∀ (d i : Nat), N - i = d → toSet (els m N i) = m / 2 ^ i * 2 ^ i
  | 0, i, h => by
    rw [els_end (by omega)]
    have h2 : 2 ^ N ≤ 2 ^ i := Nat.pow_le_pow_right (by decide) (by omega)
    rw [Nat.div_eq_of_lt (by omega)]
    simp [toSet]
  | d + 1, i, h => by
    have ih := set_els hm d (i + 1) (by omega)
    rw [els_at (by omega), split]
    rcases bit_two m i with hb | hb
    · rw [if_neg (by omega), ih, hb]; simp
    · rw [if_pos hb, toSet_cons, ih, hb]; simp
theorem set_all {m N : Nat} (hm : m < 2 ^ N) : toSet (els m N 0) = m := by
  rw [set_els hm N 0 rfl]; simp
/-- All of one set are in the other. -/
def Sub (a b : Nat) : Prop := ∀ i, bitAt a i = 1 → bitAt b i = 1
theorem bit_zero (s : Nat) : bitAt s 0 = s % 2 := by simp [bitAt]
theorem bit_succ (s i : Nat) : bitAt s (i + 1) = bitAt (s / 2) i := by
  unfold bitAt
  rw [Nat.pow_succ, Nat.mul_comm, Nat.div_div_eq_div_mul]
theorem sub_half {a b : Nat} (h : Sub a b) : Sub (a / 2) (b / 2) := fun i hi => by
  rw [← bit_succ] at hi ⊢
  exact h _ hi
theorem bits_eq : ∀ (n a b : Nat), a < 2 ^ n → b < 2 ^ n → (∀ i, bitAt a i = bitAt b i) → a = b
  | 0, a, b, ha, hb, _ => by simp at ha hb; omega
  | n + 1, a, b, ha, hb, h => by
    have h1 := bits_eq n (a / 2) (b / 2) (by rw [Nat.pow_succ] at ha; omega) (by rw [Nat.pow_succ] at hb; omega) fun i => by rw [← bit_succ, ← bit_succ]; exact h _
    have h2 := h 0
    rw [bit_zero, bit_zero] at h2
    omega
/-- A part that is taken away. -/
theorem sub_bits : ∀ (n a b : Nat), b < 2 ^ n → Sub a b → a ≤ b ∧ ∀ i, bitAt (b - a) i = bitAt b i - bitAt a i
  | 0, a, b, hb, h => by
    have hb0 : b = 0 := by simpa using hb
    subst hb0
    have ha : a = 0 := bits_eq a a 0 Nat.lt_two_pow_self (Nat.pow_pos (by decide)) fun i => by
      have h1 : bitAt 0 i = 0 := by simp [bitAt]
      have h2 : bitAt a i = 0 ∨ bitAt a i = 1 := bit_two a i
      rcases h2 with h2 | h2
      · rw [h1, h2]
      · have := h i h2
        rw [h1] at this; cases this
    subst ha
    exact ⟨Nat.le_refl _, fun i => by simp [bitAt]⟩
  | n + 1, a, b, hb, h => by
    obtain ⟨h1, h2⟩ := sub_bits n (a / 2) (b / 2) (by rw [Nat.pow_succ] at hb; omega) (sub_half h)
    have h0 : a % 2 ≤ b % 2 := by
      have := h 0
      rw [bit_zero, bit_zero] at this
      omega
    refine ⟨by omega, fun i => ?_⟩
    cases i with
    | zero => rw [bit_zero, bit_zero, bit_zero]; omega
    | succ i =>
      rw [bit_succ, bit_succ, bit_succ, ← h2 i]
      congr 1
      omega
theorem sub_le {a b : Nat} (h : Sub a b) : a ≤ b := (sub_bits b a b Nat.lt_two_pow_self h).1
theorem minus_bit {a b : Nat} (h : Sub a b) (i : Nat) : bitAt (b - a) i = bitAt b i - bitAt a i := (sub_bits b a b Nat.lt_two_pow_self h).2 i
theorem minus_sub {a b : Nat} (h : Sub a b) : Sub (b - a) b := fun i hi => by
  rw [minus_bit h] at hi
  rcases bit_two b i with h1 | h1
  · omega
  · exact h1
theorem els_sub {a b N : Nat} (h : Sub a b) : (els a N 0).Sublist (els b N 0) := by
  unfold els
  have e : (List.range' 0 (N - 0)).filter (fun k => bitAt a k == 1) = ((List.range' 0 (N - 0)).filter fun k => bitAt b k == 1).filter fun k => bitAt a k == 1 := by
    rw [List.filter_filter]
    refine List.filter_congr fun k _ => ?_
    by_cases h1 : bitAt a k = 1
    · rw [h1, h k h1]; rfl
    · have : (bitAt a k == 1) = false := by rw [beq_eq_false_iff_ne]; exact h1
      rw [this]; rfl
  rw [e]
  exact List.filter_sublist
/-- A list of elements, one after the other, is that of its set. -/
theorem els_of : ∀ (l : List Nat) (N i : Nat), l.Pairwise (· < ·) → (∀ k ∈ l, i ≤ k ∧ k < N) → ∀ k, i ≤ k → (bitAt (toSet l) k = 1 ↔ k ∈ l) := by
  intro l
  induction l with
  | nil => intro N i _ _ k _; simp [toSet, bitAt]
  | cons x l ih =>
    intro N i hp hb k hk
    have hx := hb x List.mem_cons_self
    obtain ⟨hp1, hp2⟩ := List.pairwise_cons.mp hp
    have hl : ∀ z ∈ l, x + 1 ≤ z ∧ z < N := fun z hz => ⟨hp1 z hz, (hb z (List.mem_cons_of_mem _ hz)).2⟩
    have hdiv : ∀ (l : List Nat), (∀ z ∈ l, x + 1 ≤ z) → 2 ^ (x + 1) ∣ toSet l := by
      intro l
      induction l with
      | nil => intro _; exact ⟨0, by simp [toSet]⟩
      | cons y l ih2 =>
        intro h
        rw [toSet_cons]
        exact Nat.dvd_add (Nat.pow_dvd_pow 2 (h y List.mem_cons_self)) (ih2 fun z hz => h z (List.mem_cons_of_mem _ hz))
    obtain ⟨q, hq⟩ := hdiv l fun z hz => (hl z hz).1
    rw [toSet_cons, List.mem_cons]
    rcases Nat.lt_trichotomy k x with h1 | h1 | h1
    · have e : bitAt (2 ^ x + toSet l) k = 0 := by
        rw [hq]
        unfold bitAt
        obtain ⟨d, rfl⟩ : ∃ d, x = k + d + 1 := ⟨x - k - 1, by omega⟩
        have : 2 ^ (k + d + 1) + 2 ^ (k + d + 1 + 1) * q = 2 ^ k * (2 * (2 ^ d + 2 ^ (d + 1) * q)) := by
          have e1 : 2 ^ (k + d + 1) = 2 ^ k * 2 ^ d * 2 := by rw [Nat.pow_succ, Nat.pow_add]
          have e2 : 2 ^ (k + d + 1 + 1) = 2 ^ k * 2 ^ d * 2 * 2 := by rw [Nat.pow_succ, e1]
          have e3 : 2 ^ (d + 1) = 2 ^ d * 2 := Nat.pow_succ ..
          rw [e1, e2, e3]
          generalize 2 ^ k = p
          generalize 2 ^ d = r
          simp only [Nat.mul_add, Nat.mul_assoc, Nat.mul_comm, Nat.mul_left_comm]
        rw [this, Nat.mul_div_cancel_left _ (Nat.pow_pos (by decide)), Nat.mul_mod_right]
      rw [e]
      constructor
      · intro h; cases h
      · rintro (h | h)
        · omega
        · have := (hl k h).1; omega
    · subst h1
      have e : bitAt (2 ^ k + toSet l) k = 1 := by
        rw [hq]
        unfold bitAt
        have : 2 ^ k + 2 ^ (k + 1) * q = 2 ^ k * (1 + 2 * q) := by rw [Nat.pow_succ, Nat.mul_add, Nat.mul_one, Nat.mul_assoc]
        rw [this, Nat.mul_div_cancel_left _ (Nat.pow_pos (by decide))]
        omega
      rw [e]
      simp
    · have e : bitAt (2 ^ x + toSet l) k = bitAt (toSet l) k := by
        rw [hq]
        unfold bitAt
        obtain ⟨d, rfl⟩ : ∃ d, k = x + 1 + d := ⟨k - (x + 1), by omega⟩
        rw [Nat.pow_add 2 (x + 1) d, ← Nat.div_div_eq_div_mul, ← Nat.div_div_eq_div_mul, Nat.add_mul_div_left _ _ (Nat.pow_pos (by decide)), Nat.mul_div_cancel_left _ (Nat.pow_pos (by decide)), Nat.div_eq_of_lt (Nat.pow_lt_pow_right (by decide) (by omega)), Nat.zero_add]
      rw [e, ih N (x + 1) hp2 hl k (by omega)]
      constructor
      · exact fun h => Or.inr h
      · rintro (h | h)
        · omega
        · exact h
theorem els_up (m N i : Nat) : (els m N i).Pairwise (· < ·) := (List.pairwise_lt_range' (step := 1)).filter _
/-- What the recursion yields: the sets with so many elements of m from i on, besides those taken. -/
def takes (m N left i taken : Nat) : List Nat := (ch (els m N i) left).map fun l => taken + toSet l
theorem takes_zero (m N i taken : Nat) : takes m N 0 i taken = [taken] := by
  unfold takes
  rw [ch_zero]
  simp [toSet]
theorem takes_yes {m N left i taken : Nat} (hi : i < N) (hb : bitAt m i = 1) : takes m N (left + 1) i taken = takes m N left (i + 1) (taken + 2 ^ i) ++ takes m N (left + 1) (i + 1) taken := by
  unfold takes
  rw [els_at hi, if_pos hb, ch, List.map_append, List.map_map]
  congr 1
  refine List.map_congr_left fun l _ => ?_
  simp only [Function.comp_apply, toSet_cons]
  omega
theorem takes_no {m N left i taken : Nat} (hi : i < N) (hb : bitAt m i ≠ 1) : takes m N left i taken = takes m N left (i + 1) taken := by
  unfold takes
  rw [els_at hi, if_neg hb]
theorem takes_end {m N left i taken : Nat} (h : m < 2 ^ i) : takes m N (left + 1) i taken = [] := by
  unfold takes
  rw [els_above h]; rfl
theorem mem_takes {m N n t : Nat} (hm : m < 2 ^ N) : t ∈ takes m N n 0 0 ↔ Sub t m ∧ (els t N 0).length = n := by
  unfold takes
  rw [List.mem_map]
  constructor
  · rintro ⟨l, hl, rfl⟩
    obtain ⟨h1, h2⟩ := (mem_ch _ _ _).mp hl
    have hp := (els_up m N 0).sublist h1
    have hb : ∀ k ∈ l, 0 ≤ k ∧ k < N := fun k hk => ⟨Nat.zero_le _, (mem_els.mp (h1.subset hk)).2.1⟩
    have hm2 := els_of l N 0 hp hb
    rw [Nat.zero_add]
    have hs : Sub (toSet l) m := fun i hi => (mem_els.mp (h1.subset ((hm2 i (Nat.zero_le _)).mp hi))).2.2
    refine ⟨hs, ?_⟩
    have he : els (toSet l) N 0 = l := by
      have hsub : (els (toSet l) N 0).Sublist (els m N 0) := els_sub hs
      refine List.Perm.eq_of_pairwise (fun a b _ _ h1 h2 => absurd h1 (by omega)) (els_up _ _ _) hp ?_
      refine (List.perm_ext_iff_of_nodup ((els_up _ _ _).imp fun h => by omega) (hp.imp fun h => by omega)).mpr fun k => ?_
      rw [mem_els]
      constructor
      · exact fun h => (hm2 k (Nat.zero_le _)).mp h.2.2
      · exact fun h => ⟨Nat.zero_le _, (hb k h).2, (hm2 k (Nat.zero_le _)).mpr h⟩
    rw [he, h2]
  · rintro ⟨h1, h2⟩
    refine ⟨els t N 0, (mem_ch _ _ _).mpr ⟨els_sub h1, h2⟩, ?_⟩
    rw [Nat.zero_add]
    exact set_all (Nat.lt_of_le_of_lt (sub_le h1) hm)
/-- All parts that are taken away, the small ones first. -/
def parts (m N most : Nat) : List Nat := (List.range (min most (els m N 0).length + 1)).flatMap fun n => takes m N n 0 0
theorem mem_parts {m N most t : Nat} (hm : m < 2 ^ N) : t ∈ parts m N most ↔ Sub t m ∧ (els t N 0).length ≤ most := by
  unfold parts
  rw [List.mem_flatMap]
  constructor
  · rintro ⟨n, hn, ht⟩
    obtain ⟨h1, h2⟩ := (mem_takes hm).mp ht
    have := List.mem_range.mp hn
    exact ⟨h1, by omega⟩
  · rintro ⟨h1, h2⟩
    have h3 := (els_sub (N := N) h1).length_le
    exact ⟨_, List.mem_range.mpr (by omega), (mem_takes hm).mpr ⟨h1, rfl⟩⟩
/-- A part and one that comes before it: it has not more elements. -/
theorem parts_up {m N most : Nat} (hm : m < 2 ^ N) : (parts m N most).Pairwise fun s t => (els s N 0).length ≤ (els t N 0).length := by
  unfold parts
  rw [List.pairwise_flatMap]
  constructor
  · intro n _
    refine List.pairwise_of_forall_mem_list fun s hs t ht => ?_
    rw [((mem_takes hm).mp hs).2, ((mem_takes hm).mp ht).2]
    exact Nat.le_refl _
  · refine (List.pairwise_lt_range (n := min most (els m N 0).length + 1)).imp fun {a b} hab s hs t ht => ?_
    rw [((mem_takes hm).mp hs).2, ((mem_takes hm).mp ht).2]
    omega
end Lo

/- SUFFICES AND LOCATE in plain terms: the program's order and the specification's find the same. No program in sight. -/
namespace Lo
open Cd
/-- How many elements a set has. -/
def num (m : Nat) : Nat := (els m 16 0).length
theorem els_wide {m N M : Nat} (hm : m < 2 ^ N) (h : N ≤ M) : els m M 0 = els m N 0 := by
  unfold els
  obtain ⟨d, rfl⟩ : ∃ d, M = N + d := ⟨M - N, by omega⟩
  have e : List.range' 0 (N + d - 0) = List.range' 0 (N - 0) ++ List.range' N d := by
    rw [Nat.sub_zero, Nat.sub_zero]
    have := List.range'_append_1 (s := 0) (m := N) (n := d)
    rw [Nat.zero_add] at this
    exact this.symm
  rw [e, List.filter_append]
  have h0 : (List.range' N d).filter (fun k => bitAt m k == 1) = [] := by
    rw [List.filter_eq_nil_iff]
    intro k hk
    rw [bit_above hm (by have := List.mem_range'_1.mp hk; omega)]
    simp
  rw [h0, List.append_nil]
theorem num_is {m N : Nat} (hm : m < 2 ^ N) (hN : N ≤ 16) : (els m N 0).length = num m := by
  unfold num
  rw [els_wide hm hN]
theorem num_sub {a b : Nat} (h : Sub a b) : num a ≤ num b := (els_sub h).length_le
theorem num_zero : num 0 = 0 := by
  unfold num
  rw [els_above (by decide : (0 : Nat) < 2 ^ 0)]; rfl
theorem num_eq {a b : Nat} (hb : b < 2 ^ 16) (h : Sub a b) (hn : num b ≤ num a) : a = b := by
  have h1 := els_sub (N := 16) h
  have h2 := h1.eq_of_length_le hn
  rw [← set_all (Nat.lt_of_le_of_lt (sub_le h) hb), ← set_all hb, h2]
/-- All parts with at most so many elements, as the specification finds them. -/
def SubB (t m : Nat) : Bool := (List.range 16).all fun k => bitAt t k != 1 || bitAt m k == 1
theorem subB_iff {t m : Nat} (ht : t < 2 ^ 16) : SubB t m = true ↔ Sub t m := by
  unfold SubB
  rw [List.all_eq_true]
  constructor
  · intro h i hi
    rcases Nat.lt_or_ge i 16 with h1 | h1
    · have := h i (List.mem_range.mpr h1)
      rw [hi] at this
      simpa using this
    · rw [bit_above ht h1] at hi; cases hi
  · intro h k _
    rcases bit_two t k with h1 | h1
    · rw [h1]; rfl
    · rw [h1, h k h1]; rfl
theorem and_sub {t m : Nat} : t &&& m = t ↔ Sub t m := by
  have hb : ∀ i, bitAt (t &&& m) i = bitAt t i * bitAt m i := fun i => by
    have h1 : ∀ x, bitAt x i = (x.testBit i).toNat := fun x => by
      rw [Nat.testBit_eq_decide_div_mod_eq]
      unfold bitAt
      by_cases h : x / 2 ^ i % 2 = 1
      · rw [h]; rfl
      · rw [decide_eq_false h]; show _ = 0; omega
    rw [h1, h1, h1, Nat.testBit_and]
    cases t.testBit i <;> cases m.testBit i <;> rfl
  constructor
  · intro h i hi
    have := hb i
    rw [h, hi] at this
    rcases bit_two m i with h2 | h2
    · rw [h2] at this; cases this
    · exact h2
  · intro h
    refine bits_eq (max t (t &&& m) + 1) _ _ (Nat.lt_of_lt_of_le Nat.lt_two_pow_self (Nat.pow_le_pow_right (by decide) (by omega))) (Nat.lt_of_lt_of_le Nat.lt_two_pow_self (Nat.pow_le_pow_right (by decide) (by omega))) fun i => ?_
    rw [hb i]
    rcases bit_two t i with h1 | h1
    · rw [h1, Nat.zero_mul]
    · rw [h1, h i h1]
section
variable {f : Nat → Bool} {m N : Nat}
/-- What the program answers. -/
def suffP (f : Nat → Bool) (m N most : Nat) : Bool := decide (most < num m) && (parts m N most).all fun t => f (m - t)
/-- What the specification asks. -/
def Suff (f : Nat → Bool) (m most : Nat) : Prop := ∀ t, Sub t m → num t ≤ most → f (m - t) = true
theorem suff_iff (hm : m < 2 ^ N) (hN : N ≤ 16) (h0 : f 0 = false) (most : Nat) : suffP f m N most = true ↔ Suff f m most := by
  unfold suffP
  rw [Bool.and_eq_true, decide_eq_true_iff, List.all_eq_true]
  constructor
  · rintro ⟨_, h2⟩ t ht hn
    exact h2 t ((mem_parts hm).mpr ⟨ht, by rw [num_is (Nat.lt_of_le_of_lt (sub_le ht) hm) hN]; exact hn⟩)
  · intro h
    refine ⟨?_, fun t ht => ?_⟩
    · rcases Nat.lt_or_ge most (num m) with h1 | h1
      · exact h1
      · have := h m (fun i hi => hi) h1
        rw [Nat.sub_self, h0] at this; cases this
    · obtain ⟨h1, h2⟩ := (mem_parts hm).mp ht
      exact h t h1 (by rw [num_is (Nat.lt_of_le_of_lt (sub_le h1) hm) hN] at h2; exact h2)
end
/-- What locating wants of decoding: pieces agree with a chunk. -/
structure Decodes {α : Type} (f : Nat → Bool) (dec : Nat → Option α) (ok : α → Nat → Bool) (m : Nat) : Prop where
  right : ∀ t s, Sub t m → dec t = some s → f t = true ∧ ∀ k, bitAt t k = 1 → ok s k = true
  finds : ∀ t t2 s, Sub t m → Sub t2 m → dec t2 = some s → f t = true → (∀ k, bitAt t k = 1 → ok s k = true) → dec t = some s
/-- Both of two parts. -/
theorem or_bit (a b i : Nat) : bitAt (a ||| b) i = 1 ↔ bitAt a i = 1 ∨ bitAt b i = 1 := by
  have h1 : ∀ x, bitAt x i = 1 ↔ x.testBit i = true := fun x => by
    rw [Nat.testBit_eq_decide_div_mod_eq, decide_eq_true_iff]
    exact Iff.rfl
  rw [h1, h1, h1, Nat.testBit_or, Bool.or_eq_true]
theorem or_num (a b : Nat) : num (a ||| b) ≤ num a + num b := by
  unfold num
  have h : ∀ l : List Nat, (l.filter fun k => bitAt (a ||| b) k == 1).length ≤ (l.filter fun k => bitAt a k == 1).length + (l.filter fun k => bitAt b k == 1).length := by
    intro l
    induction l with
    | nil => exact Nat.le_refl _
    | cons x l ih =>
      rw [List.filter_cons, List.filter_cons, List.filter_cons]
      have h1 := or_bit a b x
      by_cases ha : bitAt a x = 1
      · have hab := h1.mpr (Or.inl ha)
        simp only [ha, hab, beq_self_eq_true, if_true, List.length_cons]
        by_cases hb : bitAt b x = 1
        · simp only [hb, beq_self_eq_true, if_true, List.length_cons]; omega
        · have hb2 : (bitAt b x == 1) = false := by rw [beq_eq_false_iff_ne]; exact hb
          simp only [hb2, Bool.false_eq_true, if_false]; omega
      · have ha2 : (bitAt a x == 1) = false := by rw [beq_eq_false_iff_ne]; exact ha
        by_cases hb : bitAt b x = 1
        · have hab := h1.mpr (Or.inr hb)
          simp only [ha2, hb, hab, beq_self_eq_true, Bool.false_eq_true, if_true, if_false, List.length_cons]; omega
        · have hb2 : (bitAt b x == 1) = false := by rw [beq_eq_false_iff_ne]; exact hb
          have hab2 : (bitAt (a ||| b) x == 1) = false := by
            rw [beq_eq_false_iff_ne]
            intro e
            rcases h1.mp e with e | e
            · exact ha e
            · exact hb e
          simp only [ha2, hb2, hab2, Bool.false_eq_true, if_false]; exact ih
  exact h _
section
variable {α : Type} {f : Nat → Bool} {dec : Nat → Option α} {ok : α → Nat → Bool} {m N w : Nat}
/-- What the program finds: a chunk, and what was taken away. -/
def locP (dec : Nat → Option α) (m N w : Nat) : Option (α × Nat) := (parts m N w).findSome? fun t => (dec (m - t)).map fun s => (s, t)
/-- The pieces of a set that are not those of a chunk. -/
def differ (ok : α → Nat → Bool) (m N : Nat) (s : α) : Nat := toSet ((els m N 0).filter fun k => !ok s k)
theorem differ_bit (hm : m < 2 ^ N) (s : α) (k : Nat) : bitAt (differ ok m N s) k = 1 ↔ bitAt m k = 1 ∧ ok s k = false := by
  unfold differ
  have hp := (els_up m N 0).filter fun k => !ok s k
  rw [els_of _ N 0 hp (fun k hk => ⟨Nat.zero_le _, (mem_els.mp (List.mem_filter.mp hk).1).2.1⟩) k (Nat.zero_le _), List.mem_filter, mem_els]
  constructor
  · rintro ⟨⟨_, _, h1⟩, h2⟩; exact ⟨h1, by simpa using h2⟩
  · rintro ⟨h1, h2⟩
    refine ⟨⟨Nat.zero_le _, ?_, h1⟩, by simpa using h2⟩
    rcases Nat.lt_or_ge k N with h | h
    · exact h
    · rw [bit_above hm h] at h1; cases h1
theorem differ_sub (hm : m < 2 ^ N) (s : α) : Sub (differ ok m N s) m := fun i hi => ((differ_bit hm s i).mp hi).1
/-- What the specification finds. -/
def locS (dec : Nat → Option α) (ok : α → Nat → Bool) (m N w : Nat) : Option (α × Nat) := (List.range (m + 1)).findSome? fun t => if SubB t m = true ∧ num t ≤ w then (dec (m - t)).map fun s => (s, differ ok m N s) else none
theorem dec_one (hd : Decodes f dec ok m) (hc : Suff f m (2 * w)) {t1 t2 : Nat} {s1 s2 : α} (h1 : Sub t1 m) (h2 : Sub t2 m) (n1 : num t1 ≤ w) (n2 : num t2 ≤ w) (e1 : dec (m - t1) = some s1) (e2 : dec (m - t2) = some s2) : s1 = s2 := by
  have hs : Sub (t1 ||| t2) m := fun i hi => by
    rcases (or_bit t1 t2 i).mp hi with h | h
    · exact h1 i h
    · exact h2 i h
  have hn := or_num t1 t2
  have hf := hc _ hs (by omega)
  have hb : ∀ t s, (∀ i, bitAt t i = 1 → bitAt (t1 ||| t2) i = 1) → Sub t m → dec (m - t) = some s → dec (m - (t1 ||| t2)) = some s := fun t s ht hsub he => by
    refine hd.finds _ _ s (minus_sub hs) (minus_sub hsub) he hf fun k hk => (hd.right _ _ (minus_sub hsub) he).2 k ?_
    rw [minus_bit hs] at hk
    rw [minus_bit hsub]
    rcases bit_two m k with h3 | h3
    · omega
    · rcases bit_two t k with h4 | h4
      · omega
      · have := ht k h4; omega
  have a1 := hb t1 s1 (fun i hi => (or_bit t1 t2 i).mpr (Or.inl hi)) h1 e1
  have a2 := hb t2 s2 (fun i hi => (or_bit t1 t2 i).mpr (Or.inr hi)) h2 e2
  rw [a1] at a2
  exact Option.some.inj a2
/-- What decoding finds, the pieces that differ are found by taking them away. -/
theorem dec_differ (hm : m < 2 ^ N) (hd : Decodes f dec ok m) (hc : Suff f m (2 * w)) {t : Nat} {s : α} (h1 : Sub t m) (n1 : num t ≤ w) (e1 : dec (m - t) = some s) :
    Sub (differ ok m N s) t ∧ dec (m - differ ok m N s) = some s := by
  have hsub : Sub (differ ok m N s) t := fun i hi => by
    obtain ⟨a, b⟩ := (differ_bit hm s i).mp hi
    rcases bit_two t i with h | h
    · have := (hd.right _ _ (minus_sub h1) e1).2 i (by rw [minus_bit h1]; omega)
      rw [this] at b; cases b
    · exact h
  refine ⟨hsub, ?_⟩
  have hdm := differ_sub (ok := ok) hm s
  have hn := num_sub hsub
  refine hd.finds _ _ s (minus_sub hdm) (minus_sub h1) e1 (hc _ hdm (by omega)) fun k hk => ?_
  rw [minus_bit hdm] at hk
  cases ho : ok s k with
  | true => rfl
  | false =>
    rcases bit_two m k with h3 | h3
    · omega
    · have := (differ_bit (ok := ok) hm s k).mpr ⟨h3, ho⟩; omega
theorem findSome_none {β γ : Type} {l : List β} {g : β → Option γ} : l.findSome? g = none ↔ ∀ x ∈ l, g x = none := List.findSome?_eq_none_iff
/-- The first that is found, in a list that ascends. -/
theorem first_least {β γ : Type} {R : β → β → Prop} {g : β → Option γ} : ∀ {l : List β} {y : γ}, l.Pairwise R → l.findSome? g = some y → ∃ x ∈ l, g x = some y ∧ ∀ z ∈ l, g z ≠ none → z = x ∨ R x z
  | [], y, _, h => by cases h
  | a :: l, y, hp, h => by
    obtain ⟨p1, p2⟩ := List.pairwise_cons.mp hp
    rw [List.findSome?_cons] at h
    cases hg : g a with
    | some z =>
      rw [hg] at h
      refine ⟨a, List.mem_cons_self, by rw [hg]; exact h, fun z hz _ => ?_⟩
      rcases List.mem_cons.mp hz with rfl | hz
      · exact Or.inl rfl
      · exact Or.inr (p1 z hz)
    | none =>
      rw [hg] at h
      obtain ⟨x, hx, h1, h2⟩ := first_least p2 h
      refine ⟨x, List.mem_cons_of_mem _ hx, h1, fun z hz hzn => ?_⟩
      rcases List.mem_cons.mp hz with rfl | hz
      · exact absurd hg hzn
      · exact h2 z hz hzn
/-- What the program finds. -/
theorem locP_some (hm : m < 2 ^ N) (hN : N ≤ 16) (hd : Decodes f dec ok m) (hc : Suff f m (2 * w)) {s : α} {t : Nat} (h : locP dec m N w = some (s, t)) : Sub t m ∧ num t ≤ w ∧ dec (m - t) = some s ∧ t = differ ok m N s := by
  have hnum : ∀ t, Sub t m → (els t N 0).length = num t := fun t ht => num_is (Nat.lt_of_le_of_lt (sub_le ht) hm) hN
  obtain ⟨x, hx, h1, h2⟩ := first_least (parts_up hm) h
  obtain ⟨a1, a2⟩ := (mem_parts hm).mp hx
  rw [hnum x a1] at a2
  cases hdx : dec (m - x) with
  | none => rw [hdx] at h1; cases h1
  | some z =>
    rw [hdx] at h1
    injection h1 with h1
    injection h1 with h3 h4
    subst h3 h4
    refine ⟨a1, a2, hdx, ?_⟩
    obtain ⟨b1, b2⟩ := dec_differ hm hd hc a1 a2 hdx
    have hdm := differ_sub (ok := ok) hm z
    have hmem : differ ok m N z ∈ parts m N w := (mem_parts hm).mpr ⟨hdm, by rw [hnum _ hdm]; have := num_sub b1; omega⟩
    have hx16 : x < 2 ^ 16 := Nat.lt_of_le_of_lt (sub_le a1) (Nat.lt_of_lt_of_le hm (Nat.pow_le_pow_right (by decide) hN))
    rcases h2 _ hmem (by rw [b2]; intro e; cases e) with e | e
    · exact e.symm
    · rw [hnum x a1, hnum _ hdm] at e
      exact (num_eq hx16 b1 e).symm
theorem loc_eq (hm : m < 2 ^ N) (hN : N ≤ 16) (hd : Decodes f dec ok m) (hc : Suff f m (2 * w)) : locP dec m N w = locS dec ok m N w := by
  have hnum : ∀ t, Sub t m → (els t N 0).length = num t := fun t ht => num_is (Nat.lt_of_le_of_lt (sub_le ht) hm) hN
  have hm16 : m < 2 ^ 16 := Nat.lt_of_lt_of_le hm (Nat.pow_le_pow_right (by decide) hN)
  cases hs : locS dec ok m N w with
  | none =>
    unfold locS at hs
    rw [findSome_none] at hs
    unfold locP
    rw [findSome_none]
    intro t ht
    obtain ⟨h1, h2⟩ := (mem_parts hm).mp ht
    rw [hnum t h1] at h2
    have h3 := hs t (List.mem_range.mpr (by have := sub_le h1; omega))
    rw [if_pos ⟨(subB_iff (Nat.lt_of_le_of_lt (sub_le h1) hm16)).mpr h1, h2⟩] at h3
    cases hdt : dec (m - t) with
    | none => rfl
    | some z => rw [hdt] at h3; cases h3
  | some y =>
    unfold locS at hs
    obtain ⟨t, ht, h1⟩ := List.exists_of_findSome?_eq_some hs
    have htm := List.mem_range.mp ht
    split at h1
    · next hq =>
      obtain ⟨q1, q2⟩ := hq
      have hsub := (subB_iff (show t < 2 ^ 16 by omega)).mp q1
      cases hdt : dec (m - t) with
      | none => rw [hdt] at h1; cases h1
      | some z =>
        rw [hdt] at h1
        have hy : (z, differ ok m N z) = y := Option.some.inj h1
        rw [← hy]
        cases hp : locP dec m N w with
        | none =>
          unfold locP at hp
          rw [findSome_none] at hp
          have := hp t ((mem_parts hm).mpr ⟨hsub, by rw [hnum t hsub]; exact q2⟩)
          rw [hdt] at this; cases this
        | some p =>
          obtain ⟨s, t2⟩ := p
          obtain ⟨c1, c2, c3, c4⟩ := locP_some hm hN hd hc hp
          have e := dec_one hd hc c1 hsub c2 q2 c3 hdt
          rw [c4, e]
    · cases h1
end
end Lo

/- A REGION THAT DRAWS ITS ORDER, by an invariant over the operations that are done: one obligation per operation. -/
namespace Go.Proofs.YtggfkpalkdkbdaaDoor
section
variable {P : Program} {ops : Array Oper} {Q : Exit → Act → World → Prop} {md : Region.Mode}
/-- How many operations are not done. -/
def undone (listed : Array Bool) : Nat := listed.toList.countP (· == false)
theorem undone_set {listed : Array Bool} {i : Nat} (h : listed.getD i true = false) : undone (listed.setIfInBounds i true) + 1 = undone listed := by
  unfold undone
  rw [Array.toList_setIfInBounds]
  obtain ⟨l⟩ := listed
  have hi : l[i]? = some false := by
    simp only [Array.getD_eq_getD_getElem?, List.getElem?_toArray] at h
    cases hk : l[i]? with
    | none => rw [hk] at h; cases h
    | some b => rw [hk] at h; cases b; rfl; cases h
  show List.countP _ (l.set i true) + 1 = List.countP _ l
  clear h
  induction l generalizing i with
  | nil => simp at hi
  | cons b r ih =>
    cases i with
    | zero =>
      simp at hi
      subst hi
      simp
    | succ i =>
      have h2 := ih (i := i) (by simpa using hi)
      simp only [List.set_cons_succ, List.countP_cons]
      omega
/-- What may come up: it is not done, and all that it waits for is. -/
theorem ready_spec {listed : Array Bool} {i : Nat} (hi : i ∈ Region.ready md ops listed) :
    i < ops.size ∧ listed.getD i true = false ∧ ∀ o, ops[i]? = some o → ∀ e ∈ o.after, Region.binds md e = true → listed.getD e.on false = true := by
  unfold Region.ready at hi
  obtain ⟨h1, h2⟩ := List.mem_filter.1 hi
  simp only [Bool.and_eq_true, Bool.not_eq_true'] at h2
  refine ⟨by simpa using h1, h2.1, fun o ho e he hb => ?_⟩
  have h3 := h2.2
  rw [ho] at h3
  simp only [Option.map_some, Option.getD_some] at h3
  rw [Array.all_eq_true_iff_forall_mem] at h3
  have := h3 e he
  simp only [hb, Bool.not_true, Bool.false_or] at this
  exact this
theorem wpAny_inv (I : Array Bool → Act → World → Prop)
    (hstep : ∀ listed a w i, I listed a w → i ∈ Region.ready md ops listed → wpOp P ops Q i (I (listed.setIfInBounds i true)) a w)
    (hend : ∀ listed a w, I listed a w → Region.ready md ops listed = [] → Q .normal a w) :
    ∀ (fuel : Nat) (listed : Array Bool) (a : Act) (w : World), undone listed ≤ fuel → I listed a w → wpAny P md ops Q fuel listed a w := by
  have hun : ∀ (listed : Array Bool) (i : Nat), i ∈ Region.ready md ops listed → listed.getD i true = false := fun listed i hi => by
    unfold Region.ready at hi
    have := (List.mem_filter.1 hi).2
    simp only [Bool.and_eq_true, Bool.not_eq_true'] at this
    exact this.1
  intro fuel
  induction fuel with
  | zero =>
    intro listed a w hf hI
    have hr : Region.ready md ops listed = [] := by
      cases h : Region.ready md ops listed with
      | nil => rfl
      | cons i r =>
        exfalso
        have := undone_set (hun listed i (by rw [h]; simp))
        omega
    exact ⟨hr, hend _ _ _ hI hr⟩
  | succ fuel ih =>
    intro listed a w hf hI
    refine ⟨fun hr => hend _ _ _ hI hr, fun i hi => ?_⟩
    have h1 := undone_set (hun listed i hi)
    exact wpOp_mono (fun a w h => ih _ a w (by omega) h) (hstep _ _ _ _ hI hi)
end
end Go.Proofs.YtggfkpalkdkbdaaDoor

/- THE ROWS THAT A CALL HAS MADE, all in one list: what each holds, that no two share a block, and that nothing older has turned. -/
namespace Go.Proofs.YtggfkpalkdkbdaaDoor
open Go.RowKit

/-- A row: the slice value, its element type, cells to an element, the number of elements, the cells. -/
structure LRow where
  v : Value
  e : TypeId
  s : Nat
  n : Nat
  xs : List Value
def LRow.far (a b : LRow) : Prop := a.v.ownBlock = none ∨ a.v.ownBlock ≠ b.v.ownBlock
def LRow.ok (w0 w : World) (r : LRow) : Prop := w.ownsRow w0.heap.size r.e r.s r.v r.n r.xs
/-- No row. -/
def no : LRow := ⟨.slice none 0 0, 0, 1, 0, []⟩
/-- A nil slice. -/
def nilRow (e : TypeId) : LRow := ⟨.slice none 0 0, e, 1, 0, []⟩

structure Owns (w0 w : World) (L : List LRow) : Prop where
  ext : Ext w0 w
  ok : ∀ (i : Nat) (r : LRow), L[i]? = some r → r.ok w0 w
  far : ∀ (i j : Nat) (a b : LRow), i ≠ j → L[i]? = some a → L[j]? = some b → a.far b

section
variable {w0 w w' : World} {L : List LRow} {P : Program}
theorem no_ok (w0 w : World) : no.ok w0 w := World.ownsRow_nil _ _ _ _
theorem nilRow_ok (w0 w : World) (e : TypeId) : (nilRow e).ok w0 w := World.ownsRow_nil _ _ _ _
theorem LRow.far_none {a b : LRow} (h : b.v.ownBlock = none) : a.far b := by
  unfold LRow.far
  cases ha : a.v.ownBlock with
  | none => exact .inl rfl
  | some g => exact .inr (by rw [h]; simp)
theorem LRow.far_symm {a b : LRow} (h : a.far b) : b.far a := by
  unfold LRow.far at h ⊢
  rcases h with h | h
  · exact LRow.far_none h
  · exact .inr (Ne.symm h)

/-- At the call's beginning: rows that own nothing. -/
theorem Owns.start (w : World) (h : ∀ r ∈ L, r.v = .slice none 0 0 ∧ r.n = 0 ∧ r.xs = []) : Owns w w L where
  ext := Ext.refl w
  ok i r hr := by
    obtain ⟨h1, h2, h3⟩ := h r (List.mem_of_getElem? hr)
    unfold LRow.ok
    rw [h1, h2, h3]
    exact World.ownsRow_nil _ _ _ _
  far i j a b _ ha _ := .inl (by rw [(h a (List.mem_of_getElem? ha)).1]; rfl)

theorem Owns.move (h : Owns w0 w L) (hx : Ext w0 w') (hg : ∀ g, w0.heap.size ≤ g → g < w.heap.size → w'.heap[g]? = w.heap[g]?) : Owns w0 w' L where
  ext := hx
  ok i r hr := by
    have h1 := h.ok i r hr
    refine ⟨h1.1, ?_⟩
    rcases h1.2 with h2 | ⟨g, cap, cur, hv, hB, hh, rest⟩
    · exact .inl h2
    · exact .inr ⟨g, cap, cur, hv, hB, (hg g hB (lt_of_block hh)).trans hh, rest⟩
  far := h.far
theorem Owns.next (h : Owns w0 w L) (hx : Ext w w') : Owns w0 w' L := h.move (h.ext.trans hx) fun g _ hlt => Below.block hx g hlt
theorem Owns.alloc (h : Owns w0 w L) (o : Obj) : Owns w0 (w.alloc o) L := h.next ((Ext.refl w).alloc o)
theorem Owns.drew (h : Owns w0 w L) : Owns w0 w.drew L := h.next (Ext.refl w).drew
theorem Owns.drewN (h : Owns w0 w L) (n : Nat) : Owns w0 (w.drewN n) L := h.next ((Ext.refl w).drewN n)

/-- One row anew: of a new block, or of the block that it had; the other rows' blocks are as they were. -/
theorem Owns.put (h : Owns w0 w L) (i : Nat) (r' : LRow) (hx : Ext w0 w') (hr' : r'.ok w0 w')
    (hg : ∀ j r, j ≠ i → L[j]? = some r → ∀ g, r.v.ownBlock = some g → w'.heap[g]? = w.heap[g]?) (hf : ∀ j r, j ≠ i → L[j]? = some r → r'.far r) : Owns w0 w' (L.set i r') where
  ext := hx
  ok j r hr := by
    by_cases hj : j = i
    · subst hj
      rw [List.getElem?_set] at hr
      split at hr
      · split at hr
        · injection hr with hr; subst hr; exact hr'
        · cases hr
      · rename_i hne; exact absurd rfl hne
    · rw [List.getElem?_set_ne (Ne.symm hj)] at hr
      have h1 := h.ok j r hr
      refine ⟨h1.1, ?_⟩
      rcases h1.2 with h2 | ⟨g, cap, cur, hv, hB, hh, rest⟩
      · exact .inl h2
      · exact .inr ⟨g, cap, cur, hv, hB, (hg j r hj hr g (by rw [hv]; rfl)).trans hh, rest⟩
  far j k a b hjk ha hb := by
    by_cases hj : j = i
    · subst hj
      rw [List.getElem?_set_ne hjk] at hb
      rw [List.getElem?_set] at ha
      simp only [↓reduceIte] at ha
      split at ha
      · injection ha with ha; subst ha; exact hf k b (Ne.symm hjk) hb
      · cases ha
    · by_cases hk : k = i
      · subst hk
        rw [List.getElem?_set_ne (Ne.symm hj)] at ha
        rw [List.getElem?_set] at hb
        simp only [↓reduceIte] at hb
        split at hb
        · injection hb with hb; subst hb; exact LRow.far_symm (a := r') (b := a) (hf j a hj ha)
        · cases hb
      · rw [List.getElem?_set_ne (Ne.symm hj)] at ha
        rw [List.getElem?_set_ne (Ne.symm hk)] at hb
        exact h.far j k a b hjk ha hb

/-- A new block of cells, as a row. -/
theorem Owns.new (h : Owns w0 w L) (i : Nat) (cs : Array Value) (e : TypeId) (hm : cs.size ≤ maxLen) : Owns w0 (w.alloc (.cells cs e)) (L.set i ⟨.slice (some ⟨w.heap.size, 0, none⟩) cs.size cs.size, e, 1, cs.size, cs.toList⟩) := by
  have hlt : ∀ r : LRow, r.ok w0 w → ∀ g, r.v.ownBlock = some g → g < w.heap.size := fun r hr g hg => (World.ownsRow.lt hr g hg).2
  refine h.put i _ (h.ext.alloc _) ⟨by simp, .inr ⟨w.heap.size, cs.size, cs, rfl, h.ext.size, heap_new w _, Nat.le_refl _, hm, by simp, List.take_of_length_le (by simp)⟩⟩ ?_ ?_
  · intro j r _ hr g hg
    exact Below.heap_alloc w _ g (hlt r (h.ok j r hr) g hg)
  · intro j r _ hr
    refine .inr ?_
    intro he
    have := hlt r (h.ok j r hr) w.heap.size he.symm
    omega

theorem Owns.wider (h : Owns w0 w L) : Owns w0 w (L ++ [no]) where
  ext := h.ext
  ok i r hr := by
    rw [List.getElem?_append] at hr
    split at hr
    · exact h.ok i r hr
    · have : r = no := by
        cases hk : i - L.length with
        | zero => rw [hk] at hr; simpa using hr.symm
        | succ k => rw [hk] at hr; simp at hr
      subst this
      exact no_ok _ _
  far i j a b hij ha hb := by
    rw [List.getElem?_append] at ha hb
    split at ha
    · split at hb
      · exact h.far i j a b hij ha hb
      · have : b = no := by
          cases hk : j - L.length with
          | zero => rw [hk] at hb; simpa using hb.symm
          | succ k => rw [hk] at hb; simp at hb
        subst this
        exact LRow.far_none rfl
    · have : a = no := by
        cases hk : i - L.length with
        | zero => rw [hk] at ha; simpa using ha.symm
        | succ k => rw [hk] at ha; simp at ha
      subst this
      exact .inl rfl
/-- One, two, three new blocks of one cell each, as rows behind the others. -/
theorem Owns.push1 {u : Value} {e : TypeId} (h : Owns w0 w L) : Owns w0 (w.alloc (.cells #[u] e)) (L ++ [⟨.slice (some ⟨w.heap.size, 0, none⟩) 1 1, e, 1, 1, [u]⟩]) := by
  have := h.wider.new L.length #[u] e (by simp [maxLen])
  simpa using this
theorem Owns.row (h : Owns w0 w L) (i : Nat) {v : Value} {e s n : Nat} {xs : List Value} (hi : L[i]? = some ⟨v, e, s, n, xs⟩) : w.ownsRow w0.heap.size e s v n xs := h.ok i _ hi
/-- A cell of a row. -/
theorem Owns.cell (h : Owns w0 w L) (i : Nat) {g n c e s : Nat} {xs : List Value} (hi : L[i]? = some ⟨.slice (some ⟨g, 0, none⟩) n c, e, s, n, xs⟩) (k : Nat) {u : Value} (hu : xs[k]? = some u) : w.cell? ⟨g, k, none⟩ = some u := by
  have h1 := h.row i hi
  have hk : k < n * s := by
    have := h1.1
    rcases Nat.lt_or_ge k xs.length with h2 | h2
    · omega
    · rw [List.getElem?_eq_none h2] at hu; cases hu
  rw [h1.cellAt k hk]; exact hu
theorem Owns.frozen (h : Owns w0 w L) (i : Nat) {g n c e s : Nat} {xs : List Value} (hi : L[i]? = some ⟨.slice (some ⟨g, 0, none⟩) n c, e, s, n, xs⟩) (k : Nat) : w.frozen? ⟨g, k, none⟩ = false := (h.row i hi).frozenAt k
theorem Owns.rd (h : Owns w0 w L) (i : Nat) {A : Option Addr} {n c e : Nat} {xs : List Value} (hi : L[i]? = some ⟨.slice A n c, e, 1, n, xs⟩) : Rd w A xs := own_rd (h.row i hi)
/-- A store into a row. -/
theorem Owns.store (h : Owns w0 w L) (i : Nat) {g n c e s : Nat} {xs : List Value} (hi : L[i]? = some ⟨.slice (some ⟨g, 0, none⟩) n c, e, s, n, xs⟩) (k : Nat) (u : Value) :
    Owns w0 (w.setCell ⟨g, k, none⟩ u) (L.set i ⟨.slice (some ⟨g, 0, none⟩) n c, e, s, n, xs.set k u⟩) := by
  have h1 := h.row i hi
  have hB := (h1.lt g rfl).1
  refine h.put i _ (h.ext.setCell hB u) (h1.stored k u).1 ?_ ?_
  · intro j r hj hr g' hg'
    refine Below.heap_setCell _ _ _ _ ?_
    rintro rfl
    have := h.far j i _ _ hj hr hi
    rcases this with h2 | h2
    · rw [hg'] at h2; cases h2
    · exact h2 hg'
  · intro j r hj hr
    have := h.far i j _ _ (Ne.symm hj) hi hr
    exact this
/-- A row that is given up. -/
theorem Owns.drop (h : Owns w0 w L) (i : Nat) : Owns w0 w (L.set i no) :=
  h.put i no h.ext (no_ok _ _) (fun _ _ _ _ _ _ => rfl) fun _ _ _ _ => .inl rfl

/-- 'out = append(out, xs...)' onto a row. -/
theorem run_append_owns (t ty e : TypeId) {z : Value} {s bytes : Nat} (ht : P.underlying t = some (.slice e)) (hi : (P.info? e).map (fun i => (i.zero, i.size, i.bytes)) = some (some z, s, bytes)) (hzs : z.cells.size = s) (hs : 0 < s)
    (h : Owns w0 w L) (i : Nat) {v : Value} {n : Nat} {xs : List Value} (hL : L[i]? = some ⟨v, e, s, n, xs⟩)
    (ad : Addr) (m c : Nat) (news : List Value) (hl : news.length = m * s) (hnews : ∀ j u, news[j]? = some u → w.cell? (ad.add j) = some u) (h1 : ∀ u ∈ news, u.oneCell' = true) (hm : 0 < m)
    (h63 : n + m ≤ maxLen) (hb : (n + m) * bytes ≤ 140737488355328) :
    ∃ g cap w', (Builtin.append_ #[t, t] ty #[v, .slice (some ad) m c]).run P w = .ok (.slice (some ⟨g, 0, none⟩) (n + m) cap) w' ∧ Owns w0 w' (L.set i ⟨.slice (some ⟨g, 0, none⟩) (n + m) cap, e, s, n + m, xs ++ news⟩) ∧ Ext w0 w' ∧ w.grownBy w' v.ownBlock := by
  obtain ⟨i0, hi0, hiz, hi1, hi2⟩ := info_parts hi
  have hown := h.row i hL
  obtain ⟨g, cap, w', hr, h2, h3, h4, h5⟩ := run_append_lies (P := P) w t ty w0.heap.size e i0 z s bytes ht hi0 hiz hi1 hi2 hzs hs v n xs hown ad m c news hl hnews h1 hm h63 hb h.ext.size _ rfl
  have hx : Ext w0 w' := h.ext.grown h3 (fun k hk => own_ge hown k hk)
  refine ⟨g, cap, w', hr, h.put i _ hx h2 ?_ ?_, hx, h3⟩
  · intro j r hj hrr g' hg'
    have hok := h.ok j r hrr
    refine h3.block g' (World.ownsRow.lt hok g' hg').2 ?_
    have hf := h.far j i r _ hj hrr hL
    rcases hf with hf | hf
    · rw [hg'] at hf; cases hf
    · rw [← hg']; exact hf
  · intro j r hj hrr
    have hf := h.far i j _ r (Ne.symm hj) hL hrr
    rcases h4 with h4 | h4
    · rcases hf with hf | hf
      · simp only at hf; rw [h4] at hf; cases hf
      · refine .inr ?_
        show some g ≠ _
        rw [← h4]; exact hf
    · refine .inr ?_
      show some g ≠ _
      intro he
      have := (World.ownsRow.lt (h.ok j r hrr) g he.symm).2
      omega
/-- The same at the list of a region's operations, one element. -/
theorem wpl_append_owns {ops : Array Oper} {rest : List Oper} {o : Oper} {a : Act} {Q : Exit → Act → World → Prop} (t e : TypeId) (hgd : o.guard = none) (s x : Operand)
    (ho : o.op = .call { callee := .builtin .append, args := #[s, x], argTypes := #[t, t] })
    {z : Value} {bytes : Nat} (ht : P.underlying t = some (.slice e)) (hi : (P.info? e).map (fun i => (i.zero, i.size, i.bytes)) = some (some z, 1, bytes)) (hzs : z.cells.size = 1)
    (h : Owns w0 w L) (i : Nat) {v : Value} {n : Nat} {xs : List Value} (hL : L[i]? = some ⟨v, e, 1, n, xs⟩) (hs : a.eval s = v) {g0 : Nat} {u : Value}
    (hx : a.eval x = .slice (some ⟨g0, 0, none⟩) 1 1) (hu : w.cell? ⟨g0, 0, none⟩ = some u) (h1 : u.oneCell' = true) (hm : n < 1000000000000) (hb : bytes ≤ 100)
    (hK : ∀ g cap w', Owns w0 w' (L.set i ⟨.slice (some ⟨g, 0, none⟩) (n + 1) cap, e, 1, n + 1, xs ++ [u]⟩) → w.grownBy w' v.ownBlock → wpList P ops Q rest (a.put o.dst (.slice (some ⟨g, 0, none⟩) (n + 1) cap)) w') :
    wpList P ops Q (o :: rest) a w := by
  refine wpList_plain hgd fun K hK' => ?_
  have hbb : (n + 1) * bytes ≤ (n + 1) * 100 := Nat.mul_le_mul_left _ hb
  obtain ⟨g, cap, w', hr, h2, _, h3⟩ := run_append_owns (P := P) t o.type e ht hi hzs (by decide) h i hL ⟨g0, 0, none⟩ 1 1 [u] rfl (fun j y hj => by
    match j, hj with
    | 0, hj => simp at hj; subst hj; exact hu) (fun y hy => by simp at hy; subst hy; exact h1) (by decide) (by unfold maxLen; omega) (by omega)
  unfold Oper.wp execOp
  simp only [ho, resolve, invoke, builtin, Sem.run_bind, Sem.run_pure, Result.andThen_ok, List.map_toArray, List.map_cons, List.map_nil, hs, hx, hr]
  exact hK' _ _ (hK g cap w' h2 h3)
/-- The same at a step of a region that draws its order. -/
theorem step_append_owns {ops : Array Oper} {o : Oper} {a : Act} {K : Act → World → Prop} {Q : Exit → Act → World → Prop} {E : Prop} (t e : TypeId) (hgd : o.guard = none) (s x : Operand)
    (ho : o.op = .call { callee := .builtin .append, args := #[s, x], argTypes := #[t, t] })
    {z : Value} {bytes : Nat} (ht : P.underlying t = some (.slice e)) (hi : (P.info? e).map (fun i => (i.zero, i.size, i.bytes)) = some (some z, 1, bytes)) (hzs : z.cells.size = 1)
    (h : Owns w0 w L) (i : Nat) {v : Value} {n : Nat} {xs : List Value} (hL : L[i]? = some ⟨v, e, 1, n, xs⟩) (hs : a.eval s = v) {g0 : Nat} {u : Value}
    (hx : a.eval x = .slice (some ⟨g0, 0, none⟩) 1 1) (hu : w.cell? ⟨g0, 0, none⟩ = some u) (h1 : u.oneCell' = true) (hm : n < 1000000000000) (hb : bytes ≤ 100)
    (hK : ∀ g cap w', Owns w0 w' (L.set i ⟨.slice (some ⟨g, 0, none⟩) (n + 1) cap, e, 1, n + 1, xs ++ [u]⟩) → w.grownBy w' v.ownBlock → K (a.put o.dst (.slice (some ⟨g, 0, none⟩) (n + 1) cap)) w') :
    if Region.wanted o (yielded ops a.tmps) = true then Oper.wp P o a w K Q else E := by
  have hw : Region.wanted o (yielded ops a.tmps) = true := by simp [Region.wanted, hgd]
  rw [if_pos hw]
  have hbb : (n + 1) * bytes ≤ (n + 1) * 100 := Nat.mul_le_mul_left _ hb
  obtain ⟨g, cap, w', hr, h2, _, h3⟩ := run_append_owns (P := P) t o.type e ht hi hzs (by decide) h i hL ⟨g0, 0, none⟩ 1 1 [u] rfl (fun j y hj => by
    match j, hj with
    | 0, hj => simp at hj; subst hj; exact hu) (fun y hy => by simp at hy; subst hy; exact h1) (by decide) (by unfold maxLen; omega) (by omega)
  unfold Oper.wp execOp
  simp only [ho, resolve, invoke, builtin, Sem.run_bind, Sem.run_pure, Result.andThen_ok, List.map_toArray, List.map_cons, List.map_nil, hs, hx, hr]
  exact hK g cap w' h2 h3
/-- '[]T{x}' laid in a block of its own. -/
theorem run_build_one {t e : TypeId} {z : Value} {bytes : Nat} (ht : P.underlying t = some (.slice e)) (hi : (P.info? e).map (fun i => (i.zero, i.size, i.bytes)) = some (some z, 1, bytes)) (w : World) (u : Value) (hu : u.cells = #[u]) :
    (Instr.buildSlice t 1 #[(0, u)]).run P w = .ok (.slice (some ⟨w.heap.size, 0, none⟩) 1 1) (w.alloc (.cells #[u] e)) := by
  obtain ⟨i0, hi0, hiz, hi1, hi2⟩ := info_parts hi
  simp [Instr.buildSlice, run_underlying ht, sizeOf, typeInfo, hi0, hi1, zeroValue, hiz, Instr.fill, hu]
  rw [show (Array.map (fun x => z.cells[x % z.cells.size]!) (Array.range 1)).setIfInBounds 0 u = #[u] from by apply Array.ext'; simp [Array.toList_range, List.range_succ]]
  rfl
end
end Go.Proofs.YtggfkpalkdkbdaaDoor

/- ROWS THAT A CALL HAS MADE: their order, and which are named, is free. A call as a step of a region that draws. -/
namespace Go.Proofs.YtggfkpalkdkbdaaDoor
open Go.RowKit
theorem Owns.pairwise {w0 w : World} {L : List LRow} (h : Owns w0 w L) : L.Pairwise LRow.far :=
  List.pairwise_iff_getElem.2 fun i j hi hj hij => h.far i j _ _ (by omega) (List.getElem?_eq_getElem hi) (List.getElem?_eq_getElem hj)
theorem Owns.all {w0 w : World} {L : List LRow} (h : Owns w0 w L) : ∀ r ∈ L, r.ok w0 w := fun r hr => by
  obtain ⟨i, hi, rfl⟩ := List.getElem_of_mem hr
  exact h.ok i _ (List.getElem?_eq_getElem hi)
theorem Owns.of_pairwise {w0 w : World} {L : List LRow} (hx : Ext w0 w) (ho : ∀ r ∈ L, r.ok w0 w) (hp : L.Pairwise LRow.far) : Owns w0 w L where
  ext := hx
  ok i r hr := ho r (List.mem_of_getElem? hr)
  far i j a b hij ha hb := by
    obtain ⟨hi, rfl⟩ := List.getElem?_eq_some_iff.1 ha
    obtain ⟨hj, rfl⟩ := List.getElem?_eq_some_iff.1 hb
    rcases Nat.lt_or_ge i j with h1 | h1
    · exact List.pairwise_iff_getElem.1 hp i j hi hj h1
    · exact LRow.far_symm (List.pairwise_iff_getElem.1 hp j i hj hi (by omega))
theorem Owns.perm {w0 w : World} {L L' : List LRow} (h : Owns w0 w L) (hp : L.Perm L') : Owns w0 w L' :=
  Owns.of_pairwise h.ext (fun r hr => h.all r (hp.mem_iff.2 hr)) ((hp.pairwise_iff (fun h => LRow.far_symm h)).1 h.pairwise)
theorem Owns.sublist {w0 w : World} {L L' : List LRow} (h : Owns w0 w L) (hp : L'.Sublist L) : Owns w0 w L' :=
  Owns.of_pairwise h.ext (fun r hr => h.all r (hp.subset hr)) (h.pairwise.sublist hp)
end Go.Proofs.YtggfkpalkdkbdaaDoor

/- A REGION THAT DRAWS ITS ORDER, by an invariant: what each operation yields, and what the world is by those that are done. One obligation per operation. -/
namespace Go.Proofs.YtggfkpalkdkbdaaDoor
open Go.RowKit
def upd (L : Nat → Bool) (i : Nat) : Nat → Bool := fun j => if j = i then true else L j
def depsOf (ops : Array Oper) : List (List Nat) := ops.toList.map fun o => (o.after.toList.filter (Region.binds .any)).map (·.on)
def Closed (deps : List (List Nat)) (L : Nat → Bool) : Prop := ∀ i, L i = true → ∀ j ∈ deps.getD i [], L j = true
/-- The order: each waits for such alone as stand before it. -/
def topo (deps : List (List Nat)) : List Nat → List Nat → Bool
  | [], _ => true
  | i :: r, done => (deps.getD i []).all (fun j => done.contains j) && topo deps r (i :: done)
section
variable {P : Program} {ops : Array Oper} {Q : Exit → Act → World → Prop}
def StepOk (P : Program) (ops : Array Oper) (Q : Exit → Act → World → Prop) (deps : List (List Nat)) (I : (Nat → Bool) → Act → World → Prop) (i : Nat) : Prop :=
  ∀ L a w, I L a w → L i = false → Closed deps L → (∀ j ∈ deps.getD i [], L j = true) → wpOp P ops Q i (I (upd L i)) a w
def Steps (P : Program) (ops : Array Oper) (Q : Exit → Act → World → Prop) (deps : List (List Nat)) (I : (Nat → Bool) → Act → World → Prop) : Nat → Nat → Prop
  | _, 0 => True
  | n, k + 1 => StepOk P ops Q deps I n ∧ Steps P ops Q deps I (n + 1) k
theorem Steps.at {deps : List (List Nat)} {I : (Nat → Bool) → Act → World → Prop} : ∀ {k n i : Nat}, Steps P ops Q deps I n k → n ≤ i → i < n + k → StepOk P ops Q deps I i
  | 0, n, i, _, h1, h2 => by omega
  | k + 1, n, i, h, h1, h2 => by
    by_cases he : i = n
    · rw [he]; exact h.1
    · exact Steps.at h.2 (by omega) (by omega)
theorem topo_all {deps : List (List Nat)} {L : Nat → Bool} (hr : ∀ i, i < deps.length → (∀ j ∈ deps.getD i [], L j = true) → L i = true) : ∀ (ord done : List Nat), topo deps ord done = true → (∀ i ∈ ord, i < deps.length) → (∀ j ∈ done, L j = true) → ∀ i ∈ ord, L i = true
  | [], _, _, _, _ => fun i h => by cases h
  | k :: r, done, ht, hl, hd => by
    rw [topo, Bool.and_eq_true] at ht
    have hk : L k = true := hr k (hl k (by simp)) fun j hj => hd j (by
      have := List.all_eq_true.1 ht.1 j hj
      simpa using this)
    intro i hi
    rcases List.mem_cons.1 hi with rfl | hi
    · exact hk
    · exact topo_all hr r (k :: done) ht.2 (fun i hi => hl i (by simp [hi])) (fun j hj => by
        rcases List.mem_cons.1 hj with rfl | hj
        · exact hk
        · exact hd j hj) i hi
theorem region_inv {id : Nat} {a : Act} {w : World} (hm : P.follows .mixedOrders = true) (deps : List (List Nat)) (hdeps : depsOf ops = deps) (ord : List Nat) (ht : topo deps ord [] = true) (ho : ((List.range deps.length).all fun i => ord.contains i) = true) (ho2 : (ord.all fun i => decide (i < deps.length)) = true)
    (I : (Nat → Bool) → Act → World → Prop) (h0 : I (fun _ => false) a { w with drawn := w.drawn + 1 })
    (hs : Steps P ops Q deps I 0 deps.length)
    (hend : ∀ L a w, I L a w → (∀ i, i < deps.length → L i = true) → Q .normal a w) : (Code.region id ops true).wp P Q a w := by
  refine wp_region_any hm ?_
  have hlen : deps.length = ops.size := by rw [← hdeps]; simp [depsOf]
  have hdep : ∀ (i : Nat) (o : Oper), ops[i]? = some o → deps.getD i [] = (o.after.toList.filter (Region.binds .any)).map (·.on) := fun i o hi => by
    rw [← hdeps, depsOf, List.getD_eq_getElem?_getD, List.getElem?_map]
    rw [← Array.getElem?_toList] at hi
    rw [hi]
    rfl
  have hun : undone (Array.replicate ops.size false) ≤ ops.size := by
    unfold undone
    have := List.countP_le_length (p := (· == false)) (l := (Array.replicate ops.size false).toList)
    simpa using this
  refine wpAny_inv (fun listed a w => listed.size = ops.size ∧ Closed deps (fun j => listed.getD j false) ∧ I (fun j => listed.getD j false) a w) ?_ ?_ ops.size _ _ _ hun ?_
  · rintro listed a w i ⟨hsz, hc, hI⟩ hi
    obtain ⟨h1, h2, h3⟩ := ready_spec hi
    have hL : listed.getD i false = false := by
      rw [Array.getD_eq_getD_getElem?] at h2 ⊢
      rw [Array.getElem?_eq_getElem (by omega)] at h2 ⊢
      exact h2
    obtain ⟨o, hoi⟩ : ∃ o, ops[i]? = some o := ⟨_, Array.getElem?_eq_getElem h1⟩
    have hd : ∀ j ∈ deps.getD i [], listed.getD j false = true := fun j hj => by
      rw [hdep i o hoi] at hj
      obtain ⟨e, he, rfl⟩ := List.mem_map.1 hj
      exact h3 o hoi e (by simpa using (List.mem_filter.1 he).1) (List.mem_filter.1 he).2
    have hu : (fun j => (listed.setIfInBounds i true).getD j false) = upd (fun j => listed.getD j false) i := by
      funext j
      unfold upd
      by_cases hji : j = i
      · subst hji
        rw [if_pos rfl, Array.getD_eq_getD_getElem?, Array.getElem?_setIfInBounds_self_of_lt (by omega)]
        rfl
      · rw [if_neg hji]
        exact getD_set_ne false (Ne.symm hji)
    have hstep := Steps.at hs (Nat.zero_le i) (by omega) (fun j => listed.getD j false) a w hI hL hc hd
    refine wpOp_mono ?_ hstep
    intro a' w' hI'
    refine ⟨by rw [Array.size_setIfInBounds]; exact hsz, ?_, by rw [hu]; exact hI'⟩
    rw [hu]
    intro k hk j hj
    unfold upd at hk ⊢
    by_cases hki : k = i
    · subst hki
      split
      · rfl
      · exact hd j hj
    · rw [if_neg hki] at hk
      split
      · rfl
      · exact hc k hk j hj
  · rintro listed a w ⟨hsz, hc, hI⟩ hr
    refine hend _ a w hI ?_
    have hall : ∀ i, i < deps.length → (∀ j ∈ deps.getD i [], listed.getD j false = true) → listed.getD i false = true := by
      intro i hi hdi
      by_cases hL : listed.getD i false = true
      · exact hL
      · exfalso
        have hmem : i ∈ Region.ready .any ops listed := by
          rw [mem_ready]
          obtain ⟨o, hoi⟩ : ∃ o, ops[i]? = some o := ⟨_, Array.getElem?_eq_getElem (by omega)⟩
          refine ⟨?_, o, hoi, fun e he hbn => hdi e.on (by rw [hdep i o hoi]; exact List.mem_map.2 ⟨e, List.mem_filter.2 ⟨by simpa using he, hbn⟩, rfl⟩)⟩
          rw [Array.getD_eq_getD_getElem?] at hL ⊢
          rw [Array.getElem?_eq_getElem (by omega)] at hL ⊢
          simpa using hL
        rw [hr] at hmem
        cases hmem
    intro i hi
    refine topo_all (L := fun j => listed.getD j false) hall ord [] ht (fun i hi => by simpa using List.all_eq_true.1 ho2 i hi) (fun j hj => by cases hj) i ?_
    have := List.all_eq_true.1 ho i (by simpa using hi)
    simpa using this
  · refine ⟨by simp, fun i hi => ?_, ?_⟩
    · simp [Array.getElem?_replicate] at hi
      split at hi <;> simp at hi
    · have e : (fun j => (Array.replicate ops.size false).getD j false) = fun _ => false := by
        funext j
        simp [Array.getElem?_replicate]
        split <;> simp
      rw [e]
      exact h0
theorem wpOp_value {i : Nat} {o : Oper} {a : Act} {w w' : World} {K : Act → World → Prop} {v : Value} (hi : ops[i]? = some o) (hg : o.guard = none) (hr : (execOp a.eval o).run P w = .ok (.value v) w') (hK : K (a.put o.dst v) w') : wpOp P ops Q i K a w := by
  have hw : Region.wanted o (yielded ops a.tmps) = true := by simp [Region.wanted, hg]
  unfold wpOp
  simp only [hi, hw, if_true, Oper.wp, hr, Oper.upon]
  exact .inl hK
theorem wpOp_skip {i : Nat} {o : Oper} {a : Act} {w w' : World} {K : Act → World → Prop} (hi : ops[i]? = some o) (hg : o.guard = none) (hd : o.dst = none) (hr : (execOp a.eval o).run P w = .ok .skip w') (hK : K a w') : wpOp P ops Q i K a w := by
  have hw : Region.wanted o (yielded ops a.tmps) = true := by simp [Region.wanted, hg]
  unfold wpOp
  simp only [hi, hw, if_true, Oper.wp, hr, Oper.upon, hd, Act.put]
  exact .inl hK
theorem wpOp_call {i : Nat} {o : Oper} {a : Act} {w w1 : World} {K : Act → World → Prop} {f : FuncId} {args : Array Value} {R : Value → World → Prop} (hi : ops[i]? = some o) (hg : o.guard = none) (hr : (execOp a.eval o).run P w = .ok (.enter f args) w1)
    (h : Calls P f args w1 fun e w' => ∃ v, e = .returned v ∧ R v w') (hK : ∀ v w', R v w' → K (a.put o.dst v) w') : wpOp P ops Q i K a w := by
  have hw : Region.wanted o (yielded ops a.tmps) = true := by simp [Region.wanted, hg]
  unfold wpOp
  simp only [hi, hw, if_true, Oper.wp, hr, Oper.upon]
  refine .inl (h.mono ?_)
  rintro e w' ⟨v, rfl, hv⟩
  exact hK v w' hv
end
section
variable {P : Program} {o : Oper} {a : Act} {w : World}
theorem ex_move {x : Operand} {v : Value} (ho : o.op = .move x) (hx : a.eval x = v) : (execOp a.eval o).run P w = .ok (.value v) w := by
  subst hx
  unfold execOp
  simp only [ho, Sem.run_pure]
theorem ex_nil {x : Operand} {ad : Addr} (ho : o.op = .nilCheck x) (hx : a.eval x = .pointer (some ad)) : (execOp a.eval o).run P w = .ok (.value (.pointer (some ad))) w := by
  unfold execOp
  simp only [ho, hx, Sem.run_pure]
theorem ex_field {s : TypeId} {x : Operand} {f : Nat} {v u : Value} (ho : o.op = .fieldAddr s x f) (hx : a.eval x = u) (hr : (Instr.fieldAt s u f).run P w = .ok v w) : (execOp a.eval o).run P w = .ok (.value v) w := by
  unfold execOp
  simp only [ho, hx, hr, Sem.run_bind, Sem.run_pure, Result.andThen_ok]
theorem ex_index {s : TypeId} {x y : Operand} {v u z : Value} (ho : o.op = .indexAddr s x y) (hx : a.eval x = u) (hy : a.eval y = z) (hr : (Instr.indexAt s u z).run P w = .ok v w) : (execOp a.eval o).run P w = .ok (.value v) w := by
  unfold execOp
  simp only [ho, hx, hy, hr, Sem.run_bind, Sem.run_pure, Result.andThen_ok]
theorem ex_load {t : TypeId} {x : Operand} {u v : Value} (ho : o.op = .load t x) (hx : a.eval x = u) (hr : (Instr.loadAt t u).run P w = .ok v w) : (execOp a.eval o).run P w = .ok (.value v) w := by
  unfold execOp
  simp only [ho, hx, hr, Sem.run_bind, Sem.run_pure, Result.andThen_ok]
theorem ex_store {t : TypeId} {x y : Operand} {u v : Value} {w' : World} (ho : o.op = .store t x y) (hx : a.eval x = u) (hy : a.eval y = v) (hr : (Instr.storeAt t u v).run P w = .ok () w') : (execOp a.eval o).run P w = .ok .skip w' := by
  unfold execOp
  simp only [ho, hx, hy, hr, Sem.run_bind, Sem.run_pure, Result.andThen_ok]
theorem ex_build {t e : TypeId} {z : Value} {bytes : Nat} {x : Operand} {u : Value} (ho : o.op = .buildSlice t 1 #[(0, x)]) (ht : P.underlying t = some (.slice e)) (hi : (P.info? e).map (fun i => (i.zero, i.size, i.bytes)) = some (some z, 1, bytes)) (hx : a.eval x = u) (hu : u.cells = #[u]) :
    (execOp a.eval o).run P w = .ok (.value (.slice (some ⟨w.heap.size, 0, none⟩) 1 1)) (w.alloc (.cells #[u] e)) := by
  have hr := run_build_one (P := P) ht hi w u hu
  unfold execOp
  simp only [ho, List.map_toArray, List.map_cons, List.map_nil, hx, hr, Sem.run_bind, Sem.run_pure, Result.andThen_ok]
theorem ex_assign {x : Operand} {v : Value} (ho : o.op = .assign x) (hx : a.eval x = v) : (execOp a.eval o).run P w = .ok (.value v) w := by
  subst hx
  unfold execOp
  simp only [ho, Sem.run_pure]
theorem ex_convert {s d : TypeId} {x : Operand} {u v : Value} {w' : World} (ho : o.op = .convert s d x) (hx : a.eval x = u) (hr : (convert s d u).run P w = .ok v w') : (execOp a.eval o).run P w = .ok (.value v) w' := by
  unfold execOp
  simp only [ho, hx, hr, Sem.run_bind, Sem.run_pure, Result.andThen_ok]
theorem ex_bin {op : BinOp} {t t2 : TypeId} {x y : Operand} {u v r : Value} (ho : o.op = .binOp op t x y t2) (hx : a.eval x = u) (hy : a.eval y = v) (hr : (do eqGuard op t x y u v; binOp op t u v : Sem Value).run P w = .ok r w) : (execOp a.eval o).run P w = .ok (.value r) w := by
  unfold execOp
  simp only [ho, hx, hy, Sem.run_bind, Sem.run_pure] at hr ⊢
  rw [hr]
  rfl
theorem ex_un {op : UnOp} {t : TypeId} {x : Operand} {u r : Value} (ho : o.op = .unOp op t x) (hx : a.eval x = u) (hr : (Op.unary op u).run P w = .ok r w) : (execOp a.eval o).run P w = .ok (.value r) w := by
  unfold execOp
  simp only [ho, hx, hr, Sem.run_bind, Sem.run_pure, Result.andThen_ok]
theorem ex_pick {c x y : Operand} {b : Bool} {u : Value} (ho : o.op = .pick c x y) (hc : a.eval c = .bool b) (hx : (if b then a.eval x else a.eval y) = u) : (execOp a.eval o).run P w = .ok (.value u) w := by
  subst hx
  unfold execOp
  simp [ho, hc, asBool, Sem.run_pure]
theorem ex_slice {t : TypeId} {x : Operand} {lo hi mx : Option Operand} {v : Value} (ho : o.op = .slice t x lo hi mx) (hr : (Instr.sliceAt t (a.eval x) (lo.map a.eval) (hi.map a.eval) (mx.map a.eval)).run P w = .ok v w) : (execOp a.eval o).run P w = .ok (.value v) w := by
  unfold execOp
  simp only [ho, hr, Sem.run_bind, Sem.run_pure, Result.andThen_ok]
theorem map1 {x : Operand} {u : Value} (h : a.eval x = u) : #[x].map a.eval = #[u] := by rw [List.map_toArray, List.map_cons, List.map_nil, h]
theorem map1c {x : Operand} {u : Value} (h : a.eval x = u) : #[x].map a.eval ++ #[] = #[u] := by rw [map1 h]; rfl
theorem map2c {x y : Operand} {u v : Value} (h : a.eval x = u) (h2 : a.eval y = v) : #[x, y].map a.eval ++ #[] = #[u, v] := by simp [h, h2]
theorem map3c {x y z : Operand} {u v s : Value} (h : a.eval x = u) (h2 : a.eval y = v) (h3 : a.eval z = s) : #[x, y, z].map a.eval ++ #[] = #[u, v, s] := by simp [h, h2, h3]
theorem map4c {x y z x2 : Operand} {u v s r : Value} (h : a.eval x = u) (h2 : a.eval y = v) (h3 : a.eval z = s) (h4 : a.eval x2 = r) : #[x, y, z, x2].map a.eval ++ #[] = #[u, v, s, r] := by simp [h, h2, h3, h4]
theorem ex_call {f : Operand} {k : FuncId} {args : Array Operand} {ts : Array TypeId} {cap vs : Array Value} (ho : o.op = .call { callee := .value f, args := args, argTypes := ts }) (hf : a.eval f = .func (.func k) #[] cap) (ha : args.map a.eval ++ cap = vs) (he : (callFunc k vs).run P w = .ok (.enter k vs) w) : (execOp a.eval o).run P w = .ok (.enter k vs) w := by
  subst ha
  unfold execOp
  simp only [ho, resolve, hf, Deferred.ofValue, invoke, Sem.run_bind, Sem.run_pure, Result.andThen_ok, Array.empty_append, he]
/-- 'append(row, x)' onto a row of the call's own, x laid in a row of one cell. -/
theorem ex_append {w0 : World} {L : List LRow} (t e : TypeId) {s x : Operand} (ho : o.op = .call { callee := .builtin .append, args := #[s, x], argTypes := #[t, t] })
    {z : Value} {bytes : Nat} (ht : P.underlying t = some (.slice e)) (hi : (P.info? e).map (fun i => (i.zero, i.size, i.bytes)) = some (some z, 1, bytes)) (hzs : z.cells.size = 1)
    (h : Owns w0 w L) (i : Nat) {v : Value} {n : Nat} {xs : List Value} (hL : L[i]? = some ⟨v, e, 1, n, xs⟩) (hs : a.eval s = v) {g0 : Nat} {u : Value}
    (hx : a.eval x = .slice (some ⟨g0, 0, none⟩) 1 1) (hu : w.cell? ⟨g0, 0, none⟩ = some u) (h1 : u.oneCell' = true) (hm : n < 1000000000000) (hb : bytes ≤ 100) :
    ∃ g cap w', (execOp a.eval o).run P w = .ok (.value (.slice (some ⟨g, 0, none⟩) (n + 1) cap)) w' ∧ Owns w0 w' (L.set i ⟨.slice (some ⟨g, 0, none⟩) (n + 1) cap, e, 1, n + 1, xs ++ [u]⟩) := by
  have hbb : (n + 1) * bytes ≤ (n + 1) * 100 := Nat.mul_le_mul_left _ hb
  obtain ⟨g, cap, w', hr, h2, _, h3⟩ := run_append_owns (P := P) t o.type e ht hi hzs (by decide) h i hL ⟨g0, 0, none⟩ 1 1 [u] rfl (fun j y hj => by
    match j, hj with
    | 0, hj => simp at hj; subst hj; exact hu) (fun y hy => by simp at hy; subst hy; exact h1) (by decide) (by unfold maxLen; omega) (by omega)
  refine ⟨g, cap, w', ?_, h2⟩
  unfold execOp
  simp only [ho, resolve, invoke, builtin, Sem.run_bind, Sem.run_pure, Result.andThen_ok, List.map_toArray, List.map_cons, List.map_nil, hs, hx, hr]
theorem wpOp_append {ops : Array Oper} {Q : Exit → Act → World → Prop} {K : Act → World → Prop} {w0 : World} {L : List LRow} {i0 : Nat} (hi0 : ops[i0]? = some o) (hg : o.guard = none) (t e : TypeId) {s x : Operand} (ho : o.op = .call { callee := .builtin .append, args := #[s, x], argTypes := #[t, t] })
    {z : Value} {bytes : Nat} (ht : P.underlying t = some (.slice e)) (hi : (P.info? e).map (fun i => (i.zero, i.size, i.bytes)) = some (some z, 1, bytes)) (hzs : z.cells.size = 1)
    (h : Owns w0 w L) (i : Nat) {v : Value} {n : Nat} {xs : List Value} (hL : L[i]? = some ⟨v, e, 1, n, xs⟩) (hs : a.eval s = v) {g0 : Nat} {u : Value}
    (hx : a.eval x = .slice (some ⟨g0, 0, none⟩) 1 1) (hu : w.cell? ⟨g0, 0, none⟩ = some u) (h1 : u.oneCell' = true) (hm : n < 1000000000000) (hb : bytes ≤ 100)
    (hK : ∀ g cap w', Owns w0 w' (L.set i ⟨.slice (some ⟨g, 0, none⟩) (n + 1) cap, e, 1, n + 1, xs ++ [u]⟩) → K (a.put o.dst (.slice (some ⟨g, 0, none⟩) (n + 1) cap)) w') : wpOp P ops Q i0 K a w := by
  obtain ⟨g, cap, w', hr, h2⟩ := ex_append (P := P) t e ho ht hi hzs h i hL hs hx hu h1 hm hb
  exact wpOp_value hi0 hg hr (hK g cap w' h2)
theorem wanted_at {ops : Array Oper} {o : Oper} {a : Act} {g t : Nat} {b want : Bool} (hg : o.guard = some (g, want)) (hd : (ops[g]?).bind (·.dst) = some t) (he : a.eval (.tmp t) = .bool b) : Region.wanted o (yielded ops a.tmps) = (b == want) := by
  have ht : a.tmps[t]? = some (.bool b) := by
    simp only [Act.eval, Array.getD_eq_getD_getElem?] at he
    cases h : a.tmps[t]? with
    | none => rw [h] at he; cases he
    | some v => rw [h] at he; simp at he; rw [he]
  unfold Region.wanted yielded
  rw [hg]
  dsimp only
  rw [hd]
  simp [ht]
theorem wpOp_val {ops : Array Oper} {Q : Exit → Act → World → Prop} {i : Nat} {w' : World} {K : Act → World → Prop} {v : Value} (hi : ops[i]? = some o) (hw : Region.wanted o (yielded ops a.tmps) = true) (hr : (execOp a.eval o).run P w = .ok (.value v) w') (hK : K (a.put o.dst v) w') : wpOp P ops Q i K a w := by
  unfold wpOp
  simp only [hi, hw, if_true, Oper.wp, hr, Oper.upon]
  exact .inl hK
theorem wpOp_callw {ops : Array Oper} {Q : Exit → Act → World → Prop} {i : Nat} {w1 : World} {K : Act → World → Prop} {f : FuncId} {args : Array Value} {R : Value → World → Prop} (hi : ops[i]? = some o) (hw : Region.wanted o (yielded ops a.tmps) = true) (hr : (execOp a.eval o).run P w = .ok (.enter f args) w1)
    (h : Calls P f args w1 fun e w' => ∃ v, e = .returned v ∧ R v w') (hK : ∀ v w', R v w' → K (a.put o.dst v) w') : wpOp P ops Q i K a w := by
  unfold wpOp
  simp only [hi, hw, if_true, Oper.wp, hr, Oper.upon]
  refine .inl (h.mono ?_)
  rintro e w' ⟨v, rfl, hv⟩
  exact hK v w' hv
theorem wpOp_off {ops : Array Oper} {Q : Exit → Act → World → Prop} {i : Nat} {K : Act → World → Prop} (hi : ops[i]? = some o) (hw : Region.wanted o (yielded ops a.tmps) = false) (hK : K (a.put o.dst undef) w) : wpOp P ops Q i K a w := by
  unfold wpOp
  simp only [hi, hw]
  exact hK
end
/-- A post that a region meets at its end, and nowhere else. -/
def AtEnd (R : Act → World → Prop) : Exit → Act → World → Prop
  | .normal, a, w => R a w
  | _, _, _ => False
theorem wp_atEnd {P : Program} {c : Code} {K : Act → World → Prop} {Q : Exit → Act → World → Prop} {a : Act} {w : World} (h : Code.wp P c (AtEnd K) a w) : Code.wp P c (Exit.then K Q) a w :=
  Code.wp_mono (fun e a w hr => by
    cases e with
    | normal => exact hr
    | _ => exact (hr : False).elim) h
/-- A region of a function's text, by its number. -/
def regionOf (n : Nat) : Code → Option Code
  | .region id ops b => if id == n then some (.region id ops b) else none
  | .seq a b => match regionOf n a with
    | some c => some c
    | none => regionOf n b
  | .loop c => regionOf n c
  | .rangeFunc _ _ a b => match regionOf n a with
    | some c => some c
    | none => regionOf n b
  | .block _ c => regionOf n c
  | .scope c => regionOf n c
  | .cond _ a b => match regionOf n a with
    | some c => some c
    | none => regionOf n b
  | _ => none
/-- WHAT THE OPERATIONS THAT ARE DONE HAVE YIELDED: vals, in the slots dsts; other slots are as they were. -/
structure Inv (dsts : List (Option Nat)) (vals : List Value) (a0 : Act) (L : Nat → Bool) (a : Act) : Prop where
  size : a.tmps.size = a0.tmps.size
  defers : a.defers = a0.defers
  fixed : ∀ t, (dsts.contains (some t)) = false → a.eval (.tmp t) = a0.eval (.tmp t)
  vals : ∀ (i d : Nat) (v : Value), dsts[i]? = some (some d) → vals[i]? = some v → L i = true → a.eval (.tmp d) = v
def apartD (dsts : List (Option Nat)) : Bool := (List.range dsts.length).all fun i => (List.range dsts.length).all fun j => i == j || dsts.getD i none == none || dsts.getD i none != dsts.getD j none
theorem apartD_spec {dsts : List (Option Nat)} (h : apartD dsts = true) {i j d : Nat} (hi : dsts[i]? = some (some d)) (hj : dsts[j]? = some (some d)) : i = j := by
  have h1 := (List.getElem?_eq_some_iff.1 hi).1
  have h2 := (List.getElem?_eq_some_iff.1 hj).1
  have h3 := List.all_eq_true.1 (List.all_eq_true.1 h i (by simpa using h1)) j (by simpa using h2)
  rw [List.getD_eq_getElem?_getD, List.getD_eq_getElem?_getD, hi, hj] at h3
  simpa using h3
theorem eval_put_same {a : Act} {d : Nat} {v : Value} (h : d < a.tmps.size) : (a.put (some d) v).eval (.tmp d) = v := by
  simp [Act.eval, Act.put, Array.getElem?_setIfInBounds_self_of_lt h]
theorem eval_put_ne {a : Act} {d t : Nat} {v : Value} (h : t ≠ d) : (a.put (some d) v).eval (.tmp t) = a.eval (.tmp t) := by
  simp [Act.eval, Act.put, Array.getElem?_setIfInBounds_ne (Ne.symm h)]
theorem Inv.start {dsts : List (Option Nat)} {vals : List Value} {a0 : Act} : Inv dsts vals a0 (fun _ => false) a0 := ⟨rfl, rfl, fun _ _ => rfl, fun _ _ _ _ _ h => by cases h⟩
theorem Inv.get {dsts : List (Option Nat)} {vals : List Value} {a0 a : Act} {L : Nat → Bool} (h : Inv dsts vals a0 L a) (i : Nat) {d : Nat} {v : Value} (hd : dsts[i]? = some (some d)) (hv : vals[i]? = some v) (hL : L i = true) : a.eval (.tmp d) = v := h.vals i d v hd hv hL
theorem Inv.put {dsts : List (Option Nat)} {vals : List Value} {a0 a : Act} {L : Nat → Bool} (h : Inv dsts vals a0 L a) (hap : apartD dsts = true) (i : Nat) {d : Nat} {v : Value} (hd : dsts[i]? = some (some d)) (hds : d < a0.tmps.size) (hi : i < vals.length) {vals' : List Value} (hv : vals' = vals.set i v) : Inv dsts vals' a0 (upd L i) (a.put (some d) v) := by
  subst hv
  have hsz : d < a.tmps.size := by rw [h.size]; exact hds
  have hmem : dsts.contains (some d) = true := by
    rw [List.contains_iff_mem]
    exact List.mem_of_getElem? hd
  refine ⟨by simp [Act.put, h.size], by simp [Act.put, h.defers], fun t ht => ?_, fun j d' v' hj hv' hL => ?_⟩
  · have hne : t ≠ d := by
      rintro rfl
      rw [hmem] at ht
      cases ht
    rw [eval_put_ne hne]
    exact h.fixed t ht
  · by_cases hji : j = i
    · subst hji
      rw [hd] at hj
      injection hj with hj
      injection hj with hj
      subst hj
      rw [List.getElem?_set_self hi] at hv'
      injection hv' with hv'
      rw [eval_put_same hsz, hv']
    · have hne : d' ≠ d := by
        rintro rfl
        exact hji (apartD_spec hap hj hd)
      rw [eval_put_ne hne]
      rw [List.getElem?_set_ne (Ne.symm hji)] at hv'
      unfold upd at hL
      rw [if_neg hji] at hL
      exact h.vals j d' v' hj hv' hL
theorem Inv.reset {dsts : List (Option Nat)} {vals : List Value} {a0 a : Act} {L : Nat → Bool} (h : Inv dsts vals a0 L a) (i : Nat) (hL : L i = false) (v : Value) : Inv dsts (vals.set i v) a0 L a :=
  ⟨h.size, h.defers, h.fixed, fun j d v' hj hv' hLj => by
    have hji : j ≠ i := by
      rintro rfl
      rw [hL] at hLj
      cases hLj
    rw [List.getElem?_set_ne (Ne.symm hji)] at hv'
    exact h.vals j d v' hj hv' hLj⟩
theorem Inv.skip {dsts : List (Option Nat)} {vals : List Value} {a0 a : Act} {L : Nat → Bool} (h : Inv dsts vals a0 L a) (i : Nat) (hd : dsts[i]? = some none) : Inv dsts vals a0 (upd L i) a := by
  refine ⟨h.size, h.defers, h.fixed, fun j d' v' hj hv' hL => ?_⟩
  unfold upd at hL
  split at hL
  · rename_i he
    subst he
    rw [hd] at hj
    injection hj with hj
    cases hj
  · exact h.vals j d' v' hj hv' hL
/-- A frame, out of its slots' values. -/
theorem act_lit (a : Act) : a = ⟨((List.range a.tmps.size).map fun t => a.eval (.tmp t)).toArray, a.defers⟩ := by
  obtain ⟨t, d⟩ := a
  congr 1
  apply Array.ext
  · simp
  · intro i h1 h2
    simp [Act.eval, Array.getElem?_eq_getElem h1]
theorem act_n {a a0 : Act} {n : Nat} {g : (Nat → Value) → Array Value} (hl : ∀ f, ((List.range n).map f).toArray = g f) (hs : a.tmps.size = a0.tmps.size) (hd : a.defers = a0.defers) (hn : a0.tmps.size = n) : a = ⟨g fun t => a.eval (.tmp t), a0.defers⟩ := by
  have ha := act_lit a
  rw [hs, hd, hn, hl] at ha
  exact ha
set_option maxRecDepth 1000000 in
theorem rl20 (f : Nat → Value) : ((List.range 20).map f).toArray = #[f 0, f 1, f 2, f 3, f 4, f 5, f 6, f 7, f 8, f 9, f 10, f 11, f 12, f 13, f 14, f 15, f 16, f 17, f 18, f 19] := rfl
set_option maxRecDepth 1000000 in
theorem rl27 (f : Nat → Value) : ((List.range 27).map f).toArray = #[f 0, f 1, f 2, f 3, f 4, f 5, f 6, f 7, f 8, f 9, f 10, f 11, f 12, f 13, f 14, f 15, f 16, f 17, f 18, f 19, f 20, f 21, f 22, f 23, f 24, f 25, f 26] := rfl
set_option maxRecDepth 1000000 in
theorem rl40 (f : Nat → Value) : ((List.range 40).map f).toArray = #[f 0, f 1, f 2, f 3, f 4, f 5, f 6, f 7, f 8, f 9, f 10, f 11, f 12, f 13, f 14, f 15, f 16, f 17, f 18, f 19, f 20, f 21, f 22, f 23, f 24, f 25, f 26, f 27, f 28, f 29, f 30, f 31, f 32, f 33, f 34, f 35, f 36, f 37, f 38, f 39] := rfl
set_option maxRecDepth 1000000 in
theorem rl41 (f : Nat → Value) : ((List.range 41).map f).toArray = #[f 0, f 1, f 2, f 3, f 4, f 5, f 6, f 7, f 8, f 9, f 10, f 11, f 12, f 13, f 14, f 15, f 16, f 17, f 18, f 19, f 20, f 21, f 22, f 23, f 24, f 25, f 26, f 27, f 28, f 29, f 30, f 31, f 32, f 33, f 34, f 35, f 36, f 37, f 38, f 39, f 40] := rfl
set_option maxRecDepth 1000000 in
theorem rl44 (f : Nat → Value) : ((List.range 44).map f).toArray = #[f 0, f 1, f 2, f 3, f 4, f 5, f 6, f 7, f 8, f 9, f 10, f 11, f 12, f 13, f 14, f 15, f 16, f 17, f 18, f 19, f 20, f 21, f 22, f 23, f 24, f 25, f 26, f 27, f 28, f 29, f 30, f 31, f 32, f 33, f 34, f 35, f 36, f 37, f 38, f 39, f 40, f 41, f 42, f 43] := rfl
set_option maxRecDepth 1000000 in
theorem rl50 (f : Nat → Value) : ((List.range 50).map f).toArray = #[f 0, f 1, f 2, f 3, f 4, f 5, f 6, f 7, f 8, f 9, f 10, f 11, f 12, f 13, f 14, f 15, f 16, f 17, f 18, f 19, f 20, f 21, f 22, f 23, f 24, f 25, f 26, f 27, f 28, f 29, f 30, f 31, f 32, f 33, f 34, f 35, f 36, f 37, f 38, f 39, f 40, f 41, f 42, f 43, f 44, f 45, f 46, f 47, f 48, f 49] := rfl
set_option maxRecDepth 1000000 in
theorem rl52 (f : Nat → Value) : ((List.range 52).map f).toArray = #[f 0, f 1, f 2, f 3, f 4, f 5, f 6, f 7, f 8, f 9, f 10, f 11, f 12, f 13, f 14, f 15, f 16, f 17, f 18, f 19, f 20, f 21, f 22, f 23, f 24, f 25, f 26, f 27, f 28, f 29, f 30, f 31, f 32, f 33, f 34, f 35, f 36, f 37, f 38, f 39, f 40, f 41, f 42, f 43, f 44, f 45, f 46, f 47, f 48, f 49, f 50, f 51] := rfl
set_option maxRecDepth 1000000 in
theorem rl55 (f : Nat → Value) : ((List.range 55).map f).toArray = #[f 0, f 1, f 2, f 3, f 4, f 5, f 6, f 7, f 8, f 9, f 10, f 11, f 12, f 13, f 14, f 15, f 16, f 17, f 18, f 19, f 20, f 21, f 22, f 23, f 24, f 25, f 26, f 27, f 28, f 29, f 30, f 31, f 32, f 33, f 34, f 35, f 36, f 37, f 38, f 39, f 40, f 41, f 42, f 43, f 44, f 45, f 46, f 47, f 48, f 49, f 50, f 51, f 52, f 53, f 54] := rfl
set_option maxRecDepth 1000000 in
theorem rl64 (f : Nat → Value) : ((List.range 64).map f).toArray = #[f 0, f 1, f 2, f 3, f 4, f 5, f 6, f 7, f 8, f 9, f 10, f 11, f 12, f 13, f 14, f 15, f 16, f 17, f 18, f 19, f 20, f 21, f 22, f 23, f 24, f 25, f 26, f 27, f 28, f 29, f 30, f 31, f 32, f 33, f 34, f 35, f 36, f 37, f 38, f 39, f 40, f 41, f 42, f 43, f 44, f 45, f 46, f 47, f 48, f 49, f 50, f 51, f 52, f 53, f 54, f 55, f 56, f 57, f 58, f 59, f 60, f 61, f 62, f 63] := rfl
set_option maxRecDepth 1000000 in
theorem rl65 (f : Nat → Value) : ((List.range 65).map f).toArray = #[f 0, f 1, f 2, f 3, f 4, f 5, f 6, f 7, f 8, f 9, f 10, f 11, f 12, f 13, f 14, f 15, f 16, f 17, f 18, f 19, f 20, f 21, f 22, f 23, f 24, f 25, f 26, f 27, f 28, f 29, f 30, f 31, f 32, f 33, f 34, f 35, f 36, f 37, f 38, f 39, f 40, f 41, f 42, f 43, f 44, f 45, f 46, f 47, f 48, f 49, f 50, f 51, f 52, f 53, f 54, f 55, f 56, f 57, f 58, f 59, f 60, f 61, f 62, f 63, f 64] := rfl
set_option maxRecDepth 1000000 in
theorem rl70 (f : Nat → Value) : ((List.range 70).map f).toArray = #[f 0, f 1, f 2, f 3, f 4, f 5, f 6, f 7, f 8, f 9, f 10, f 11, f 12, f 13, f 14, f 15, f 16, f 17, f 18, f 19, f 20, f 21, f 22, f 23, f 24, f 25, f 26, f 27, f 28, f 29, f 30, f 31, f 32, f 33, f 34, f 35, f 36, f 37, f 38, f 39, f 40, f 41, f 42, f 43, f 44, f 45, f 46, f 47, f 48, f 49, f 50, f 51, f 52, f 53, f 54, f 55, f 56, f 57, f 58, f 59, f 60, f 61, f 62, f 63, f 64, f 65, f 66, f 67, f 68, f 69] := rfl
set_option maxRecDepth 1000000 in
theorem rl71 (f : Nat → Value) : ((List.range 71).map f).toArray = #[f 0, f 1, f 2, f 3, f 4, f 5, f 6, f 7, f 8, f 9, f 10, f 11, f 12, f 13, f 14, f 15, f 16, f 17, f 18, f 19, f 20, f 21, f 22, f 23, f 24, f 25, f 26, f 27, f 28, f 29, f 30, f 31, f 32, f 33, f 34, f 35, f 36, f 37, f 38, f 39, f 40, f 41, f 42, f 43, f 44, f 45, f 46, f 47, f 48, f 49, f 50, f 51, f 52, f 53, f 54, f 55, f 56, f 57, f 58, f 59, f 60, f 61, f 62, f 63, f 64, f 65, f 66, f 67, f 68, f 69, f 70] := rfl
set_option maxRecDepth 1000000 in
theorem rl74 (f : Nat → Value) : ((List.range 74).map f).toArray = #[f 0, f 1, f 2, f 3, f 4, f 5, f 6, f 7, f 8, f 9, f 10, f 11, f 12, f 13, f 14, f 15, f 16, f 17, f 18, f 19, f 20, f 21, f 22, f 23, f 24, f 25, f 26, f 27, f 28, f 29, f 30, f 31, f 32, f 33, f 34, f 35, f 36, f 37, f 38, f 39, f 40, f 41, f 42, f 43, f 44, f 45, f 46, f 47, f 48, f 49, f 50, f 51, f 52, f 53, f 54, f 55, f 56, f 57, f 58, f 59, f 60, f 61, f 62, f 63, f 64, f 65, f 66, f 67, f 68, f 69, f 70, f 71, f 72, f 73] := rfl
set_option maxRecDepth 1000000 in
theorem rl78 (f : Nat → Value) : ((List.range 78).map f).toArray = #[f 0, f 1, f 2, f 3, f 4, f 5, f 6, f 7, f 8, f 9, f 10, f 11, f 12, f 13, f 14, f 15, f 16, f 17, f 18, f 19, f 20, f 21, f 22, f 23, f 24, f 25, f 26, f 27, f 28, f 29, f 30, f 31, f 32, f 33, f 34, f 35, f 36, f 37, f 38, f 39, f 40, f 41, f 42, f 43, f 44, f 45, f 46, f 47, f 48, f 49, f 50, f 51, f 52, f 53, f 54, f 55, f 56, f 57, f 58, f 59, f 60, f 61, f 62, f 63, f 64, f 65, f 66, f 67, f 68, f 69, f 70, f 71, f 72, f 73, f 74, f 75, f 76, f 77] := rfl
set_option maxRecDepth 1000000 in
theorem rl89 (f : Nat → Value) : ((List.range 89).map f).toArray = #[f 0, f 1, f 2, f 3, f 4, f 5, f 6, f 7, f 8, f 9, f 10, f 11, f 12, f 13, f 14, f 15, f 16, f 17, f 18, f 19, f 20, f 21, f 22, f 23, f 24, f 25, f 26, f 27, f 28, f 29, f 30, f 31, f 32, f 33, f 34, f 35, f 36, f 37, f 38, f 39, f 40, f 41, f 42, f 43, f 44, f 45, f 46, f 47, f 48, f 49, f 50, f 51, f 52, f 53, f 54, f 55, f 56, f 57, f 58, f 59, f 60, f 61, f 62, f 63, f 64, f 65, f 66, f 67, f 68, f 69, f 70, f 71, f 72, f 73, f 74, f 75, f 76, f 77, f 78, f 79, f 80, f 81, f 82, f 83, f 84, f 85, f 86, f 87, f 88] := rfl
set_option maxRecDepth 1000000 in
theorem rl112 (f : Nat → Value) : ((List.range 112).map f).toArray = #[f 0, f 1, f 2, f 3, f 4, f 5, f 6, f 7, f 8, f 9, f 10, f 11, f 12, f 13, f 14, f 15, f 16, f 17, f 18, f 19, f 20, f 21, f 22, f 23, f 24, f 25, f 26, f 27, f 28, f 29, f 30, f 31, f 32, f 33, f 34, f 35, f 36, f 37, f 38, f 39, f 40, f 41, f 42, f 43, f 44, f 45, f 46, f 47, f 48, f 49, f 50, f 51, f 52, f 53, f 54, f 55, f 56, f 57, f 58, f 59, f 60, f 61, f 62, f 63, f 64, f 65, f 66, f 67, f 68, f 69, f 70, f 71, f 72, f 73, f 74, f 75, f 76, f 77, f 78, f 79, f 80, f 81, f 82, f 83, f 84, f 85, f 86, f 87, f 88, f 89, f 90, f 91, f 92, f 93, f 94, f 95, f 96, f 97, f 98, f 99, f 100, f 101, f 102, f 103, f 104, f 105, f 106, f 107, f 108, f 109, f 110, f 111] := rfl
set_option maxRecDepth 1000000 in
theorem rl181 (f : Nat → Value) : ((List.range 181).map f).toArray = #[f 0, f 1, f 2, f 3, f 4, f 5, f 6, f 7, f 8, f 9, f 10, f 11, f 12, f 13, f 14, f 15, f 16, f 17, f 18, f 19, f 20, f 21, f 22, f 23, f 24, f 25, f 26, f 27, f 28, f 29, f 30, f 31, f 32, f 33, f 34, f 35, f 36, f 37, f 38, f 39, f 40, f 41, f 42, f 43, f 44, f 45, f 46, f 47, f 48, f 49, f 50, f 51, f 52, f 53, f 54, f 55, f 56, f 57, f 58, f 59, f 60, f 61, f 62, f 63, f 64, f 65, f 66, f 67, f 68, f 69, f 70, f 71, f 72, f 73, f 74, f 75, f 76, f 77, f 78, f 79, f 80, f 81, f 82, f 83, f 84, f 85, f 86, f 87, f 88, f 89, f 90, f 91, f 92, f 93, f 94, f 95, f 96, f 97, f 98, f 99, f 100, f 101, f 102, f 103, f 104, f 105, f 106, f 107, f 108, f 109, f 110, f 111, f 112, f 113, f 114, f 115, f 116, f 117, f 118, f 119, f 120, f 121, f 122, f 123, f 124, f 125, f 126, f 127, f 128, f 129, f 130, f 131, f 132, f 133, f 134, f 135, f 136, f 137, f 138, f 139, f 140, f 141, f 142, f 143, f 144, f 145, f 146, f 147, f 148, f 149, f 150, f 151, f 152, f 153, f 154, f 155, f 156, f 157, f 158, f 159, f 160, f 161, f 162, f 163, f 164, f 165, f 166, f 167, f 168, f 169, f 170, f 171, f 172, f 173, f 174, f 175, f 176, f 177, f 178, f 179, f 180] := rfl
end Go.Proofs.YtggfkpalkdkbdaaDoor

/- A REGION THAT DRAWS ITS ORDER, by an invariant (XInv), inside a fence: in the body of a range over a function. -/
namespace Go.Proofs.YtggfkpalkdkbdaaDoor
open Go.RowKit Go.Shelf
section
variable {F : Fence} {n : Nat} {P : Program} {ops : Array Oper} {Q : Exit → Act → World → Prop} {md : Region.Mode}
theorem wpAnyIn_inv (I : Array Bool → Act → World → Prop)
    (hstep : ∀ listed a w i, I listed a w → i ∈ Region.ready md ops listed → wpOpIn F n P ops Q i (I (listed.setIfInBounds i true)) a w)
    (hend : ∀ listed a w, I listed a w → Region.ready md ops listed = [] → Q .normal a w) :
    ∀ (fuel : Nat) (listed : Array Bool) (a : Act) (w : World), undone listed ≤ fuel → I listed a w → wpAnyIn F n P md ops Q fuel listed a w := by
  have hun : ∀ (listed : Array Bool) (i : Nat), i ∈ Region.ready md ops listed → listed.getD i true = false := fun listed i hi => by
    unfold Region.ready at hi
    have := (List.mem_filter.1 hi).2
    simp only [Bool.and_eq_true, Bool.not_eq_true'] at this
    exact this.1
  intro fuel
  induction fuel with
  | zero =>
    intro listed a w hf hI
    have hr : Region.ready md ops listed = [] := by
      cases h : Region.ready md ops listed with
      | nil => rfl
      | cons i r =>
        exfalso
        have := undone_set (hun listed i (by rw [h]; simp))
        omega
    exact ⟨hr, hend _ _ _ hI hr⟩
  | succ fuel ih =>
    intro listed a w hf hI
    refine ⟨fun hr => hend _ _ _ hI hr, fun i hi => ?_⟩
    have h1 := undone_set (hun listed i hi)
    exact wpOpIn_mono (fun a w h => ih _ a w (by omega) h) (hstep _ _ _ _ hI hi)
def StepOkIn (F : Fence) (n : Nat) (P : Program) (ops : Array Oper) (Q : Exit → Act → World → Prop) (deps : List (List Nat)) (I : (Nat → Bool) → Act → World → Prop) (i : Nat) : Prop :=
  ∀ L a w, I L a w → L i = false → Closed deps L → (∀ j ∈ deps.getD i [], L j = true) → wpOpIn F n P ops Q i (I (upd L i)) a w
def StepsIn' (F : Fence) (n : Nat) (P : Program) (ops : Array Oper) (Q : Exit → Act → World → Prop) (deps : List (List Nat)) (I : (Nat → Bool) → Act → World → Prop) : Nat → Nat → Prop
  | _, 0 => True
  | m, k + 1 => StepOkIn F n P ops Q deps I m ∧ StepsIn' F n P ops Q deps I (m + 1) k
theorem StepsIn'.at {deps : List (List Nat)} {I : (Nat → Bool) → Act → World → Prop} : ∀ {k m i : Nat}, StepsIn' F n P ops Q deps I m k → m ≤ i → i < m + k → StepOkIn F n P ops Q deps I i
  | 0, m, i, _, h1, h2 => by omega
  | k + 1, m, i, h, h1, h2 => by
    by_cases he : i = m
    · rw [he]; exact h.1
    · exact StepsIn'.at h.2 (by omega) (by omega)
theorem region_invIn {id : Nat} {a : Act} {w : World} (hm : P.follows .mixedOrders = true) (deps : List (List Nat)) (hdeps : depsOf ops = deps) (ord : List Nat) (ht : topo deps ord [] = true) (ho : ((List.range deps.length).all fun i => ord.contains i) = true) (ho2 : (ord.all fun i => decide (i < deps.length)) = true)
    (I : (Nat → Bool) → Act → World → Prop) (h0 : I (fun _ => false) a { w with drawn := w.drawn + 1 })
    (hs : StepsIn' F n P ops Q deps I 0 deps.length)
    (hend : ∀ L a w, I L a w → (∀ i, i < deps.length → L i = true) → Q .normal a w) : (Code.region id ops true).wpIn F n P Q a w := by
  refine wpIn_region_any hm ?_
  have hlen : deps.length = ops.size := by rw [← hdeps]; simp [depsOf]
  have hdep : ∀ (i : Nat) (o : Oper), ops[i]? = some o → deps.getD i [] = (o.after.toList.filter (Region.binds .any)).map (·.on) := fun i o hi => by
    rw [← hdeps, depsOf, List.getD_eq_getElem?_getD, List.getElem?_map]
    rw [← Array.getElem?_toList] at hi
    rw [hi]
    rfl
  have hun : undone (Array.replicate ops.size false) ≤ ops.size := by
    unfold undone
    have := List.countP_le_length (p := (· == false)) (l := (Array.replicate ops.size false).toList)
    simpa using this
  refine wpAnyIn_inv (fun listed a w => listed.size = ops.size ∧ Closed deps (fun j => listed.getD j false) ∧ I (fun j => listed.getD j false) a w) ?_ ?_ ops.size _ _ _ hun ?_
  · rintro listed a w i ⟨hsz, hc, hI⟩ hi
    obtain ⟨h1, h2, h3⟩ := ready_spec hi
    have hL : listed.getD i false = false := by
      rw [Array.getD_eq_getD_getElem?] at h2 ⊢
      rw [Array.getElem?_eq_getElem (by omega)] at h2 ⊢
      exact h2
    obtain ⟨o, hoi⟩ : ∃ o, ops[i]? = some o := ⟨_, Array.getElem?_eq_getElem h1⟩
    have hd : ∀ j ∈ deps.getD i [], listed.getD j false = true := fun j hj => by
      rw [hdep i o hoi] at hj
      obtain ⟨e, he, rfl⟩ := List.mem_map.1 hj
      exact h3 o hoi e (by simpa using (List.mem_filter.1 he).1) (List.mem_filter.1 he).2
    have hu : (fun j => (listed.setIfInBounds i true).getD j false) = upd (fun j => listed.getD j false) i := by
      funext j
      unfold upd
      by_cases hji : j = i
      · subst hji
        rw [if_pos rfl, Array.getD_eq_getD_getElem?, Array.getElem?_setIfInBounds_self_of_lt (by omega)]
        rfl
      · rw [if_neg hji]
        exact getD_set_ne false (Ne.symm hji)
    have hstep := StepsIn'.at hs (Nat.zero_le i) (by omega) (fun j => listed.getD j false) a w hI hL hc hd
    refine wpOpIn_mono ?_ hstep
    intro a' w' hI'
    refine ⟨by rw [Array.size_setIfInBounds]; exact hsz, ?_, by rw [hu]; exact hI'⟩
    rw [hu]
    intro k hk j hj
    unfold upd at hk ⊢
    by_cases hki : k = i
    · subst hki
      split
      · rfl
      · exact hd j hj
    · rw [if_neg hki] at hk
      split
      · rfl
      · exact hc k hk j hj
  · rintro listed a w ⟨hsz, hc, hI⟩ hr
    refine hend _ a w hI ?_
    have hall : ∀ i, i < deps.length → (∀ j ∈ deps.getD i [], listed.getD j false = true) → listed.getD i false = true := by
      intro i hi hdi
      by_cases hL : listed.getD i false = true
      · exact hL
      · exfalso
        have hmem : i ∈ Region.ready .any ops listed := by
          rw [mem_ready]
          obtain ⟨o, hoi⟩ : ∃ o, ops[i]? = some o := ⟨_, Array.getElem?_eq_getElem (by omega)⟩
          refine ⟨?_, o, hoi, fun e he hbn => hdi e.on (by rw [hdep i o hoi]; exact List.mem_map.2 ⟨e, List.mem_filter.2 ⟨by simpa using he, hbn⟩, rfl⟩)⟩
          rw [Array.getD_eq_getD_getElem?] at hL ⊢
          rw [Array.getElem?_eq_getElem (by omega)] at hL ⊢
          simpa using hL
        rw [hr] at hmem
        cases hmem
    intro i hi
    refine topo_all (L := fun j => listed.getD j false) hall ord [] ht (fun i hi => by simpa using List.all_eq_true.1 ho2 i hi) (fun j hj => by cases hj) i ?_
    have := List.all_eq_true.1 ho i (by simpa using hi)
    simpa using this
  · refine ⟨by simp, fun i hi => ?_, ?_⟩
    · simp [Array.getElem?_replicate] at hi
      split at hi <;> simp at hi
    · have e : (fun j => (Array.replicate ops.size false).getD j false) = fun _ => false := by
        funext j
        simp [Array.getElem?_replicate]
        split <;> simp
      rw [e]
      exact h0
theorem wpIn_atEnd' {c : Code} {Q : Exit → Act → World → Prop} {a : Act} {w : World} (h : Code.wpIn F n P c (AtEnd fun a w => Q .normal a w) a w) : Code.wpIn F n P c Q a w :=
  Code.wpIn_mono (fun e a w hr => by
    cases e with
    | normal => exact hr
    | _ => exact (hr : False).elim) h
theorem wpOpIn_call {i : Nat} {o : Oper} {a : Act} {w w1 : World} {K : Act → World → Prop} {f : FuncId} {args : Array Value} {R : Value → World → Prop} (hF : ∀ f, F.fn f) (hD : F.depth = none) (hi : ops[i]? = some o) (hg : o.guard = none) (hdf : ∀ c, o.op ≠ .defer c) (hr : (execOp a.eval o).run P w = .ok (.enter f args) w1)
    (h : CallsIn F (n - 1) P f args w1 fun e w' => ∃ v, e = .returned v ∧ R v w') (hK : ∀ v w', R v w' → K (a.put o.dst v) w') : wpOpIn F n P ops Q i K a w := by
  have hw : Region.wanted o (yielded ops a.tmps) = true := by simp [Region.wanted, hg]
  unfold wpOpIn
  simp only [hi, hw, if_true, Oper.wpIn, Oper.semAt_plain F _ _ hdf, hr, Oper.uponIn]
  refine ⟨fun f _ => hF f, ⟨fun hh => absurd hh (by rw [hD]; simp), h.mono ?_⟩⟩
  rintro e w' ⟨v, rfl, hv⟩
  exact hK v w' hv
theorem wpOpIn_val {i : Nat} {o : Oper} {a : Act} {w w' : World} {K : Act → World → Prop} {v : Value} (hF : ∀ f, F.fn f) (hi : ops[i]? = some o) (hw : Region.wanted o (yielded ops a.tmps) = true) (hdf : ∀ c, o.op ≠ .defer c) (hr : (execOp a.eval o).run P w = .ok (.value v) w') (hK : K (a.put o.dst v) w') : wpOpIn F n P ops Q i K a w := by
  unfold wpOpIn
  simp only [hi, hw, if_true, Oper.wpIn, Oper.semAt_plain F _ _ hdf, hr, Oper.uponIn]
  exact ⟨fun f _ => hF f, hK⟩
theorem wpOpIn_off {i : Nat} {o : Oper} {a : Act} {w : World} {K : Act → World → Prop} (hF : ∀ f, F.fn f) (hi : ops[i]? = some o) (hw : Region.wanted o (yielded ops a.tmps) = false) (hK : K (a.put o.dst undef) w) : wpOpIn F n P ops Q i K a w := by
  unfold wpOpIn
  simp only [hi, hw]
  exact ⟨fun f _ => hF f, hK⟩
end
end Go.Proofs.YtggfkpalkdkbdaaDoor

/- MARKS: what ranges over functions leave among the deferred calls of a function, each taken up when it returns. -/
namespace Go.Proofs.YtggfkpalkdkbdaaDoor
open Go.RowKit Go.Shelf
/-- Marks whose blocks lie from lo on, below hi, each open. -/
def MarksOk (lo hi : Nat) (w : World) : List Deferred → Prop
  | [] => True
  | d :: ds => (∃ D, d = { target := .collected D, args := #[] } ∧ lo ≤ D ∧ D < hi ∧ w.heap[D]? = some (.deferred (some [])) ∧ ∀ d' ∈ ds, d'.target ≠ .collected D) ∧ MarksOk lo hi w ds
theorem MarksOk.kept {lo hi hi' : Nat} {w w' : World} : ∀ {ds : List Deferred}, MarksOk lo hi w ds → hi ≤ hi' → (∀ D, lo ≤ D → D < hi → w.heap[D]? = some (.deferred (some [])) → w'.heap[D]? = some (.deferred (some []))) → MarksOk lo hi' w' ds
  | [], _, _, _ => trivial
  | d :: ds, ⟨⟨D, h1, h2, h3, h4, h5⟩, h⟩, hh, hk => ⟨⟨D, h1, h2, by omega, hk D h2 h3 h4, h5⟩, MarksOk.kept h hh hk⟩
theorem MarksOk.lt {lo hi : Nat} {w : World} : ∀ {ds : List Deferred}, MarksOk lo hi w ds → ∀ d ∈ ds, ∃ D, d.target = .collected D ∧ D < hi
  | [], _, _, h => by cases h
  | d :: ds, ⟨⟨D, h1, h2, h3, h4, h5⟩, h⟩, e, he => by
    rcases List.mem_cons.1 he with rfl | he
    · exact ⟨D, by rw [h1], h3⟩
    · exact MarksOk.lt h e he
theorem MarksOk.push {lo hi D : Nat} {w w' : World} {ds : List Deferred} (h : MarksOk lo hi w ds) (hk : ∀ D, lo ≤ D → D < hi → w.heap[D]? = some (.deferred (some [])) → w'.heap[D]? = some (.deferred (some []))) (hlo : lo ≤ D) (hD : hi ≤ D) (hw : w'.heap[D]? = some (.deferred (some []))) : MarksOk lo (D + 1) w' ({ target := .collected D, args := #[] } :: ds) :=
  ⟨⟨D, rfl, hlo, by omega, hw, fun d' hd' he => by
    obtain ⟨D', h1, h2⟩ := h.lt d' hd'
    rw [h1] at he
    injection he with he
    omega⟩, h.kept (by omega) hk⟩
theorem MarksOk.ext {lo hi : Nat} {w w' : World} {ds : List Deferred} (h : MarksOk lo hi w ds) (hx : Ext w w') : MarksOk lo hi w' ds := h.kept (Nat.le_refl _) fun _ _ _ hD => hx.heap hD
theorem ownFrom_marks {β : Type} {lo hi B : Nat} {ds : List Deferred} (hB : hi ≤ B) : OwnFrom B (fun (_ : β) W => MarksOk lo hi W ds) :=
  fun _ W W' row hs hg hr => hs.kept (Nat.le_refl _) fun D _ h2 h3 => by
    refine (hg.block D (Array.getElem?_eq_some_iff.1 h3).1 fun e => ?_).trans h3
    have := (hr D e.symm).1
    omega
/-- The function returns: each mark is taken up; nothing below lo turns. -/
theorem leaves_marks {F : Fence} {n lo : Nat} {P : Program} {fn : Func} {tmps : Array Value} {R : Ending → World → Prop} : ∀ {ds : List Deferred} {hi : Nat} {w : World}, MarksOk lo hi w ds →
    (∀ w', Below lo w w' → LeavesIn F n P fn tmps R [] .returning w') → LeavesInM F n P fn tmps R ds .returning w
  | [], _, w, _, hR => hR w (Below.refl _ _)
  | d :: ds, hi, w, ⟨⟨D, h1, h2, h3, h4, h5⟩, h⟩, hR => by
    refine ⟨by simp, .inl ⟨D, _, by rw [h1], run_takeDeferred h4, ?_⟩⟩
    have hlt := (Array.getElem?_eq_some_iff.1 h4).1
    have hb : Below lo w (w.putObj D (.deferred none)) := (Below.refl lo w).grown (grownBy_putObj' w D (.deferred none)) (by omega) (fun k e => by cases e; exact h2)
    have hm : MarksOk lo hi (w.putObj D (.deferred none)) ds := by
      have hne : ∀ d' ∈ ds, d'.target ≠ .collected D := h5
      clear h1 h5 hR
      induction ds with
      | nil => trivial
      | cons e ds ih =>
        obtain ⟨⟨D', g1, g2, g3, g4, g5⟩, g⟩ := h
        refine ⟨⟨D', g1, g2, g3, ?_, g5⟩, ih g fun d' hd' => hne d' (List.mem_cons_of_mem _ hd')⟩
        refine (World.putObj_heap_other (fun he => hne e List.mem_cons_self ?_)).trans g4
        rw [g1, he]
    exact leaves_marks hm fun w' hw' => hR w' (hb.trans hw')
theorem Ext.keepsOthers {W W' : World} (h : Ext W W') : KeepsOthers W W' := ⟨h.size, fun _ _ hk _ => h.heap hk⟩
end Go.Proofs.YtggfkpalkdkbdaaDoor

/- RANGE OVER A FUNCTION WHOSE ELEMENTS LIE IN MEMORY: the iterator says of each element that it reads in the world of its round (V); the body is walked for such elements alone. -/
namespace Go.Proofs.YtggfkpalkdkbdaaDoor
open Go.RowKit
/-- What lies in cells stays. -/
def KeepsC (A B : World) : Prop := ∀ (a : Addr) (v : Value), A.cell? a = some v → B.cell? a = some v
theorem KeepsC.refl (A : World) : KeepsC A A := fun _ _ h => h
theorem KeepsC.trans {A B C : World} (h : KeepsC A B) (k : KeepsC B C) : KeepsC A C := fun a v e => k a v (h a v e)
theorem KeepsC.of_ext {A B : World} (h : Ext A B) : KeepsC A B := fun _ _ e => h.cell e
/-- An iterator that yields elements of which V holds in the world of the round. -/
def SeqV {α : Type} (F : Fence) (n : Nat) (P : Program) (g : Nat) (lb : Array Value) (encs : α → Array Value) (V : α → World → Prop) (G : World → Prop) (Kp : World → World → Prop) (S Sp : List α → Prop) (N : Nat) (w : World) : Prop :=
  ∀ (l : Nat) (J Jx : List α → World → Prop) (W : World), Below w.heap.size w W → AbidesFrom W.heap.size J → (∀ pre W1, J pre W1 → G W1) →
    (∀ pre x W1, J pre W1 → V x W1 → pre.length < N → YieldAt F (n - 1) P l (encs x) W1 fun e W' =>
      (e = .returned (.bool true) ∧ J (pre ++ [x]) W' ∧ Kp W1 W') ∨ (e = .returned (.bool false) ∧ Jx (pre ++ [x]) W')) →
    J [] W →
    CallsIn F n P g (#[.func (.yield l) #[] #[]] ++ lb) W fun e W' => (∃ v, e = .returned v) ∧ ((∃ xs, S xs ∧ J xs W') ∨ (∃ pre, Sp pre ∧ Jx pre W'))
section
variable {F : Fence} {n : Nat} {P : Program}
theorem wpIn_rangeV {α : Type} {g : Operand} {ps : Array Tmp} {assign body : Code} {Q : Exit → Act → World → Prop} {a : Act} {w : World}
    (hro : F.round = none) (h1 : 1 ≤ n) {gf : Nat} {lb : Array Value} (hg : a.eval g = .func (.func gf) #[] lb) (hFg : F.fn gf) (eg : ∀ args w, (callFunc gf args).run P w = .ok (.enter gf args) w)
    {encs : α → Array Value} {V : α → World → Prop} {G : World → Prop} {Kp : World → World → Prop} {S Sp : List α → Prop} {N : Nat} (hseq : SeqV F (n - 1) P gf lb encs V G Kp S Sp N w)
    (hKt : ∀ {A B C : World}, Kp A B → Kp B C → Kp A C) (hKb : ∀ (W : World) (l : Nat) (o o' : Obj), w.heap.size ≤ l → W.heap[l]? = some o → o.isCells = false → Kp W (W.putObj l o'))
    (hV : ∀ (x : α) (W : World) (l : Nat) (o o' : Obj), w.heap.size ≤ l → V x W → W.heap[l]? = some o → o.isCells = false → V x (W.putObj l o')) (hps : ∀ x, (encs x).size = ps.size)
    (I : List α → World → Prop) (Ix : Code → List α → World → Prop) (hG : ∀ pre W, I pre W → G W) (hI : OwnFrom w.heap.size I) (hIx : ∀ c, OwnFrom w.heap.size (Ix c)) (h0 : I [] w) (a₁ : α → Act)
    (hassign : ∀ (l : Nat) (x : α) (W : World) (K : Act → World → Prop), K (a₁ x) W →
      assign.wpIn (F.inRound l) (n - 1 - 1) P (Exit.then K (fun _ _ _ => False)) { tmps := (ps.zip (encs x)).foldl (fun t (p, v) => t.setIfInBounds p v) a.tmps, defers := [] } W)
    (hbody : ∀ (l : Nat) (pre : List α) (x : α) (W : World), I pre W → V x W → pre.length < N → body.wpIn (F.inRound l) (n - 1 - 1) P (ownPostK Kp I Ix (pre ++ [x]) W) (a₁ x) W)
    (hdone : ∀ (D : Nat) (xs : List α) (W : World), w.heap.size ≤ D → S xs → I xs W → W.heap[D]? = some (.deferred (some [])) → Q .normal { a with defers := { target := .collected D, args := #[] } :: a.defers } W)
    (hstop : ∀ (D : Nat) (c : Code) (pre : List α) (W : World), w.heap.size ≤ D → Sp pre → Ix c pre W → W.heap[D]? = some (.deferred (some [])) → c.wpIn F n P Q { a with defers := { target := .collected D, args := #[] } :: a.defers } W) :
    (Code.rangeFunc g ps assign body).wpIn F n P Q a w := by
  refine wpIn_rangeFunc fun fn hfn => ?_
  rw [hro]
  obtain ⟨B, hB⟩ : ∃ B, w.heap.size = B := ⟨_, rfl⟩
  obtain ⟨rec, hrec⟩ : ∃ rec : LoopState → Option Code → Loop, rec = fun st pe => { state := st, pending := pe, fn, tmps := a.tmps, params := ps, assign, body, defers := B } := ⟨_, rfl⟩
  -- the world when the iterator is called: two blocks more
  obtain ⟨W1, hW1⟩ : ∃ W1, (w.alloc (.deferred (some []))).alloc (.loop (rec .ready none)) = W1 := ⟨_, rfl⟩
  have hx1 : Below w.heap.size w W1 := by rw [← hW1]; exact (((Below.refl _ w).alloc (Nat.le_refl _) _).alloc (by simp) _)
  have hs1 : W1.heap.size = B + 2 := by rw [← hW1, ← hB]; simp
  have hL1 : W1.heap[B + 1]? = some (.loop (rec .ready none)) := by
    rw [← hW1, ← hB]; have := World.alloc_heap_new (w.alloc (.deferred (some []))) (.loop (rec .ready none)); rwa [World.size_alloc] at this
  have hD1 : W1.heap[B]? = some (.deferred (some [])) := by
    rw [← hW1, ← hB]; exact (Below.heap_alloc _ _ _ (by simp)).trans (World.alloc_heap_new w _)
  rw [hB] at hI hIx hKb hV hdone hstop
  have hI1 : I [] W1 := by rw [← hW1]; exact hI.alloc _ (hI.alloc _ h0)
  have hgo : (Instr.endLoop (B + 1)).run P = (Instr.endLoop (B + 1)).run P := rfl
  refine ⟨B + 1, [{ target := .collected B, args := #[] }], W1, { target := .fn (.func gf) lb, args := #[.func (.yield (B + 1)) #[] #[]] }, W1, gf,
    #[.func (.yield (B + 1)) #[] #[]] ++ lb, W1, ?_, ?_, ?_, ?_, fun _ => h1, ?_⟩
  · have h := run_enterLoop_outer (P := P) fn a.tmps ps assign body (w := w)
    rw [← hW1, hrec, ← hB]
    exact run_enterLoop_outer _ _ _ _ _
  · simp only [resolve, hg]
    simp [go_sem]
  · intro f' hf'; simp [Target.leads] at hf'; subst hf'; exact hFg
  · simp [invoke, go_sem, eg]
  -- the two facts of the loop's own, beside the caller's
  have walk : ∀ {A A' : World} {row : Option Nat}, A.grownBy A' row → (∀ r, row = some r → W1.heap.size ≤ r ∧ ∃ o : Obj, A.heap[r]? = some o ∧ o.isWalk = true) →
      ∀ (k : Nat) (o : Obj), A.heap[k]? = some o → o.isWalk = false → A'.heap[k]? = some o := fun hg' hr k o hk ho => (grownBy_keeps hg' (fun r e => (hr r e).2) hk ho).trans hk
  have cells : ∀ {A : World} {row : Option Nat}, (∀ r, row = some r → W1.heap.size ≤ r ∧ ∃ o : Obj, A.heap[r]? = some o ∧ o.isWalk = true) → ∀ r, row = some r → B ≤ r ∧ ∃ o : Obj, A.heap[r]? = some o ∧ o.isCells = false := fun hr r e => by
    obtain ⟨h, o, ho, hw⟩ := hr r e
    exact ⟨by omega, o, ho, Obj.not_cells_of_walk hw⟩
  refine (hseq (B + 1) (fun pre W => I pre W ∧ W.heap[B + 1]? = some (.loop (rec .ready none)) ∧ W.heap[B]? = some (.deferred (some [])))
    (fun pre W => ∃ c, Ix c pre W ∧ W.heap[B + 1]? = some (.loop (rec .done (some c))) ∧ W.heap[B]? = some (.deferred (some []))) W1 hx1
    (fun s A A' row hs hg' hr => ⟨hI s A A' row hs.1 hg' (cells hr), walk hg' hr _ _ hs.2.1 rfl, walk hg' hr _ _ hs.2.2 rfl⟩) (fun pre W h => hG pre W h.1) ?_ ⟨hI1, hL1, hD1⟩).mono ?_
  · rintro pre x W ⟨hi, hl, hd⟩ hv hln
    have hlt : B + 1 < W.heap.size := (Array.getElem?_eq_some_iff.1 hl).1
    have hy := run_yield (P := P) (args := encs x) hl (by rw [hrec]; exact hps x)
    rw [hrec] at hy
    obtain ⟨Wb, hWb⟩ : ∃ Wb, W.putObj (B + 1) (.loop { rec .ready none with state := .busy }) = Wb := ⟨_, rfl⟩
    have hlb : Wb.heap[B + 1]? = some (.loop { rec .ready none with state := .busy }) := by rw [← hWb]; exact World.putObj_heap_same hlt
    have hdb : Wb.heap[B]? = some (.deferred (some [])) := by rw [← hWb]; exact (World.putObj_heap_other (by omega)).trans hd
    have hkb : Kp W Wb := by rw [← hWb]; exact hKb _ _ _ _ (by omega) hl rfl
    have hib : I pre Wb := by rw [← hWb]; exact hI.putObj _ hi (by omega) hl rfl
    have hvb : V x Wb := by rw [← hWb]; exact hV _ _ _ _ _ (by omega) hv hl rfl
    refine ⟨fn, _, assign, body, hy, roundIn_of_wpIn hfn (hassign _ x W _ ⟨_, (run_beginRound hl (by rw [hrec])).trans (by rw [hWb]), wpIn_mono (hbody _ pre x Wb hib hvb hln) ?_⟩)⟩
    have fin : ∀ (jump : Option Code) (W3 : World), KeepsOthers Wb W3 →
        (Instr.endRound (B + 1) jump).run P W3 = .ok (.bool jump.isNone) (W3.putObj (B + 1) (.loop (rec (if jump.isNone then .ready else .done) jump))) ∧
        W3.heap[B + 1]? = some (.loop { rec .ready none with state := .busy }) ∧
        (W3.putObj (B + 1) (.loop (rec (if jump.isNone then .ready else .done) jump))).heap[B + 1]? = some (.loop (rec (if jump.isNone then .ready else .done) jump)) ∧
        (W3.putObj (B + 1) (.loop (rec (if jump.isNone then .ready else .done) jump))).heap[B]? = some (.deferred (some [])) := fun jump W3 hk3 => by
      have h3 := hk3.same _ _ hlb rfl
      have hr := run_endRound (P := P) jump h3
      rw [hrec] at hr h3 ⊢
      exact ⟨hr, h3, World.putObj_heap_same (Array.getElem?_eq_some_iff.1 h3).1, (World.putObj_heap_other (by omega)).trans (hk3.same _ _ hdb rfl)⟩
    have out : ∀ (c : Code) (W3 : World), KeepsOthers Wb W3 → Ix c (pre ++ [x]) W3 → ∃ v W4, (Instr.endRound (B + 1) (some c)).run P W3 = .ok v W4 ∧ ((Ending.returned v = .returned (.bool true) ∧ (I (pre ++ [x]) W4 ∧ W4.heap[B + 1]? = some (.loop (rec .ready none)) ∧ W4.heap[B]? = some (.deferred (some []))) ∧ Kp W W4) ∨ (Ending.returned v = .returned (.bool false) ∧ ∃ c, Ix c (pre ++ [x]) W4 ∧ W4.heap[B + 1]? = some (.loop (rec .done (some c))) ∧ W4.heap[B]? = some (.deferred (some [])))) := fun c W3 hk3 hi3 => by
      obtain ⟨hr, h3, h4, h5⟩ := fin (some c) W3 hk3
      exact ⟨_, _, hr, .inr ⟨rfl, c, (hIx c).putObj _ hi3 (by omega) h3 rfl, h4, h5⟩⟩
    rintro e a3 W3 hp
    cases e with
    | normal =>
      obtain ⟨hk3, hkp3, hi3⟩ := hp
      obtain ⟨hr, h3, h4, h5⟩ := fin none W3 hk3
      exact ⟨_, _, hr, .inl ⟨rfl, ⟨hI.putObj _ hi3 (by omega) h3 rfl, h4, h5⟩, hKt (hKt hkb hkp3) (hKb _ _ _ _ (by omega) h3 rfl)⟩⟩
    | ret => exact out .ret W3 hp.1 hp.2
    | exit id => exact out (.exit id) W3 hp.1 hp.2
    | goto t => exact out (.goto t) W3 hp.1 hp.2
    | panic ch => exact hp.elim
    | outgrown => exact hp.elim
  · rintro e W2 ⟨⟨v, rfl⟩, (⟨xs, hS, hi, hl, hd⟩ | ⟨pre, hSp, c, hi, hl, hd⟩)⟩
    · have hr := run_endLoop (P := P) hl (by rw [hrec]; simp)
      rw [hrec] at hr
      exact ⟨none, _, hr, hdone _ xs _ (Nat.le_refl _) hS (hI.putObj _ hi (by omega) hl rfl) ((World.putObj_heap_other (by omega)).trans hd)⟩
    · have hr := run_endLoop (P := P) hl (by rw [hrec]; simp)
      rw [hrec] at hr
      exact ⟨some c, _, hr, hstop _ c pre _ (Nat.le_refl _) hSp ((hIx c).putObj _ hi (by omega) hl rfl) ((World.putObj_heap_other (by omega)).trans hd)⟩
end
end Go.Proofs.YtggfkpalkdkbdaaDoor

/- BITS of sets, in plain terms. -/
namespace Cd
open Gf
theorem bit_test (s i : Nat) : bitAt s i = 1 ↔ s.testBit i = true := by
  unfold bitAt
  rw [Nat.testBit_eq_decide_div_mod_eq, decide_eq_true_eq]
theorem bit_01 (s i : Nat) : bitAt s i = 0 ∨ bitAt s i = 1 := by unfold bitAt; omega
theorem bit_or (s i j : Nat) : bitAt (s ||| 2 ^ i) j = 1 ↔ bitAt s j = 1 ∨ j = i := by
  rw [bit_test, bit_test, Nat.testBit_or, Nat.testBit_two_pow, Bool.or_eq_true, decide_eq_true_eq]
  exact or_congr Iff.rfl eq_comm
theorem bit_set : ∀ (g : List Int) (s j : Nat), (∀ i ∈ g, 0 ≤ i) → (bitAt (setOf s g) j = 1 ↔ bitAt s j = 1 ∨ (j : Int) ∈ g)
  | [], s, j, _ => by rw [setOf_nil]; simp
  | i :: g, s, j, h => by
    have e : setOf s (i :: g) = setOf (s ||| 2 ^ i.toNat) g := by unfold setOf; rfl
    rw [e, bit_set g _ j fun x hx => h x (by simp [hx]), bit_or, List.mem_cons, or_assoc]
    have h0 := h i (by simp)
    have : j = i.toNat ↔ (j : Int) = i := by omega
    rw [this]
end Cd

/- THE WALKS over the strings of package gf: build, Sum, Scale, Combine and their closures. -/
namespace Go.Proofs.YtggfkpalkdkbdaaDoor
open Go.RowKit

theorem info_u8 : (Tryd.prog.info? 5).map (fun i => (i.zero, i.size, i.bytes)) = some (some (.int .u8 0), 1, 1) := by kernel_rfl

theorem str_u8 {w : World} {A : Option Addr} {l : List UInt8} {c n : Nat} (hn : n = l.length) (h : Rd w A (l.map bv)) :
    (convert 48 9 (.slice A n c)).run Tryd.prog w = .ok (.string (sb l)) w := run_str Tryd.underlying48 Tryd.underlying5 Tryd.underlying9 hn h

def part (n k : Nat) (g : Nat → UInt8) : List Value := (List.range k).map (fun j => bv (g j)) ++ List.replicate (n - k) (.int .u8 0)
theorem part_set {n k : Nat} (g : Nat → UInt8) (h : k < n) : (part n k g).set k (bv (g k)) = part n (k + 1) g := by
  unfold part
  obtain ⟨m, rfl⟩ : ∃ m, n = k + 1 + m := ⟨n - (k + 1), by omega⟩
  rw [show k + 1 + m - k = m + 1 from by omega, show k + 1 + m - (k + 1) = m from by omega, List.set_append_right _ _ (by simp), List.range_succ]
  simp [List.replicate_succ]
theorem part_length {n k : Nat} (g : Nat → UInt8) (h : k ≤ n) : (part n k g).length = n := by simp [part]; omega
theorem part_zero (n : Nat) (g : Nat → UInt8) : part n 0 g = List.replicate n (.int .u8 0) := by simp [part]
theorem part_full (n : Nat) (g : Nat → UInt8) : part n n g = ((List.range n).map g).map bv := by simp [part]

/-- build, over whatever function value that only computes. -/
theorem build_any (n : Nat) (hn : n ≤ 140737488351232) (F : FuncId) (cap : Array Value) (g : Nat → UInt8) (w : World) (hE : ∀ args w, (callFunc F args).run Tryd.prog w = .ok (.enter F args) w)
    (hF : ∀ k, k < n → ∀ w', Ext w w' → Calls Tryd.prog F (#[.int .i64 k] ++ cap) w' fun e w'' => e = .returned (bv (g k)) ∧ Ext w' w'') :
    Calls Tryd.prog 96 #[.int .i64 n, .func (.func F) #[] cap] w fun e w' => e = .returned (.string (sb ((List.range n).map g))) ∧ Ext w w' := by
  have HF := Lib.hid hF
  clear hF
  obtain ⟨i0, hi, hz0, hz1, hz2⟩ := info_parts info_u8
  have HZ := Lib.hid hz2
  clear hz2
  go_enter Tryd.func96, Tryd.ntmps96
  go_wp2_with (refine wpList_make_full _ rfl (.tmp 7) (.tmp 7) 48 rfl w.heap.size 5 i0 (.int .u8 0) 1 Tryd.underlying48 hi hz0 hz1 _ _ _ _ n rfl rfl rfl rfl (by rw [HZ.out]; omega) (by unfold maxLen; omega) (Nat.le_refl _) ?_; intro w1 hown hgrow)
  have hx : Ext w w1 := (Ext.refl w).grown hgrow (fun k h => by cases h)
  have hsz : w.heap.size < w1.heap.size := by
    have := hown.lt w.heap.size rfl
    omega
  have hown' : w1.ownsRow w.heap.size 5 1 (.slice (some ⟨w.heap.size, 0, none⟩) n n) n (part n 0 g) := by
    rw [part_zero, ← toList_madeCells_one]
    simpa [Value.cells] using hown
  have H0 := Lib.hid (And.intro hx hown')
  clear hown hown' hgrow hx
  go_loopw [10] (fun vi wr => ∃ k : Nat, k ≤ n ∧ vi = .int .i64 k ∧ Hid (Ext w wr ∧ wr.ownsRow w.heap.size 5 1 (.slice (some ⟨w.heap.size, 0, none⟩) n n) n (part n k g))) (fun vi _ => n - (intOf vi).toNat)
  case atStart => exact ⟨0, Nat.zero_le _, rfl, H0.out⟩
  case round =>
    obtain ⟨k, hk, rfl, HR⟩ := hrel
    by_cases hlt : k < n
    · go_wp2_with fail
      refine (HF.out k hlt wr HR.out.1).mono ?_
      rintro e w2 ⟨rfl, hx2⟩
      have hown2 : w2.ownsRow w.heap.size 5 1 (.slice (some ⟨w.heap.size, 0, none⟩) n n) n (part n k g) := own_ext HR.out.2 hx2
      have hc := hown2.cellAt k (by omega)
      rw [List.getElem?_eq_getElem (by rw [part_length g hk]; exact hlt)] at hc
      have hf := hown2.frozenAt k
      have hst := (hown2.stored k (bv (g k))).1
      rw [part_set g hlt] at hst
      have hx3 : Ext w w2 := HR.out.1.trans hx2
      have HS := Lib.hid (And.intro hx3 hst)
      clear hown2 hst hx3 hx2
      go_wp2_with fail
      go_roundw
      case rel => exact ⟨k + 1, by omega, by go_num, HS.out.1.setCell (Nat.le_refl _) _, HS.out.2⟩
      case measure => simp [intOf]; omega
    · obtain rfl : k = n := by omega
      have hrun := str_u8 (n := k) (c := k) (A := some ⟨w.heap.size, 0, none⟩) (w := wr) (l := (List.range k).map g) (by simp) (by
        have := Rd.of_own (w := wr) (B := w.heap.size) (e := 5) (c := k) (A := some ⟨w.heap.size, 0, none⟩) (xs := part k k g) (by rw [part_length g hk]; exact HR.out.2)
        rw [part_full] at this
        exact this)
      go_wp2_with fail
      go_ret
      exact ⟨rfl, HR.out.1⟩

theorem getD_bl (s : ByteArray) (k : Nat) (h : k < s.size) : (bl s).getD k 0 = s[k] := by
  rw [get_bl s k h, List.getD_eq_getElem?_getD, List.getElem?_eq_getElem (by rw [← size_bl]; exact h)]
  rfl
theorem getD_bl_out (s : ByteArray) (k : Nat) (h : s.size ≤ k) : (bl s).getD k 0 = 0 := by
  rw [List.getD_eq_getElem?_getD, List.getElem?_eq_none (by rw [← size_bl]; exact h)]
  rfl

/-- The sum's closure: the byte at one place. -/
theorem sum1_any (k P1 P2 : Nat) (a b : ByteArray) (w : World) (hk : k < a.size)
    (h1 : w.cell? ⟨P1, 0, none⟩ = some (.string b)) (h2 : w.cell? ⟨P2, 0, none⟩ = some (.string a)) :
    Calls Tryd.prog 97 #[.int .i64 k, .pointer (some ⟨P1, 0, none⟩), .pointer (some ⟨P2, 0, none⟩)] w fun e w' => e = .returned (bv ((bl a).getD k 0 ^^^ (bl b).getD k 0)) ∧ Ext w w' := by
  have eA := getD_bl a k hk
  by_cases hlt : k < b.size
  · have eB := getD_bl b k hlt
    have hx : bits .xor .u8 (((a[k]'hk).toNat : Nat) : Int) (((b[k]'hlt).toNat : Nat) : Int) = (((bl a).getD k 0 ^^^ (bl b).getD k 0).toNat : Int) := by
      rw [u8_xor_nat _ _ (Gf.lt8 _) (Gf.lt8 _), eA, eB, UInt8.toNat_xor]
    have HX := Lib.hid hx
    clear hx eA eB
    go_enter Tryd.func97, Tryd.ntmps97
    go_wp2_with fail
    go_quiet (fail)
    go_wp2_with fail
    go_ret
    exact ⟨ret_int HX.out, (Ext.refl _).drewN _⟩
  · have eB := getD_bl_out b k (by omega)
    have hx : (((a[k]'hk).toNat : Nat) : Int) = (((bl a).getD k 0 ^^^ (bl b).getD k 0).toNat : Int) := by
      rw [eA, eB, UInt8.xor_zero]
    have HX := Lib.hid hx
    clear hx eA eB
    go_enter Tryd.func97, Tryd.ntmps97
    go_wp2_with fail
    go_ret
    exact ⟨ret_int HX.out, Ext.refl _⟩

theorem enters97 : ∀ args w, (callFunc 97 args).run Tryd.prog w = .ok (.enter 97 args) w := enters_of Tryd.func97 (by kernel_rfl) rfl
theorem sum_any (a b : ByteArray) (w : World) (ha : a.size ≤ 140737488351232) (hb : b.size ≤ 140737488351232) :
    Calls Tryd.prog 69 #[.string a, .string b] w fun e w' => e = .returned (.string (sb (Gf.sum (bl a) (bl b)))) ∧ Ext w w' := by
  by_cases hlt : a.size < b.size
  · have hr : (List.range b.size).map (fun k => (bl b).getD k 0 ^^^ (bl a).getD k 0) = Gf.sum (bl a) (bl b) := by
      unfold Gf.sum
      rw [← size_bl, ← size_bl, show max a.size b.size = b.size from by omega]
      exact List.map_congr_left fun k _ => UInt8.xor_comm _ _
    have HR := Lib.hid hr
    clear hr
    go_enter Tryd.func69, Tryd.ntmps69
    go_wp2_with fail
    refine (build_any b.size hb _ _ (fun k => (bl b).getD k 0 ^^^ (bl a).getD k 0) _ enters97 ?_).mono ?_
    · intro k hk w' hx
      exact sum1_any k _ _ b a w' hk (hx.cell (by go_simp)) (hx.cell (by go_simp))
    rintro e w1 ⟨rfl, hx⟩
    go_wp2_with fail
    go_ret
    exact ⟨by rw [← HR.out]; rfl, Ext.trans (((Ext.refl _).alloc _).alloc _) hx⟩
  · have hr : (List.range a.size).map (fun k => (bl a).getD k 0 ^^^ (bl b).getD k 0) = Gf.sum (bl a) (bl b) := by
      unfold Gf.sum
      rw [← size_bl, ← size_bl, show max a.size b.size = a.size from by omega]
    have HR := Lib.hid hr
    clear hr
    go_enter Tryd.func69, Tryd.ntmps69
    go_wp2_with fail
    refine (build_any a.size ha _ _ (fun k => (bl a).getD k 0 ^^^ (bl b).getD k 0) _ enters97 ?_).mono ?_
    · intro k hk w' hx
      exact sum1_any k _ _ a b w' hk (hx.cell (by go_simp)) (hx.cell (by go_simp))
    rintro e w1 ⟨rfl, hx⟩
    go_wp2_with fail
    go_ret
    exact ⟨by rw [← HR.out]; rfl, Ext.trans (((Ext.refl _).alloc _).alloc _) hx⟩

theorem mul_u8 (a b : UInt8) (w : World) (hT : Tab w) : Calls Tryd.prog 68 #[bv a, bv b] w fun e w' => e = .returned (bv (Gf.mul a b)) ∧ w = w' := by
  refine (mul_any _ _ w hT (by omega) (by have := Gf.lt8 a; omega) (by omega) (by have := Gf.lt8 b; omega)).mono ?_
  rintro e w' ⟨rfl, rfl⟩
  exact ⟨by rw [Gf.mulI_toNat], rfl⟩
theorem Tab.drewN {w : World} (h : Tab w) (n : Nat) : Tab (w.drewN n) := h

theorem scale1_any (k P1 P2 : Nat) (c : UInt8) (s : ByteArray) (w : World) (hT : Tab w) (hk : k < s.size)
    (h1 : w.cell? ⟨P1, 0, none⟩ = some (bv c)) (h2 : w.cell? ⟨P2, 0, none⟩ = some (.string s)) :
    Calls Tryd.prog 98 #[.int .i64 k, .pointer (some ⟨P1, 0, none⟩), .pointer (some ⟨P2, 0, none⟩)] w fun e w' => e = .returned (bv (Gf.mul c ((bl s).getD k 0))) ∧ Ext w w' := by
  have HT := Lib.hid hT
  clear hT
  rw [getD_bl s k hk]
  go_enter Tryd.func98, Tryd.ntmps98
  go_wp2_with fail
  go_quiet ((go_at_call 68; first | exact quiet_left (mul_u8 _ _ _ (HT.out.drewN _)) | exact quiet_add_left (mul_u8 _ _ _ (HT.out.drewN _))))
  go_wp2_with fail
  go_ret
  exact ⟨rfl, (Ext.refl _).drewN _⟩
theorem enters98 : ∀ args w, (callFunc 98 args).run Tryd.prog w = .ok (.enter 98 args) w := enters_of Tryd.func98 (by kernel_rfl) rfl
theorem scale_any (c : UInt8) (s : ByteArray) (w : World) (hT : Tab w) (hs : s.size ≤ 140737488351232) :
    Calls Tryd.prog 70 #[bv c, .string s] w fun e w' => e = .returned (.string (sb (Gf.scale c (bl s)))) ∧ Ext w w' := by
  have hr : (List.range s.size).map (fun k => Gf.mul c ((bl s).getD k 0)) = Gf.scale c (bl s) := by
    unfold Gf.scale
    apply List.ext_getElem
    · simp [size_bl]
    · intro k h1 h2
      simp
      congr 1
      simp at h2
      rw [List.getElem?_eq_getElem h2]; rfl
  have HR := Lib.hid hr
  have HT := Lib.hid hT
  clear hr hT
  go_enter Tryd.func70, Tryd.ntmps70
  go_wp2_with fail
  refine (build_any s.size hs _ _ (fun k => Gf.mul c ((bl s).getD k 0)) _ enters98 ?_).mono ?_
  · intro k hk w' hx
    exact scale1_any k _ _ c s w' ((HT.out.ext (((Ext.refl _).alloc _).alloc _)).ext hx) hk (hx.cell (by go_simp)) (hx.cell (by go_simp))
  rintro e w1 ⟨rfl, hx⟩
  go_wp2_with fail
  go_ret
  exact ⟨by rw [← HR.out]; rfl, Ext.trans (((Ext.refl _).alloc _).alloc _) hx⟩

end Go.Proofs.YtggfkpalkdkbdaaDoor

/- THE WALKS over package code: Check, Pieces. -/
namespace Go.Proofs.YtggfkpalkdkbdaaDoor
open Go.RowKit

theorem nat_pow_cast (m : Nat) : ((2 : Int) ^ m) = ((2 ^ m : Nat) : Int) := (Int.natCast_pow 2 m).symm
theorem pow_lt62 (m : Nat) (h : m < 62) : ((2 ^ m : Nat) : Int) < 4611686018427387904 := by
  have : 2 ^ m < 2 ^ 62 := Nat.pow_lt_pow_right (by omega) h
  exact Int.ofNat_lt.2 this
theorem wrap_pow (m : Nat) (h : m < 62) : wrap64 (2 ^ m) = ((2 ^ m : Nat) : Int) := by
  rw [nat_pow_cast]
  have h1 := pow_lt62 m h
  have h0 : (0 : Int) ≤ ((2 ^ m : Nat) : Int) := Int.natCast_nonneg _
  generalize ((2 ^ m : Nat) : Int) = z at h1 h0 ⊢
  unfold wrap64
  omega
theorem or_pow (s m : Nat) (hs : s < 65536) (h : m < 16) : bits .or .i64 (s : Int) (wrap64 (2 ^ m)) = ((s ||| 2 ^ m : Nat) : Int) ∧ s ||| 2 ^ m < 65536 := by
  have hpw : 2 ^ m < 2 ^ 16 := Nat.pow_lt_pow_right (by omega) h
  refine ⟨?_, Nat.or_lt_two_pow (n := 16) hs hpw⟩
  rw [wrap_pow m (by omega)]
  exact or64 _ _ (Nat.lt_trans hs (by decide)) (Nat.lt_trans hpw (by decide))
theorem cCheck_range (d gl : Int) (gs : List (List Int)) (G : Value) (w : World) (h : d < 1 ∨ 16 < d ∨ gl < 0 ∨ 4 < gl) :
    Calls Tryd.prog 24 #[.agg #[.int .i64 d, G, .int .i64 gl]] w fun e w' => e = .returned (.int .i64 (Cd.check d gs gl)) ∧ Ext w w' := by
  rw [Cd.check_range h]
  have four : d < 1 ∨ (¬ d < 1 ∧ 16 < d) ∨ (¬ d < 1 ∧ ¬ 16 < d ∧ gl < 0) ∨ (¬ d < 1 ∧ ¬ 16 < d ∧ ¬ gl < 0 ∧ 4 < gl) := by omega
  clear h
  rcases four with g | ⟨g1, g⟩ | ⟨g1, g2, g⟩ | ⟨g1, g2, g3, g⟩
  all_goals
    go_enter Tryd.func24, Tryd.ntmps24
    go_wp2_with fail
    go_step3
    go_wp2_with fail
    try rw [Exit.noGoto_ret]
    go_ret
    exact ⟨rfl, (Ext.refl _).alloc _⟩
theorem cCheck_limit (d gl : Int) (gs : List (List Int)) (G : Value) (w : World) (hG : Rs (Rs RI) w G gs) (h1 : 1 ≤ d) (h2 : d ≤ 16) (h3 : 0 ≤ gl) (h4 : gl ≤ 4) (h : 24 < gs.length ∨ 24 < d + gs.length + gl) :
    Calls Tryd.prog 24 #[.agg #[.int .i64 d, G, .int .i64 gl]] w fun e w' => e = .returned (.int .i64 (Cd.check d gs gl)) ∧ Ext w w' := by
  rw [Cd.check_limit (by omega) h]
  obtain ⟨A, c, rfl, hl⟩ := hG.form
  clear hG
  by_cases hb : 24 < gs.length
  · go_enter Tryd.func24, Tryd.ntmps24
    go_wp2_with fail
    go_step3
    go_wp2_with fail
    try rw [Exit.noGoto_ret]
    go_ret
    exact ⟨rfl, (Ext.refl _).alloc _⟩
  · have hb2 : 24 < d + gs.length + gl := by omega
    clear h
    go_enter Tryd.func24, Tryd.ntmps24
    go_wp2_with fail
    go_step3
    go_wp2_with fail
    try rw [Exit.noGoto_ret]
    go_ret
    exact ⟨rfl, (Ext.refl _).alloc _⟩
set_option maxHeartbeats 8000000 in
theorem cCheck_groups (d gl : Int) (gs : List (List Int)) (G : Value) (w : World) (hG : Rs (Rs RI) w G gs) (h1 : 1 ≤ d) (h2 : d ≤ 16) (h3 : 0 ≤ gl) (h4 : gl ≤ 4) (h5 : gs.length ≤ 24) (h6 : d + gs.length + gl ≤ 24) :
    Calls Tryd.prog 24 #[.agg #[.int .i64 d, G, .int .i64 gl]] w fun e w' => e = .returned (.int .i64 (Cd.check d gs gl)) ∧ Ext w w' := by
  rw [Cd.check_groups (by omega) (by omega)]
  obtain ⟨A, c, rfl, hl⟩ := hG.form
  have HG := Lib.hid hG
  clear hG
  go_enter Tryd.func24, Tryd.ntmps24
  go_wp2_with fail
  go_step3
  go_wp2_with fail
  go_step3
  go_wp2_with fail
  have hx := (Ext.refl w).alloc (.cells #[.int .i64 d, .slice A gs.length c, .int .i64 gl] 24)
  have HX := Lib.hid hx
  clear hx
  go_loop [3, 4, 48] (fun vs ve vi => ∃ i s : Nat, i ≤ gs.length ∧ vi = .int .i64 i ∧ ve = .int .i64 0 ∧ vs = .int .i64 s ∧ s < 65536 ∧ Hid (Cd.checkG d s (gs.drop i) = Cd.checkG d 0 gs)) (fun _ _ vi => gs.length - (intOf vi).toNat)
  case atStart => exact ⟨0, 0, Nat.zero_le _, rfl, rfl, rfl, by omega, rfl⟩
  case round =>
    obtain ⟨i, s, hi, rfl, rfl, rfl, hs, HC⟩ := hrel
    by_cases hlt : i < gs.length
    · obtain ⟨ad, u, rfl, hcell, hu⟩ := HG.out.at hlt
      obtain ⟨B, cB, rfl, hlB⟩ := hu.form
      have hcell' := HX.out.cell hcell
      have HU := Lib.hid hu
      clear hcell hu
      by_cases h0 : gs[i] = []
      · have hc8 : Cd.checkG d 0 gs = 8 := by rw [← HC.out, Cd.drop_cons hlt, h0, Cd.checkG_nil]
        have H8 := Lib.hid hc8
        have hl0 : gs[i].length = 0 := by rw [h0]; rfl
        clear hc8 h0
        go_wp2_with fail
        try rw [Exit.noGoto_ret]
        go_ret
        exact ⟨ret_int H8.out.symm, HX.out⟩
      · have hg0 : gs[i] ≠ [] := h0
        have hgl : gs[i].length ≠ 0 := fun h => h0 (List.length_eq_zero_iff.1 h)
        have e0 : ((gs[i].length : Int) == 0) = false := by rw [beq_eq_false_iff_ne]; omega
        have hgl2 : gs[i].length ≤ 9223372036854775807 := hlB
        have HG0 := Lib.hid h0
        clear h0 hg0 hgl
        obtain ⟨g, hg⟩ : ∃ g, gs[i] = g := ⟨_, rfl⟩
        rw [hg] at hlB hcell' HU e0 HG0
        have HGG := Lib.hid hg
        clear hg hgl2
        go_wp2_with fail
        go_loop [4, 57] (fun ve vk => ∃ k : Nat, k ≤ g.length ∧ vk = .int .i64 k ∧ ve = .int .i64 0 ∧ Hid (∀ j, j < k → Cd.badAt d s g j = false)) (fun _ vk => g.length - (intOf vk).toNat)
        case atStart => exact ⟨0, Nat.zero_le _, rfl, rfl, fun j hj => absurd hj (by omega)⟩
        case round =>
          obtain ⟨k, hk, rfl, rfl, HB⟩ := hrel
          by_cases hkl : k < g.length
          · obtain ⟨bd, u, rfl, hbc, hu⟩ := HU.out.at hkl
            obtain ⟨rfl, hlo, hhi⟩ := hu
            have hbc' := HX.out.cell hbc
            clear hbc
            have hgk : g.getD k 0 = g[k] := by rw [List.getD_eq_getElem?_getD, List.getElem?_eq_getElem hkl]; rfl
            have hbd := Cd.badAt_def d s g k
            rw [hgk] at hbd
            have bad1 : Cd.badAt d s g k = true → Cd.checkG d 0 gs = 1 := fun h => by
              rw [← HC.out, Cd.drop_cons hlt, HGG.out, Cd.checkG_bad HG0.out (Cd.bad_true hkl h)]
            have BD := Lib.hid hbd
            have B1 := Lib.hid bad1
            clear hgk hbd bad1
            by_cases c1 : g[k] < 0
            · have hb : Cd.badAt d s g k = true := by rw [BD.out]; simp [c1]
              have bad1 := B1.out
              have H1 := Lib.hid (bad1 hb)
              clear hb bad1
              go_wp2_with fail
              try rw [Exit.noGoto_ret]
              go_ret
              exact ⟨ret_int H1.out.symm, HX.out⟩
            · by_cases c2 : d ≤ g[k]
              · have hb : Cd.badAt d s g k = true := by rw [BD.out]; simp [c2]
                have bad1 := B1.out
                have H1 := Lib.hid (bad1 hb)
                clear hb bad1
                go_wp2_with fail
                try rw [Exit.noGoto_ret]
                go_ret
                exact ⟨ret_int H1.out.symm, HX.out⟩
              · have hm : bits .and .i64 ((s : Int) / 2 ^ (g[k]).toNat) 1 = ((Cd.bitAt s (g[k]).toNat : Nat) : Int) := by
                  have hle : s / 2 ^ (g[k]).toNat ≤ s := Nat.div_le_self _ _
                  have := odd64 (s / 2 ^ (g[k]).toNat) (by omega)
                  rw [Cd.bitAt, ← this]
                  simp
                have HM := Lib.hid hm
                clear hm
                by_cases ck : 0 < k
                · obtain ⟨bd2, u2, e2, hbc2, hu2⟩ := HU.out.at (i := k - 1) (by omega)
                  injection e2 with e2
                  subst e2
                  obtain ⟨rfl, hlo2, hhi2⟩ := hu2
                  have hbc2' := HX.out.cell hbc2
                  clear hbc2
                  have hgk2 : g.getD (k - 1) 0 = g[k - 1] := by rw [List.getD_eq_getElem?_getD, List.getElem?_eq_getElem (by omega)]; rfl
                  have HK2 := Lib.hid hgk2
                  clear hgk2
                  by_cases c3 : g[k] ≤ g[k - 1]
                  · have hb : Cd.badAt d s g k = true := by rw [BD.out, HK2.out]; simp [c3, ck]
                    have bad1 := B1.out
                    have H1 := Lib.hid (bad1 hb)
                    clear hb bad1
                    go_wp2_with fail
                    try rw [Exit.noGoto_ret]
                    go_ret
                    exact ⟨ret_int H1.out.symm, HX.out⟩
                  · by_cases c4 : Cd.bitAt s (g[k]).toNat = 1
                    · have eb : (bits .and .i64 ((s : Int) / 2 ^ (g[k]).toNat) 1 == 1) = true := by rw [HM.out, c4]; rfl
                      have hb : Cd.badAt d s g k = true := by rw [BD.out]; simp [c4]
                      have bad1 := B1.out
                      have H1 := Lib.hid (bad1 hb)
                      clear hb bad1 c4
                      go_wp2_with fail
                      try rw [Exit.noGoto_ret]
                      go_ret
                      exact ⟨ret_int H1.out.symm, HX.out⟩
                    · have eb : (bits .and .i64 ((s : Int) / 2 ^ (g[k]).toNat) 1 == 1) = false := by rw [HM.out, beq_eq_false_iff_ne]; omega
                      have hb : Cd.badAt d s g k = false := by rw [BD.out, HK2.out]; simp [c4]; omega
                      clear c4
                      have H1 := Lib.hid hb
                      clear hb
                      go_wp2_with fail
                      go_round
                      case rel => exact ⟨k + 1, by omega, by go_num, rfl, fun j hj => by
                        by_cases hjk : j = k
                        · rw [hjk]; exact H1.out
                        · exact HB.out j (by omega)⟩
                      case measure => simp [intOf]; omega
                · by_cases c4 : Cd.bitAt s (g[k]).toNat = 1
                  · have eb : (bits .and .i64 ((s : Int) / 2 ^ (g[k]).toNat) 1 == 1) = true := by rw [HM.out, c4]; rfl
                    have hb : Cd.badAt d s g k = true := by rw [BD.out]; simp [c4]
                    have bad1 := B1.out
                    have H1 := Lib.hid (bad1 hb)
                    clear hb bad1 c4
                    go_wp2_with fail
                    try rw [Exit.noGoto_ret]
                    go_ret
                    exact ⟨ret_int H1.out.symm, HX.out⟩
                  · have eb : (bits .and .i64 ((s : Int) / 2 ^ (g[k]).toNat) 1 == 1) = false := by rw [HM.out, beq_eq_false_iff_ne]; omega
                    have hb : Cd.badAt d s g k = false := by rw [BD.out]; simp [c4, ck]; omega
                    clear c4
                    have H1 := Lib.hid hb
                    clear hb
                    go_wp2_with fail
                    go_round
                    case rel => exact ⟨k + 1, by omega, by go_num, rfl, fun j hj => by
                      by_cases hjk : j = k
                      · rw [hjk]; exact H1.out
                      · exact HB.out j (by omega)⟩
                    case measure => simp [intOf]; omega
          · obtain rfl : k = g.length := by omega
            have hnb : Cd.bad d s g = false := Cd.bad_false HB.out
            have hgb : ∀ i ∈ g, 0 ≤ i ∧ i < 16 := fun i hi => by have := Cd.bad_bounds hnb hi; omega
            have hnx : Cd.checkG d (Cd.setOf s g) (gs.drop (i + 1)) = Cd.checkG d 0 gs := by rw [← HC.out, Cd.drop_cons hlt, HGG.out, Cd.checkG_next HG0.out hnb]
            have HNX := Lib.hid (And.intro hgb hnx)
            clear hnb hgb hnx
            go_wp2_with fail
            go_loop [3, 93] (fun vs vk => ∃ k s' : Nat, k ≤ g.length ∧ vk = .int .i64 k ∧ vs = .int .i64 s' ∧ s' < 65536 ∧ Hid (s' = Cd.setOf s (g.take k))) (fun _ vk => g.length - (intOf vk).toNat)
            case atStart => exact ⟨0, s, Nat.zero_le _, rfl, rfl, hs, by rw [List.take_zero, Cd.setOf_nil]; rfl⟩
            case round =>
              obtain ⟨k, s', hk, rfl, rfl, hs', HS⟩ := hrel
              by_cases hkl : k < g.length
              · obtain ⟨bd, u, rfl, hbc, hu⟩ := HU.out.at hkl
                obtain ⟨rfl, hlo, hhi⟩ := hu
                have hbc' := HX.out.cell hbc
                clear hbc
                have hb2 := HNX.out.1 _ (List.getElem_mem hkl)
                obtain ⟨m, hm⟩ : ∃ m : Nat, g[k] = (m : Int) := ⟨(g[k]).toNat, by omega⟩
                have hst := Cd.setOf_take (s := s) hkl
                rw [hm, Int.toNat_natCast, ← HS.out] at hst
                have hm16 : m < 16 := by omega
                rw [hm] at hbc'
                have hor := or_pow s' m hs' hm16
                have HOR := Lib.hid (And.intro hor.1 (And.intro hst hor.2))
                clear hor hst hb2 hm hlo hhi
                go_wp2_with fail
                go_round
                case rel => exact ⟨k + 1, s' ||| 2 ^ m, by omega, by go_num, by rw [HOR.out.1], HOR.out.2.2, HOR.out.2.1.symm⟩
                case measure => simp [intOf]; omega
              · obtain rfl : k = g.length := by omega
                have hse : s' = Cd.setOf s g := by rw [HS.out, List.take_length]
                have HSE := Lib.hid hse
                clear hse
                go_wp2_with fail
                go_round
                case rel => exact ⟨i + 1, s', by omega, by go_num, rfl, rfl, hs', by rw [HSE.out]; exact HNX.out.2⟩
                case measure => simp [intOf]; omega
    · obtain rfl : i = gs.length := by omega
      have hfin : Cd.checkG d 0 gs = 0 := by rw [← HC.out, List.drop_length, Cd.checkG_end]
      have HF := Lib.hid hfin
      clear hfin
      go_wp2_with fail
      try rw [Exit.noGoto_ret]
      go_ret
      exact ⟨ret_int HF.out.symm, HX.out⟩
/-- `Check` of a code: its first error; nothing that was there is changed. -/
theorem cCheck_any (d gl : Int) (gs : List (List Int)) (G : Value) (w : World) (hG : Rs (Rs RI) w G gs) :
    Calls Tryd.prog 24 #[.agg #[.int .i64 d, G, .int .i64 gl]] w fun e w' => e = .returned (.int .i64 (Cd.check d gs gl)) ∧ Ext w w' := by
  by_cases h : d < 1 ∨ 16 < d ∨ gl < 0 ∨ 4 < gl
  · exact cCheck_range d gl gs G w h
  · by_cases h2 : 24 < gs.length ∨ 24 < d + gs.length + gl
    · exact cCheck_limit d gl gs G w hG (by omega) (by omega) (by omega) (by omega) h2
    · exact cCheck_groups d gl gs G w hG (by omega) (by omega) (by omega) (by omega) (by omega) (by omega)
end Go.Proofs.YtggfkpalkdkbdaaDoor
