/- What the program's functions do, step by step: part A of the texts for this claim; no condition beyond what each theorem states. -/
import Derived.WalkKit
import Derived.WalkSpells
import Derived.WalkLawsBesides
import Derived.Lib.Hide
import Derived.Laws.BitsAllLaws
import Derived.Laws.BitsLemmas
import Derived.Deep.Draws
import Derived.Deep.QuietTactic
import Derived.BigQuiet
import Derived.Laws.BytesArg
import Derived.Shelf.Abstract
import Derived.ProofKit
import Derived.OpenShut
import Derived.Deep.DeepHandedRow
import Derived.Lib.LaidTab
import Derived.SliceStrings
import Derived.ChangeMaps5
import Derived.KernelRfl
import Derived.Test.YtdmljilcbndmfaaDoorRows
import Derived.Test.YtdmljilcbndmfaaDoorChecked
import Derived.Deep.RegionHeld3
import Derived.Orders
import Derived.Maps.AppendAt
import Derived.Deep.AppendLies
import Derived.RegionTactic
import Derived.WalkMore
import Derived.Deep.LoopGhost
import Derived.BigRegion
namespace Go.Proofs.YtdmljilcbndmfaaDoor
theorem lb {n m : Nat} (h : Nat.ble n m = true) : n ≤ m := Nat.le_of_ble_eq_true h
end Go.Proofs.YtdmljilcbndmfaaDoor

/- Small laws on bits, worlds and endings that several walks share. -/
namespace Go.Proofs.YtdmljilcbndmfaaDoor
open Go.RowKit

theorem ret_int {k : IntKind} {a b : Int} (h : a = b) : Ending.returned (.int k a) = .returned (.int k b) := by rw [h]
theorem ret_bool {a b : Bool} (h : a = b) : Ending.returned (.bool a) = .returned (.bool b) := by rw [h]

theorem ofInt64 (a : Nat) (ha : a < 9223372036854775808) : (BitVec.ofInt 64 (a : Int)).toNat = a := by
  rw [BitVec.ofInt_natCast, BitVec.toNat_ofNat]; exact Nat.mod_eq_of_lt (by omega)
theorem and64 (a b : Nat) (ha : a < 9223372036854775808) (hb : b < 9223372036854775808) : bits .and .i64 (a : Int) (b : Int) = ((a &&& b : Nat) : Int) := by
  have hx : a &&& b < 2 ^ 63 := Nat.and_lt_two_pow _ (by omega)
  show IntKind.i64.wrap ((BitVec.ofInt 64 (a : Int) &&& BitVec.ofInt 64 (b : Int)).toNat : Int) = _
  rw [BitVec.toNat_and, ofInt64 a ha, ofInt64 b hb, IntKind.wrap_i64]
  omega
theorem or64 (a b : Nat) (ha : a < 9223372036854775808) (hb : b < 9223372036854775808) : bits .or .i64 (a : Int) (b : Int) = ((a ||| b : Nat) : Int) := by
  have hx : a ||| b < 2 ^ 63 := Nat.or_lt_two_pow (by omega) (by omega)
  show IntKind.i64.wrap ((BitVec.ofInt 64 (a : Int) ||| BitVec.ofInt 64 (b : Int)).toNat : Int) = _
  rw [BitVec.toNat_or, ofInt64 a ha, ofInt64 b hb, IntKind.wrap_i64]
  omega
theorem xor64 (a b : Nat) (ha : a < 9223372036854775808) (hb : b < 9223372036854775808) : bits .xor .i64 (a : Int) (b : Int) = ((a ^^^ b : Nat) : Int) := by
  have hx : a ^^^ b < 2 ^ 63 := Nat.xor_lt_two_pow (by omega) (by omega)
  show IntKind.i64.wrap ((BitVec.ofInt 64 (a : Int) ^^^ BitVec.ofInt 64 (b : Int)).toNat : Int) = _
  rw [BitVec.toNat_xor, ofInt64 a ha, ofInt64 b hb, IntKind.wrap_i64]
  omega
theorem odd64 (a : Nat) (ha : a < 9223372036854775808) : bits .and .i64 (a : Int) 1 = ((a % 2 : Nat) : Int) := by
  have := and64 a 1 ha (by omega)
  rw [nat_mask1] at this
  exact this

/- A CALL THAT ONLY DRAWS, inside a region whose order is open. -/
/-- NOTHING THAT WAS THERE HAS TURNED. -/
def Ext (w w' : World) : Prop := Below w.heap.size w w'
theorem Ext.refl (w : World) : Ext w w := Below.refl _ _
theorem Ext.trans {a b c : World} (h : Ext a b) (k : Ext b c) : Ext a c := Below.trans h (Below.mono k h.size)
theorem Ext.drewN {a w : World} (h : Ext a w) (n : Nat) : Ext a (w.drewN n) := ⟨h.os, h.tape, h.output, h.size, h.block⟩
theorem Ext.drew {a w : World} (h : Ext a w) : Ext a w.drew := Below.drew h
theorem Ext.alloc {a w : World} (h : Ext a w) (o : Obj) : Ext a (w.alloc o) := Below.alloc h h.size o
theorem Ext.setCell {a w : World} (h : Ext a w) {p : Addr} (hp : a.heap.size ≤ p.block) (u : Value) : Ext a (w.setCell p u) := Below.setCell h hp u
theorem Ext.grown {a w w' : World} {row : Option Nat} (h : Ext a w) (hg : w.grownBy w' row) (hr : ∀ k, row = some k → a.heap.size ≤ k) : Ext a w' := Below.grown h hg h.size hr
theorem Ext.cell {a w : World} (h : Ext a w) {p : Addr} {v : Value} (hp : a.cell? p = some v) : w.cell? p = some v := by
  have hlt : p.block < a.heap.size := by
    rcases Nat.lt_or_ge p.block a.heap.size with h1 | h1
    · exact h1
    · simp [World.cell?, Array.getElem?_eq_none h1] at hp
  rw [Below.cell h hlt]; exact hp
theorem Ext.below {w w' : World} (h : Ext w w') : Below w.heap.size w w' := h
theorem lt_of_cell {w : World} {p : Addr} {v : Value} (hp : w.cell? p = some v) : p.block < w.heap.size := by
  rcases Nat.lt_or_ge p.block w.heap.size with h1 | h1
  · exact h1
  · simp [World.cell?, Array.getElem?_eq_none h1] at hp

/-- A byte as a value; a list of bytes as a string; a string as a list of bytes. -/
abbrev bv (b : UInt8) : Value := .int .u8 (b.toNat : Int)
def sb (l : List UInt8) : ByteArray := ⟨l.toArray⟩
def bl (s : ByteArray) : List UInt8 := s.data.toList
@[simp] theorem bl_sb (l : List UInt8) : bl (sb l) = l := rfl
@[simp] theorem sb_bl (s : ByteArray) : sb (bl s) = s := rfl
theorem size_bl (s : ByteArray) : s.size = (bl s).length := by
  show s.data.size = s.data.toList.length
  rw [Array.length_toList]
theorem get_bl (s : ByteArray) (k : Nat) (h : k < s.size) : s[k] = (bl s)[k]'(by rw [← size_bl]; exact h) := by
  simp [bl]; rfl
@[simp] theorem size_sb (l : List UInt8) : (sb l).size = l.length := by simp [sb, ByteArray.size]

/-- THE SLICE AT A READS AS THE CELLS xs, below the heap's end. -/
def Rd (w : World) (A : Option Addr) (xs : List Value) : Prop := ∀ k x, xs[k]? = some x → ∃ ad, A = some ad ∧ ad.block < w.heap.size ∧ w.cell? (ad.add k) = some x
theorem Rd.nil (w : World) (A : Option Addr) : Rd w A [] := fun k x h => by simp at h
theorem block_add (a : Addr) (n : Nat) : (a.add n).block = a.block := by unfold Addr.add; split <;> rfl
theorem Rd.ext {w w' : World} {A : Option Addr} {xs : List Value} (h : Rd w A xs) (he : Ext w w') : Rd w' A xs := fun k x hx => by
  obtain ⟨ad, h1, h2, h3⟩ := h k x hx
  exact ⟨ad, h1, Nat.lt_of_lt_of_le h2 he.size, he.cell h3⟩
theorem Rd.at {w : World} {A : Option Addr} {xs : List Value} (h : Rd w A xs) {k : Nat} (hk : k < xs.length) : ∃ ad, A = some ad ∧ ad.block < w.heap.size ∧ w.cell? (ad.add k) = some xs[k] :=
  h k _ (List.getElem?_eq_getElem hk)
theorem Rd.all {w : World} {ad : Addr} {xs : List Value} (h : Rd w (some ad) xs) {k : Nat} (hk : k < xs.length) : w.cell? (ad.add k) = some xs[k] := by
  obtain ⟨_, e, _, h3⟩ := h.at hk
  injection e with e
  subst e
  exact h3
theorem Rd.drewN {w : World} {A : Option Addr} {xs : List Value} (h : Rd w A xs) (n : Nat) : Rd (w.drewN n) A xs := h
/-- A row of the call's own, read. -/
theorem Rd.of_own {w : World} {B e c : Nat} {A : Option Addr} {xs : List Value} (h : w.ownsRow B e 1 (.slice A xs.length c) xs.length xs) : Rd w A xs := by
  intro k x hx
  rcases h.2 with ⟨hn, h0⟩ | ⟨g, cap, cur, hv, hB, hg, hc, hm, hs, ht⟩
  · rw [List.length_eq_zero_iff] at h0
    subst h0
    simp at hx
  · injection hv with e1 e2 e3
    subst e1
    have hlt : g < w.heap.size := lt_of_block hg
    have := h.cells (g := g) rfl k x hx
    exact ⟨_, rfl, hlt, this⟩

/-- 'string(b)' over a row of bytes. -/
theorem run_str {P : Program} {src dst e : TypeId} (hs : P.underlying src = some (.slice e)) (he : P.underlying e = some (.int .u8)) (hd : P.underlying dst = some .string)
    {w : World} {A : Option Addr} {l : List UInt8} {c n : Nat} (hn : n = l.length) (h : Rd w A (l.map bv)) : (convert src dst (.slice A n c)).run P w = .ok (.string (sb l)) w := by
  subst hn
  by_cases h0 : l = []
  · subst h0
    rcases A with _ | a
    · exact run_convert_bytes_nil w src e hs he _ _ dst hd
    · have := run_bytesToString w a 0 c [] (P := P) (by simp [loadCells, loadCellsFrom])
      rw [run_convert_bytes_string w src dst e _ _ _ hs he hd]
      exact this
  · obtain ⟨ad, rfl, hb, _⟩ := h.at (k := 0) (by have := List.length_pos_iff.2 h0; simpa using this)
    have hsp : ∀ k (hk : k < l.length), w.cell? (ad.add k) = some (bv l[k]) := fun k hk => by
      have := h.all (k := k) (by simpa using hk)
      simpa using this
    have h00 := hsp 0 (List.length_pos_iff.2 h0)
    have hspot : ad.spot = none := by
      cases hq : ad.spot with
      | none => rfl
      | some q =>
        exfalso
        simp [Addr.add, World.cell?, hq] at h00
        split at h00 <;> simp at h00
    obtain ⟨b, off, sp⟩ := ad
    simp at hspot
    subst hspot
    have := run_convert_bytes_arg (P := P) w src e hs he b off l.length c (l.map fun b => (b.toNat : Int)) (by simp) (fun i hi => by
      have h1 := hsp i hi
      have h2 : (⟨b, off, none⟩ : Addr).add i = ⟨b, off + i, none⟩ := by unfold Addr.add; split <;> simp_all
      rw [h2] at h1
      rw [h1]
      simp [bv, List.getD_eq_getElem?_getD, hi]) dst hd
    rw [this]
    congr 2
    apply ByteArray.ext
    apply Array.ext'
    rw [strOfNums_data, List.map_map]
    show List.map _ l = l
    conv => rhs; rw [← List.map_id l]
    apply List.map_congr_left
    intro b _
    simp
theorem own_ext {w w' : World} {B e size n : Nat} {v : Value} {xs : List Value} (h : w.ownsRow B e size v n xs) (hx : Ext w w') : w'.ownsRow B e size v n xs := by
  refine ⟨h.1, ?_⟩
  rcases h.2 with h2 | ⟨g, cap, cur, hv, hB, hg, r⟩
  · exact Or.inl h2
  · exact Or.inr ⟨g, cap, cur, hv, hB, (Below.block hx g (lt_of_block hg)).trans hg, r⟩
theorem heap_new (w : World) (o : Obj) : (w.alloc o).heap[w.heap.size]? = some o := heap_alloc_new w o
theorem own_form {w : World} {B e size n : Nat} {v : Value} {xs : List Value} (h : w.ownsRow B e size v n xs) : ∃ A c, v = .slice A n c := by
  rcases h.2 with ⟨h2, h0⟩ | ⟨g, cap, cur, hv, r⟩
  · exact ⟨none, 0, by rw [h2, h0]⟩
  · exact ⟨_, cap, hv⟩
theorem own_rd {w : World} {B e n c : Nat} {A : Option Addr} {xs : List Value} (h : w.ownsRow B e 1 (.slice A n c) n xs) : Rd w A xs := by
  have hl : xs.length = n := by have := h.1; omega
  subst hl
  exact Rd.of_own h
theorem own_ge {w : World} {B e size n : Nat} {v : Value} {xs : List Value} (h : w.ownsRow B e size v n xs) : ∀ k, v.ownBlock = some k → B ≤ k := fun k hk => (h.lt k hk).1
/-- 'out = append(out, x)': one element, which the statement has just laid in a block of its own. -/
theorem wpl_append_new {P : Program} {w : World} {u : Value} {e' : TypeId} {ops : Array Oper} {rest : List Oper} {o : Oper} {a : Act} {Q : Exit → Act → World → Prop} (w0 : World) (t e : TypeId) (hgd : o.guard = none) (s x : Operand)
    (ho : o.op = .call { callee := .builtin .append, args := #[s, x], argTypes := #[t, t] })
    {z : Value} {bytes : Nat} (ht : P.underlying t = some (.slice e)) (hi : (P.info? e).map (fun i => (i.zero, i.size, i.bytes)) = some (some z, 1, bytes)) (hz1 : z.cells.size = 1)
    {v : Value} {n : Nat} {xs : List Value} (hs : a.eval s = v) (hown : w.ownsRow w0.heap.size e 1 v n xs) (hx0 : Ext w0 w)
    (hx : a.eval x = .slice (some ⟨w.heap.size, 0, none⟩) 1 1) (h1 : u.oneCell' = true)
    (hm : n < 1000000000000) (hb : bytes ≤ 100)
    (h : ∀ A c w', w'.ownsRow w0.heap.size e 1 (.slice A (n + 1) c) (n + 1) (xs ++ [u]) → Ext w0 w' → (w.alloc (.cells #[u] e')).grownBy w' v.ownBlock → wpList P ops Q rest (a.put o.dst (.slice A (n + 1) c)) w') :
    wpList P ops Q (o :: rest) a (w.alloc (.cells #[u] e')) := by
  obtain ⟨i, hi0, hiz, hi1, hi2⟩ := info_parts hi
  have hbb : (n + 1) * bytes ≤ (n + 1) * 100 := Nat.mul_le_mul_left _ hb
  refine wpList_append_own _ hgd s x t ho w0.heap.size e i z 1 bytes ht hi0 hiz hi1 hi2 hz1 (by decide) v n xs hs (hown.alloc _) ⟨w.heap.size, 0, none⟩ 1 1 [u] hx rfl ?_ ?_ ?_ ?_ ?_ ?_
  · intro j y hj
    match j, hj with
    | 0, hj =>
      simp at hj
      subst hj
      exact cell_of_row _ _ 0 #[u] e' (0, 0) (heap_new w _)
  · intro y hy
    simp at hy
    subst hy
    exact h1
  · unfold maxLen; omega
  · omega
  · have := hx0.size; simp; omega
  · intro v' w' ho' hg _
    obtain ⟨A, c, rfl⟩ := own_form ho'
    exact h A c w' ho' (((hx0.alloc _).grown hg (fun k hk => own_ge hown k hk))) hg
theorem Ext.heap {a w : World} (h : Ext a w) {g : Nat} {o : Obj} (hb : a.heap[g]? = some o) : w.heap[g]? = some o := by
  rw [Below.block h g (lt_of_block hb)]; exact hb

/-- v READS AS THE LIST xs: a slice whose elements read as the list's, each by R. -/
def Rs {α : Type} (R : World → Value → α → Prop) (w : World) (v : Value) (xs : List α) : Prop :=
  ∃ (A : Option Addr) (c : Nat), v = .slice A xs.length c ∧ xs.length ≤ 9223372036854775807 ∧ ∀ i x, xs[i]? = some x → ∃ ad u, A = some ad ∧ w.cell? (ad.add i) = some u ∧ R w u x
/-- What is read stays as it is while nothing old turns. -/
def Stable {α : Type} (R : World → Value → α → Prop) : Prop := ∀ w w' v x, Ext w w' → R w v x → R w' v x
theorem Rs.ext {α : Type} {R : World → Value → α → Prop} (hR : Stable R) : Stable (Rs R) := fun w w' v xs hx h => by
  obtain ⟨A, c, rfl, hl, h⟩ := h
  refine ⟨A, c, rfl, hl, fun i x hi => ?_⟩
  obtain ⟨ad, u, h1, h2, h3⟩ := h i x hi
  exact ⟨ad, u, h1, hx.cell h2, hR w w' u x hx h3⟩
def RI (_ : World) (v : Value) (n : Int) : Prop := v = .int .i64 n ∧ -9223372036854775808 ≤ n ∧ n ≤ 9223372036854775807
def RB (_ : World) (v : Value) (b : UInt8) : Prop := v = bv b
def RS (_ : World) (v : Value) (l : List UInt8) : Prop := v = .string (sb l)
theorem RI.ext : Stable RI := fun _ _ _ _ _ h => h
theorem RB.ext : Stable RB := fun _ _ _ _ _ h => h
theorem RS.ext : Stable RS := fun _ _ _ _ _ h => h
theorem Rs.at {α : Type} {R : World → Value → α → Prop} {w : World} {A : Option Addr} {n c : Nat} {xs : List α} (h : Rs R w (.slice A n c) xs) {i : Nat} (hi : i < xs.length) : ∃ ad u, A = some ad ∧ w.cell? (ad.add i) = some u ∧ R w u xs[i] := by
  obtain ⟨A', c', e, _, h⟩ := h
  injection e with e1 e2 e3
  subst e1
  exact h i _ (List.getElem?_eq_getElem hi)
theorem Rs.form {α : Type} {R : World → Value → α → Prop} {w : World} {v : Value} {xs : List α} (h : Rs R w v xs) : ∃ A c, v = .slice A xs.length c ∧ xs.length ≤ 9223372036854775807 := by
  obtain ⟨A, c, e, hl, _⟩ := h
  exact ⟨A, c, e, hl⟩
theorem Rs.len {α : Type} {R : World → Value → α → Prop} {w : World} {A : Option Addr} {n c : Nat} {xs : List α} (h : Rs R w (.slice A n c) xs) : n = xs.length := by
  obtain ⟨A', c', e, _, h⟩ := h
  injection e
theorem Rs.rd {w : World} {A : Option Addr} {n c : Nat} {xs : List UInt8} (h : Rs RB w (.slice A n c) xs) : Rd w A (xs.map bv) := fun k x hx => by
  rw [List.getElem?_map] at hx
  cases hk : xs[k]? with
  | none => rw [hk] at hx; cases hx
  | some b =>
    rw [hk] at hx
    injection hx with hx
    subst hx
    have hk' : k < xs.length := by
      rcases Nat.lt_or_ge k xs.length with h1 | h1
      · exact h1
      · rw [List.getElem?_eq_none h1] at hk; cases hk
    obtain ⟨ad, u, h1, h2, h3⟩ := h.at hk'
    rw [List.getElem?_eq_getElem hk'] at hk
    injection hk with hk
    rw [hk] at h3
    subst h3
    exact ⟨ad, h1, by have := lt_of_cell h2; rwa [block_add] at this, h2⟩
theorem Rs.of_rd {w : World} {A : Option Addr} {c : Nat} {xs : List UInt8} (h : Rd w A (xs.map bv)) (hl : xs.length ≤ 9223372036854775807) : Rs RB w (.slice A xs.length c) xs :=
  ⟨A, c, rfl, hl, fun i x hi => by
    obtain ⟨ad, h1, _, h3⟩ := h i (bv x) (by rw [List.getElem?_map, hi]; rfl)
    exact ⟨ad, bv x, h1, h3, rfl⟩⟩
end Go.Proofs.YtdmljilcbndmfaaDoor

/- FROM A LAW's WALK TO ITS ROW: what the form asks behind a call that returned true and turned nothing that was there. -/
namespace Go.Proofs.YtdmljilcbndmfaaDoor
open Go.RowKit Go.ChangeShapes Go.WideShapes Go.ChangeAt

variable {H : Type} {enc : TypeId × Value → H} {P : Program}
theorem trodAll_ext (hl : laidOutB P = true) {W W' : World} (hx : Ext W W') : ∀ {ts : List TypeId} {vs : List Value} {ds : List (DataW H)} {ps : List MemPlace},
    (∀ t ∈ ts, P.readableRec t = true ∧ t < P.types.size) → (∀ x ∈ ps, x.block < W.heap.size) →
    DataW.TrodAll enc P W 0 (fun _ => true) true ts vs ds ps → DataW.TrodAll enc P W' 0 (fun b => decide (b < W.heap.size)) true ts vs ds ps
  | [], [], [], _, _, _, h => h
  | t :: ts, v :: vs, d :: ds, ps, hr, hlt, h => by
    obtain ⟨p, q, h1, h2, rfl⟩ := h
    have h3 := hr t (by simp)
    exact ⟨p, q, Below.trod hl h3.1 h3.2 h1 hx (fun x hx => hlt x (by simp [hx])), trodAll_ext hl hx (fun t ht => hr t (by simp [ht])) (fun x hx => hlt x (by simp [hx])) h2, rfl⟩
  | [], _ :: _, _, _, _, _, h => h.elim
  | [], [], _ :: _, _, _, _, h => h.elim
  | _ :: _, [], _, _, _, _, h => h.elim
  | _ :: _, _ :: _, [], _, _, _, h => h.elim

/-- WHAT THE FORM ASKS BEHIND THE CALL. -/
theorem law_post {f : Func} {s : ChangeSpec} {W W' : World} {args : Array Value} {ds gs : List (DataW H)} {before : List MemPlace} {tb : TypeId}
    (hl : laidOutB P = true) (hr : (f.params.toList.all fun t => P.readableRec t && decide (t < P.types.size)) = true)
    (hv : s.vars = []) (hres : f.resultTypes = #[tb]) (htb : P.underlying tb = some .bool)
    (hspec : (s.fn H (ds ++ gs)).results = [.lit (.bool true)] ∧ (s.fn H (ds ++ gs)).args = ds ∧ (s.fn H (ds ++ gs)).vars = [])
    (hW : DataW.Whole enc P f.params.toList s.vars false W args.toList ds gs before) (hx : Ext W W') :
    s.post enc P f false true false false W args (.bool true) W' := by
  have hW' := hW
  have hlt : ∀ x ∈ before, x.block < W.heap.size := fun x hx => hW.lt x hx
  obtain ⟨p, q, hA, hV, rfl, hfz, hnd⟩ := hW
  have hr' : ∀ t ∈ f.params.toList, P.readableRec t = true ∧ t < P.types.size := fun t ht => by
    have := List.all_eq_true.1 hr t ht
    simpa using this
  refine ⟨ds, gs, p ++ q, [], p, [], hW', ?_, ?_, ?_, hx.frame _, fun h => by cases h⟩
  · rw [hspec.1, hres]
    exact trodAll_cons_mk (shut_bool htb _) trodAll_mk0
  · rw [hspec.2.1]
    exact trodAll_ext hl hx hr' (fun x hx => hlt x (by simp [hx])) hA
  · rw [hspec.2.2, hv]
    rfl

end Go.Proofs.YtdmljilcbndmfaaDoor

/- THE FIELD OF 256 ELEMENTS, in plain numbers: products bit by bit, and what the program's and the specification's products come to. No program in sight. -/
namespace Gf

/-- What four high bits of a product are modulo the polynomial. -/
def hiL : List Nat := [0, 29, 58, 39, 116, 105, 78, 83, 232, 245, 210, 207, 156, 129, 166, 187]
def hi (k : Nat) : Nat := hiL.getD k 0
def red (x : Nat) : Nat := (x % 256) ^^^ hi (x / 256 % 16)
/-- The sum of the shifted bytes that the lowest k bits of n choose. -/
def tacc (a n : Nat) : Nat → Nat
  | 0 => 0
  | k + 1 => if n / 2 ^ k % 2 = 1 then tacc a n k ^^^ (a * 2 ^ k) else tacc a n k
def tms (a n : Nat) : Nat := red (tacc a n 4)
/-- The program's product. -/
def mulG (a b : Nat) : Nat := red (tms a (b / 16) * 16) ^^^ tms a (b % 16)

/-- A byte times x. -/
def xt (x : Nat) : Nat := (2 * x) ^^^ (285 * (x / 128))
/-- The product that the laws are proved of: n bits of y. -/
def mulK : Nat → Nat → Nat → Nat
  | 0, _, _ => 0
  | n + 1, x, y => (y % 2 * x) ^^^ mulK n (xt x) (y / 2)
def mulN (a b : Nat) : Nat := mulK 8 a b

theorem all1_of {p : Nat → Bool} {n : Nat} (h : (List.range n).all p = true) {a : Nat} (ha : a < n) : p a = true := by
  rw [List.all_eq_true] at h
  exact h a (by simpa using ha)
theorem all2_of {p : Nat → Nat → Bool} {m n : Nat} (h : ((List.range m).all fun a => (List.range n).all fun b => p a b) = true) {a b : Nat} (ha : a < m) (hb : b < n) : p a b = true := by
  have h1 := all1_of (p := fun a => (List.range n).all fun b => p a b) h ha
  exact all1_of (p := fun b => p a b) h1 hb
theorem eq1_of {f g : Nat → Nat} {n : Nat} (h : ((List.range n).all fun a => Nat.beq (f a) (g a)) = true) {a : Nat} (ha : a < n) : f a = g a :=
  Nat.eq_of_beq_eq_true (all1_of (p := fun a => Nat.beq (f a) (g a)) h ha)
theorem eq2_of {f g : Nat → Nat → Nat} {m n : Nat} (h : ((List.range m).all fun a => (List.range n).all fun b => Nat.beq (f a b) (g a b)) = true) {a b : Nat} (ha : a < m) (hb : b < n) : f a b = g a b :=
  Nat.eq_of_beq_eq_true (all2_of (p := fun a b => Nat.beq (f a b) (g a b)) h ha hb)

theorem xor_lt {x y : Nat} (h : x < 256) (h' : y < 256) : x ^^^ y < 256 := Nat.xor_lt_two_pow (n := 8) h h'
theorem mul_pow_xor (x y k : Nat) : (x ^^^ y) * 2 ^ k = (x * 2 ^ k) ^^^ (y * 2 ^ k) := by
  rw [← Nat.shiftLeft_eq, ← Nat.shiftLeft_eq, ← Nat.shiftLeft_eq, Nat.shiftLeft_xor_distrib]
theorem bit_mul_xor {p q : Nat} (z : Nat) (hp : p < 2) (hq : q < 2) : z * (p ^^^ q) = (z * p) ^^^ (z * q) := by
  have h : (p = 0 ∨ p = 1) ∧ (q = 0 ∨ q = 1) := by omega
  rcases h with ⟨rfl | rfl, rfl | rfl⟩ <;> simp
theorem xor4 (a b c d : Nat) : (a ^^^ b) ^^^ (c ^^^ d) = (a ^^^ c) ^^^ (b ^^^ d) := by
  rw [Nat.xor_assoc, Nat.xor_assoc, ← Nat.xor_assoc b c d, Nat.xor_comm b c, Nat.xor_assoc c b d]

theorem xt_lt {x : Nat} (h : x < 256) : xt x < 256 := of_decide_eq_true (all1_of (p := fun x => decide (xt x < 256)) (n := 256) (by decide +kernel) h)
theorem xt_xor {x y : Nat} (h : x < 256) (h' : y < 256) : xt (x ^^^ y) = xt x ^^^ xt y := by
  unfold xt
  have e1 : 2 * (x ^^^ y) = (2 * x) ^^^ (2 * y) := by have := mul_pow_xor x y 1; simpa [Nat.mul_comm] using this
  have e2 : (x ^^^ y) / 128 = (x / 128) ^^^ (y / 128) := Nat.xor_div_two_pow (n := 7)
  rw [e1, e2, bit_mul_xor 285 (by omega) (by omega), xor4]

/-- f takes sums of bytes to sums. -/
def Lin (f : Nat → Nat) : Prop := ∀ x y, x < 256 → y < 256 → f (x ^^^ y) = f x ^^^ f y
theorem Lin.zero {f : Nat → Nat} (h : Lin f) : f 0 = 0 := by
  have := h 0 0 (by omega) (by omega)
  simpa using this
theorem top_bit {n x : Nat} (hn : n < 8) (hx : x < 256) (h1 : 2 ^ n ≤ x) (h2 : x < 2 ^ (n + 1)) : 2 ^ n ^^^ (x - 2 ^ n) = x := by
  have h : ((List.range 8).all fun n => (List.range 256).all fun x => !(Nat.ble (2 ^ n) x) || !(Nat.ble (x + 1) (2 ^ (n + 1))) || Nat.beq (2 ^ n ^^^ (x - 2 ^ n)) x) = true := by decide +kernel
  have h3 := all2_of (p := fun n x => !(Nat.ble (2 ^ n) x) || !(Nat.ble (x + 1) (2 ^ (n + 1))) || Nat.beq (2 ^ n ^^^ (x - 2 ^ n)) x) h hn hx
  simp only [Nat.ble_eq_true_of_le h1, Nat.ble_eq_true_of_le (show x + 1 ≤ 2 ^ (n + 1) from h2), Bool.not_true, Bool.false_or] at h3
  exact Nat.eq_of_beq_eq_true h3
theorem lin_ext {f g : Nat → Nat} (hf : Lin f) (hg : Lin g) (h : ∀ k, k < 8 → f (2 ^ k) = g (2 ^ k)) {x : Nat} (hx : x < 256) : f x = g x := by
  have key : ∀ n, n ≤ 8 → ∀ x, x < 2 ^ n → f x = g x := by
    intro n
    induction n with
    | zero => intro _ x hx; obtain rfl : x = 0 := by omega
              rw [hf.zero, hg.zero]
    | succ n ih =>
      intro hn x hx
      have hp : 2 ^ (n + 1) ≤ 2 ^ 8 := Nat.pow_le_pow_right (by omega) hn
      have hp' : 2 ^ (n + 1) = 2 * 2 ^ n := by rw [Nat.pow_succ]; omega
      by_cases hlt : x < 2 ^ n
      · exact ih (by omega) x hlt
      · have e := top_bit (n := n) (x := x) (by omega) (by omega) (by omega) hx
        rw [← e, hf _ _ (by omega) (by omega), hg _ _ (by omega) (by omega), h n (by omega), ih (by omega) _ (by omega)]
  exact key 8 (by omega) x (by simpa using hx)

theorem lin_xor {f g : Nat → Nat} (hf : Lin f) (hg : Lin g) : Lin fun x => f x ^^^ g x := fun x y hx hy => by
  show f (x ^^^ y) ^^^ g (x ^^^ y) = (f x ^^^ g x) ^^^ (f y ^^^ g y)
  rw [hf x y hx hy, hg x y hx hy, xor4]
theorem lin_comp {f g : Nat → Nat} (hf : Lin f) (hg : Lin g) (hb : ∀ x, x < 256 → g x < 256) : Lin fun x => f (g x) := fun x y hx hy => by
  show f (g (x ^^^ y)) = f (g x) ^^^ f (g y)
  rw [hg x y hx hy, hf _ _ (hb x hx) (hb y hy)]

theorem mulK_lt : ∀ n x y, x < 256 → mulK n x y < 256
  | 0, _, _, _ => by simp [mulK]
  | n + 1, x, y, h => by
    unfold mulK
    refine xor_lt ?_ (mulK_lt n _ _ (xt_lt h))
    have h2 : y % 2 = 0 ∨ y % 2 = 1 := by omega
    rcases h2 with e | e <;> rw [e] <;> omega
theorem mulN_lt {a b : Nat} (h : a < 256) : mulN a b < 256 := mulK_lt 8 a b h
theorem mulK_lin1 : ∀ n y, Lin fun x => mulK n x y
  | 0, _ => fun _ _ _ _ => by simp [mulK]
  | n + 1, y => by
    have h1 : Lin fun x => y % 2 * x := fun a b _ _ => by
      have h2 : y % 2 = 0 ∨ y % 2 = 1 := by omega
      rcases h2 with e | e <;> simp [e]
    exact lin_xor h1 (lin_comp (f := fun x => mulK n x (y / 2)) (g := xt) (mulK_lin1 n (y / 2)) (fun a b ha hb => xt_xor ha hb) fun x h => xt_lt h)
theorem mulK_xor2 (x : Nat) : ∀ n y z, mulK n x (y ^^^ z) = mulK n x y ^^^ mulK n x z := by
  intro n
  induction n generalizing x with
  | zero => intro y z; simp [mulK]
  | succ n ih =>
    intro y z
    have e1 : (y ^^^ z) % 2 = (y % 2) ^^^ (z % 2) := Nat.xor_mod_two_pow (n := 1)
    have e2 : (y ^^^ z) / 2 = (y / 2) ^^^ (z / 2) := Nat.xor_div_two_pow (n := 1)
    simp only [mulK]
    rw [e1, e2, ih, Nat.mul_comm _ x, bit_mul_xor x (by omega) (by omega), xor4, Nat.mul_comm x, Nat.mul_comm x]
theorem mulN_lin1 (b : Nat) : Lin fun a => mulN a b := mulK_lin1 8 b
theorem mulN_lin2 (a : Nat) : Lin fun b => mulN a b := fun x y _ _ => mulK_xor2 a 8 x y

theorem two_pow_lt {k : Nat} (h : k < 8) : 2 ^ k < 256 := by
  have : 2 ^ k ≤ 2 ^ 7 := Nat.pow_le_pow_right (by omega) (by omega)
  omega
theorem mulN_comm {a b : Nat} (h : a < 256) (h' : b < 256) : mulN a b = mulN b a := by
  refine lin_ext (f := fun a => mulN a b) (g := fun a => mulN b a) (mulN_lin1 b) (mulN_lin2 b) (fun j hj => ?_) h
  refine lin_ext (f := fun b => mulN (2 ^ j) b) (g := fun b => mulN b (2 ^ j)) (mulN_lin2 _) (mulN_lin1 _) (fun k hk => ?_) h'
  exact eq2_of (f := fun j k => mulN (2 ^ j) (2 ^ k)) (g := fun j k => mulN (2 ^ k) (2 ^ j)) (by decide +kernel) hj hk
theorem mulN_assoc {a b c : Nat} (h : a < 256) (h' : b < 256) (h'' : c < 256) : mulN (mulN a b) c = mulN a (mulN b c) := by
  refine lin_ext (f := fun a => mulN (mulN a b) c) (g := fun a => mulN a (mulN b c)) (lin_comp (mulN_lin1 c) (mulN_lin1 b) fun x hx => mulN_lt hx) (mulN_lin1 _) (fun i hi => ?_) h
  refine lin_ext (f := fun b => mulN (mulN (2 ^ i) b) c) (g := fun b => mulN (2 ^ i) (mulN b c)) (lin_comp (mulN_lin1 c) (mulN_lin2 _) fun x _ => mulN_lt (two_pow_lt hi)) (lin_comp (mulN_lin2 _) (mulN_lin1 c) fun x hx => mulN_lt hx) (fun j hj => ?_) h'
  refine lin_ext (f := fun c => mulN (mulN (2 ^ i) (2 ^ j)) c) (g := fun c => mulN (2 ^ i) (mulN (2 ^ j) c)) (mulN_lin2 _) (lin_comp (mulN_lin2 _) (mulN_lin2 _) fun x _ => mulN_lt (two_pow_lt hj)) (fun k hk => ?_) h''
  have := all2_of (p := fun i j => (List.range 8).all fun k => Nat.beq (mulN (mulN (2 ^ i) (2 ^ j)) (2 ^ k)) (mulN (2 ^ i) (mulN (2 ^ j) (2 ^ k)))) (m := 8) (n := 8) (by decide +kernel) hi hj
  exact Nat.eq_of_beq_eq_true (all1_of (p := fun k => Nat.beq (mulN (mulN (2 ^ i) (2 ^ j)) (2 ^ k)) (mulN (2 ^ i) (mulN (2 ^ j) (2 ^ k)))) this hk)

theorem hi_xor {p q : Nat} (hp : p < 16) (hq : q < 16) : hi (p ^^^ q) = hi p ^^^ hi q :=
  eq2_of (f := fun p q => hi (p ^^^ q)) (g := fun p q => hi p ^^^ hi q) (by decide +kernel) hp hq
theorem red_xor (x y : Nat) : red (x ^^^ y) = red x ^^^ red y := by
  unfold red
  have e1 : (x ^^^ y) % 256 = (x % 256) ^^^ (y % 256) := Nat.xor_mod_two_pow (n := 8)
  have e2 : (x ^^^ y) / 256 % 16 = (x / 256 % 16) ^^^ (y / 256 % 16) := by
    rw [show (x ^^^ y) / 256 = (x / 256) ^^^ (y / 256) from Nat.xor_div_two_pow (n := 8)]
    exact Nat.xor_mod_two_pow (n := 4)
  rw [e1, e2, hi_xor (by omega) (by omega), xor4]
theorem tacc_xor1 (n x y : Nat) : ∀ k, tacc (x ^^^ y) n k = tacc x n k ^^^ tacc y n k
  | 0 => by simp [tacc]
  | k + 1 => by
    unfold tacc
    split
    · rw [tacc_xor1 n x y k, mul_pow_xor, xor4]
    · exact tacc_xor1 n x y k
theorem mulG_lin1 (b : Nat) : Lin fun a => mulG a b := fun x y _ _ => by
  have e (n : Nat) : tms (x ^^^ y) n = tms x n ^^^ tms y n := by unfold tms; rw [tacc_xor1, red_xor]
  show mulG (x ^^^ y) b = mulG x b ^^^ mulG y b
  unfold mulG
  rw [e, e, show (16 : Nat) = 2 ^ 4 from rfl, mul_pow_xor, red_xor, xor4]
theorem mulG_eq {a b : Nat} (h : a < 256) (h' : b < 256) : mulG a b = mulN a b := by
  refine lin_ext (f := fun a => mulG a b) (g := fun a => mulN a b) (mulG_lin1 b) (mulN_lin1 b) (fun j hj => ?_) h
  exact eq2_of (f := fun j b => mulG (2 ^ j) b) (g := fun j b => mulN (2 ^ j) b) (by decide +kernel) hj h'

theorem tacc_lt (a n : Nat) (ha : a < 256) : ∀ k, tacc a n k < 2 ^ (8 + k)
  | 0 => by simp [tacc]
  | k + 1 => by
    have ih := tacc_lt a n ha k
    have h1 : a * 2 ^ k < 2 ^ (8 + (k + 1)) := by
      have : a * 2 ^ k < 256 * 2 ^ k := Nat.mul_lt_mul_of_pos_right ha (Nat.two_pow_pos k)
      have e : 2 ^ (8 + (k+1)) = 2 * (256 * 2 ^ k) := by rw [Nat.pow_add, Nat.pow_succ]; omega
      omega
    have h2 : tacc a n k < 2 ^ (8 + (k + 1)) := by
      have : 2 ^ (8 + (k + 1)) = 2 * 2 ^ (8 + k) := by rw [← Nat.add_assoc, Nat.pow_succ]; omega
      omega
    unfold tacc; split
    · exact Nat.xor_lt_two_pow h2 h1
    · exact h2
theorem hi_lt {k : Nat} (h : k < 16) : hi k < 256 := of_decide_eq_true (all1_of (p := fun k => decide (hi k < 256)) (n := 16) (by decide +kernel) h)
theorem red_lt (x : Nat) : red x < 256 := xor_lt (by omega) (hi_lt (by omega))
theorem tms_lt (a n : Nat) : tms a n < 256 := red_lt _

theorem mulN_zero1 (b : Nat) : mulN 0 b = 0 := (mulN_lin1 b).zero
theorem mulN_zero2 (a : Nat) : mulN a 0 = 0 := (mulN_lin2 a).zero
theorem mulN_one2 {a : Nat} (h : a < 256) : mulN a 1 = a := eq1_of (f := fun a => mulN a 1) (g := fun a => a) (n := 256) (by decide +kernel) h
theorem mulN_one1 {a : Nat} (h : a < 256) : mulN 1 a = a := by rw [mulN_comm (by omega) h, mulN_one2 h]

/-- a times itself, n times. -/
def powN (a : Nat) : Nat → Nat
  | 0 => 1
  | n + 1 => mulN (powN a n) a
theorem powN_lt {a : Nat} : ∀ n, powN a n < 256
  | 0 => by simp [powN]
  | n + 1 => mulN_lt (powN_lt n)
theorem powN_two {a : Nat} (h : a < 256) : ∀ n, powN (mulN a a) n = powN a (2 * n)
  | 0 => rfl
  | n + 1 => by rw [powN, powN_two h n, show 2 * (n + 1) = 2 * n + 1 + 1 from by omega, powN, powN, mulN_assoc (powN_lt _) h h]
theorem powN_zero {n : Nat} (h : n ≠ 0) : powN 0 n = 0 := by
  cases n with
  | zero => exact absurd rfl h
  | succ n => exact mulN_zero2 _
/-- By squares. -/
def pow8 (a : Nat) (n : Nat) : Nat → Nat → Nat
  | 0, x => x
  | f + 1, x => pow8 (mulN a a) (n / 2) f (if n % 2 = 1 then mulN x a else x)
theorem pow8_eq : ∀ (f a n x : Nat), a < 256 → x < 256 → n < 2 ^ f → pow8 a n f x = mulN x (powN a n)
  | 0, a, n, x, _, hx, hn => by
    obtain rfl : n = 0 := by simpa using hn
    rw [pow8, powN, mulN_one2 hx]
  | f + 1, a, n, x, ha, hx, hn => by
    have hn2 : n / 2 < 2 ^ f := by rw [Nat.pow_succ] at hn; omega
    have e2 := powN_two ha (n / 2)
    rw [pow8]
    split
    · rename_i h1
      rw [pow8_eq f _ _ _ (mulN_lt ha) (mulN_lt hx) hn2, e2, mulN_assoc hx ha (powN_lt _), mulN_comm ha (powN_lt _), show mulN (powN a (2 * (n / 2))) a = powN a (2 * (n / 2) + 1) from rfl]
      rw [show 2 * (n / 2) + 1 = n from by omega]
    · rename_i h1
      rw [pow8_eq f _ _ _ (mulN_lt ha) hx hn2, e2, show 2 * (n / 2) = n from by omega]
theorem powN_eq8 {a n : Nat} (ha : a < 256) (hn : n < 256) : powN a n = pow8 a n 8 1 := by
  rw [pow8_eq 8 a n 1 ha (by omega) hn, mulN_one1 (powN_lt n)]
theorem powN_255 {a : Nat} (ha : a < 256) (h0 : a ≠ 0) : powN a 255 = 1 := by
  rw [powN_eq8 ha (by omega)]
  have h := all1_of (p := fun a => Nat.beq a 0 || Nat.beq (pow8 a 255 8 1) 1) (n := 256) (by decide +kernel) ha
  rw [Bool.or_eq_true] at h
  rcases h with h | h
  · exact absurd (Nat.eq_of_beq_eq_true h) h0
  · exact Nat.eq_of_beq_eq_true h
def invN (a : Nat) : Nat := powN a 254
theorem invN_lt (a : Nat) : invN a < 256 := powN_lt _
theorem mul_invN {a : Nat} (ha : a < 256) (h0 : a ≠ 0) : mulN a (invN a) = 1 := by
  rw [mulN_comm ha (invN_lt a)]; exact powN_255 ha h0
theorem mulN_eq_zero {a b : Nat} (ha : a < 256) (hb : b < 256) : mulN a b = 0 ↔ a = 0 ∨ b = 0 := by
  constructor
  · intro h
    by_cases h0 : a = 0
    · exact .inl h0
    · right
      have e : mulN (invN a) (mulN a b) = b := by rw [← mulN_assoc (invN_lt a) ha hb, mulN_comm (invN_lt a) ha, mul_invN ha h0, mulN_one1 hb]
      rw [← e, h, mulN_zero2]
  · rintro (rfl | rfl)
    · exact mulN_zero1 b
    · exact mulN_zero2 a
/-- The place of a among the powers of 2, counted from x. -/
def logF (a : Nat) : Nat → Nat → Nat → Nat
  | 0, _, k => k
  | f + 1, x, k => if Nat.beq x a then k else logF a f (xt x) (k + 1)
def logN (a : Nat) : Nat := logF a 255 1 0
/-- The same over the walk's numbers. -/
def mulI (a b : Int) : Int := (mulN a.toNat b.toNat : Nat)
theorem mulI_nat (a b : Nat) : mulI a b = (mulN a b : Nat) := rfl
/-- The code of Inv's and Log's error. -/
def noneI (a : Int) : Int := if a = 0 then 1 else 0
/-- Pow's result. -/
def powI (a n : Int) : Int := if a = 0 ∧ n ≠ 0 then 0 else (powN a.toNat (n % 255).toNat : Nat)
/-- Log's first result. -/
def logI (a : Int) : Int := if a = 0 then 0 else (logN a.toNat : Nat)
theorem red_def (x : Nat) : red x = (x % 256) ^^^ hi (x / 256 % 16) := rfl
theorem tms_def (a n : Nat) : tms a n = red (tacc a n 4) := rfl
theorem mulN_def (a b : Nat) : mulN a b = mulK 8 a b := rfl
theorem powN_nil (a : Nat) : powN a 0 = 1 := rfl
theorem powN_succ (a k : Nat) : powN a (k + 1) = mulN (powN a k) a := rfl
theorem powN_step (a k : Nat) : mulI (powN a k : Nat) (a : Nat) = (powN a (k + 1) : Nat) := rfl
theorem powN_step2 (k : Nat) : mulI (powN 2 k : Nat) 2 = (powN 2 (k + 1) : Nat) := rfl
theorem invN_def (a : Nat) : invN a = powN a 254 := rfl
theorem noneI_zero : noneI 0 = 1 := rfl
theorem noneI_nat {a : Int} (h : a ≠ 0) : noneI a = 0 := if_neg h
/- A walk must not look into these. -/
attribute [irreducible] mulN mulI powN invN logN logI noneI powI red tms hi
end Gf

/- THE WALKS over package gf: what each of its functions returns, in the numbers of the text on the field. -/
namespace Go.Proofs.YtdmljilcbndmfaaDoor
open Go.RowKit

/-- The table of package gf lies in memory. -/
def Tab (w : World) : Prop := ∀ k, k < 16 → w.cell? ⟨0, k, none⟩ = some (.int .u8 (Gf.hi k : Nat))
theorem Tab.below {B : Nat} {w w' : World} (h : Tab w) (hb : Below B w w') (hB : 0 < B) : Tab w' :=
  fun k hk => (hb.cell (p := ⟨0, k, none⟩) hB).trans (h k hk)
theorem Tab.size {w : World} (h : Tab w) : 0 < w.heap.size := by
  have := h 0 (by omega)
  rcases Nat.lt_or_ge 0 w.heap.size with h1 | h1
  · exact h1
  · simp [World.cell?, Array.getElem?_eq_none h1] at this
theorem Tab.ext {w w' : World} (h : Tab w) (hb : Below w.heap.size w w') : Tab w' := h.below hb h.size

theorem reduce_nat (n : Nat) (h1 : n < 4096) (w : World) (hT : Tab w) :
    Calls Tryd.prog 97 #[.int .u64 n] w fun e w' => e = .returned (.int .u8 (Gf.red n : Nat)) ∧ w = w' := by
  have e1 : bits .and .u64 ((n : Int) / 256) 15 = ((n / 256 % 16 : Nat) : Int) := by
    have := u64_and_nat (n / 256) 15 (by omega) (by omega)
    rw [nat_mask4] at this
    simpa using this
  have hc := hT (n / 256 % 16) (by omega)
  have hl := Gf.hi_lt (k := n / 256 % 16) (by omega)
  have e2 : bits .xor .u8 ((n : Int) % 256) ((Gf.hi (n / 256 % 16) : Nat) : Int) = ((Gf.red n : Nat) : Int) := by
    have := u8_xor_nat (n % 256) (Gf.hi (n / 256 % 16)) (by omega) hl
    rw [Gf.red_def]
    simpa using this
  go_enter Tryd.func97, Tryd.ntmps97
  go_wp2_with fail
  go_ret
  first | exact ⟨rfl, rfl⟩ | exact ⟨ret_int e2, rfl⟩

theorem times_nat (a n : Nat) (ha : a < 256) (hn : n < 16) (w : World) (hT : Tab w) :
    Calls Tryd.prog 98 #[.int .u8 a, .int .u64 n] w fun e w' => e = .returned (.int .u8 (Gf.tms a n : Nat)) ∧ w = w' := by
  have HT := Lib.hid hT
  clear hT
  go_enter Tryd.func98, Tryd.ntmps98
  go_wp2_with fail
  go_loop [5, 7] (fun x i => ∃ k : Nat, k ≤ 4 ∧ i = .int .i64 k ∧ x = .int .u64 (Gf.tacc a n k : Nat)) (fun _ i => 4 - (intOf i).toNat)
  case atStart => exact ⟨0, by omega, rfl, rfl⟩
  case round =>
    obtain ⟨k, hk, rfl, rfl⟩ := hrel
    have hb := Gf.tacc_lt a n ha k
    have hb2 : 2 ^ (8 + k) ≤ 2 ^ 12 := Nat.pow_le_pow_right (by omega) (by omega)
    have hb3 : Gf.tacc a n k < 4096 := by omega
    clear hb hb2
    by_cases hlt : k < 4
    · have hp : 2 ^ k ≤ 2 ^ 4 := Nat.pow_le_pow_right (by omega) (by omega)
      have hap : a * 2 ^ k < 256 * 16 := Nat.mul_lt_mul_of_lt_of_le ha (by omega) (by omega)
      have e0 : bits .and .u64 ((n : Int) / 2 ^ k) 1 = ((n / 2 ^ k % 2 : Nat) : Int) := by
        have hd : n / 2 ^ k ≤ n := Nat.div_le_self _ _
        have := u64_and_nat (n / 2 ^ k) 1 (by omega) (by omega)
        rw [nat_mask1] at this
        simpa using this
      have e1 : IntKind.u64.wrap ((a : Int) * 2 ^ k) = ((a * 2 ^ k : Nat) : Int) := by
        have h : ((a : Int) * 2 ^ k) = ((a * 2 ^ k : Nat) : Int) := by simp
        rw [h, IntKind.wrap_u64]
        omega
      have e2 : bits .xor .u64 ((Gf.tacc a n k : Nat) : Int) (IntKind.u64.wrap ((a : Int) * 2 ^ k)) = ((Gf.tacc a n k ^^^ (a * 2 ^ k) : Nat) : Int) := by
        rw [e1]; exact u64_xor_nat _ _ (by omega) (by omega)
      have HP := Lib.hid hp
      have HA := Lib.hid hap
      have H1 := Lib.hid e1
      clear hp hap e1
      by_cases hbit : n / 2 ^ k % 2 = 1
      · have H : Gf.tacc a n (k + 1) = Gf.tacc a n k ^^^ (a * 2 ^ k) := by rw [Gf.tacc, if_pos hbit]
        have HH := Lib.hid H
        clear H
        have e3 : (bits .and .u64 ((n : Int) / 2 ^ k) 1 == 1) = true := by rw [e0, hbit]; rfl
        clear e0
        have HB := Lib.hid hbit
        clear hbit
        go_wp2_with fail
        go_round
        case rel => exact ⟨k + 1, by omega, by go_num, by rw [HH.out]⟩
        case measure => simp [intOf]; omega
      · have H : Gf.tacc a n (k + 1) = Gf.tacc a n k := by rw [Gf.tacc, if_neg hbit]
        have HH := Lib.hid H
        clear H
        have e3 : (bits .and .u64 ((n : Int) / 2 ^ k) 1 == 1) = false := by
          have h0 : n / 2 ^ k % 2 = 0 := by omega
          rw [e0, h0]; rfl
        clear e0
        have HB := Lib.hid hbit
        clear hbit
        go_wp2_with fail
        go_round
        case rel => exact ⟨k + 1, by omega, by go_num, by rw [HH.out]⟩
        case measure => simp [intOf]; omega
    · obtain rfl : k = 4 := by omega
      go_wp2_with (go_at_call 97; refine (reduce_nat _ hb3 _ HT.out).mono ?_; rintro e w' ⟨rfl, rfl⟩)
      go_ret
      exact ⟨ret_int (by rw [Gf.tms_def]), rfl⟩

theorem mul_nat (a b : Nat) (ha : a < 256) (hb : b < 256) (w : World) (hT : Tab w) :
    Calls Tryd.prog 82 #[.int .u8 a, .int .u8 b] w fun e w' => e = .returned (.int .u8 (Gf.mulN a b : Nat)) ∧ w = w' := by
  have HT := Lib.hid hT
  clear hT
  have h1 := Gf.tms_lt a (b / 16)
  have h2 := Gf.tms_lt a (b % 16)
  have e1 : bits .and .u8 (b : Int) 15 = ((b % 16 : Nat) : Int) := by
    have := u8_and_nat b 15 (by omega) (by omega)
    rw [nat_mask4] at this
    simpa using this
  have e2 : bits .xor .u8 ((Gf.red (Gf.tms a (b / 16) * 16) : Nat) : Int) ((Gf.tms a (b % 16) : Nat) : Int) = ((Gf.mulN a b : Nat) : Int) := by
    rw [u8_xor_nat _ _ (Gf.red_lt _) h2, ← Gf.mulG_eq ha hb, Gf.mulG]
  have H2 := Lib.hid e2
  clear e2
  go_enter Tryd.func82, Tryd.ntmps82
  go_wp2_with fail
  refine (times_nat a (b / 16) ha (by omega) _ HT.out).mono ?_
  rintro e w' ⟨rfl, rfl⟩
  go_wp2_with fail
  refine (reduce_nat (Gf.tms a (b / 16) * 16) (by omega) _ HT.out).mono ?_
  rintro e w' ⟨rfl, rfl⟩
  go_wp2_with fail
  refine (times_nat a (b % 16) ha (by omega) _ HT.out).mono ?_
  rintro e w' ⟨rfl, rfl⟩
  go_wp2_with fail
  go_ret
  exact ⟨ret_int H2.out, rfl⟩
/-- Mul, whatever the terms for its arguments are. -/
theorem mul_any (a b : Int) (w : World) (hT : Tab w) (ha : 0 ≤ a) (ha' : a < 256) (hb : 0 ≤ b) (hb' : b < 256) :
    Calls Tryd.prog 82 #[.int .u8 a, .int .u8 b] w fun e w' => e = .returned (.int .u8 (Gf.mulI a b)) ∧ w = w' := by
  obtain ⟨a, rfl⟩ := Int.eq_ofNat_of_zero_le ha
  obtain ⟨b, rfl⟩ := Int.eq_ofNat_of_zero_le hb
  rw [Gf.mulI_nat]
  exact mul_nat a b (by omega) (by omega) w hT

theorem power_nat (a n : Nat) (ha : a < 256) (hn : n < 1000) (w : World) (hT : Tab w) :
    Calls Tryd.prog 86 #[.int .u8 a, .int .i64 n] w fun e w' => e = .returned (.int .u8 (Gf.powN a n : Nat)) ∧ w = w' := by
  have HT := Lib.hid hT
  clear hT
  go_enter Tryd.func86, Tryd.ntmps86
  go_wp2_with fail
  go_loop [0, 1, 5] (fun va vn vx => ∃ A N X : Nat, A < 256 ∧ X < 256 ∧ N < 1000 ∧ va = .int .u8 A ∧ vn = .int .i64 N ∧ vx = .int .u8 X ∧ Gf.mulN X (Gf.powN A N) = Gf.powN a n) (fun _ vn _ => (intOf vn).toNat)
  case atStart => exact ⟨a, n, 1, ha, by omega, hn, rfl, rfl, rfl, Gf.mulN_one1 (Gf.powN_lt n)⟩
  case round =>
    obtain ⟨A, N, X, hA, hX, hN, rfl, rfl, rfl, hm⟩ := hrel
    have HM := Lib.hid hm
    clear hm
    have e0 := odd64 N (by omega)
    by_cases hp : 0 < N
    · have hAA := Gf.mulN_lt (a := A) (b := A) hA
      by_cases hbit : N % 2 = 1
      · have hXA := Gf.mulN_lt (a := X) (b := A) hX
        have e3 : (bits .and .i64 (N : Int) 1 == 1) = true := by rw [e0, hbit]; rfl
        have H : Gf.mulN (Gf.mulN X A) (Gf.powN (Gf.mulN A A) (N / 2)) = Gf.powN a n := by
          rw [Gf.powN_two hA, Gf.mulN_assoc hX hA (Gf.powN_lt _), Gf.mulN_comm hA (Gf.powN_lt _), ← HM.out]
          rw [← Gf.powN_succ, show 2 * (N / 2) + 1 = N from by omega]
        have HH := Lib.hid H
        have HB := Lib.hid hbit
        clear H hbit e0
        go_wp2_with fail
        refine (mul_nat X A hX hA _ HT.out).mono ?_
        rintro e w' ⟨rfl, rfl⟩
        go_wp2_with fail
        refine (mul_nat A A hA hA _ HT.out).mono ?_
        rintro e w' ⟨rfl, rfl⟩
        go_wp2_with fail
        go_round
        case rel => exact ⟨Gf.mulN A A, N / 2, Gf.mulN X A, hAA, hXA, by omega, rfl, by go_num, rfl, HH.out⟩
        case measure => simp [intOf]; omega
      · have e3 : (bits .and .i64 (N : Int) 1 == 1) = false := by
          have h0 : N % 2 = 0 := by omega
          rw [e0, h0]; rfl
        have H : Gf.mulN X (Gf.powN (Gf.mulN A A) (N / 2)) = Gf.powN a n := by
          rw [Gf.powN_two hA, show 2 * (N / 2) = N from by omega]; exact HM.out
        have HH := Lib.hid H
        have HB := Lib.hid hbit
        clear H hbit e0
        go_wp2_with fail
        refine (mul_nat A A hA hA _ HT.out).mono ?_
        rintro e w' ⟨rfl, rfl⟩
        go_wp2_with fail
        go_round
        case rel => exact ⟨Gf.mulN A A, N / 2, X, hAA, hX, by omega, rfl, by go_num, rfl, HH.out⟩
        case measure => simp [intOf]; omega
    · obtain rfl : N = 0 := by omega
      have hx : X = Gf.powN a n := by rw [← HM.out, Gf.powN_nil, Gf.mulN_one2 hX]
      have HX := Lib.hid hx
      clear hx e0
      go_wp2_with fail
      go_ret
      exact ⟨ret_int (by rw [HX.out]), rfl⟩

theorem modulo_any (n : Int) (w : World) (h1 : -9223372036854775808 ≤ n) (h2 : n ≤ 9223372036854775807) :
    Calls Tryd.prog 87 #[.int .i64 n] w fun e w' => e = .returned (.int .i64 (n % 255)) ∧ w = w' := by
  by_cases h0 : 0 ≤ n
  · go_enter Tryd.func87, Tryd.ntmps87
    go_wp2_with fail
    go_ret
    exact ⟨rfl, rfl⟩
  · have e : n.tmod 255 = -((-n) % 255) := by
      have h := Int.neg_tmod (-n) 255
      rw [Int.neg_neg, Int.tmod_eq_emod_of_nonneg (a := -n) (by omega)] at h
      exact h
    have e2 : n.tmod 255 < 0 → n.tmod 255 + 255 = n % 255 := fun h => by rw [e] at h ⊢; omega
    have e3 : 0 ≤ n.tmod 255 → n.tmod 255 = n % 255 := fun h => by rw [e] at h ⊢; omega
    have hl : -255 < n.tmod 255 := by rw [e]; omega
    have H2 := Lib.hid e2
    have H3 := Lib.hid e3
    clear e e2 e3
    go_enter Tryd.func87, Tryd.ntmps87
    go_wp2_with fail
    · go_ret
      exact ⟨ret_int (H2.out (by assumption)), rfl⟩
    · go_ret
      exact ⟨ret_int (H3.out (by assumption)), rfl⟩

theorem power_any (a n : Int) (w : World) (hT : Tab w) (ha : 0 ≤ a) (ha' : a < 256) (hn : 0 ≤ n) (hn' : n < 1000) :
    Calls Tryd.prog 86 #[.int .u8 a, .int .i64 n] w fun e w' => e = .returned (.int .u8 (Gf.powN a.toNat n.toNat : Nat)) ∧ w = w' := by
  obtain ⟨a, rfl⟩ := Int.eq_ofNat_of_zero_le ha
  obtain ⟨n, rfl⟩ := Int.eq_ofNat_of_zero_le hn
  exact power_nat a n (by omega) (by omega) w hT

/-- What Inv returns: the zero, and the code of ErrArg, for 0. -/
theorem inv_zero (w : World) : Calls Tryd.prog 100 #[.int .u8 0] w fun e w' => e = .returned (.tuple #[.int .u8 0, .int .i64 1]) ∧ w = w' := by
  go_enter Tryd.func100, Tryd.ntmps100
  go_wp2_with fail
  go_ret2
  exact ⟨rfl, rfl⟩
theorem inv_nat (a : Nat) (ha : a < 256) (h0 : a ≠ 0) (w : World) (hT : Tab w) :
    Calls Tryd.prog 100 #[.int .u8 a] w fun e w' => e = .returned (.tuple #[.int .u8 (Gf.invN a : Nat), .int .i64 0]) ∧ w = w' := by
  have HT := Lib.hid hT
  clear hT
  go_enter Tryd.func100, Tryd.ntmps100
  go_wp2_with fail
  refine (power_any a 254 _ HT.out (by omega) (by omega) (by omega) (by omega)).mono ?_
  rintro e w' ⟨rfl, rfl⟩
  go_wp2_with fail
  go_ret2
  exact ⟨by rw [Gf.invN_def]; rfl, rfl⟩
/-- Both results of Inv, for every byte. -/
theorem inv_any (a : Int) (w : World) (hT : Tab w) (ha : 0 ≤ a) (ha' : a < 256) :
    Calls Tryd.prog 100 #[.int .u8 a] w fun e w' => e = .returned (.tuple #[.int .u8 (Gf.invN a.toNat : Nat), .int .i64 (Gf.noneI a)]) ∧ w = w' := by
  obtain ⟨a, rfl⟩ := Int.eq_ofNat_of_zero_le ha
  by_cases h0 : a = 0
  · subst h0
    refine (inv_zero w).mono ?_
    rintro e w' ⟨rfl, rfl⟩
    refine ⟨?_, rfl⟩
    rw [show Gf.noneI ((0 : Nat) : Int) = 1 from Gf.noneI_zero, show Gf.invN ((0 : Nat) : Int).toNat = 0 from by rw [Gf.invN_def]; exact Gf.powN_zero (by omega)]
    rfl
  · refine (inv_nat a (by omega) h0 w hT).mono ?_
    rintro e w' ⟨rfl, rfl⟩
    refine ⟨?_, rfl⟩
    rw [Gf.noneI_nat (by omega), Int.toNat_natCast]
theorem exp_any (n : Int) (w : World) (hT : Tab w) (h1 : -9223372036854775808 ≤ n) (h2 : n ≤ 9223372036854775807) :
    Calls Tryd.prog 64 #[.int .i64 n] w fun e w' => e = .returned (.int .u8 (Gf.powN 2 (n % 255).toNat : Nat)) ∧ w = w' := by
  have HT := Lib.hid hT
  clear hT
  go_enter Tryd.func64, Tryd.ntmps64
  go_wp2_with fail
  refine (modulo_any n _ h1 h2).mono ?_
  rintro e w' ⟨rfl, rfl⟩
  go_wp2_with fail
  refine (power_any 2 (n % 255) _ HT.out (by omega) (by omega) (by omega) (by omega)).mono ?_
  rintro e w' ⟨rfl, rfl⟩
  go_wp2_with fail
  go_ret
  exact ⟨rfl, rfl⟩
end Go.Proofs.YtdmljilcbndmfaaDoor

/- THE FIELD OVER BYTES: what the walks return, as bytes and strings of bytes. No program in sight. -/
namespace Gf
/-- The product of two bytes. -/
def mul (a b : UInt8) : UInt8 := UInt8.ofNat (mulN a.toNat b.toNat)
theorem lt8 (a : UInt8) : a.toNat < 256 := a.toNat_lt
theorem mul_toNat (a b : UInt8) : (mul a b).toNat = mulN a.toNat b.toNat := by
  unfold mul
  have := mulN_lt (a := a.toNat) (b := b.toNat) (lt8 a)
  simp
  omega
theorem mulI_toNat (a b : UInt8) : mulI (a.toNat : Int) (b.toNat : Int) = ((mul a b).toNat : Int) := by rw [mulI_nat, mul_toNat]
theorem mul_comm (a b : UInt8) : mul a b = mul b a := by rw [← UInt8.toNat_inj, mul_toNat, mul_toNat, mulN_comm (lt8 a) (lt8 b)]
theorem mul_assoc (a b c : UInt8) : mul (mul a b) c = mul a (mul b c) := by rw [← UInt8.toNat_inj]; simp only [mul_toNat]; exact mulN_assoc (lt8 a) (lt8 b) (lt8 c)
theorem mul_zero (a : UInt8) : mul a 0 = 0 := by rw [← UInt8.toNat_inj, mul_toNat]; exact mulN_zero2 _
theorem zero_mul (a : UInt8) : mul 0 a = 0 := by rw [mul_comm, mul_zero]
theorem mul_one (a : UInt8) : mul a 1 = a := by rw [← UInt8.toNat_inj, mul_toNat]; exact mulN_one2 (lt8 a)
theorem one_mul (a : UInt8) : mul 1 a = a := by rw [mul_comm, mul_one]
theorem mul_xor (a b c : UInt8) : mul a (b ^^^ c) = mul a b ^^^ mul a c := by rw [← UInt8.toNat_inj]; simp only [mul_toNat, UInt8.toNat_xor]; exact mulN_lin2 _ _ _ (lt8 b) (lt8 c)
theorem xor_mul (a b c : UInt8) : mul (a ^^^ b) c = mul a c ^^^ mul b c := by rw [mul_comm, mul_xor, mul_comm c a, mul_comm c b]
theorem mul_eq_zero {a b : UInt8} : mul a b = 0 ↔ a = 0 ∨ b = 0 := by
  rw [← UInt8.toNat_inj, mul_toNat, ← UInt8.toNat_inj (a := a), ← UInt8.toNat_inj (a := b)]
  exact mulN_eq_zero (lt8 a) (lt8 b)
/-- The inverse; 0 for 0. -/
def inv (a : UInt8) : UInt8 := UInt8.ofNat (invN a.toNat)
theorem inv_toNat (a : UInt8) : (inv a).toNat = invN a.toNat := by
  unfold inv
  have := invN_lt a.toNat
  simp
  omega
theorem mul_inv {a : UInt8} (h : a ≠ 0) : mul a (inv a) = 1 := by
  rw [← UInt8.toNat_inj, mul_toNat, inv_toNat]
  exact Gf.mul_invN (lt8 a) (fun e => h (by rw [← UInt8.toNat_inj]; exact e))
theorem inv_mul {a : UInt8} (h : a ≠ 0) : mul (inv a) a = 1 := by rw [mul_comm, mul_inv h]
theorem xor_assoc (a b c : UInt8) : a ^^^ b ^^^ c = a ^^^ (b ^^^ c) := UInt8.xor_assoc a b c
theorem xor_comm (a b : UInt8) : a ^^^ b = b ^^^ a := UInt8.xor_comm a b

/-- The sum of two strings, the shorter one filled up with zeros. -/
def sum (s t : List UInt8) : List UInt8 := (List.range (max s.length t.length)).map fun k => s.getD k 0 ^^^ t.getD k 0
def scale (c : UInt8) (s : List UInt8) : List UInt8 := s.map (mul c)
/-- The byte at place k of the sum of the strings with coefficients, from the first n of them. -/
def comb (coef : List UInt8) (parts : List (List UInt8)) (k : Nat) : Nat → UInt8
  | 0 => 0
  | n + 1 => comb coef parts k n ^^^ mul (coef.getD n 0) ((parts.getD n []).getD k 0)
/-- Combine's string. -/
def combine (coef : List UInt8) (parts : List (List UInt8)) : List UInt8 := (List.range (parts.headD []).length).map fun k => comb coef parts k coef.length
/-- Whether Combine takes its arguments. -/
def combOk (coef : List UInt8) (parts : List (List UInt8)) : Bool := coef.length == parts.length && parts.all fun p => p.length == (parts.headD []).length
/-- Both results of Combine. -/
def combS (coef : List UInt8) (parts : List (List UInt8)) : List UInt8 := if combOk coef parts then combine coef parts else []
def combE (coef : List UInt8) (parts : List (List UInt8)) : Int := if combOk coef parts then 0 else 1
theorem combS_ok {coef : List UInt8} {parts : List (List UInt8)} (h : combOk coef parts = true) : combS coef parts = combine coef parts := if_pos h
theorem combS_no {coef : List UInt8} {parts : List (List UInt8)} (h : combOk coef parts = false) : combS coef parts = [] := if_neg (by rw [h]; simp)
theorem combE_ok {coef : List UInt8} {parts : List (List UInt8)} (h : combOk coef parts = true) : combE coef parts = 0 := if_pos h
theorem combE_no {coef : List UInt8} {parts : List (List UInt8)} (h : combOk coef parts = false) : combE coef parts = 1 := if_neg (by rw [h]; simp)
theorem combOk_ne {coef : List UInt8} {parts : List (List UInt8)} (h : coef.length ≠ parts.length) : combOk coef parts = false := by
  unfold combOk
  rw [show (coef.length == parts.length) = false from by simpa using h]
  rfl
attribute [irreducible] combS combE mul inv
end Gf

/- LINEAR ALGEBRA over bytes, in plain terms: sums, spans, and that more vectors than coordinates depend on each other. No program in sight. -/
namespace Gf
/-- The sum of f 0 .. f (k-1). -/
def sm : Nat → (Nat → UInt8) → UInt8
  | 0, _ => 0
  | k + 1, f => sm k f ^^^ f k
theorem sm_congr {f g : Nat → UInt8} : ∀ {k : Nat}, (∀ j, j < k → f j = g j) → sm k f = sm k g
  | 0, _ => rfl
  | k + 1, h => by rw [sm, sm, sm_congr (k := k) fun j hj => h j (by omega), h k (by omega)]
theorem sm_zero : ∀ {k : Nat} {f : Nat → UInt8}, (∀ j, j < k → f j = 0) → sm k f = 0
  | 0, _, _ => rfl
  | k + 1, f, h => by rw [sm, sm_zero (k := k) fun j hj => h j (by omega), h k (by omega)]; rfl
theorem xor4b (a b c d : UInt8) : (a ^^^ b) ^^^ (c ^^^ d) = (a ^^^ c) ^^^ (b ^^^ d) := by
  rw [xor_assoc, xor_assoc, ← xor_assoc b c d, xor_comm b c, xor_assoc c b d]
theorem sm_add (f g : Nat → UInt8) : ∀ k, sm k (fun j => f j ^^^ g j) = sm k f ^^^ sm k g
  | 0 => by simp [sm]
  | k + 1 => by rw [sm, sm, sm, sm_add f g k, xor4b]
theorem sm_mul (c : UInt8) (f : Nat → UInt8) : ∀ k, mul c (sm k f) = sm k (fun j => mul c (f j))
  | 0 => mul_zero c
  | k + 1 => by rw [sm, mul_xor, sm_mul c f k, sm]
theorem sm_one {p : Nat} (f : Nat → UInt8) : ∀ {k : Nat}, p < k → (∀ j, j < k → j ≠ p → f j = 0) → sm k f = f p
  | 0, h, _ => by omega
  | k + 1, h, hz => by
    rw [sm]
    by_cases hp : p = k
    · subst hp
      rw [sm_zero fun j hj => hz j (by omega) (by omega)]
      exact UInt8.zero_xor
    · rw [sm_one f (by omega) fun j hj hne => hz j (by omega) hne, hz k (by omega) (Ne.symm hp)]
      exact UInt8.xor_zero
/-- All indices but p. -/
def skip (p j : Nat) : Nat := if j < p then j else j + 1
theorem xor_eq_zero {a b : UInt8} : a ^^^ b = 0 ↔ a = b := by
  constructor
  · intro h
    have : a ^^^ b ^^^ b = b := by rw [h]; exact UInt8.zero_xor
    rwa [xor_assoc, UInt8.xor_self, UInt8.xor_zero] at this
  · rintro rfl; exact UInt8.xor_self
/-- v is a combination of the m vectors vs, on the first n places. -/
def InSpan (n m : Nat) (vs : Nat → Nat → UInt8) (v : Nat → UInt8) : Prop := ∃ c : Nat → UInt8, ∀ i, i < n → v i = sm m (fun k => mul (c k) (vs k i))
theorem InSpan.zero (n m : Nat) (vs : Nat → Nat → UInt8) {v : Nat → UInt8} (h : ∀ i, i < n → v i = 0) : InSpan n m vs v :=
  ⟨fun _ => 0, fun i hi => by rw [h i hi, sm_zero fun j _ => zero_mul _]⟩
theorem InSpan.add {n m : Nat} {vs : Nat → Nat → UInt8} {u v : Nat → UInt8} (hu : InSpan n m vs u) (hv : InSpan n m vs v) : InSpan n m vs fun i => u i ^^^ v i := by
  obtain ⟨c, hc⟩ := hu
  obtain ⟨d, hd⟩ := hv
  exact ⟨fun k => c k ^^^ d k, fun i hi => by show u i ^^^ v i = _; rw [hc i hi, hd i hi, ← sm_add]; exact sm_congr fun j _ => by rw [xor_mul]⟩
theorem InSpan.smul {n m : Nat} {vs : Nat → Nat → UInt8} {v : Nat → UInt8} (a : UInt8) (hv : InSpan n m vs v) : InSpan n m vs fun i => mul a (v i) := by
  obtain ⟨d, hd⟩ := hv
  exact ⟨fun k => mul a (d k), fun i hi => by show mul a (v i) = _; rw [hd i hi, sm_mul]; exact sm_congr fun j _ => by rw [mul_assoc]⟩
theorem InSpan.mem {n m : Nat} {vs : Nat → Nat → UInt8} {k : Nat} (hk : k < m) : InSpan n m vs (vs k) :=
  ⟨fun j => if j = k then 1 else 0, fun i _ => by rw [sm_one (p := k) _ hk fun j _ hne => by simp [hne, zero_mul]]; simp [one_mul]⟩
theorem InSpan.congr {n m : Nat} {vs : Nat → Nat → UInt8} {u v : Nat → UInt8} (h : InSpan n m vs u) (he : ∀ i, i < n → v i = u i) : InSpan n m vs v := by
  obtain ⟨c, hc⟩ := h
  exact ⟨c, fun i hi => by rw [he i hi, hc i hi]⟩
theorem InSpan.sum {n m : Nat} {vs : Nat → Nat → UInt8} (c : Nat → UInt8) (us : Nat → Nat → UInt8) : ∀ k, (∀ j, j < k → InSpan n m vs (us j)) → InSpan n m vs fun i => sm k fun j => mul (c j) (us j i)
  | 0, _ => InSpan.zero n m vs fun _ _ => rfl
  | k + 1, h => (InSpan.sum c us k fun j hj => h j (by omega)).add ((h k (by omega)).smul (c k))
/-- What is in the span of vectors of a span is in it. -/
theorem InSpan.trans {n m k : Nat} {vs us : Nat → Nat → UInt8} {v : Nat → UInt8} (h : InSpan n k us v) (hu : ∀ j, j < k → InSpan n m vs (us j)) : InSpan n m vs v := by
  obtain ⟨c, hc⟩ := h
  exact (InSpan.sum c us k hu).congr hc
end Gf

/- ROWS IN THE FORM OF STAIRS, in plain terms: as many as columns exactly if the rows span all. No program in sight. -/
namespace Gf
def vec (l : List UInt8) : Nat → UInt8 := fun i => l.getD i 0
/-- The place of the first element that is not 0; the length if there is none. -/
def firstNZ : List UInt8 → Nat
  | [] => 0
  | x :: r => if x = 0 then firstNZ r + 1 else 0
theorem getD_out {l : List UInt8} {i : Nat} (h : l.length ≤ i) : l.getD i 0 = 0 := by
  rw [List.getD_eq_getElem?_getD, List.getElem?_eq_none h]; rfl
theorem getD_map_range (n : Nat) (f : Nat → UInt8) {i : Nat} (h : i < n) : ((List.range n).map f).getD i 0 = f i := by
  rw [List.getD_eq_getElem?_getD, List.getElem?_map, List.getElem?_eq_getElem (by simpa using h)]
  simp

/-- r without its multiple of x that makes it 0 at x's first place. -/
def redRow (r x : List UInt8) : List UInt8 := (List.range r.length).map fun i => r.getD i 0 ^^^ mul (r.getD (firstNZ x) 0) (x.getD i 0)
theorem redRow_length (r x : List UInt8) : (redRow r x).length = r.length := by simp [redRow]
theorem redRow_get (r x : List UInt8) {i : Nat} (h : i < r.length) : (redRow r x).getD i 0 = r.getD i 0 ^^^ mul (r.getD (firstNZ x) 0) (x.getD i 0) := getD_map_range _ _ h
theorem redRow_same {r x : List UInt8} (h : r.getD (firstNZ x) 0 = 0) : redRow r x = r := by
  apply List.ext_getElem
  · exact redRow_length r x
  · intro i h1 h2
    have e := redRow_get r x h2
    rw [h, zero_mul, UInt8.xor_zero, List.getD_eq_getElem?_getD, List.getElem?_eq_getElem h1, List.getD_eq_getElem?_getD, List.getElem?_eq_getElem h2] at e
    exact e
def reduce (S : List (List UInt8)) (r : List UInt8) : List UInt8 := S.foldl redRow r
structure Stairs (n : Nat) (S : List (List UInt8)) : Prop where
  len : ∀ x ∈ S, x.length = n
  nz : ∀ x ∈ S, firstNZ x < n
  one : ∀ x ∈ S, x.getD (firstNZ x) 0 = 1
  tri : S.Pairwise fun x y => y.getD (firstNZ x) 0 = 0

/-- v is a combination of the rows of L. -/
def SpanL (n : Nat) (L : List (List UInt8)) (v : Nat → UInt8) : Prop := InSpan n L.length (fun k => vec (L.getD k [])) v
theorem SpanL.mem {n : Nat} {L : List (List UInt8)} {x : List UInt8} (h : x ∈ L) : SpanL n L (vec x) := by
  obtain ⟨k, hk, rfl⟩ := List.getElem_of_mem h
  have := InSpan.mem (n := n) (vs := fun k => vec (L.getD k [])) hk
  have e : L.getD k [] = L[k] := by rw [List.getD_eq_getElem?_getD, List.getElem?_eq_getElem hk]; rfl
  simp only [e] at this
  exact this
theorem SpanL.trans {n : Nat} {L M : List (List UInt8)} {v : Nat → UInt8} (h : SpanL n L v) (hm : ∀ x ∈ L, SpanL n M (vec x)) : SpanL n M v :=
  InSpan.trans h fun j hj => by
    have e : L.getD j [] = L[j] := by rw [List.getD_eq_getElem?_getD, List.getElem?_eq_getElem hj]; rfl
    simp only [e]
    exact hm _ (List.getElem_mem hj)
theorem SpanL.mono {n : Nat} {L M : List (List UInt8)} {v : Nat → UInt8} (h : SpanL n L v) (hm : ∀ x ∈ L, x ∈ M) : SpanL n M v := h.trans fun x hx => SpanL.mem (hm x hx)
theorem SpanL.add {n : Nat} {L : List (List UInt8)} {u v : Nat → UInt8} (hu : SpanL n L u) (hv : SpanL n L v) : SpanL n L fun i => u i ^^^ v i := InSpan.add hu hv
theorem SpanL.smul {n : Nat} {L : List (List UInt8)} {v : Nat → UInt8} (a : UInt8) (hv : SpanL n L v) : SpanL n L fun i => mul a (v i) := InSpan.smul a hv
theorem SpanL.congr {n : Nat} {L : List (List UInt8)} {u v : Nat → UInt8} (h : SpanL n L u) (he : ∀ i, i < n → v i = u i) : SpanL n L v := InSpan.congr h he

/-- The stairs with one row more; none if it is a combination of those that are there. -/
def addRow (S : List (List UInt8)) (r : List UInt8) : Option (List UInt8) :=
  if firstNZ (reduce S r) = r.length then none else some ((reduce S r).map (mul (inv ((reduce S r).getD (firstNZ (reduce S r)) 0))))
theorem getD_map_mul (c : UInt8) (l : List UInt8) (i : Nat) : (l.map (mul c)).getD i 0 = mul c (l.getD i 0) := by
  rw [List.getD_eq_getElem?_getD, List.getElem?_map, List.getD_eq_getElem?_getD]
  cases l[i]? with
  | none => exact (mul_zero c).symm
  | some x => rfl
theorem inv_ne_zero {a : UInt8} (h : a ≠ 0) : inv a ≠ 0 := fun e => by
  have := mul_inv h
  rw [e, mul_zero] at this
  exact absurd this (by decide)
/-- The stairs of rows, one after the other, as long as there are fewer than columns. -/
def step (n : Nat) (S : List (List UInt8)) (r : List UInt8) : List (List UInt8) :=
  if S.length < n then (match addRow S r with | none => S | some t => S ++ [t]) else S
end Gf

/- MATRICES in plain terms: the reduced form by steps of one column, and that it keeps the solutions. No program in sight. -/
namespace Mx
open Gf
abbrev Mat := List (List UInt8)
def row (m : Mat) (i : Nat) : List UInt8 := m.getD i []
def cell (m : Mat) (i c : Nat) : UInt8 := (row m i).getD c 0
def Rect (n : Nat) (m : Mat) : Prop := ∀ i, i < m.length → (row m i).length = n
/-- A row, and the multiple of another one. -/
def addTo (by' : UInt8) (t x : List UInt8) : List UInt8 := (List.range x.length).map fun j => x.getD j 0 ^^^ mul by' (t.getD j 0)
def swap (m : Mat) (r k : Nat) : Mat := (m.set r (row m k)).set k (row m r)
/-- The row i when t, the row r, is taken from it in the column c. -/
def cleanRow (r c : Nat) (t : List UInt8) (i : Nat) (x : List UInt8) : List UInt8 :=
  if i = r then t else if x.getD c 0 = 0 then x else addTo (x.getD c 0) t x
def clean (m : Mat) (r c : Nat) (t : List UInt8) : Mat := (List.range m.length).map fun i => cleanRow r c t i (row m i)
def topRow (m : Mat) (k c : Nat) : List UInt8 := (row m k).map (mul (inv (cell m k c)))
def pivot (m : Mat) (r k c : Nat) : Mat := clean (swap m r k) r c (topRow m k c)
def lead (m : Mat) (r c : Nat) : Option Nat := (List.range m.length).find? fun k => decide (r ≤ k) && (cell m k c != 0)
def colStep (s : Mat × List Nat) (c : Nat) : Mat × List Nat :=
  match lead s.1 s.2.length c with
  | none => s
  | some k => (pivot s.1 s.2.length k c, s.2 ++ [c])
def redTo (m : Mat) : Nat → Mat × List Nat
  | 0 => (m, [])
  | c + 1 => colStep (redTo m c) c

theorem addTo_length (b : UInt8) (t x : List UInt8) : (addTo b t x).length = x.length := by simp [addTo]
theorem addTo_get {b : UInt8} {t x : List UInt8} (h : t.length = x.length) (j : Nat) : (addTo b t x).getD j 0 = x.getD j 0 ^^^ mul b (t.getD j 0) := by
  by_cases hj : j < x.length
  · exact getD_map_range _ _ hj
  · rw [getD_out (by rw [addTo_length]; omega), getD_out (by omega), getD_out (by omega), mul_zero]; rfl
theorem addTo_zero {t x : List UInt8} : addTo 0 t x = x := by
  refine List.ext_getElem (addTo_length _ _ _) fun j h1 h2 => ?_
  simp only [addTo, List.getElem_map, List.getElem_range, zero_mul, UInt8.xor_zero]
  simp [List.getD_eq_getElem?_getD, h2]
theorem swap_length (m : Mat) (r k : Nat) : (swap m r k).length = m.length := by simp [swap]
theorem swap_row (m : Mat) {r k i : Nat} (hr : r < m.length) (hk : k < m.length) : row (swap m r k) i = if i = k then row m r else if i = r then row m k else row m i := by
  unfold swap row
  simp only [List.getD_eq_getElem?_getD, List.getElem?_set, List.length_set]
  by_cases h1 : k = i
  · subst h1; simp [hk]
  · by_cases h2 : r = i
    · subst h2; simp [h1, Ne.symm h1, hr]
    · simp [h1, h2, Ne.symm h1, Ne.symm h2]
theorem clean_length (m : Mat) (r c : Nat) (t : List UInt8) : (clean m r c t).length = m.length := by simp [clean]
theorem clean_row (m : Mat) (r c : Nat) (t : List UInt8) {i : Nat} (h : i < m.length) : row (clean m r c t) i = cleanRow r c t i (row m i) := by
  unfold clean
  show ((List.range m.length).map fun i => cleanRow r c t i (row m i)).getD i [] = _
  simp [List.getD_eq_getElem?_getD, h]
theorem cleanRow_get {r c i : Nat} {t x : List UInt8} (h : t.length = x.length) (j : Nat) :
    (cleanRow r c t i x).getD j 0 = if i = r then t.getD j 0 else x.getD j 0 ^^^ mul (x.getD c 0) (t.getD j 0) := by
  unfold cleanRow
  by_cases h1 : i = r
  · rw [if_pos h1, if_pos h1]
  · rw [if_neg h1, if_neg h1]
    by_cases h2 : x.getD c 0 = 0
    · rw [if_pos h2, h2, zero_mul, UInt8.xor_zero]
    · rw [if_neg h2, addTo_get h]
theorem pivot_length (m : Mat) (r k c : Nat) : (pivot m r k c).length = m.length := by rw [pivot, clean_length, swap_length]
/-- The place from which the row i comes, when the rows r and k change places. -/
def sw (r k i : Nat) : Nat := if i = k then r else if i = r then k else i
theorem sw_lt {r k i n : Nat} (hr : r < n) (hk : k < n) (hi : i < n) : sw r k i < n := by unfold sw; split <;> (try split) <;> assumption
theorem sw_sw (r k i : Nat) : sw r k (sw r k i) = i := by
  unfold sw
  (repeat' split) <;> omega
theorem swap_row' (m : Mat) {r k i : Nat} (hr : r < m.length) (hk : k < m.length) : row (swap m r k) i = row m (sw r k i) := by
  rw [swap_row m hr hk]; unfold sw; split <;> (try split) <;> rfl
theorem topRow_get (m : Mat) (k c j : Nat) : (topRow m k c).getD j 0 = mul (inv (cell m k c)) (cell m k j) := getD_map_mul _ _ _
theorem pivot_cell {n : Nat} {m : Mat} (hm : Rect n m) {r k c i : Nat} (hr : r < m.length) (hk : k < m.length) (hi : i < m.length) (j : Nat) :
    cell (pivot m r k c) i j = if i = r then mul (inv (cell m k c)) (cell m k j) else cell m (sw r k i) j ^^^ mul (cell m (sw r k i) c) (mul (inv (cell m k c)) (cell m k j)) := by
  show (row (pivot m r k c) i).getD j 0 = _
  rw [pivot, clean_row _ _ _ _ (by rw [swap_length]; exact hi), swap_row' m hr hk]
  rw [cleanRow_get (by rw [hm _ (sw_lt hr hk hi), topRow, List.length_map, hm _ hk]), topRow_get]
  rfl
theorem pivot_rect {n : Nat} {m : Mat} (hm : Rect n m) {r k c : Nat} (hr : r < m.length) (hk : k < m.length) : Rect n (pivot m r k c) := by
  intro i hi
  rw [pivot_length] at hi
  rw [pivot, clean_row _ _ _ _ (by rw [swap_length]; exact hi), swap_row' m hr hk]
  unfold cleanRow
  split
  · rw [topRow, List.length_map, hm _ hk]
  · split
    · exact hm _ (sw_lt hr hk hi)
    · rw [addTo_length]; exact hm _ (sw_lt hr hk hi)

/-- y solves the rows of m. -/
def dot (n : Nat) (x y : Nat → UInt8) : UInt8 := sm n fun j => mul (x j) (y j)
theorem dot_add (n : Nat) (u v y : Nat → UInt8) : dot n (fun j => u j ^^^ v j) y = dot n u y ^^^ dot n v y := by
  unfold dot; rw [← sm_add]; exact sm_congr fun j _ => xor_mul _ _ _
theorem dot_smul (n : Nat) (a : UInt8) (u y : Nat → UInt8) : dot n (fun j => mul a (u j)) y = mul a (dot n u y) := by
  unfold dot; rw [sm_mul]; exact sm_congr fun j _ => mul_assoc _ _ _
def Sol (n : Nat) (m : Mat) (y : Nat → UInt8) : Prop := ∀ i, i < m.length → dot n (cell m i) y = 0
theorem pivot_dot {n : Nat} {m : Mat} (hm : Rect n m) {r k c i : Nat} (hr : r < m.length) (hk : k < m.length) (hi : i < m.length) (y : Nat → UInt8) :
    dot n (cell (pivot m r k c) i) y = if i = r then mul (inv (cell m k c)) (dot n (cell m k) y) else dot n (cell m (sw r k i)) y ^^^ mul (cell m (sw r k i) c) (mul (inv (cell m k c)) (dot n (cell m k) y)) := by
  have e : cell (pivot m r k c) i = fun j => if i = r then mul (inv (cell m k c)) (cell m k j) else cell m (sw r k i) j ^^^ mul (cell m (sw r k i) c) (mul (inv (cell m k c)) (cell m k j)) :=
    funext fun j => pivot_cell hm hr hk hi j
  rw [e]
  by_cases h : i = r
  · simp only [if_pos h]; exact dot_smul _ _ _ _
  · simp only [if_neg h]; rw [dot_add, dot_smul, dot_smul]
theorem pivot_sol {n : Nat} {m : Mat} (hm : Rect n m) {r k c : Nat} (hr : r < m.length) (hk : k < m.length) (hc : cell m k c ≠ 0) (y : Nat → UInt8) :
    Sol n (pivot m r k c) y ↔ Sol n m y := by
  constructor
  · intro h
    have hK : dot n (cell m k) y = 0 := by
      have := h r (by rw [pivot_length]; exact hr)
      rw [pivot_dot hm hr hk hr, if_pos rfl] at this
      rcases mul_eq_zero.mp this with h0 | h0
      · exact absurd h0 (inv_ne_zero hc)
      · exact h0
    intro i hi
    by_cases hik : i = k
    · rw [hik]; exact hK
    · have hs := sw_lt hr hk hi
      have := h (sw r k i) (by rw [pivot_length]; exact hs)
      rw [pivot_dot hm hr hk hs] at this
      have hne : sw r k i ≠ r := by unfold sw; (repeat' split) <;> omega
      rw [if_neg hne, sw_sw, hK, mul_zero, mul_zero, UInt8.xor_zero] at this
      exact this
  · intro h i hi
    rw [pivot_length] at hi
    rw [pivot_dot hm hr hk hi, h k hk, mul_zero]
    split
    · rfl
    · rw [h _ (sw_lt hr hk hi), mul_zero]; rfl
theorem lead_some {m : Mat} {r c k : Nat} (h : lead m r c = some k) : r ≤ k ∧ k < m.length ∧ cell m k c ≠ 0 := by
  have h1 := List.find?_some h
  have h2 := List.mem_of_find?_eq_some h
  simp only [Bool.and_eq_true, decide_eq_true_eq, bne_iff_ne, ne_eq] at h1
  exact ⟨h1.1, List.mem_range.mp h2, h1.2⟩
theorem lead_none {m : Mat} {r c : Nat} (h : lead m r c = none) : ∀ k, r ≤ k → k < m.length → cell m k c = 0 := by
  intro k h1 h2
  have := List.find?_eq_none.mp h k (List.mem_range.mpr h2)
  simp only [Bool.and_eq_true, decide_eq_true_eq, bne_iff_ne, ne_eq, not_and, Decidable.not_not] at this
  exact this h1

/-- What holds when so many columns have been reduced. -/
structure Red (n : Nat) (m0 : Mat) (c : Nat) (m : Mat) (p : List Nat) : Prop where
  len : m.length = m0.length
  rect : Rect n m
  few : p.length ≤ m.length
  lt : ∀ j, j < p.length → p.getD j 0 < c
  inc : ∀ i j, i < j → j < p.length → p.getD i 0 < p.getD j 0
  one : ∀ i j, i < m.length → j < p.length → cell m i (p.getD j 0) = if i = j then 1 else 0
  left : ∀ j q, j < p.length → q < p.getD j 0 → cell m j q = 0
  zero : ∀ i q, p.length ≤ i → i < m.length → q < c → cell m i q = 0
  sol : ∀ y, Sol n m y ↔ Sol n m0 y
theorem Red.start {n : Nat} {m : Mat} (h : Rect n m) : Red n m 0 m [] :=
  ⟨rfl, h, Nat.zero_le _, fun j hj => absurd hj (by simp), fun i j _ hj => absurd hj (by simp), fun i j _ hj => absurd hj (by simp), fun j q hj => absurd hj (by simp), fun i q _ _ hq => absurd hq (by omega), fun y => Iff.rfl⟩
theorem getD_snoc {p : List Nat} {c j : Nat} : (p ++ [c]).getD j 0 = if j < p.length then p.getD j 0 else if j = p.length then c else 0 := by
  simp only [List.getD_eq_getElem?_getD, List.getElem?_append]
  split
  · rfl
  · split
    · next h => subst h; simp
    · next h1 h2 => rw [List.getElem?_eq_none (by simp; omega)]; rfl
theorem Red.step {n : Nat} {m0 m : Mat} {c : Nat} {p : List Nat} (h : Red n m0 c m p) :
    Red n m0 (c + 1) (colStep (m, p) c).1 (colStep (m, p) c).2 := by
  unfold colStep
  dsimp only
  cases hl : lead m p.length c with
  | none =>
    dsimp only
    refine ⟨h.len, h.rect, h.few, fun j hj => by have := h.lt j hj; omega, h.inc, h.one, h.left, fun i q h1 h2 h3 => ?_, h.sol⟩
    by_cases hq : q = c
    · rw [hq]; exact lead_none hl i h1 h2
    · exact h.zero i q h1 h2 (by omega)
  | some k =>
    obtain ⟨hk1, hk2, hk3⟩ := lead_some hl
    dsimp only
    have hr : p.length < m.length := by omega
    have hi1 := inv_mul hk3
    have hsame : ∀ i, i < p.length → sw p.length k i = i := fun i hi => by unfold sw; rw [if_neg (by omega), if_neg (by omega)]
    have hbelow : ∀ i, p.length < i → p.length ≤ sw p.length k i := fun i hi => by unfold sw; (repeat' split) <;> omega
    refine ⟨by rw [pivot_length, h.len], pivot_rect h.rect hr hk2, by rw [pivot_length]; simp; omega, fun j hj => ?_, fun i j hij hj => ?_, fun i j hi hj => ?_, fun j q hj hq => ?_, fun i q h1 h2 h3 => ?_, fun y => (pivot_sol h.rect hr hk2 hk3 y).trans (h.sol y)⟩
    · rw [getD_snoc]; split
      · next h' => have := h.lt j h'; omega
      · split <;> omega
    · simp only [List.length_append, List.length_cons, List.length_nil] at hj
      rw [getD_snoc, getD_snoc]
      rw [if_pos (by omega : i < p.length)]
      split
      · next h' => exact h.inc i j hij h'
      · rw [if_pos (by omega)]; exact h.lt i (by omega)
    · rw [pivot_length] at hi
      simp only [List.length_append, List.length_cons, List.length_nil] at hj
      rw [pivot_cell h.rect hr hk2 hi, getD_snoc]
      by_cases hjp : j < p.length
      · rw [if_pos hjp]
        have hK : cell m k (p.getD j 0) = 0 := by rw [h.one k j hk2 hjp, if_neg (by omega)]
        rw [hK, mul_zero, mul_zero, UInt8.xor_zero]
        by_cases hir : i = p.length
        · rw [if_pos hir, if_neg (by omega)]
        · rw [if_neg hir, h.one _ j (sw_lt hr hk2 hi) hjp]
          by_cases hij : i = j
          · rw [if_pos hij, if_pos]; rw [hij]; exact hsame j hjp
          · rw [if_neg hij, if_neg]
            intro e
            apply hij
            have := congrArg (sw p.length k) e
            rw [sw_sw, hsame j hjp] at this
            exact this
      · rw [if_neg hjp, if_pos (by omega : j = p.length), hi1]
        by_cases hir : i = p.length
        · rw [if_pos hir, if_pos (by omega)]
        · rw [if_neg hir, if_neg (by omega), mul_one, xor_eq_zero]
    · simp only [List.length_append, List.length_cons, List.length_nil] at hj
      rw [getD_snoc] at hq
      by_cases hjp : j < p.length
      · rw [if_pos hjp] at hq
        have hqc : q < c := by have := h.lt j hjp; omega
        rw [pivot_cell h.rect hr hk2 (by omega), if_neg (by omega), hsame j hjp, h.left j q hjp hq, h.zero k q hk1 hk2 hqc, mul_zero, mul_zero]; rfl
      · rw [if_neg hjp, if_pos (by omega : j = p.length)] at hq
        rw [pivot_cell h.rect hr hk2 (by omega), if_pos (by omega), h.zero k q hk1 hk2 hq, mul_zero]
    · rw [pivot_length] at h2
      simp only [List.length_append, List.length_cons, List.length_nil] at h1
      have hs := sw_lt hr hk2 h2
      rw [pivot_cell h.rect hr hk2 h2, if_neg (by omega)]
      by_cases hq : q = c
      · rw [hq, hi1, mul_one, xor_eq_zero]
      · rw [h.zero _ q (hbelow i (by omega)) hs (by omega), h.zero k q hk1 hk2 (by omega), mul_zero, mul_zero]; rfl
theorem red_to {n : Nat} {m : Mat} (h : Rect n m) : ∀ c, Red n m c (redTo m c).1 (redTo m c).2
  | 0 => Red.start h
  | c + 1 => (red_to h c).step
end Mx

/- EXPRESS in plain terms: a row as a combination of other ones. No program in sight. -/
namespace Mx
open Gf
/-- The matrix of the system whose solutions express a row b by rows. -/
def aug (rows : Mat) (b : List UInt8) : Mat := (List.range b.length).map fun i => (List.range (rows.length + 1)).map fun k => if k < rows.length then cell rows k i else b.getD i 0
def solTo (R : Mat) (P : List Nat) (n : Nat) : Nat → List UInt8
  | 0 => List.replicate n 0
  | k + 1 => (solTo R P n k).set (P.getD k 0) (cell R k n)
/-- The coefficients by which b is a combination of rows. -/
def expr (rows : Mat) (b : List UInt8) : Option (List UInt8) :=
  if rows.length ∈ (redTo (aug rows b) (rows.length + 1)).2 then none
  else some (solTo (redTo (aug rows b) (rows.length + 1)).1 (redTo (aug rows b) (rows.length + 1)).2 rows.length (redTo (aug rows b) (rows.length + 1)).2.length)
theorem redTo_nil : ∀ c, redTo [] c = ([], [])
  | 0 => rfl
  | c + 1 => by rw [redTo, redTo_nil c]; rfl
theorem solTo_length (R : Mat) (P : List Nat) (n : Nat) : ∀ k, (solTo R P n k).length = n
  | 0 => by simp [solTo]
  | k + 1 => by rw [solTo, List.length_set, solTo_length R P n k]
theorem getD_set {x : List UInt8} {p q : Nat} {a : UInt8} (h : p < x.length) : (x.set p a).getD q 0 = if p = q then a else x.getD q 0 := by
  simp only [List.getD_eq_getElem?_getD, List.getElem?_set]
  split
  · simp
    try omega
  · rfl
theorem solTo_other (R : Mat) (P : List Nat) (n : Nat) {q : Nat} : ∀ k, (∀ j, j < k → P.getD j 0 < n) → (∀ j, j < k → P.getD j 0 ≠ q) → (solTo R P n k).getD q 0 = 0
  | 0, _, _ => by simp [solTo, List.getD_eq_getElem?_getD, List.getElem?_replicate]; split <;> rfl
  | k + 1, hl, h => by
    rw [solTo, getD_set (by rw [solTo_length]; exact hl k (by omega)), if_neg (h k (by omega))]
    exact solTo_other R P n k (fun j hj => hl j (by omega)) fun j hj => h j (by omega)
theorem solTo_at (R : Mat) (P : List Nat) (n : Nat) {j : Nat} : ∀ k, (∀ i, i < k → P.getD i 0 < n) → (∀ i i', i < i' → i' < k → P.getD i 0 < P.getD i' 0) → j < k → (solTo R P n k).getD (P.getD j 0) 0 = cell R j n
  | 0, _, _, h => absurd h (by omega)
  | k + 1, hl, hi, h => by
    rw [solTo, getD_set (by rw [solTo_length]; exact hl k (by omega))]
    by_cases hj : j = k
    · rw [if_pos (by rw [hj]), hj]
    · rw [if_neg (by have := hi j k (by omega) (by omega); omega)]
      exact solTo_at R P n k (fun i h' => hl i (by omega)) (fun i i' h1 h2 => hi i i' h1 (by omega)) (by omega)
theorem aug_length (rows : Mat) (b : List UInt8) : (aug rows b).length = b.length := by simp [aug]
theorem aug_row (rows : Mat) (b : List UInt8) {i : Nat} (h : i < b.length) : row (aug rows b) i = (List.range (rows.length + 1)).map fun k => if k < rows.length then cell rows k i else b.getD i 0 := by
  simp [row, aug, List.getD_eq_getElem?_getD, h]
theorem aug_rect (rows : Mat) (b : List UInt8) : Rect (rows.length + 1) (aug rows b) := fun i h => by
  rw [aug_length] at h; rw [aug_row rows b h]; simp
theorem aug_cell (rows : Mat) (b : List UInt8) {i k : Nat} (h : i < b.length) (hk : k < rows.length + 1) : cell (aug rows b) i k = if k < rows.length then cell rows k i else b.getD i 0 := by
  show (row (aug rows b) i).getD k 0 = _
  rw [aug_row rows b h, getD_map_range _ _ hk]
/-- x makes b of the rows. -/
def Makes (rows : Mat) (b : List UInt8) (x : Nat → UInt8) : Prop := ∀ i, i < b.length → b.getD i 0 = sm rows.length fun k => mul (x k) (cell rows k i)
def ext1 (n : Nat) (x : Nat → UInt8) : Nat → UInt8 := fun j => if j < n then x j else 1
theorem aug_sol (rows : Mat) (b : List UInt8) (x : Nat → UInt8) : Sol (rows.length + 1) (aug rows b) (ext1 rows.length x) ↔ Makes rows b x := by
  unfold Sol Makes
  rw [aug_length]
  refine forall_congr' fun i => forall_congr' fun hi => ?_
  have e : dot (rows.length + 1) (cell (aug rows b) i) (ext1 rows.length x) = (sm rows.length fun k => mul (x k) (cell rows k i)) ^^^ b.getD i 0 := by
    show sm rows.length _ ^^^ _ = _
    dsimp only
    rw [aug_cell rows b hi (by omega), if_neg (by omega)]
    have e1 : ext1 rows.length x rows.length = 1 := if_neg (by omega)
    rw [e1, mul_one]
    congr 1
    refine sm_congr fun j hj => ?_
    rw [aug_cell rows b hi (by omega), if_pos hj]
    have e2 : ext1 rows.length x j = x j := if_pos hj
    rw [e2, mul_comm]
  rw [e, xor_eq_zero]
  exact eq_comm
theorem sm_two {p q : Nat} (f : Nat → UInt8) {k : Nat} (hp : p < k) (hq : q < k) (hpq : p ≠ q) (h : ∀ j, j < k → j ≠ p → j ≠ q → f j = 0) : sm k f = f p ^^^ f q := by
  have e : sm k f = sm k (fun j => (if j = p then f p else 0) ^^^ (if j = q then f q else 0)) := by
    refine sm_congr fun j hj => ?_
    by_cases h1 : j = p
    · rw [if_pos h1, if_neg (by omega), h1, UInt8.xor_zero]
    · by_cases h2 : j = q
      · rw [if_neg h1, if_pos h2, h2, UInt8.zero_xor]
      · rw [if_neg h1, if_neg h2, h j hj h1 h2]; rfl
  rw [e, sm_add, sm_one (p := p) _ hp (fun j _ hj => if_neg hj), sm_one (p := q) _ hq (fun j _ hj => if_neg hj), if_pos rfl, if_pos rfl]
theorem getD_mem {l : List Nat} {a : Nat} (h : a ∈ l) : ∃ j, j < l.length ∧ l.getD j 0 = a := by
  obtain ⟨j, hj, e⟩ := List.getElem_of_mem h
  exact ⟨j, hj, by rw [List.getD_eq_getElem?_getD, List.getElem?_eq_getElem hj]; exact e⟩
theorem mem_getD {l : List Nat} {j : Nat} (h : j < l.length) : l.getD j 0 ∈ l := by
  rw [List.getD_eq_getElem?_getD, List.getElem?_eq_getElem h]; exact List.getElem_mem h
theorem expr_some {rows : Mat} {b x : List UInt8} (h : expr rows b = some x) : x.length = rows.length ∧ Makes rows b (vec x) := by
  have R := red_to (aug_rect rows b) (rows.length + 1)
  unfold expr at h
  split at h
  · exact absurd h (by simp)
  · next hm =>
    have e := Option.some.inj h
    generalize redTo (aug rows b) (rows.length + 1) = S at *
    obtain ⟨M, P⟩ := S
    dsimp only at *
    have hlt : ∀ j, j < P.length → P.getD j 0 < rows.length := fun j hj => by
      have h1 := R.lt j hj
      have h2 : P.getD j 0 ≠ rows.length := fun e' => hm (e' ▸ mem_getD hj)
      omega
    refine ⟨by rw [← e, solTo_length], ?_⟩
    rw [← aug_sol, ← R.sol]
    intro i hi
    have hv : ∀ q, ext1 rows.length (vec x) q = if q < rows.length then x.getD q 0 else 1 := fun q => rfl
    by_cases hip : i < P.length
    · rw [dot, sm_two (p := P.getD i 0) (q := rows.length) _ (by have := hlt i hip; omega) (by omega) (by have := hlt i hip; omega)]
      · rw [hv, hv, if_pos (hlt i hip), if_neg (by omega), R.one i i hi hip, if_pos rfl, one_mul, mul_one, ← e, solTo_at M P rows.length P.length hlt R.inc hip]
        exact xor_eq_zero.mpr rfl
      · intro q hq h1 h2
        by_cases hqp : q ∈ P
        · obtain ⟨j, hj, ej⟩ := getD_mem hqp
          rw [← ej, R.one i j hi hj, if_neg (by intro e'; apply h1; rw [← ej, e']), zero_mul]
        · rw [hv, if_pos (by omega), ← e, solTo_other M P rows.length P.length hlt (fun j hj e' => hqp (by rw [← e']; exact mem_getD hj)), mul_zero]
    · have := R.zero i
      rw [dot]
      exact sm_zero fun q hq => by rw [R.zero i q (by omega) hi (by omega), zero_mul]
end Mx

/- THE WALKS over package matrix: columns, Check. -/
namespace Mx
def checkG (c : Nat) (e : Int) : Mat → Int
  | [] => e
  | r :: m => if 48 < r.length then 2 else checkG c (if r.length = c then e else 1) m
/-- The first error of a matrix. -/
def check (m : Mat) : Int := if 48 < m.length then 2 else checkG (m.getD 0 []).length 0 m
def cols (m : Mat) : Nat := (m.getD 0 []).length
theorem check_many {m : Mat} (h : 48 < m.length) : check m = 2 := if_pos h
theorem check_few {m : Mat} (h : ¬ 48 < m.length) : check m = checkG (m.getD 0 []).length 0 m := if_neg h
theorem checkG_wide {c : Nat} {e : Int} {m : Mat} {k : Nat} (hk : k < m.length) (h : 48 < m[k].length) : checkG c e (m.drop k) = 2 := by
  rw [List.drop_eq_getElem_cons hk, checkG, if_pos h]
theorem checkG_step {c : Nat} {e : Int} {m : Mat} {k : Nat} (hk : k < m.length) (h : ¬ 48 < m[k].length) : checkG c e (m.drop k) = checkG c (if m[k].length = c then e else 1) (m.drop (k + 1)) := by
  rw [List.drop_eq_getElem_cons hk, checkG, if_neg h]
theorem checkG_end {c : Nat} {e : Int} {m : Mat} : checkG c e (m.drop m.length) = e := by rw [List.drop_length]; rfl
end Mx
namespace Go.Proofs.YtdmljilcbndmfaaDoor
open Go.RowKit
theorem addr_zero (a : Addr) : a.add 0 = a := by simp [Addr.add]
set_option maxHeartbeats 8000000 in
set_option maxRecDepth 100000 in
theorem xCheck_any (m : Mx.Mat) (v : Value) (w : World) (hm : Rs (Rs RB) w v m) :
    Calls Tryd.prog 66 #[v] w fun e w' => e = .returned (.int .i64 (Mx.check m)) ∧ w = w' := by
  obtain ⟨PA, cP, rfl, hm64⟩ := hm.form
  have HM := Lib.hid hm
  clear hm
  go_enter Tryd.func66, Tryd.ntmps66
  by_cases hl : 48 < m.length
  · have HE := Lib.hid (Mx.check_many hl)
    go_wp2_with fail
    go_ret
    exact ⟨by rw [HE.out]; rfl, rfl⟩
  have HC := Lib.hid (Mx.check_few hl)
  obtain ⟨c, hc⟩ : ∃ c, (m.getD 0 []).length = c := ⟨_, rfl⟩
  rw [hc] at HC
  have Hc := Lib.hid hc
  clear hc
  go_wp2_with fail
  go_loopw [3, 11] (fun ve vi wr => ∃ (k : Nat) (e : Int), k ≤ m.length ∧ vi = .int .i64 (k : Nat) ∧ ve = .int .i64 e ∧ wr = w ∧ Hid (Mx.checkG c e (m.drop k) = Mx.check m)) (fun _ vi _ => m.length - (intOf vi).toNat)
  case atStart => exact ⟨0, 0, Nat.zero_le _, rfl, rfl, rfl, Lib.hid (by rw [HC.out]; rfl)⟩
  case round =>
    obtain ⟨k, e, hk, rfl, rfl, rfl, HI⟩ := hrel
    by_cases hlt : k < m.length
    · obtain ⟨a1, u1, rfl, hc1, hu1⟩ := HM.out.at hlt
      obtain ⟨QA, cQ, rfl, hq64⟩ := hu1.form
      obtain ⟨a2, u2, h0, hc2, hu2⟩ := HM.out.at (i := 0) (by omega)
      cases h0
      obtain ⟨RA, cR, rfl, hr64⟩ := hu2.form
      have hzero : m[0].length = c := by
        have := Hc.out
        rw [List.getD_eq_getElem?_getD, List.getElem?_eq_getElem (by omega)] at this
        exact this
      rw [hzero, addr_zero] at hc2
      obtain ⟨n, hn⟩ : ∃ n, m[k].length = n := ⟨_, rfl⟩
      rw [hn] at hc1
      by_cases hw : 48 < n
      · have HE := Lib.hid (Mx.checkG_wide (c := c) (e := e) hlt (by rw [hn]; exact hw))
        clear hzero hn
        go_wp2_with fail
        go_ret
        exact ⟨by rw [← HI.out, HE.out]; rfl, rfl⟩
      · have HE := Lib.hid (Mx.checkG_step (c := c) (e := e) hlt (by rw [hn]; exact hw))
        rw [hn] at HE
        clear hzero hn
        by_cases he : n = c
        · rw [if_pos he] at HE
          subst he
          go_wp2_with fail
          go_roundw
          case rel => exact ⟨k + 1, e, by omega, by go_num, (by first | trivial | rfl), (by first | trivial | rfl), Lib.hid (by rw [← HE.out, HI.out])⟩
          case measure => simp [intOf]; omega
        · rw [if_neg he] at HE
          have hne : ((n : Int) = (c : Int)) ↔ False := ⟨fun h => he (by omega), False.elim⟩
          go_wp2_with fail
          go_roundw
          case rel => exact ⟨k + 1, 1, by omega, by go_num, (by first | trivial | rfl), (by first | trivial | rfl), Lib.hid (by rw [← HE.out, HI.out])⟩
          case measure => simp [intOf]; omega
    · obtain rfl : k = m.length := by omega
      have HE := Lib.hid (Mx.checkG_end (c := c) (e := e) (m := m))
      go_wp2_with fail
      go_ret
      exact ⟨by rw [← HI.out, HE.out]; rfl, rfl⟩
set_option maxHeartbeats 8000000 in
set_option maxRecDepth 100000 in
theorem xCols_any (m : Mx.Mat) (v : Value) (w : World) (hm : Rs (Rs RB) w v m) :
    Calls Tryd.prog 67 #[v] w fun e w' => e = .returned (.int .i64 (Mx.cols m : Nat)) ∧ w = w' := by
  obtain ⟨PA, cP, rfl, hm64⟩ := hm.form
  go_enter Tryd.func67, Tryd.ntmps67
  by_cases hl : m.length = 0
  · have e0 : Mx.cols m = 0 := by unfold Mx.cols; rw [List.length_eq_zero_iff.mp hl]; rfl
    have HE := Lib.hid e0
    clear e0 hm
    go_wp2_with fail
    go_ret
    exact ⟨by rw [HE.out]; rfl, rfl⟩
  · obtain ⟨a2, u2, rfl, hc2, hu2⟩ := hm.at (i := 0) (by omega)
    obtain ⟨RA, cR, rfl, hr64⟩ := hu2.form
    have e0 : Mx.cols m = m[0].length := by unfold Mx.cols; rw [List.getD_eq_getElem?_getD, List.getElem?_eq_getElem (by omega)]; rfl
    obtain ⟨c, hc⟩ : ∃ c, m[0].length = c := ⟨_, rfl⟩
    rw [hc] at hc2 e0
    rw [addr_zero] at hc2
    have HE := Lib.hid e0
    have HM := Lib.hid hm
    clear e0 hm hu2 hr64 hc
    go_wp2_with fail
    go_ret
    exact ⟨by rw [HE.out]; rfl, rfl⟩
end Go.Proofs.YtdmljilcbndmfaaDoor

/- TWO LISTS ARE THE SAME: SameList, SameRow of the specification of matrices. -/
namespace Go.Proofs.YtdmljilcbndmfaaDoor
open Go.RowKit
theorem getD_got {α : Type} {l : List α} {x : α} {i : Nat} (h : i < l.length) : l.getD i x = l[i] := by rw [List.getD_eq_getElem?_getD, List.getElem?_eq_getElem h]; rfl
theorem list_same {a b : List Int} (hl : a.length = b.length) (h : ∀ j, j < a.length → a.getD j 0 = b.getD j 0) : a = b := by
  apply List.ext_getElem hl
  intro i h1 h2
  have := h i h1
  rwa [getD_got h1, getD_got h2] at this
theorem row_same {a b : List UInt8} (hl : a.length = b.length) (h : ∀ j, j < a.length → a.getD j 0 = b.getD j 0) : a = b := by
  apply List.ext_getElem hl
  intro i h1 h2
  have := h i h1
  rwa [getD_got h1, getD_got h2] at this
set_option maxHeartbeats 8000000 in
set_option maxRecDepth 100000 in
theorem sList_any (a b : List Int) (v u : Value) (w : World) (ha : Rs RI w v a) (hb : Rs RI w u b) :
    Calls Tryd.prog 52 #[v, u] w fun e w' => e = .returned (.bool (decide (a = b))) ∧ Ext w w' := by
  obtain ⟨PA, cP, rfl, ha64⟩ := ha.form
  obtain ⟨QA, cQ, rfl, hb64⟩ := hb.form
  have HA := Lib.hid ha
  have HB := Lib.hid hb
  clear ha hb
  go_enter Tryd.func52, Tryd.ntmps52
  by_cases hl : a.length = b.length
  case neg =>
    have e1 : decide (a = b) = false := decide_eq_false fun e => hl (by rw [e])
    have HE := Lib.hid e1
    clear e1
    go_wp2_with fail
    go_ret
    exact ⟨ret_bool HE.out.symm, Ext.refl _⟩
  case pos =>
  have HL := Lib.hid hl
  go_wp2_with fail
  go_loopw [5] (fun vi wr => ∃ k : Nat, k ≤ a.length ∧ vi = .int .i64 (k : Nat) ∧ Hid ((∀ j, j < k → a.getD j 0 = b.getD j 0) ∧ Ext w wr)) (fun vi _ => a.length - (intOf vi).toNat)
  case atStart => exact ⟨0, Nat.zero_le _, rfl, Lib.hid ⟨fun j hj => absurd hj (Nat.not_lt_zero j), Ext.refl _⟩⟩
  case round =>
    obtain ⟨k, hk, rfl, HI⟩ := hrel
    by_cases hlt : k < a.length
    · have hltb : k < b.length := by omega
      obtain ⟨a1, u1, rfl, hc1, hu1⟩ := (Rs.ext RI.ext _ _ _ _ HI.out.2 HA.out).at hlt
      obtain ⟨rfl, _, _⟩ := hu1
      obtain ⟨a2, u2, rfl, hc2, hu2⟩ := (Rs.ext RI.ext _ _ _ _ HI.out.2 HB.out).at hltb
      obtain ⟨rfl, _, _⟩ := hu2
      have g1 := getD_got (x := (0 : Int)) hlt
      have g2 := getD_got (x := (0 : Int)) hltb
      obtain ⟨x, hx⟩ : ∃ x, a[k] = x := ⟨_, rfl⟩
      obtain ⟨y, hy⟩ : ∃ y, b[k] = y := ⟨_, rfl⟩
      rw [hx] at hc1 g1
      rw [hy] at hc2 g2
      have HG := Lib.hid (And.intro g1 g2)
      clear hx hy g1 g2
      by_cases hxy : x = y
      · subst hxy
        go_wp2_with fail
        go_quiet (fail)
        go_wp2_with fail
        go_roundw
        case rel =>
          refine ⟨k + 1, by omega, by go_num, Lib.hid ⟨fun j hj => ?_, HI.out.2.drewN nq⟩⟩
          by_cases hjk : j = k
          · rw [hjk, HG.out.1, HG.out.2]
          · exact HI.out.1 j (by omega)
        case measure => simp [intOf]; omega
      · have e1 : decide (a = b) = false := decide_eq_false fun e => hxy (by rw [← HG.out.1, ← HG.out.2, e])
        have HE := Lib.hid e1
        clear e1
        go_wp2_with fail
        go_quiet (fail)
        go_wp2_with fail
        go_ret
        exact ⟨ret_bool HE.out.symm, HI.out.2.drewN nq⟩
    · obtain rfl : k = a.length := by omega
      have e1 : decide (a = b) = true := decide_eq_true (list_same HL.out HI.out.1)
      have HE := Lib.hid e1
      clear e1
      go_wp2_with fail
      go_ret
      exact ⟨ret_bool HE.out.symm, HI.out.2⟩
set_option maxHeartbeats 8000000 in
set_option maxRecDepth 100000 in
theorem sRow_any (a b : List UInt8) (v u : Value) (w : World) (ha : Rs RB w v a) (hb : Rs RB w u b) :
    Calls Tryd.prog 48 #[v, u] w fun e w' => e = .returned (.bool (decide (a = b))) ∧ Ext w w' := by
  obtain ⟨PA, cP, rfl, ha64⟩ := ha.form
  obtain ⟨QA, cQ, rfl, hb64⟩ := hb.form
  have HA := Lib.hid ha
  have HB := Lib.hid hb
  clear ha hb
  go_enter Tryd.func48, Tryd.ntmps48
  by_cases hl : a.length = b.length
  case neg =>
    have e1 : decide (a = b) = false := decide_eq_false fun e => hl (by rw [e])
    have HE := Lib.hid e1
    clear e1
    go_wp2_with fail
    go_ret
    exact ⟨ret_bool HE.out.symm, Ext.refl _⟩
  case pos =>
  have HL := Lib.hid hl
  go_wp2_with fail
  go_loopw [5] (fun vi wr => ∃ k : Nat, k ≤ a.length ∧ vi = .int .i64 (k : Nat) ∧ Hid ((∀ j, j < k → a.getD j 0 = b.getD j 0) ∧ Ext w wr)) (fun vi _ => a.length - (intOf vi).toNat)
  case atStart => exact ⟨0, Nat.zero_le _, rfl, Lib.hid ⟨fun j hj => absurd hj (Nat.not_lt_zero j), Ext.refl _⟩⟩
  case round =>
    obtain ⟨k, hk, rfl, HI⟩ := hrel
    by_cases hlt : k < a.length
    · have hltb : k < b.length := by omega
      obtain ⟨a1, u1, rfl, hc1, hu1⟩ := (Rs.ext RB.ext _ _ _ _ HI.out.2 HA.out).at hlt
      obtain rfl := hu1
      obtain ⟨a2, u2, rfl, hc2, hu2⟩ := (Rs.ext RB.ext _ _ _ _ HI.out.2 HB.out).at hltb
      obtain rfl := hu2
      have g1 := getD_got (x := (0 : UInt8)) hlt
      have g2 := getD_got (x := (0 : UInt8)) hltb
      obtain ⟨x, hx⟩ : ∃ x, a[k] = x := ⟨_, rfl⟩
      obtain ⟨y, hy⟩ : ∃ y, b[k] = y := ⟨_, rfl⟩
      rw [hx] at hc1 g1
      rw [hy] at hc2 g2
      have HG := Lib.hid (And.intro g1 g2)
      clear hx hy g1 g2
      by_cases hxy : x = y
      · subst hxy
        go_wp2_with fail
        go_quiet (fail)
        go_wp2_with fail
        go_roundw
        case rel =>
          refine ⟨k + 1, by omega, by go_num, Lib.hid ⟨fun j hj => ?_, HI.out.2.drewN nq⟩⟩
          by_cases hjk : j = k
          · rw [hjk, HG.out.1, HG.out.2]
          · exact HI.out.1 j (by omega)
        case measure => simp [intOf]; omega
      · have e1 : decide (a = b) = false := decide_eq_false fun e => hxy (by rw [← HG.out.1, ← HG.out.2, e])
        have HE := Lib.hid e1
        have hne : x.toNat ≠ y.toNat := fun e => hxy (UInt8.toNat_inj.mp e)
        clear e1
        go_wp2_with fail
        go_quiet (fail)
        go_wp2_with fail
        go_ret
        exact ⟨ret_bool HE.out.symm, HI.out.2.drewN nq⟩
    · obtain rfl : k = a.length := by omega
      have e1 : decide (a = b) = true := decide_eq_true (row_same HL.out HI.out.1)
      have HE := Lib.hid e1
      clear e1
      go_wp2_with fail
      go_ret
      exact ⟨ret_bool HE.out.symm, HI.out.2⟩
end Go.Proofs.YtdmljilcbndmfaaDoor

/- THE WALKS over the specification of matrices: Columns, has. -/
namespace Go.Proofs.YtdmljilcbndmfaaDoor
open Go.RowKit
set_option maxHeartbeats 8000000 in
set_option maxRecDepth 100000 in
theorem sCols_any (m : Mx.Mat) (v : Value) (w : World) (hm : Rs (Rs RB) w v m) :
    Calls Tryd.prog 94 #[v] w fun e w' => e = .returned (.int .i64 (Mx.cols m : Nat)) ∧ w = w' := by
  obtain ⟨PA, cP, rfl, hm64⟩ := hm.form
  go_enter Tryd.func94, Tryd.ntmps94
  by_cases hl : m.length = 0
  · have e0 : Mx.cols m = 0 := by unfold Mx.cols; rw [List.length_eq_zero_iff.mp hl]; rfl
    have HE := Lib.hid e0
    clear e0 hm
    go_wp2_with fail
    go_ret
    exact ⟨by rw [HE.out]; rfl, rfl⟩
  · obtain ⟨a2, u2, rfl, hc2, hu2⟩ := hm.at (i := 0) (by omega)
    obtain ⟨RA, cR, rfl, hr64⟩ := hu2.form
    have e0 : Mx.cols m = m[0].length := by unfold Mx.cols; rw [List.getD_eq_getElem?_getD, List.getElem?_eq_getElem (by omega)]; rfl
    obtain ⟨c, hc⟩ : ∃ c, m[0].length = c := ⟨_, rfl⟩
    rw [hc] at hc2 e0
    rw [addr_zero] at hc2
    have HE := Lib.hid e0
    have HM := Lib.hid hm
    clear e0 hm hu2 hr64 hc
    go_wp2_with fail
    go_ret
    exact ⟨by rw [HE.out]; rfl, rfl⟩
set_option maxHeartbeats 8000000 in
set_option maxRecDepth 100000 in
theorem sHas_any (l : List Int) (n : Int) (v : Value) (w : World) (hv : Rs RI w v l) :
    Calls Tryd.prog 106 #[v, .int .i64 n] w fun e w' => e = .returned (.bool (decide (n ∈ l))) ∧ w = w' := by
  obtain ⟨PA, cP, rfl, hv64⟩ := hv.form
  have HV := Lib.hid hv
  clear hv
  go_enter Tryd.func106, Tryd.ntmps106
  go_wp2_with fail
  go_loopw [5] (fun vi wr => ∃ k : Nat, k ≤ l.length ∧ vi = .int .i64 (k : Nat) ∧ wr = w ∧ Hid (∀ j, j < k → l.getD j 0 ≠ n)) (fun vi _ => l.length - (intOf vi).toNat)
  case atStart => exact ⟨0, Nat.zero_le _, rfl, rfl, Lib.hid fun j hj => absurd hj (by omega)⟩
  case round =>
    obtain ⟨k, hk, rfl, rfl, HI⟩ := hrel
    by_cases hlt : k < l.length
    · obtain ⟨a1, u1, rfl, hc1, hu1⟩ := HV.out.at hlt
      obtain ⟨rfl, _, _⟩ := hu1
      have g1 := getD_got (x := (0 : Int)) hlt
      have hm := List.getElem_mem hlt
      obtain ⟨x, hx⟩ : ∃ x, l[k] = x := ⟨_, rfl⟩
      rw [hx] at hc1 g1 hm
      have HG := Lib.hid (And.intro g1 hm)
      clear hx g1 hm
      by_cases hxn : x = n
      · subst hxn
        have HE := Lib.hid (decide_eq_true HG.out.2)
        go_wp2_with fail
        go_ret
        exact ⟨ret_bool HE.out.symm, rfl⟩
      · go_wp2_with fail
        go_roundw
        case rel =>
          refine ⟨k + 1, by omega, by go_num, (by first | trivial | rfl), Lib.hid fun j hj => ?_⟩
          by_cases hjk : j = k
          · rw [hjk, HG.out.1]; exact hxn
          · exact HI.out j (by omega)
        case measure => simp [intOf]; omega
    · obtain rfl : k = l.length := by omega
      have e1 : decide (n ∈ l) = false := decide_eq_false fun hm => by
        obtain ⟨j, hj, e⟩ := List.getElem_of_mem hm
        exact HI.out j hj (by rw [getD_got hj, e])
      have HE := Lib.hid e1
      clear e1
      go_wp2_with fail
      go_ret
      exact ⟨ret_bool HE.out.symm, rfl⟩
end Go.Proofs.YtdmljilcbndmfaaDoor

/- THE WALK over the specification's Check of a matrix. -/
namespace Mx
theorem checkG_two {c : Nat} : ∀ {m : Mat} {e : Int} {k : Nat} (hk : k < m.length), 48 < m[k].length → checkG c e m = 2
  | r :: m, e, 0, hk, h => by rw [checkG]; exact if_pos h
  | r :: m, e, k + 1, hk, h => by
    rw [checkG]
    split
    · rfl
    · exact checkG_two (k := k) (by simpa using hk) (by simpa using h)
theorem checkG_odd' {c : Nat} : ∀ {m : Mat}, (∀ r ∈ m, ¬ 48 < r.length) → checkG c 1 m = 1
  | [], _ => rfl
  | r :: m, h => by
    rw [checkG, if_neg (h r List.mem_cons_self), show (if r.length = c then (1 : Int) else 1) = 1 by split <;> rfl]
    exact checkG_odd' fun s hs => h s (List.mem_cons_of_mem _ hs)
theorem checkG_odd {c : Nat} : ∀ {m : Mat} {e : Int} {k : Nat} (hk : k < m.length), (∀ r ∈ m, ¬ 48 < r.length) → m[k].length ≠ c → checkG c e m = 1
  | r :: m, e, 0, hk, h, hc => by
    rw [checkG, if_neg (h r List.mem_cons_self), if_neg (by simpa using hc)]
    exact checkG_odd' fun s hs => h s (List.mem_cons_of_mem _ hs)
  | r :: m, e, k + 1, hk, h, hc => by
    rw [checkG, if_neg (h r List.mem_cons_self)]
    exact checkG_odd (k := k) (by simpa using hk) (fun s hs => h s (List.mem_cons_of_mem _ hs)) (by simpa using hc)
theorem checkG_same {c : Nat} : ∀ {m : Mat} {e : Int}, (∀ r ∈ m, ¬ 48 < r.length) → (∀ r ∈ m, r.length = c) → checkG c e m = e
  | [], _, _, _ => rfl
  | r :: m, e, h, hc => by
    rw [checkG, if_neg (h r List.mem_cons_self), if_pos (hc r List.mem_cons_self)]
    exact checkG_same (fun s hs => h s (List.mem_cons_of_mem _ hs)) fun s hs => hc s (List.mem_cons_of_mem _ hs)
theorem all_mem {m : Mat} {p : List UInt8 → Prop} (h : ∀ j (hj : j < m.length), p m[j]) : ∀ r ∈ m, p r := fun r hr => by
  obtain ⟨j, hj, e⟩ := List.getElem_of_mem hr
  rw [← e]; exact h j hj
end Mx
namespace Go.Proofs.YtdmljilcbndmfaaDoor
open Go.RowKit
set_option maxHeartbeats 8000000 in
set_option maxRecDepth 100000 in
theorem sCheck_any (m : Mx.Mat) (v : Value) (w : World) (hm : Rs (Rs RB) w v m) :
    Calls Tryd.prog 93 #[v] w fun e w' => e = .returned (.int .i64 (Mx.check m)) ∧ Ext w w' := by
  obtain ⟨PA, cP, rfl, hm64⟩ := hm.form
  have HM := Lib.hid hm
  clear hm
  go_enter Tryd.func93, Tryd.ntmps93
  by_cases hl : 48 < m.length
  · have HE := Lib.hid (Mx.check_many hl)
    go_wp2_with fail
    go_ret
    exact ⟨by rw [HE.out]; rfl, Ext.refl _⟩
  have HC := Lib.hid (Mx.check_few hl)
  obtain ⟨c, hc⟩ : ∃ c, (m.getD 0 []).length = c := ⟨_, rfl⟩
  rw [hc] at HC
  have Hc := Lib.hid hc
  clear hc
  go_wp2_with fail
  go_loopw [3] (fun vi wr => ∃ k : Nat, k ≤ m.length ∧ vi = .int .i64 (k : Nat) ∧ wr = w ∧ Hid (∀ j (hj : j < m.length), j < k → ¬ 48 < m[j].length)) (fun vi _ => m.length - (intOf vi).toNat)
  case atStart => exact ⟨0, Nat.zero_le _, rfl, rfl, Lib.hid fun j _ hj => absurd hj (by omega)⟩
  case round =>
    obtain ⟨k, hk, rfl, rfl, HI⟩ := hrel
    by_cases hlt : k < m.length
    · obtain ⟨a1, u1, rfl, hc1, hu1⟩ := HM.out.at hlt
      obtain ⟨QA, cQ, rfl, hq64⟩ := hu1.form
      obtain ⟨n, hn⟩ : ∃ n, m[k].length = n := ⟨_, rfl⟩
      have Hn := Lib.hid hn
      rw [hn] at hc1
      clear hn
      by_cases hw : 48 < n
      · have HE := Lib.hid (Mx.checkG_two (c := c) (e := 0) hlt (by rw [Hn.out]; exact hw))
        go_wp2_with fail
        go_ret
        exact ⟨by rw [HC.out, HE.out]; rfl, Ext.refl _⟩
      · go_wp2_with fail
        go_roundw
        case rel =>
          refine ⟨k + 1, by omega, by go_num, (by first | trivial | rfl), Lib.hid fun j hj hjk => ?_⟩
          by_cases e : j = k
          · subst e; rw [Hn.out]; exact hw
          · exact HI.out j hj (by omega)
        case measure => simp [intOf]; omega
    · obtain rfl : k = m.length := by omega
      have HF := Lib.hid (Mx.all_mem (p := fun r => ¬ 48 < r.length) fun j hj => HI.out j hj hj)
      go_wp2_with fail
      go_loopw [4] (fun vi wr2 => ∃ k : Nat, k ≤ m.length ∧ vi = .int .i64 (k : Nat) ∧ Hid (Ext wr wr2 ∧ ∀ j (hj : j < m.length), j < k → m[j].length = c)) (fun vi _ => m.length - (intOf vi).toNat)
      case atStart => exact ⟨0, Nat.zero_le _, rfl, Lib.hid ⟨Ext.refl _, fun j _ hj => absurd hj (by omega)⟩⟩
      case round =>
        obtain ⟨k, hk, rfl, HJ⟩ := hrel
        by_cases hlt : k < m.length
        · have HM2 := Rs.ext (Rs.ext RB.ext) _ _ _ _ HJ.out.1 HM.out
          obtain ⟨a1, u1, rfl, hc1, hu1⟩ := HM2.at hlt
          obtain ⟨QA, cQ, rfl, hq64⟩ := hu1.form
          obtain ⟨a2, u2, h0, hc2, hu2⟩ := HM2.at (i := 0) (by omega)
          cases h0
          obtain ⟨RA, cR, rfl, hr64⟩ := hu2.form
          have hzero : m[0].length = c := by
            have := Hc.out
            rw [List.getD_eq_getElem?_getD, List.getElem?_eq_getElem (by omega)] at this
            exact this
          rw [hzero, addr_zero] at hc2
          clear hzero hu2 hr64 hu1
          obtain ⟨n, hn⟩ : ∃ n, m[k].length = n := ⟨_, rfl⟩
          have Hn := Lib.hid hn
          rw [hn] at hc1
          clear hn HM2
          by_cases he : n = c
          · subst he
            go_wp2_with fail
            go_quiet (fail)
            go_wp2_with fail
            go_roundw
            case rel =>
              refine ⟨k + 1, by omega, by go_num, Lib.hid ⟨HJ.out.1.drewN nq, fun j hj hjk => ?_⟩⟩
              by_cases e : j = k
              · subst e; rw [Hn.out]
              · exact HJ.out.2 j hj (by omega)
            case measure => simp [intOf]; omega
          · have HE := Lib.hid (Mx.checkG_odd (c := c) (e := 0) hlt HF.out (by rw [Hn.out]; exact he))
            have hne : ((n : Int) = (c : Int)) ↔ False := ⟨fun h => he (by omega), False.elim⟩
            go_wp2_with fail
            go_quiet (fail)
            go_wp2_with fail
            go_ret
            exact ⟨by rw [HC.out, HE.out]; rfl, HJ.out.1.drewN nq⟩
        · obtain rfl : k = m.length := by omega
          have HE := Lib.hid (Mx.checkG_same (c := c) (e := 0) HF.out (Mx.all_mem fun j hj => HJ.out.2 j hj hj))
          go_wp2_with fail
          go_ret
          exact ⟨by rw [HC.out, HE.out]; rfl, HJ.out.1⟩
end Go.Proofs.YtdmljilcbndmfaaDoor

/- THE WALK over the specification's lead. -/
namespace Mx
theorem lead_eq {m : Mat} {r c k : Nat} (h1 : r ≤ k) (h2 : k < m.length) (h3 : cell m k c ≠ 0) (h4 : ∀ j, r ≤ j → j < k → cell m j c = 0) : lead m r c = some k := by
  unfold lead
  rw [List.find?_range_eq_some]
  refine ⟨by simp [h1, h3], List.mem_range.mpr h2, fun j hj => ?_⟩
  by_cases hr : r ≤ j
  · simp [hr, h4 j hr hj]
  · simp [hr]
theorem lead_no {m : Mat} {r c : Nat} (h : ∀ j, r ≤ j → j < m.length → cell m j c = 0) : lead m r c = none := by
  cases hl : lead m r c with
  | none => rfl
  | some k =>
    obtain ⟨a, b, d⟩ := lead_some hl
    exact absurd (h k a b) d
/-- The first row with another number than 0 in a column, or -1. -/
def leadI (m : Mat) (r c : Nat) : Int := match lead m r c with
  | none => -1
  | some k => (k : Int)
theorem leadI_eq {m : Mat} {r c k : Nat} (h1 : r ≤ k) (h2 : k < m.length) (h3 : cell m k c ≠ 0) (h4 : ∀ j, r ≤ j → j < k → cell m j c = 0) : leadI m r c = k := by
  unfold leadI; rw [lead_eq h1 h2 h3 h4]
theorem leadI_no {m : Mat} {r c : Nat} (h : ∀ j, r ≤ j → j < m.length → cell m j c = 0) : leadI m r c = -1 := by
  unfold leadI; rw [lead_no h]
end Mx
namespace Go.Proofs.YtdmljilcbndmfaaDoor
open Go.RowKit
set_option maxHeartbeats 8000000 in
set_option maxRecDepth 100000 in
theorem sLead_any (m : Mx.Mat) (r c n : Nat) (v : Value) (w : World) (hm : Rs (Rs RB) w v m) (hr : r ≤ m.length) (hw : Mx.Rect n m) (hc : c < n) :
    Calls Tryd.prog 110 #[v, .int .i64 r, .int .i64 c] w fun e w' => e = .returned (.int .i64 (Mx.leadI m r c)) ∧ w = w' := by
  obtain ⟨PA, cP, rfl, hm64⟩ := hm.form
  have HM := Lib.hid hm
  have HW := Lib.hid hw
  clear hm hw
  go_enter Tryd.func110, Tryd.ntmps110
  go_wp2_with fail
  go_loopw [7] (fun vi wr => ∃ k : Nat, r ≤ k ∧ k ≤ m.length ∧ vi = .int .i64 (k : Nat) ∧ wr = w ∧ Hid (∀ j, r ≤ j → j < k → Mx.cell m j c = 0)) (fun vi _ => m.length - (intOf vi).toNat)
  case atStart => exact ⟨r, Nat.le_refl _, hr, rfl, rfl, Lib.hid fun j h1 h2 => absurd h2 (by omega)⟩
  case round =>
    obtain ⟨k, hrk, hk, rfl, rfl, HI⟩ := hrel
    by_cases hlt : k < m.length
    · obtain ⟨a1, u1, rfl, hc1, hu1⟩ := HM.out.at hlt
      obtain ⟨QA, cQ, rfl, hq64⟩ := hu1.form
      have hwk : m[k].length = n := by
        have := HW.out k hlt
        rw [Mx.row, List.getD_eq_getElem?_getD, List.getElem?_eq_getElem hlt] at this
        exact this
      obtain ⟨a2, u2, h0, hc2, hu2⟩ := hu1.at (i := c) (by omega)
      obtain rfl := h0
      obtain rfl := hu2
      have hcell : Mx.cell m k c = m[k][c] := by
        unfold Mx.cell Mx.row
        rw [getD_got hlt, getD_got (by omega)]
      rw [hwk] at hc1
      obtain ⟨x, hx⟩ : ∃ x, m[k][c] = x := ⟨_, rfl⟩
      rw [hx] at hc2 hcell
      have HX := Lib.hid hcell
      clear hx hcell hu1 hwk hq64
      by_cases hx0 : x = 0
      · subst hx0
        go_wp2_with fail
        go_roundw
        case rel =>
          refine ⟨k + 1, by omega, by omega, by go_num, (by first | trivial | rfl), Lib.hid fun j h1 h2 => ?_⟩
          by_cases e : j = k
          · rw [e]; exact HX.out
          · exact HI.out j h1 (by omega)
        case measure => simp [intOf]; omega
      · have HE := Lib.hid (Mx.leadI_eq hrk hlt (by rw [HX.out]; exact hx0) HI.out)
        have hne : x.toNat ≠ 0 := fun e => hx0 (UInt8.toNat_inj.mp e)
        go_wp2_with fail
        go_ret
        exact ⟨by rw [HE.out]; rfl, rfl⟩
    · obtain rfl : k = m.length := by omega
      have HE := Lib.hid (Mx.leadI_no HI.out)
      go_wp2_with fail
      go_ret
      exact ⟨by rw [HE.out]; rfl, rfl⟩
end Go.Proofs.YtdmljilcbndmfaaDoor

/- THE WALKS over the strings of package gf: build, Sum, Scale, Combine and their closures. -/
namespace Go.Proofs.YtdmljilcbndmfaaDoor
open Go.RowKit

theorem info_u8 : (Tryd.prog.info? 5).map (fun i => (i.zero, i.size, i.bytes)) = some (some (.int .u8 0), 1, 1) := by kernel_rfl

theorem str_u8 {w : World} {A : Option Addr} {l : List UInt8} {c n : Nat} (hn : n = l.length) (h : Rd w A (l.map bv)) :
    (convert 28 9 (.slice A n c)).run Tryd.prog w = .ok (.string (sb l)) w := run_str Tryd.underlying28 Tryd.underlying5 Tryd.underlying9 hn h

def part (n k : Nat) (g : Nat → UInt8) : List Value := (List.range k).map (fun j => bv (g j)) ++ List.replicate (n - k) (.int .u8 0)
theorem part_set {n k : Nat} (g : Nat → UInt8) (h : k < n) : (part n k g).set k (bv (g k)) = part n (k + 1) g := by
  unfold part
  obtain ⟨m, rfl⟩ : ∃ m, n = k + 1 + m := ⟨n - (k + 1), by omega⟩
  rw [show k + 1 + m - k = m + 1 from by omega, show k + 1 + m - (k + 1) = m from by omega, List.set_append_right _ _ (by simp), List.range_succ]
  simp [List.replicate_succ]
theorem part_length {n k : Nat} (g : Nat → UInt8) (h : k ≤ n) : (part n k g).length = n := by simp [part]; omega
theorem part_zero (n : Nat) (g : Nat → UInt8) : part n 0 g = List.replicate n (.int .u8 0) := by simp [part]
theorem part_full (n : Nat) (g : Nat → UInt8) : part n n g = ((List.range n).map g).map bv := by simp [part]

/-- build, over whatever function value that only computes. -/
theorem build_any (n : Nat) (hn : n ≤ 140737488351232) (F : FuncId) (cap : Array Value) (g : Nat → UInt8) (w : World) (hE : ∀ args w, (callFunc F args).run Tryd.prog w = .ok (.enter F args) w)
    (hF : ∀ k, k < n → ∀ w', Ext w w' → Calls Tryd.prog F (#[.int .i64 k] ++ cap) w' fun e w'' => e = .returned (bv (g k)) ∧ Ext w' w'') :
    Calls Tryd.prog 80 #[.int .i64 n, .func (.func F) #[] cap] w fun e w' => e = .returned (.string (sb ((List.range n).map g))) ∧ Ext w w' := by
  have HF := Lib.hid hF
  clear hF
  obtain ⟨i0, hi, hz0, hz1, hz2⟩ := info_parts info_u8
  have HZ := Lib.hid hz2
  clear hz2
  go_enter Tryd.func80, Tryd.ntmps80
  go_wp2_with (refine wpList_make_full _ rfl (.tmp 7) (.tmp 7) 28 rfl w.heap.size 5 i0 (.int .u8 0) 1 Tryd.underlying28 hi hz0 hz1 _ _ _ _ n rfl rfl rfl rfl (by rw [HZ.out]; omega) (by unfold maxLen; omega) (Nat.le_refl _) ?_; intro w1 hown hgrow)
  have hx : Ext w w1 := (Ext.refl w).grown hgrow (fun k h => by cases h)
  have hsz : w.heap.size < w1.heap.size := by
    have := hown.lt w.heap.size rfl
    omega
  have hown' : w1.ownsRow w.heap.size 5 1 (.slice (some ⟨w.heap.size, 0, none⟩) n n) n (part n 0 g) := by
    rw [part_zero, ← toList_madeCells_one]
    simpa [Value.cells] using hown
  have H0 := Lib.hid (And.intro hx hown')
  clear hown hown' hgrow hx
  go_loopw [10] (fun vi wr => ∃ k : Nat, k ≤ n ∧ vi = .int .i64 k ∧ Hid (Ext w wr ∧ wr.ownsRow w.heap.size 5 1 (.slice (some ⟨w.heap.size, 0, none⟩) n n) n (part n k g))) (fun vi _ => n - (intOf vi).toNat)
  case atStart => exact ⟨0, Nat.zero_le _, rfl, H0.out⟩
  case round =>
    obtain ⟨k, hk, rfl, HR⟩ := hrel
    by_cases hlt : k < n
    · go_wp2_with fail
      refine (HF.out k hlt wr HR.out.1).mono ?_
      rintro e w2 ⟨rfl, hx2⟩
      have hown2 : w2.ownsRow w.heap.size 5 1 (.slice (some ⟨w.heap.size, 0, none⟩) n n) n (part n k g) := own_ext HR.out.2 hx2
      have hc := hown2.cellAt k (by omega)
      rw [List.getElem?_eq_getElem (by rw [part_length g hk]; exact hlt)] at hc
      have hf := hown2.frozenAt k
      have hst := (hown2.stored k (bv (g k))).1
      rw [part_set g hlt] at hst
      have hx3 : Ext w w2 := HR.out.1.trans hx2
      have HS := Lib.hid (And.intro hx3 hst)
      clear hown2 hst hx3 hx2
      go_wp2_with fail
      go_roundw
      case rel => exact ⟨k + 1, by omega, by go_num, HS.out.1.setCell (Nat.le_refl _) _, HS.out.2⟩
      case measure => simp [intOf]; omega
    · obtain rfl : k = n := by omega
      have hrun := str_u8 (n := k) (c := k) (A := some ⟨w.heap.size, 0, none⟩) (w := wr) (l := (List.range k).map g) (by simp) (by
        have := Rd.of_own (w := wr) (B := w.heap.size) (e := 5) (c := k) (A := some ⟨w.heap.size, 0, none⟩) (xs := part k k g) (by rw [part_length g hk]; exact HR.out.2)
        rw [part_full] at this
        exact this)
      go_wp2_with fail
      go_ret
      exact ⟨rfl, HR.out.1⟩

theorem mul_u8 (a b : UInt8) (w : World) (hT : Tab w) : Calls Tryd.prog 82 #[bv a, bv b] w fun e w' => e = .returned (bv (Gf.mul a b)) ∧ w = w' := by
  refine (mul_any _ _ w hT (by omega) (by have := Gf.lt8 a; omega) (by omega) (by have := Gf.lt8 b; omega)).mono ?_
  rintro e w' ⟨rfl, rfl⟩
  exact ⟨by rw [Gf.mulI_toNat], rfl⟩
theorem Tab.drewN {w : World} (h : Tab w) (n : Nat) : Tab (w.drewN n) := h

end Go.Proofs.YtdmljilcbndmfaaDoor

/- THE WALKS over the specification of the field: Mul, Inv, Exp. -/
namespace Go.Proofs.YtdmljilcbndmfaaDoor
open Go.RowKit
theorem rmul_nat (a b : Nat) (ha : a < 256) (hb : b < 256) (w : World) :
    Calls Tryd.prog 83 #[.int .u8 a, .int .u8 b] w fun e w' => e = .returned (.int .u8 (Gf.mulN a b : Nat)) ∧ w = w' := by
  go_enter Tryd.func83, Tryd.ntmps83
  go_wp2_with fail
  go_loop [5, 6, 7] (fun vx vy vs => ∃ X Y S j : Nat, X < 256 ∧ Y < 256 ∧ Y < 2 ^ j ∧ S < 256 ∧ vx = .int .i64 X ∧ vy = .int .i64 Y ∧ vs = .int .i64 S ∧ Hid (S ^^^ Gf.mulK j X Y = Gf.mulN a b)) (fun _ vy _ => (intOf vy).toNat)
  case atStart => exact ⟨a, b, 0, 8, ha, hb, hb, by omega, rfl, rfl, rfl, by simp [Hid, Gf.mulN_def]⟩
  case round =>
    obtain ⟨X, Y, S, j, hX, hY, hj, hS, rfl, rfl, rfl, HM⟩ := hrel
    by_cases hp : 0 < Y
    · obtain ⟨j, rfl⟩ : ∃ i, j = i + 1 := ⟨j - 1, by
        rcases Nat.eq_zero_or_pos j with rfl | h
        · simp at hj; omega
        · omega⟩
      have hj' : Y / 2 < 2 ^ j := by rw [Nat.pow_succ] at hj; omega
      have HJ := Lib.hid hj'
      have hsx := Gf.xor_lt hS hX
      have hxt := Gf.xt_lt hX
      have e4 : bits .xor .i64 (S : Int) (X : Int) = ((S ^^^ X : Nat) : Int) := xor64 S X (by omega) (by omega)
      have e5 : 255 < 2 * X → bits .xor .i64 (2 * (X : Int)) 285 = ((Gf.xt X : Nat) : Int) := fun h => by
        have := xor64 (2 * X) 285 (by omega) (by omega)
        rw [Gf.xt, show X / 128 = 1 from by omega]
        simpa using this
      have e6 : ¬ 255 < 2 * X → 2 * (X : Int) = ((Gf.xt X : Nat) : Int) := fun h => by
        rw [Gf.xt, show X / 128 = 0 from by omega]
        simp
      have E4 := Lib.hid e4
      have E6 := Lib.hid e6
      clear e4 e6 hj hj'
      have e1 : Y % 2 = 1 → Hid ((S ^^^ X) ^^^ Gf.mulK j (Gf.xt X) (Y / 2) = Gf.mulN a b) := fun h => by
        have := HM.out
        rw [Gf.mulK, h, Nat.one_mul, ← Nat.xor_assoc] at this
        exact this
      have e2 : Y % 2 = 0 → Hid (S ^^^ Gf.mulK j (Gf.xt X) (Y / 2) = Gf.mulN a b) := fun h => by
        have := HM.out
        rw [Gf.mulK, h, Nat.zero_mul, Nat.zero_xor] at this
        exact this
      have E1 := Lib.hid e1
      have E2 := Lib.hid e2
      clear e1 e2
      by_cases hbit : Y % 2 = 1
      · have HB := Lib.hid hbit
        have e0 : (((Y : Int) % 2) == 1) = true := by
          have : ((Y : Int) % 2) = 1 := by omega
          rw [this]; rfl
        clear hbit
        by_cases hbig : 255 < 2 * X
        · have E5 := Lib.hid (e5 hbig)
          clear e5
          go_wp2_with fail
          go_round
          case rel => exact ⟨Gf.xt X, Y / 2, S ^^^ X, j, hxt, by omega, HJ.out, hsx, by rw [E5.out], by go_num, by rw [E4.out], E1.out HB.out⟩
          case measure => simp [intOf]; omega
        · have E5 := Lib.hid (E6.out hbig)
          clear e5
          go_wp2_with fail
          go_round
          case rel => exact ⟨Gf.xt X, Y / 2, S ^^^ X, j, hxt, by omega, HJ.out, hsx, by rw [E5.out], by go_num, by rw [E4.out], E1.out HB.out⟩
          case measure => simp [intOf]; omega
      · have HB := Lib.hid (show Y % 2 = 0 by omega)
        have e0 : (((Y : Int) % 2) == 1) = false := by
          have : ((Y : Int) % 2) = 0 := by omega
          rw [this]; rfl
        clear hbit
        by_cases hbig : 255 < 2 * X
        · have E5 := Lib.hid (e5 hbig)
          clear e5
          go_wp2_with fail
          go_round
          case rel => exact ⟨Gf.xt X, Y / 2, S, j, hxt, by omega, HJ.out, hS, by rw [E5.out], by go_num, rfl, E2.out HB.out⟩
          case measure => simp [intOf]; omega
        · have E5 := Lib.hid (E6.out hbig)
          clear e5
          go_wp2_with fail
          go_round
          case rel => exact ⟨Gf.xt X, Y / 2, S, j, hxt, by omega, HJ.out, hS, by rw [E5.out], by go_num, rfl, E2.out HB.out⟩
          case measure => simp [intOf]; omega
    · obtain rfl : Y = 0 := by omega
      have hz : ∀ j X, Gf.mulK j X 0 = 0 := by
        intro j
        induction j with
        | zero => intro X; rfl
        | succ j ih => intro X; rw [Gf.mulK, show 0 / 2 = 0 from rfl, ih]; simp
      have hfin : S = Gf.mulN a b := by have := HM.out; rw [hz, Nat.xor_zero] at this; exact this
      have HF := Lib.hid hfin
      clear hfin hz hj
      go_wp2_with fail
      go_ret
      exact ⟨ret_int (by rw [← HF.out]), rfl⟩
theorem rmul_any (a b : Int) (w : World) (ha : 0 ≤ a) (ha' : a < 256) (hb : 0 ≤ b) (hb' : b < 256) :
    Calls Tryd.prog 83 #[.int .u8 a, .int .u8 b] w fun e w' => e = .returned (.int .u8 (Gf.mulI a b)) ∧ w = w' := by
  obtain ⟨a, rfl⟩ := Int.eq_ofNat_of_zero_le ha
  obtain ⟨b, rfl⟩ := Int.eq_ofNat_of_zero_le hb
  rw [Gf.mulI_nat]
  exact rmul_nat a b (by omega) (by omega) w
theorem rexponent (n : Int) (w : World) (h1 : -9223372036854775808 ≤ n) (h2 : n ≤ 9223372036854775807) :
    Calls Tryd.prog 112 #[.int .i64 n] w fun e w' => e = .returned (.int .i64 (n % 255)) ∧ w = w' := by
  have e : (n.tmod 255 + 255) % 255 = n % 255 ∧ -255 < n.tmod 255 ∧ n.tmod 255 < 255 := by
    by_cases h0 : 0 ≤ n
    · rw [Int.tmod_eq_emod_of_nonneg h0]; omega
    · have h := Int.neg_tmod (-n) 255
      rw [Int.neg_neg, Int.tmod_eq_emod_of_nonneg (a := -n) (by omega)] at h
      rw [h]; omega
  have h3 := e.2.1
  have h4 := e.2.2
  have E := Lib.hid e.1
  clear e
  go_enter Tryd.func112, Tryd.ntmps112
  go_wp2_with fail
  go_ret
  exact ⟨ret_int E.out, rfl⟩
set_option maxRecDepth 100000 in
theorem rinv_nat (a : Nat) (ha : a < 256) (w : World) (h0 : a ≠ 0) :
    Calls Tryd.prog 113 #[.int .u8 a] w fun e w' => e = .returned (.int .u8 (Gf.invN a : Nat)) ∧ w = w' := by
  have hi := Gf.invN_lt a
  have hm := Gf.mul_invN ha h0
  have hne : Gf.invN a ≠ 0 := fun h => by rw [h, Gf.mulN_zero2] at hm; omega
  have hpos : 1 ≤ Gf.invN a := by omega
  have HM := Lib.hid hm
  have HZ := Lib.hid h0
  clear hm h0 hne
  go_enter Tryd.func113, Tryd.ntmps113
  go_wp2_with fail
  go_loop [3] (fun vb => ∃ b : Nat, 1 ≤ b ∧ b ≤ Gf.invN a ∧ vb = .int .i64 b) (fun vb => (256 - intOf vb).toNat)
  case atStart => exact ⟨1, by omega, hpos, rfl⟩
  case round =>
    obtain ⟨b, hb1, hb2, rfl⟩ := hrel
    by_cases he : b = Gf.invN a
    · have e1 : (Gf.mulI (a : Int) (b : Int) == 1) = true := by
        rw [Gf.mulI_nat]
        rw [he, HM.out]; rfl
      have HE := Lib.hid he
      clear he
      go_wp2_with fail
      refine (rmul_any _ _ _ (by omega) (by omega) (by omega) (by omega)).mono ?_
      rintro e w' ⟨rfl, rfl⟩
      go_wp2_with fail
      go_ret
      exact ⟨ret_int (by rw [← HE.out]), rfl⟩
    · have e1 : (Gf.mulI (a : Int) (b : Int) == 1) = false := by
        rw [Gf.mulI_nat]
        rw [beq_eq_false_iff_ne]
        intro e
        have e' : Gf.mulN a b = 1 := by omega
        apply he
        have h3 := Gf.mulN_assoc (Gf.invN_lt a) ha (c := b) (by omega)
        rw [e', Gf.mulN_comm (Gf.invN_lt a) ha, HM.out, Gf.mulN_one1 (by omega), Gf.mulN_one2 (Gf.invN_lt a)] at h3
        exact h3
      have HE := Lib.hid he
      have hlt : b < Gf.invN a := by omega
      clear he
      go_wp2_with fail
      refine (rmul_any _ _ _ (by omega) (by omega) (by omega) (by omega)).mono ?_
      rintro e w' ⟨rfl, rfl⟩
      go_wp2_with fail
      go_round
      case rel => exact ⟨b + 1, by omega, by omega, by go_num⟩
      case measure => simp [intOf]; omega
theorem rexp (n : Int) (w : World) (h1 : -9223372036854775808 ≤ n) (h2 : n ≤ 9223372036854775807) :
    Calls Tryd.prog 109 #[.int .i64 n] w fun e w' => e = .returned (.int .u8 (Gf.powN 2 (n % 255).toNat : Nat)) ∧ w = w' := by
  obtain ⟨N, hN⟩ : ∃ N : Nat, (N : Int) = n % 255 := ⟨(n % 255).toNat, by omega⟩
  have hN' : N < 255 := by omega
  have HN := Lib.hid hN
  clear hN
  go_enter Tryd.func109, Tryd.ntmps109
  go_wp2_with fail
  go_loop [3, 4] (fun vx vk => ∃ k : Nat, k ≤ N ∧ vk = .int .i64 k ∧ vx = .int .u8 (Gf.powN 2 k : Nat)) (fun _ vk => N - (intOf vk).toNat)
  case atStart => exact ⟨0, by omega, rfl, by rw [Gf.powN_nil]; rfl⟩
  case round =>
    obtain ⟨k, hk, rfl, rfl⟩ := hrel
    have HP := Lib.hid (Gf.powN_lt (a := 2) k)
    by_cases hlt : k < N
    · go_wp2_with fail
      refine (rexponent n _ h1 h2).mono ?_
      rw [← HN.out]
      rintro e w' ⟨rfl, rfl⟩
      go_wp2_with fail
      refine (rmul_any _ _ _ (by omega) (by have := HP.out; omega) (by omega) (by omega)).mono ?_
      rintro e w' ⟨rfl, rfl⟩
      go_wp2_with fail
      go_round
      case rel => exact ⟨k + 1, by omega, by go_num, by first | rw [Gf.powN_step2] | rw [Gf.powN_step]⟩
      case measure => simp [intOf]; omega
    · obtain rfl : k = N := by omega
      go_wp2_with fail
      refine (rexponent n _ h1 h2).mono ?_
      rw [← HN.out]
      rintro e w' ⟨rfl, rfl⟩
      go_wp2_with fail
      go_ret
      exact ⟨ret_int (by rw [← HN.out]; rfl), rfl⟩
end Go.Proofs.YtdmljilcbndmfaaDoor

/- THE WALKS over the strings of the field's specification. -/
namespace Go.Proofs.YtdmljilcbndmfaaDoor
open Go.RowKit

theorem rmul_u8 (a b : UInt8) (w : World) : Calls Tryd.prog 83 #[bv a, bv b] w fun e w' => e = .returned (bv (Gf.mul a b)) ∧ w = w' := by
  refine (rmul_any _ _ w (by omega) (by have := Gf.lt8 a; omega) (by omega) (by have := Gf.lt8 b; omega)).mono ?_
  rintro e w' ⟨rfl, rfl⟩
  exact ⟨by rw [Gf.mulI_toNat], rfl⟩

end Go.Proofs.YtdmljilcbndmfaaDoor

/- A REGION THAT DRAWS ITS ORDER, by an invariant over the operations that are done: one obligation per operation. -/
namespace Go.Proofs.YtdmljilcbndmfaaDoor
section
variable {P : Program} {ops : Array Oper} {Q : Exit → Act → World → Prop} {md : Region.Mode}
/-- How many operations are not done. -/
def undone (listed : Array Bool) : Nat := listed.toList.countP (· == false)
theorem undone_set {listed : Array Bool} {i : Nat} (h : listed.getD i true = false) : undone (listed.setIfInBounds i true) + 1 = undone listed := by
  unfold undone
  rw [Array.toList_setIfInBounds]
  obtain ⟨l⟩ := listed
  have hi : l[i]? = some false := by
    simp only [Array.getD_eq_getD_getElem?, List.getElem?_toArray] at h
    cases hk : l[i]? with
    | none => rw [hk] at h; cases h
    | some b => rw [hk] at h; cases b; rfl; cases h
  show List.countP _ (l.set i true) + 1 = List.countP _ l
  clear h
  induction l generalizing i with
  | nil => simp at hi
  | cons b r ih =>
    cases i with
    | zero =>
      simp at hi
      subst hi
      simp
    | succ i =>
      have h2 := ih (i := i) (by simpa using hi)
      simp only [List.set_cons_succ, List.countP_cons]
      omega
/-- What may come up: it is not done, and all that it waits for is. -/
theorem ready_spec {listed : Array Bool} {i : Nat} (hi : i ∈ Region.ready md ops listed) :
    i < ops.size ∧ listed.getD i true = false ∧ ∀ o, ops[i]? = some o → ∀ e ∈ o.after, Region.binds md e = true → listed.getD e.on false = true := by
  unfold Region.ready at hi
  obtain ⟨h1, h2⟩ := List.mem_filter.1 hi
  simp only [Bool.and_eq_true, Bool.not_eq_true'] at h2
  refine ⟨by simpa using h1, h2.1, fun o ho e he hb => ?_⟩
  have h3 := h2.2
  rw [ho] at h3
  simp only [Option.map_some, Option.getD_some] at h3
  rw [Array.all_eq_true_iff_forall_mem] at h3
  have := h3 e he
  simp only [hb, Bool.not_true, Bool.false_or] at this
  exact this
theorem wpAny_inv (I : Array Bool → Act → World → Prop)
    (hstep : ∀ listed a w i, I listed a w → i ∈ Region.ready md ops listed → wpOp P ops Q i (I (listed.setIfInBounds i true)) a w)
    (hend : ∀ listed a w, I listed a w → Region.ready md ops listed = [] → Q .normal a w) :
    ∀ (fuel : Nat) (listed : Array Bool) (a : Act) (w : World), undone listed ≤ fuel → I listed a w → wpAny P md ops Q fuel listed a w := by
  have hun : ∀ (listed : Array Bool) (i : Nat), i ∈ Region.ready md ops listed → listed.getD i true = false := fun listed i hi => by
    unfold Region.ready at hi
    have := (List.mem_filter.1 hi).2
    simp only [Bool.and_eq_true, Bool.not_eq_true'] at this
    exact this.1
  intro fuel
  induction fuel with
  | zero =>
    intro listed a w hf hI
    have hr : Region.ready md ops listed = [] := by
      cases h : Region.ready md ops listed with
      | nil => rfl
      | cons i r =>
        exfalso
        have := undone_set (hun listed i (by rw [h]; simp))
        omega
    exact ⟨hr, hend _ _ _ hI hr⟩
  | succ fuel ih =>
    intro listed a w hf hI
    refine ⟨fun hr => hend _ _ _ hI hr, fun i hi => ?_⟩
    have h1 := undone_set (hun listed i hi)
    exact wpOp_mono (fun a w h => ih _ a w (by omega) h) (hstep _ _ _ _ hI hi)
end
end Go.Proofs.YtdmljilcbndmfaaDoor

/- THE ROWS THAT A CALL HAS MADE, all in one list: what each holds, that no two share a block, and that nothing older has turned. -/
namespace Go.Proofs.YtdmljilcbndmfaaDoor
open Go.RowKit

/-- A row: the slice value, its element type, cells to an element, the number of elements, the cells. -/
structure LRow where
  v : Value
  e : TypeId
  s : Nat
  n : Nat
  xs : List Value
def LRow.far (a b : LRow) : Prop := a.v.ownBlock = none ∨ a.v.ownBlock ≠ b.v.ownBlock
def LRow.ok (w0 w : World) (r : LRow) : Prop := w.ownsRow w0.heap.size r.e r.s r.v r.n r.xs
/-- No row. -/
def no : LRow := ⟨.slice none 0 0, 0, 1, 0, []⟩
/-- A nil slice. -/
def nilRow (e : TypeId) : LRow := ⟨.slice none 0 0, e, 1, 0, []⟩

structure Owns (w0 w : World) (L : List LRow) : Prop where
  ext : Ext w0 w
  ok : ∀ (i : Nat) (r : LRow), L[i]? = some r → r.ok w0 w
  far : ∀ (i j : Nat) (a b : LRow), i ≠ j → L[i]? = some a → L[j]? = some b → a.far b

section
variable {w0 w w' : World} {L : List LRow} {P : Program}
theorem no_ok (w0 w : World) : no.ok w0 w := World.ownsRow_nil _ _ _ _
theorem LRow.far_none {a b : LRow} (h : b.v.ownBlock = none) : a.far b := by
  unfold LRow.far
  cases ha : a.v.ownBlock with
  | none => exact .inl rfl
  | some g => exact .inr (by rw [h]; simp)
theorem LRow.far_symm {a b : LRow} (h : a.far b) : b.far a := by
  unfold LRow.far at h ⊢
  rcases h with h | h
  · exact LRow.far_none h
  · exact .inr (Ne.symm h)

/-- At the call's beginning: rows that own nothing. -/
theorem Owns.start (w : World) (h : ∀ r ∈ L, r.v = .slice none 0 0 ∧ r.n = 0 ∧ r.xs = []) : Owns w w L where
  ext := Ext.refl w
  ok i r hr := by
    obtain ⟨h1, h2, h3⟩ := h r (List.mem_of_getElem? hr)
    unfold LRow.ok
    rw [h1, h2, h3]
    exact World.ownsRow_nil _ _ _ _
  far i j a b _ ha _ := .inl (by rw [(h a (List.mem_of_getElem? ha)).1]; rfl)

theorem Owns.move (h : Owns w0 w L) (hx : Ext w0 w') (hg : ∀ g, w0.heap.size ≤ g → g < w.heap.size → w'.heap[g]? = w.heap[g]?) : Owns w0 w' L where
  ext := hx
  ok i r hr := by
    have h1 := h.ok i r hr
    refine ⟨h1.1, ?_⟩
    rcases h1.2 with h2 | ⟨g, cap, cur, hv, hB, hh, rest⟩
    · exact .inl h2
    · exact .inr ⟨g, cap, cur, hv, hB, (hg g hB (lt_of_block hh)).trans hh, rest⟩
  far := h.far
theorem Owns.next (h : Owns w0 w L) (hx : Ext w w') : Owns w0 w' L := h.move (h.ext.trans hx) fun g _ hlt => Below.block hx g hlt
theorem Owns.alloc (h : Owns w0 w L) (o : Obj) : Owns w0 (w.alloc o) L := h.next ((Ext.refl w).alloc o)
theorem Owns.drew (h : Owns w0 w L) : Owns w0 w.drew L := h.next (Ext.refl w).drew
theorem Owns.drewN (h : Owns w0 w L) (n : Nat) : Owns w0 (w.drewN n) L := h.next ((Ext.refl w).drewN n)

/-- One row anew: of a new block, or of the block that it had; the other rows' blocks are as they were. -/
theorem Owns.put (h : Owns w0 w L) (i : Nat) (r' : LRow) (hx : Ext w0 w') (hr' : r'.ok w0 w')
    (hg : ∀ j r, j ≠ i → L[j]? = some r → ∀ g, r.v.ownBlock = some g → w'.heap[g]? = w.heap[g]?) (hf : ∀ j r, j ≠ i → L[j]? = some r → r'.far r) : Owns w0 w' (L.set i r') where
  ext := hx
  ok j r hr := by
    by_cases hj : j = i
    · subst hj
      rw [List.getElem?_set] at hr
      split at hr
      · split at hr
        · injection hr with hr; subst hr; exact hr'
        · cases hr
      · rename_i hne; exact absurd rfl hne
    · rw [List.getElem?_set_ne (Ne.symm hj)] at hr
      have h1 := h.ok j r hr
      refine ⟨h1.1, ?_⟩
      rcases h1.2 with h2 | ⟨g, cap, cur, hv, hB, hh, rest⟩
      · exact .inl h2
      · exact .inr ⟨g, cap, cur, hv, hB, (hg j r hj hr g (by rw [hv]; rfl)).trans hh, rest⟩
  far j k a b hjk ha hb := by
    by_cases hj : j = i
    · subst hj
      rw [List.getElem?_set_ne hjk] at hb
      rw [List.getElem?_set] at ha
      simp only [↓reduceIte] at ha
      split at ha
      · injection ha with ha; subst ha; exact hf k b (Ne.symm hjk) hb
      · cases ha
    · by_cases hk : k = i
      · subst hk
        rw [List.getElem?_set_ne (Ne.symm hj)] at ha
        rw [List.getElem?_set] at hb
        simp only [↓reduceIte] at hb
        split at hb
        · injection hb with hb; subst hb; exact LRow.far_symm (a := r') (b := a) (hf j a hj ha)
        · cases hb
      · rw [List.getElem?_set_ne (Ne.symm hj)] at ha
        rw [List.getElem?_set_ne (Ne.symm hk)] at hb
        exact h.far j k a b hjk ha hb

/-- A new block of cells, as a row. -/
theorem Owns.new (h : Owns w0 w L) (i : Nat) (cs : Array Value) (e : TypeId) (hm : cs.size ≤ maxLen) : Owns w0 (w.alloc (.cells cs e)) (L.set i ⟨.slice (some ⟨w.heap.size, 0, none⟩) cs.size cs.size, e, 1, cs.size, cs.toList⟩) := by
  have hlt : ∀ r : LRow, r.ok w0 w → ∀ g, r.v.ownBlock = some g → g < w.heap.size := fun r hr g hg => (World.ownsRow.lt hr g hg).2
  refine h.put i _ (h.ext.alloc _) ⟨by simp, .inr ⟨w.heap.size, cs.size, cs, rfl, h.ext.size, heap_new w _, Nat.le_refl _, hm, by simp, List.take_of_length_le (by simp)⟩⟩ ?_ ?_
  · intro j r _ hr g hg
    exact Below.heap_alloc w _ g (hlt r (h.ok j r hr) g hg)
  · intro j r _ hr
    refine .inr ?_
    intro he
    have := hlt r (h.ok j r hr) w.heap.size he.symm
    omega

theorem Owns.wider (h : Owns w0 w L) : Owns w0 w (L ++ [no]) where
  ext := h.ext
  ok i r hr := by
    rw [List.getElem?_append] at hr
    split at hr
    · exact h.ok i r hr
    · have : r = no := by
        cases hk : i - L.length with
        | zero => rw [hk] at hr; simpa using hr.symm
        | succ k => rw [hk] at hr; simp at hr
      subst this
      exact no_ok _ _
  far i j a b hij ha hb := by
    rw [List.getElem?_append] at ha hb
    split at ha
    · split at hb
      · exact h.far i j a b hij ha hb
      · have : b = no := by
          cases hk : j - L.length with
          | zero => rw [hk] at hb; simpa using hb.symm
          | succ k => rw [hk] at hb; simp at hb
        subst this
        exact LRow.far_none rfl
    · have : a = no := by
        cases hk : i - L.length with
        | zero => rw [hk] at ha; simpa using ha.symm
        | succ k => rw [hk] at ha; simp at ha
      subst this
      exact .inl rfl
/-- One, two, three new blocks of one cell each, as rows behind the others. -/
theorem Owns.push1 {u : Value} {e : TypeId} (h : Owns w0 w L) : Owns w0 (w.alloc (.cells #[u] e)) (L ++ [⟨.slice (some ⟨w.heap.size, 0, none⟩) 1 1, e, 1, 1, [u]⟩]) := by
  have := h.wider.new L.length #[u] e (by simp [maxLen])
  simpa using this
theorem Owns.row (h : Owns w0 w L) (i : Nat) {v : Value} {e s n : Nat} {xs : List Value} (hi : L[i]? = some ⟨v, e, s, n, xs⟩) : w.ownsRow w0.heap.size e s v n xs := h.ok i _ hi
/-- A cell of a row. -/
theorem Owns.cell (h : Owns w0 w L) (i : Nat) {g n c e s : Nat} {xs : List Value} (hi : L[i]? = some ⟨.slice (some ⟨g, 0, none⟩) n c, e, s, n, xs⟩) (k : Nat) {u : Value} (hu : xs[k]? = some u) : w.cell? ⟨g, k, none⟩ = some u := by
  have h1 := h.row i hi
  have hk : k < n * s := by
    have := h1.1
    rcases Nat.lt_or_ge k xs.length with h2 | h2
    · omega
    · rw [List.getElem?_eq_none h2] at hu; cases hu
  rw [h1.cellAt k hk]; exact hu
theorem Owns.frozen (h : Owns w0 w L) (i : Nat) {g n c e s : Nat} {xs : List Value} (hi : L[i]? = some ⟨.slice (some ⟨g, 0, none⟩) n c, e, s, n, xs⟩) (k : Nat) : w.frozen? ⟨g, k, none⟩ = false := (h.row i hi).frozenAt k
theorem Owns.rd (h : Owns w0 w L) (i : Nat) {A : Option Addr} {n c e : Nat} {xs : List Value} (hi : L[i]? = some ⟨.slice A n c, e, 1, n, xs⟩) : Rd w A xs := own_rd (h.row i hi)
/-- A store into a row. -/
theorem Owns.store (h : Owns w0 w L) (i : Nat) {g n c e s : Nat} {xs : List Value} (hi : L[i]? = some ⟨.slice (some ⟨g, 0, none⟩) n c, e, s, n, xs⟩) (k : Nat) (u : Value) :
    Owns w0 (w.setCell ⟨g, k, none⟩ u) (L.set i ⟨.slice (some ⟨g, 0, none⟩) n c, e, s, n, xs.set k u⟩) := by
  have h1 := h.row i hi
  have hB := (h1.lt g rfl).1
  refine h.put i _ (h.ext.setCell hB u) (h1.stored k u).1 ?_ ?_
  · intro j r hj hr g' hg'
    refine Below.heap_setCell _ _ _ _ ?_
    rintro rfl
    have := h.far j i _ _ hj hr hi
    rcases this with h2 | h2
    · rw [hg'] at h2; cases h2
    · exact h2 hg'
  · intro j r hj hr
    have := h.far i j _ _ (Ne.symm hj) hi hr
    exact this
/-- A row that is given up. -/
theorem Owns.drop (h : Owns w0 w L) (i : Nat) : Owns w0 w (L.set i no) :=
  h.put i no h.ext (no_ok _ _) (fun _ _ _ _ _ _ => rfl) fun _ _ _ _ => .inl rfl

/-- 'out = append(out, xs...)' onto a row. -/
theorem run_append_owns (t ty e : TypeId) {z : Value} {s bytes : Nat} (ht : P.underlying t = some (.slice e)) (hi : (P.info? e).map (fun i => (i.zero, i.size, i.bytes)) = some (some z, s, bytes)) (hzs : z.cells.size = s) (hs : 0 < s)
    (h : Owns w0 w L) (i : Nat) {v : Value} {n : Nat} {xs : List Value} (hL : L[i]? = some ⟨v, e, s, n, xs⟩)
    (ad : Addr) (m c : Nat) (news : List Value) (hl : news.length = m * s) (hnews : ∀ j u, news[j]? = some u → w.cell? (ad.add j) = some u) (h1 : ∀ u ∈ news, u.oneCell' = true) (hm : 0 < m)
    (h63 : n + m ≤ maxLen) (hb : (n + m) * bytes ≤ 140737488355328) :
    ∃ g cap w', (Builtin.append_ #[t, t] ty #[v, .slice (some ad) m c]).run P w = .ok (.slice (some ⟨g, 0, none⟩) (n + m) cap) w' ∧ Owns w0 w' (L.set i ⟨.slice (some ⟨g, 0, none⟩) (n + m) cap, e, s, n + m, xs ++ news⟩) ∧ Ext w0 w' ∧ w.grownBy w' v.ownBlock := by
  obtain ⟨i0, hi0, hiz, hi1, hi2⟩ := info_parts hi
  have hown := h.row i hL
  obtain ⟨g, cap, w', hr, h2, h3, h4, h5⟩ := run_append_lies (P := P) w t ty w0.heap.size e i0 z s bytes ht hi0 hiz hi1 hi2 hzs hs v n xs hown ad m c news hl hnews h1 hm h63 hb h.ext.size _ rfl
  have hx : Ext w0 w' := h.ext.grown h3 (fun k hk => own_ge hown k hk)
  refine ⟨g, cap, w', hr, h.put i _ hx h2 ?_ ?_, hx, h3⟩
  · intro j r hj hrr g' hg'
    have hok := h.ok j r hrr
    refine h3.block g' (World.ownsRow.lt hok g' hg').2 ?_
    have hf := h.far j i r _ hj hrr hL
    rcases hf with hf | hf
    · rw [hg'] at hf; cases hf
    · rw [← hg']; exact hf
  · intro j r hj hrr
    have hf := h.far i j _ r (Ne.symm hj) hL hrr
    rcases h4 with h4 | h4
    · rcases hf with hf | hf
      · simp only at hf; rw [h4] at hf; cases hf
      · refine .inr ?_
        show some g ≠ _
        rw [← h4]; exact hf
    · refine .inr ?_
      show some g ≠ _
      intro he
      have := (World.ownsRow.lt (h.ok j r hrr) g he.symm).2
      omega
/-- The same at the list of a region's operations, one element. -/
theorem wpl_append_owns {ops : Array Oper} {rest : List Oper} {o : Oper} {a : Act} {Q : Exit → Act → World → Prop} (t e : TypeId) (hgd : o.guard = none) (s x : Operand)
    (ho : o.op = .call { callee := .builtin .append, args := #[s, x], argTypes := #[t, t] })
    {z : Value} {bytes : Nat} (ht : P.underlying t = some (.slice e)) (hi : (P.info? e).map (fun i => (i.zero, i.size, i.bytes)) = some (some z, 1, bytes)) (hzs : z.cells.size = 1)
    (h : Owns w0 w L) (i : Nat) {v : Value} {n : Nat} {xs : List Value} (hL : L[i]? = some ⟨v, e, 1, n, xs⟩) (hs : a.eval s = v) {g0 : Nat} {u : Value}
    (hx : a.eval x = .slice (some ⟨g0, 0, none⟩) 1 1) (hu : w.cell? ⟨g0, 0, none⟩ = some u) (h1 : u.oneCell' = true) (hm : n < 1000000000000) (hb : bytes ≤ 100)
    (hK : ∀ g cap w', Owns w0 w' (L.set i ⟨.slice (some ⟨g, 0, none⟩) (n + 1) cap, e, 1, n + 1, xs ++ [u]⟩) → w.grownBy w' v.ownBlock → wpList P ops Q rest (a.put o.dst (.slice (some ⟨g, 0, none⟩) (n + 1) cap)) w') :
    wpList P ops Q (o :: rest) a w := by
  refine wpList_plain hgd fun K hK' => ?_
  have hbb : (n + 1) * bytes ≤ (n + 1) * 100 := Nat.mul_le_mul_left _ hb
  obtain ⟨g, cap, w', hr, h2, _, h3⟩ := run_append_owns (P := P) t o.type e ht hi hzs (by decide) h i hL ⟨g0, 0, none⟩ 1 1 [u] rfl (fun j y hj => by
    match j, hj with
    | 0, hj => simp at hj; subst hj; exact hu) (fun y hy => by simp at hy; subst hy; exact h1) (by decide) (by unfold maxLen; omega) (by omega)
  unfold Oper.wp execOp
  simp only [ho, resolve, invoke, builtin, Sem.run_bind, Sem.run_pure, Result.andThen_ok, List.map_toArray, List.map_cons, List.map_nil, hs, hx, hr]
  exact hK' _ _ (hK g cap w' h2 h3)
/-- '[]T{x}' laid in a block of its own. -/
theorem run_build_one {t e : TypeId} {z : Value} {bytes : Nat} (ht : P.underlying t = some (.slice e)) (hi : (P.info? e).map (fun i => (i.zero, i.size, i.bytes)) = some (some z, 1, bytes)) (w : World) (u : Value) (hu : u.cells = #[u]) :
    (Instr.buildSlice t 1 #[(0, u)]).run P w = .ok (.slice (some ⟨w.heap.size, 0, none⟩) 1 1) (w.alloc (.cells #[u] e)) := by
  obtain ⟨i0, hi0, hiz, hi1, hi2⟩ := info_parts hi
  simp [Instr.buildSlice, run_underlying ht, sizeOf, typeInfo, hi0, hi1, zeroValue, hiz, Instr.fill, hu]
  rw [show (Array.map (fun x => z.cells[x % z.cells.size]!) (Array.range 1)).setIfInBounds 0 u = #[u] from by apply Array.ext'; simp [Array.toList_range, List.range_succ]]
  rfl
end
end Go.Proofs.YtdmljilcbndmfaaDoor

/- ROWS THAT A CALL HAS MADE: their order, and which are named, is free. A call as a step of a region that draws. -/
namespace Go.Proofs.YtdmljilcbndmfaaDoor
open Go.RowKit
theorem Owns.pairwise {w0 w : World} {L : List LRow} (h : Owns w0 w L) : L.Pairwise LRow.far :=
  List.pairwise_iff_getElem.2 fun i j hi hj hij => h.far i j _ _ (by omega) (List.getElem?_eq_getElem hi) (List.getElem?_eq_getElem hj)
theorem Owns.all {w0 w : World} {L : List LRow} (h : Owns w0 w L) : ∀ r ∈ L, r.ok w0 w := fun r hr => by
  obtain ⟨i, hi, rfl⟩ := List.getElem_of_mem hr
  exact h.ok i _ (List.getElem?_eq_getElem hi)
theorem Owns.of_pairwise {w0 w : World} {L : List LRow} (hx : Ext w0 w) (ho : ∀ r ∈ L, r.ok w0 w) (hp : L.Pairwise LRow.far) : Owns w0 w L where
  ext := hx
  ok i r hr := ho r (List.mem_of_getElem? hr)
  far i j a b hij ha hb := by
    obtain ⟨hi, rfl⟩ := List.getElem?_eq_some_iff.1 ha
    obtain ⟨hj, rfl⟩ := List.getElem?_eq_some_iff.1 hb
    rcases Nat.lt_or_ge i j with h1 | h1
    · exact List.pairwise_iff_getElem.1 hp i j hi hj h1
    · exact LRow.far_symm (List.pairwise_iff_getElem.1 hp j i hj hi (by omega))
theorem Owns.perm {w0 w : World} {L L' : List LRow} (h : Owns w0 w L) (hp : L.Perm L') : Owns w0 w L' :=
  Owns.of_pairwise h.ext (fun r hr => h.all r (hp.mem_iff.2 hr)) ((hp.pairwise_iff (fun h => LRow.far_symm h)).1 h.pairwise)
theorem Owns.sublist {w0 w : World} {L L' : List LRow} (h : Owns w0 w L) (hp : L'.Sublist L) : Owns w0 w L' :=
  Owns.of_pairwise h.ext (fun r hr => h.all r (hp.subset hr)) (h.pairwise.sublist hp)
end Go.Proofs.YtdmljilcbndmfaaDoor

/- A REGION THAT DRAWS ITS ORDER, by an invariant: what each operation yields, and what the world is by those that are done. One obligation per operation. -/
namespace Go.Proofs.YtdmljilcbndmfaaDoor
open Go.RowKit
def upd (L : Nat → Bool) (i : Nat) : Nat → Bool := fun j => if j = i then true else L j
def depsOf (ops : Array Oper) : List (List Nat) := ops.toList.map fun o => (o.after.toList.filter (Region.binds .any)).map (·.on)
def Closed (deps : List (List Nat)) (L : Nat → Bool) : Prop := ∀ i, L i = true → ∀ j ∈ deps.getD i [], L j = true
/-- The order: each waits for such alone as stand before it. -/
def topo (deps : List (List Nat)) : List Nat → List Nat → Bool
  | [], _ => true
  | i :: r, done => (deps.getD i []).all (fun j => done.contains j) && topo deps r (i :: done)
section
variable {P : Program} {ops : Array Oper} {Q : Exit → Act → World → Prop}
def StepOk (P : Program) (ops : Array Oper) (Q : Exit → Act → World → Prop) (deps : List (List Nat)) (I : (Nat → Bool) → Act → World → Prop) (i : Nat) : Prop :=
  ∀ L a w, I L a w → L i = false → Closed deps L → (∀ j ∈ deps.getD i [], L j = true) → wpOp P ops Q i (I (upd L i)) a w
def Steps (P : Program) (ops : Array Oper) (Q : Exit → Act → World → Prop) (deps : List (List Nat)) (I : (Nat → Bool) → Act → World → Prop) : Nat → Nat → Prop
  | _, 0 => True
  | n, k + 1 => StepOk P ops Q deps I n ∧ Steps P ops Q deps I (n + 1) k
theorem Steps.at {deps : List (List Nat)} {I : (Nat → Bool) → Act → World → Prop} : ∀ {k n i : Nat}, Steps P ops Q deps I n k → n ≤ i → i < n + k → StepOk P ops Q deps I i
  | 0, n, i, _, h1, h2 => by omega
  | k + 1, n, i, h, h1, h2 => by
    by_cases he : i = n
    · rw [he]; exact h.1
    · exact Steps.at h.2 (by omega) (by omega)
theorem topo_all {deps : List (List Nat)} {L : Nat → Bool} (hr : ∀ i, i < deps.length → (∀ j ∈ deps.getD i [], L j = true) → L i = true) : ∀ (ord done : List Nat), topo deps ord done = true → (∀ i ∈ ord, i < deps.length) → (∀ j ∈ done, L j = true) → ∀ i ∈ ord, L i = true
  | [], _, _, _, _ => fun i h => by cases h
  | k :: r, done, ht, hl, hd => by
    rw [topo, Bool.and_eq_true] at ht
    have hk : L k = true := hr k (hl k (by simp)) fun j hj => hd j (by
      have := List.all_eq_true.1 ht.1 j hj
      simpa using this)
    intro i hi
    rcases List.mem_cons.1 hi with rfl | hi
    · exact hk
    · exact topo_all hr r (k :: done) ht.2 (fun i hi => hl i (by simp [hi])) (fun j hj => by
        rcases List.mem_cons.1 hj with rfl | hj
        · exact hk
        · exact hd j hj) i hi
theorem region_inv {id : Nat} {a : Act} {w : World} (hm : P.follows .mixedOrders = true) (deps : List (List Nat)) (hdeps : depsOf ops = deps) (ord : List Nat) (ht : topo deps ord [] = true) (ho : ((List.range deps.length).all fun i => ord.contains i) = true) (ho2 : (ord.all fun i => decide (i < deps.length)) = true)
    (I : (Nat → Bool) → Act → World → Prop) (h0 : I (fun _ => false) a { w with drawn := w.drawn + 1 })
    (hs : Steps P ops Q deps I 0 deps.length)
    (hend : ∀ L a w, I L a w → (∀ i, i < deps.length → L i = true) → Q .normal a w) : (Code.region id ops true).wp P Q a w := by
  refine wp_region_any hm ?_
  have hlen : deps.length = ops.size := by rw [← hdeps]; simp [depsOf]
  have hdep : ∀ (i : Nat) (o : Oper), ops[i]? = some o → deps.getD i [] = (o.after.toList.filter (Region.binds .any)).map (·.on) := fun i o hi => by
    rw [← hdeps, depsOf, List.getD_eq_getElem?_getD, List.getElem?_map]
    rw [← Array.getElem?_toList] at hi
    rw [hi]
    rfl
  have hun : undone (Array.replicate ops.size false) ≤ ops.size := by
    unfold undone
    have := List.countP_le_length (p := (· == false)) (l := (Array.replicate ops.size false).toList)
    simpa using this
  refine wpAny_inv (fun listed a w => listed.size = ops.size ∧ Closed deps (fun j => listed.getD j false) ∧ I (fun j => listed.getD j false) a w) ?_ ?_ ops.size _ _ _ hun ?_
  · rintro listed a w i ⟨hsz, hc, hI⟩ hi
    obtain ⟨h1, h2, h3⟩ := ready_spec hi
    have hL : listed.getD i false = false := by
      rw [Array.getD_eq_getD_getElem?] at h2 ⊢
      rw [Array.getElem?_eq_getElem (by omega)] at h2 ⊢
      exact h2
    obtain ⟨o, hoi⟩ : ∃ o, ops[i]? = some o := ⟨_, Array.getElem?_eq_getElem h1⟩
    have hd : ∀ j ∈ deps.getD i [], listed.getD j false = true := fun j hj => by
      rw [hdep i o hoi] at hj
      obtain ⟨e, he, rfl⟩ := List.mem_map.1 hj
      exact h3 o hoi e (by simpa using (List.mem_filter.1 he).1) (List.mem_filter.1 he).2
    have hu : (fun j => (listed.setIfInBounds i true).getD j false) = upd (fun j => listed.getD j false) i := by
      funext j
      unfold upd
      by_cases hji : j = i
      · subst hji
        rw [if_pos rfl, Array.getD_eq_getD_getElem?, Array.getElem?_setIfInBounds_self_of_lt (by omega)]
        rfl
      · rw [if_neg hji]
        exact getD_set_ne false (Ne.symm hji)
    have hstep := Steps.at hs (Nat.zero_le i) (by omega) (fun j => listed.getD j false) a w hI hL hc hd
    refine wpOp_mono ?_ hstep
    intro a' w' hI'
    refine ⟨by rw [Array.size_setIfInBounds]; exact hsz, ?_, by rw [hu]; exact hI'⟩
    rw [hu]
    intro k hk j hj
    unfold upd at hk ⊢
    by_cases hki : k = i
    · subst hki
      split
      · rfl
      · exact hd j hj
    · rw [if_neg hki] at hk
      split
      · rfl
      · exact hc k hk j hj
  · rintro listed a w ⟨hsz, hc, hI⟩ hr
    refine hend _ a w hI ?_
    have hall : ∀ i, i < deps.length → (∀ j ∈ deps.getD i [], listed.getD j false = true) → listed.getD i false = true := by
      intro i hi hdi
      by_cases hL : listed.getD i false = true
      · exact hL
      · exfalso
        have hmem : i ∈ Region.ready .any ops listed := by
          rw [mem_ready]
          obtain ⟨o, hoi⟩ : ∃ o, ops[i]? = some o := ⟨_, Array.getElem?_eq_getElem (by omega)⟩
          refine ⟨?_, o, hoi, fun e he hbn => hdi e.on (by rw [hdep i o hoi]; exact List.mem_map.2 ⟨e, List.mem_filter.2 ⟨by simpa using he, hbn⟩, rfl⟩)⟩
          rw [Array.getD_eq_getD_getElem?] at hL ⊢
          rw [Array.getElem?_eq_getElem (by omega)] at hL ⊢
          simpa using hL
        rw [hr] at hmem
        cases hmem
    intro i hi
    refine topo_all (L := fun j => listed.getD j false) hall ord [] ht (fun i hi => by simpa using List.all_eq_true.1 ho2 i hi) (fun j hj => by cases hj) i ?_
    have := List.all_eq_true.1 ho i (by simpa using hi)
    simpa using this
  · refine ⟨by simp, fun i hi => ?_, ?_⟩
    · simp [Array.getElem?_replicate] at hi
      split at hi <;> simp at hi
    · have e : (fun j => (Array.replicate ops.size false).getD j false) = fun _ => false := by
        funext j
        simp [Array.getElem?_replicate]
        split <;> simp
      rw [e]
      exact h0
theorem wpOp_value {i : Nat} {o : Oper} {a : Act} {w w' : World} {K : Act → World → Prop} {v : Value} (hi : ops[i]? = some o) (hg : o.guard = none) (hr : (execOp a.eval o).run P w = .ok (.value v) w') (hK : K (a.put o.dst v) w') : wpOp P ops Q i K a w := by
  have hw : Region.wanted o (yielded ops a.tmps) = true := by simp [Region.wanted, hg]
  unfold wpOp
  simp only [hi, hw, if_true, Oper.wp, hr, Oper.upon]
  exact .inl hK
theorem wpOp_skip {i : Nat} {o : Oper} {a : Act} {w w' : World} {K : Act → World → Prop} (hi : ops[i]? = some o) (hg : o.guard = none) (hd : o.dst = none) (hr : (execOp a.eval o).run P w = .ok .skip w') (hK : K a w') : wpOp P ops Q i K a w := by
  have hw : Region.wanted o (yielded ops a.tmps) = true := by simp [Region.wanted, hg]
  unfold wpOp
  simp only [hi, hw, if_true, Oper.wp, hr, Oper.upon, hd, Act.put]
  exact .inl hK
theorem wpOp_call {i : Nat} {o : Oper} {a : Act} {w w1 : World} {K : Act → World → Prop} {f : FuncId} {args : Array Value} {R : Value → World → Prop} (hi : ops[i]? = some o) (hg : o.guard = none) (hr : (execOp a.eval o).run P w = .ok (.enter f args) w1)
    (h : Calls P f args w1 fun e w' => ∃ v, e = .returned v ∧ R v w') (hK : ∀ v w', R v w' → K (a.put o.dst v) w') : wpOp P ops Q i K a w := by
  have hw : Region.wanted o (yielded ops a.tmps) = true := by simp [Region.wanted, hg]
  unfold wpOp
  simp only [hi, hw, if_true, Oper.wp, hr, Oper.upon]
  refine .inl (h.mono ?_)
  rintro e w' ⟨v, rfl, hv⟩
  exact hK v w' hv
end
section
variable {P : Program} {o : Oper} {a : Act} {w : World}
theorem ex_move {x : Operand} {v : Value} (ho : o.op = .move x) (hx : a.eval x = v) : (execOp a.eval o).run P w = .ok (.value v) w := by
  subst hx
  unfold execOp
  simp only [ho, Sem.run_pure]
theorem ex_field {s : TypeId} {x : Operand} {f : Nat} {v u : Value} (ho : o.op = .fieldAddr s x f) (hx : a.eval x = u) (hr : (Instr.fieldAt s u f).run P w = .ok v w) : (execOp a.eval o).run P w = .ok (.value v) w := by
  unfold execOp
  simp only [ho, hx, hr, Sem.run_bind, Sem.run_pure, Result.andThen_ok]
theorem ex_index {s : TypeId} {x y : Operand} {v u z : Value} (ho : o.op = .indexAddr s x y) (hx : a.eval x = u) (hy : a.eval y = z) (hr : (Instr.indexAt s u z).run P w = .ok v w) : (execOp a.eval o).run P w = .ok (.value v) w := by
  unfold execOp
  simp only [ho, hx, hy, hr, Sem.run_bind, Sem.run_pure, Result.andThen_ok]
theorem ex_load {t : TypeId} {x : Operand} {u v : Value} (ho : o.op = .load t x) (hx : a.eval x = u) (hr : (Instr.loadAt t u).run P w = .ok v w) : (execOp a.eval o).run P w = .ok (.value v) w := by
  unfold execOp
  simp only [ho, hx, hr, Sem.run_bind, Sem.run_pure, Result.andThen_ok]
theorem ex_store {t : TypeId} {x y : Operand} {u v : Value} {w' : World} (ho : o.op = .store t x y) (hx : a.eval x = u) (hy : a.eval y = v) (hr : (Instr.storeAt t u v).run P w = .ok () w') : (execOp a.eval o).run P w = .ok .skip w' := by
  unfold execOp
  simp only [ho, hx, hy, hr, Sem.run_bind, Sem.run_pure, Result.andThen_ok]
theorem ex_build {t e : TypeId} {z : Value} {bytes : Nat} {x : Operand} {u : Value} (ho : o.op = .buildSlice t 1 #[(0, x)]) (ht : P.underlying t = some (.slice e)) (hi : (P.info? e).map (fun i => (i.zero, i.size, i.bytes)) = some (some z, 1, bytes)) (hx : a.eval x = u) (hu : u.cells = #[u]) :
    (execOp a.eval o).run P w = .ok (.value (.slice (some ⟨w.heap.size, 0, none⟩) 1 1)) (w.alloc (.cells #[u] e)) := by
  have hr := run_build_one (P := P) ht hi w u hu
  unfold execOp
  simp only [ho, List.map_toArray, List.map_cons, List.map_nil, hx, hr, Sem.run_bind, Sem.run_pure, Result.andThen_ok]
theorem ex_assign {x : Operand} {v : Value} (ho : o.op = .assign x) (hx : a.eval x = v) : (execOp a.eval o).run P w = .ok (.value v) w := by
  subst hx
  unfold execOp
  simp only [ho, Sem.run_pure]
theorem ex_bin {op : BinOp} {t t2 : TypeId} {x y : Operand} {u v r : Value} (ho : o.op = .binOp op t x y t2) (hx : a.eval x = u) (hy : a.eval y = v) (hr : (do eqGuard op t x y u v; binOp op t u v : Sem Value).run P w = .ok r w) : (execOp a.eval o).run P w = .ok (.value r) w := by
  unfold execOp
  simp only [ho, hx, hy, Sem.run_bind, Sem.run_pure] at hr ⊢
  rw [hr]
  rfl
theorem ex_un {op : UnOp} {t : TypeId} {x : Operand} {u r : Value} (ho : o.op = .unOp op t x) (hx : a.eval x = u) (hr : (Op.unary op u).run P w = .ok r w) : (execOp a.eval o).run P w = .ok (.value r) w := by
  unfold execOp
  simp only [ho, hx, hr, Sem.run_bind, Sem.run_pure, Result.andThen_ok]
theorem ex_pick {c x y : Operand} {b : Bool} {u : Value} (ho : o.op = .pick c x y) (hc : a.eval c = .bool b) (hx : (if b then a.eval x else a.eval y) = u) : (execOp a.eval o).run P w = .ok (.value u) w := by
  subst hx
  unfold execOp
  simp [ho, hc, asBool, Sem.run_pure]
theorem ex_slice {t : TypeId} {x : Operand} {lo hi mx : Option Operand} {v : Value} (ho : o.op = .slice t x lo hi mx) (hr : (Instr.sliceAt t (a.eval x) (lo.map a.eval) (hi.map a.eval) (mx.map a.eval)).run P w = .ok v w) : (execOp a.eval o).run P w = .ok (.value v) w := by
  unfold execOp
  simp only [ho, hr, Sem.run_bind, Sem.run_pure, Result.andThen_ok]
theorem ex_len {x : Operand} {A : Option Addr} {n c : Nat} {t : TypeId} (ho : o.op = .call { callee := .builtin .len, args := #[x], argTypes := #[t] }) (hx : a.eval x = .slice A n c) (hr : (Builtin.len_ #[t] o.type #[.slice A n c]).run P w = .ok (.int .i64 n) w) : (execOp a.eval o).run P w = .ok (.value (.int .i64 n)) w := by
  unfold execOp
  simp only [ho, resolve, invoke, builtin, Sem.run_bind, Sem.run_pure, Result.andThen_ok, List.map_toArray, List.map_cons, List.map_nil, hx, hr]
theorem map1 {x : Operand} {u : Value} (h : a.eval x = u) : #[x].map a.eval = #[u] := by rw [List.map_toArray, List.map_cons, List.map_nil, h]
theorem map1c {x : Operand} {u : Value} (h : a.eval x = u) : #[x].map a.eval ++ #[] = #[u] := by rw [map1 h]; rfl
theorem map2c {x y : Operand} {u v : Value} (h : a.eval x = u) (h2 : a.eval y = v) : #[x, y].map a.eval ++ #[] = #[u, v] := by simp [h, h2]
theorem map3c {x y z : Operand} {u v s : Value} (h : a.eval x = u) (h2 : a.eval y = v) (h3 : a.eval z = s) : #[x, y, z].map a.eval ++ #[] = #[u, v, s] := by simp [h, h2, h3]
theorem ex_call {f : Operand} {k : FuncId} {args : Array Operand} {ts : Array TypeId} {cap vs : Array Value} (ho : o.op = .call { callee := .value f, args := args, argTypes := ts }) (hf : a.eval f = .func (.func k) #[] cap) (ha : args.map a.eval ++ cap = vs) (he : (callFunc k vs).run P w = .ok (.enter k vs) w) : (execOp a.eval o).run P w = .ok (.enter k vs) w := by
  subst ha
  unfold execOp
  simp only [ho, resolve, hf, Deferred.ofValue, invoke, Sem.run_bind, Sem.run_pure, Result.andThen_ok, Array.empty_append, he]
/-- 'append(row, x)' onto a row of the call's own, x laid in a row of one cell. -/
theorem ex_append {w0 : World} {L : List LRow} (t e : TypeId) {s x : Operand} (ho : o.op = .call { callee := .builtin .append, args := #[s, x], argTypes := #[t, t] })
    {z : Value} {bytes : Nat} (ht : P.underlying t = some (.slice e)) (hi : (P.info? e).map (fun i => (i.zero, i.size, i.bytes)) = some (some z, 1, bytes)) (hzs : z.cells.size = 1)
    (h : Owns w0 w L) (i : Nat) {v : Value} {n : Nat} {xs : List Value} (hL : L[i]? = some ⟨v, e, 1, n, xs⟩) (hs : a.eval s = v) {g0 : Nat} {u : Value}
    (hx : a.eval x = .slice (some ⟨g0, 0, none⟩) 1 1) (hu : w.cell? ⟨g0, 0, none⟩ = some u) (h1 : u.oneCell' = true) (hm : n < 1000000000000) (hb : bytes ≤ 100) :
    ∃ g cap w', (execOp a.eval o).run P w = .ok (.value (.slice (some ⟨g, 0, none⟩) (n + 1) cap)) w' ∧ Owns w0 w' (L.set i ⟨.slice (some ⟨g, 0, none⟩) (n + 1) cap, e, 1, n + 1, xs ++ [u]⟩) := by
  have hbb : (n + 1) * bytes ≤ (n + 1) * 100 := Nat.mul_le_mul_left _ hb
  obtain ⟨g, cap, w', hr, h2, _, h3⟩ := run_append_owns (P := P) t o.type e ht hi hzs (by decide) h i hL ⟨g0, 0, none⟩ 1 1 [u] rfl (fun j y hj => by
    match j, hj with
    | 0, hj => simp at hj; subst hj; exact hu) (fun y hy => by simp at hy; subst hy; exact h1) (by decide) (by unfold maxLen; omega) (by omega)
  refine ⟨g, cap, w', ?_, h2⟩
  unfold execOp
  simp only [ho, resolve, invoke, builtin, Sem.run_bind, Sem.run_pure, Result.andThen_ok, List.map_toArray, List.map_cons, List.map_nil, hs, hx, hr]
theorem wpOp_append {ops : Array Oper} {Q : Exit → Act → World → Prop} {K : Act → World → Prop} {w0 : World} {L : List LRow} {i0 : Nat} (hi0 : ops[i0]? = some o) (hg : o.guard = none) (t e : TypeId) {s x : Operand} (ho : o.op = .call { callee := .builtin .append, args := #[s, x], argTypes := #[t, t] })
    {z : Value} {bytes : Nat} (ht : P.underlying t = some (.slice e)) (hi : (P.info? e).map (fun i => (i.zero, i.size, i.bytes)) = some (some z, 1, bytes)) (hzs : z.cells.size = 1)
    (h : Owns w0 w L) (i : Nat) {v : Value} {n : Nat} {xs : List Value} (hL : L[i]? = some ⟨v, e, 1, n, xs⟩) (hs : a.eval s = v) {g0 : Nat} {u : Value}
    (hx : a.eval x = .slice (some ⟨g0, 0, none⟩) 1 1) (hu : w.cell? ⟨g0, 0, none⟩ = some u) (h1 : u.oneCell' = true) (hm : n < 1000000000000) (hb : bytes ≤ 100)
    (hK : ∀ g cap w', Owns w0 w' (L.set i ⟨.slice (some ⟨g, 0, none⟩) (n + 1) cap, e, 1, n + 1, xs ++ [u]⟩) → K (a.put o.dst (.slice (some ⟨g, 0, none⟩) (n + 1) cap)) w') : wpOp P ops Q i0 K a w := by
  obtain ⟨g, cap, w', hr, h2⟩ := ex_append (P := P) t e ho ht hi hzs h i hL hs hx hu h1 hm hb
  exact wpOp_value hi0 hg hr (hK g cap w' h2)
theorem wanted_at {ops : Array Oper} {o : Oper} {a : Act} {g t : Nat} {b want : Bool} (hg : o.guard = some (g, want)) (hd : (ops[g]?).bind (·.dst) = some t) (he : a.eval (.tmp t) = .bool b) : Region.wanted o (yielded ops a.tmps) = (b == want) := by
  have ht : a.tmps[t]? = some (.bool b) := by
    simp only [Act.eval, Array.getD_eq_getD_getElem?] at he
    cases h : a.tmps[t]? with
    | none => rw [h] at he; cases he
    | some v => rw [h] at he; simp at he; rw [he]
  unfold Region.wanted yielded
  rw [hg]
  dsimp only
  rw [hd]
  simp [ht]
theorem wpOp_val {ops : Array Oper} {Q : Exit → Act → World → Prop} {i : Nat} {w' : World} {K : Act → World → Prop} {v : Value} (hi : ops[i]? = some o) (hw : Region.wanted o (yielded ops a.tmps) = true) (hr : (execOp a.eval o).run P w = .ok (.value v) w') (hK : K (a.put o.dst v) w') : wpOp P ops Q i K a w := by
  unfold wpOp
  simp only [hi, hw, if_true, Oper.wp, hr, Oper.upon]
  exact .inl hK
theorem wpOp_callw {ops : Array Oper} {Q : Exit → Act → World → Prop} {i : Nat} {w1 : World} {K : Act → World → Prop} {f : FuncId} {args : Array Value} {R : Value → World → Prop} (hi : ops[i]? = some o) (hw : Region.wanted o (yielded ops a.tmps) = true) (hr : (execOp a.eval o).run P w = .ok (.enter f args) w1)
    (h : Calls P f args w1 fun e w' => ∃ v, e = .returned v ∧ R v w') (hK : ∀ v w', R v w' → K (a.put o.dst v) w') : wpOp P ops Q i K a w := by
  unfold wpOp
  simp only [hi, hw, if_true, Oper.wp, hr, Oper.upon]
  refine .inl (h.mono ?_)
  rintro e w' ⟨v, rfl, hv⟩
  exact hK v w' hv
end
/-- A post that a region meets at its end, and nowhere else. -/
def AtEnd (R : Act → World → Prop) : Exit → Act → World → Prop
  | .normal, a, w => R a w
  | _, _, _ => False
/-- A region of a function's text, by its number. -/
def regionOf (n : Nat) : Code → Option Code
  | .region id ops b => if id == n then some (.region id ops b) else none
  | .seq a b => match regionOf n a with
    | some c => some c
    | none => regionOf n b
  | .loop c => regionOf n c
  | .rangeFunc _ _ a b => match regionOf n a with
    | some c => some c
    | none => regionOf n b
  | .block _ c => regionOf n c
  | .scope c => regionOf n c
  | .cond _ a b => match regionOf n a with
    | some c => some c
    | none => regionOf n b
  | _ => none
/-- WHAT THE OPERATIONS THAT ARE DONE HAVE YIELDED: vals, in the slots dsts; other slots are as they were. -/
structure Inv (dsts : List (Option Nat)) (vals : List Value) (a0 : Act) (L : Nat → Bool) (a : Act) : Prop where
  size : a.tmps.size = a0.tmps.size
  defers : a.defers = a0.defers
  fixed : ∀ t, (dsts.contains (some t)) = false → a.eval (.tmp t) = a0.eval (.tmp t)
  vals : ∀ (i d : Nat) (v : Value), dsts[i]? = some (some d) → vals[i]? = some v → L i = true → a.eval (.tmp d) = v
def apartD (dsts : List (Option Nat)) : Bool := (List.range dsts.length).all fun i => (List.range dsts.length).all fun j => i == j || dsts.getD i none == none || dsts.getD i none != dsts.getD j none
theorem apartD_spec {dsts : List (Option Nat)} (h : apartD dsts = true) {i j d : Nat} (hi : dsts[i]? = some (some d)) (hj : dsts[j]? = some (some d)) : i = j := by
  have h1 := (List.getElem?_eq_some_iff.1 hi).1
  have h2 := (List.getElem?_eq_some_iff.1 hj).1
  have h3 := List.all_eq_true.1 (List.all_eq_true.1 h i (by simpa using h1)) j (by simpa using h2)
  rw [List.getD_eq_getElem?_getD, List.getD_eq_getElem?_getD, hi, hj] at h3
  simpa using h3
theorem eval_put_same {a : Act} {d : Nat} {v : Value} (h : d < a.tmps.size) : (a.put (some d) v).eval (.tmp d) = v := by
  simp [Act.eval, Act.put, Array.getElem?_setIfInBounds_self_of_lt h]
theorem eval_put_ne {a : Act} {d t : Nat} {v : Value} (h : t ≠ d) : (a.put (some d) v).eval (.tmp t) = a.eval (.tmp t) := by
  simp [Act.eval, Act.put, Array.getElem?_setIfInBounds_ne (Ne.symm h)]
theorem Inv.start {dsts : List (Option Nat)} {vals : List Value} {a0 : Act} : Inv dsts vals a0 (fun _ => false) a0 := ⟨rfl, rfl, fun _ _ => rfl, fun _ _ _ _ _ h => by cases h⟩
theorem Inv.get {dsts : List (Option Nat)} {vals : List Value} {a0 a : Act} {L : Nat → Bool} (h : Inv dsts vals a0 L a) (i : Nat) {d : Nat} {v : Value} (hd : dsts[i]? = some (some d)) (hv : vals[i]? = some v) (hL : L i = true) : a.eval (.tmp d) = v := h.vals i d v hd hv hL
theorem Inv.put {dsts : List (Option Nat)} {vals : List Value} {a0 a : Act} {L : Nat → Bool} (h : Inv dsts vals a0 L a) (hap : apartD dsts = true) (i : Nat) {d : Nat} {v : Value} (hd : dsts[i]? = some (some d)) (hds : d < a0.tmps.size) (hi : i < vals.length) {vals' : List Value} (hv : vals' = vals.set i v) : Inv dsts vals' a0 (upd L i) (a.put (some d) v) := by
  subst hv
  have hsz : d < a.tmps.size := by rw [h.size]; exact hds
  have hmem : dsts.contains (some d) = true := by
    rw [List.contains_iff_mem]
    exact List.mem_of_getElem? hd
  refine ⟨by simp [Act.put, h.size], by simp [Act.put, h.defers], fun t ht => ?_, fun j d' v' hj hv' hL => ?_⟩
  · have hne : t ≠ d := by
      rintro rfl
      rw [hmem] at ht
      cases ht
    rw [eval_put_ne hne]
    exact h.fixed t ht
  · by_cases hji : j = i
    · subst hji
      rw [hd] at hj
      injection hj with hj
      injection hj with hj
      subst hj
      rw [List.getElem?_set_self hi] at hv'
      injection hv' with hv'
      rw [eval_put_same hsz, hv']
    · have hne : d' ≠ d := by
        rintro rfl
        exact hji (apartD_spec hap hj hd)
      rw [eval_put_ne hne]
      rw [List.getElem?_set_ne (Ne.symm hji)] at hv'
      unfold upd at hL
      rw [if_neg hji] at hL
      exact h.vals j d' v' hj hv' hL
theorem Inv.reset {dsts : List (Option Nat)} {vals : List Value} {a0 a : Act} {L : Nat → Bool} (h : Inv dsts vals a0 L a) (i : Nat) (hL : L i = false) (v : Value) : Inv dsts (vals.set i v) a0 L a :=
  ⟨h.size, h.defers, h.fixed, fun j d v' hj hv' hLj => by
    have hji : j ≠ i := by
      rintro rfl
      rw [hL] at hLj
      cases hLj
    rw [List.getElem?_set_ne (Ne.symm hji)] at hv'
    exact h.vals j d v' hj hv' hLj⟩
theorem Inv.skip {dsts : List (Option Nat)} {vals : List Value} {a0 a : Act} {L : Nat → Bool} (h : Inv dsts vals a0 L a) (i : Nat) (hd : dsts[i]? = some none) : Inv dsts vals a0 (upd L i) a := by
  refine ⟨h.size, h.defers, h.fixed, fun j d' v' hj hv' hL => ?_⟩
  unfold upd at hL
  split at hL
  · rename_i he
    subst he
    rw [hd] at hj
    injection hj with hj
    cases hj
  · exact h.vals j d' v' hj hv' hL
/-- A frame, out of its slots' values. -/
theorem act_lit (a : Act) : a = ⟨((List.range a.tmps.size).map fun t => a.eval (.tmp t)).toArray, a.defers⟩ := by
  obtain ⟨t, d⟩ := a
  congr 1
  apply Array.ext
  · simp
  · intro i h1 h2
    simp [Act.eval, Array.getElem?_eq_getElem h1]
end Go.Proofs.YtdmljilcbndmfaaDoor

/- A DRAWN REGION BY AN INVARIANT, with slots that it reads and writes. -/
namespace Go.Proofs.YtdmljilcbndmfaaDoor
open Go.RowKit
/-- As Inv, and a slot whose operation is not done is as it was. -/
structure InvO (dsts : List (Option Nat)) (vals : List Value) (a0 : Act) (L : Nat → Bool) (a : Act) : Prop where
  inv : Inv dsts vals a0 L a
  old : ∀ i t, dsts[i]? = some (some t) → L i = false → a.eval (.tmp t) = a0.eval (.tmp t)
theorem InvO.start {dsts : List (Option Nat)} {vals : List Value} {a0 : Act} : InvO dsts vals a0 (fun _ => false) a0 := ⟨Inv.start, fun _ _ _ _ => rfl⟩
theorem InvO.put {dsts : List (Option Nat)} {vals : List Value} {a0 a : Act} {L : Nat → Bool} (h : InvO dsts vals a0 L a) (hap : apartD dsts = true) (i : Nat) {d : Nat} {v : Value} (hd : dsts[i]? = some (some d)) (hds : d < a0.tmps.size) (hi : i < vals.length) {vals' : List Value} (hv : vals' = vals.set i v) : InvO dsts vals' a0 (upd L i) (a.put (some d) v) := by
  refine ⟨h.inv.put hap i hd hds hi hv, ?_⟩
  intro j t hj hL
  unfold upd at hL
  split at hL
  · cases hL
  · rename_i hji
    rw [eval_put_ne]
    · exact h.old j t hj hL
    · rintro rfl
      exact hji (apartD_spec hap hj hd)
theorem InvO.reset {dsts : List (Option Nat)} {vals : List Value} {a0 a : Act} {L : Nat → Bool} (h : InvO dsts vals a0 L a) (i : Nat) (hL : L i = false) (v : Value) : InvO dsts (vals.set i v) a0 L a := ⟨h.inv.reset i hL v, h.old⟩
theorem InvO.get {dsts : List (Option Nat)} {vals : List Value} {a0 a : Act} {L : Nat → Bool} (h : InvO dsts vals a0 L a) (i : Nat) {d : Nat} {v : Value} (hd : dsts[i]? = some (some d)) (hv : vals[i]? = some v) (hL : L i = true) : a.eval (.tmp d) = v := h.inv.get i hd hv hL
theorem InvO.fixed {dsts : List (Option Nat)} {vals : List Value} {a0 a : Act} {L : Nat → Bool} (h : InvO dsts vals a0 L a) (t : Nat) (ht : dsts.contains (some t) = false) : a.eval (.tmp t) = a0.eval (.tmp t) := h.inv.fixed t ht
theorem InvO.size {dsts : List (Option Nat)} {vals : List Value} {a0 a : Act} {L : Nat → Bool} (h : InvO dsts vals a0 L a) : a.tmps.size = a0.tmps.size := h.inv.size
theorem InvO.defers {dsts : List (Option Nat)} {vals : List Value} {a0 a : Act} {L : Nat → Bool} (h : InvO dsts vals a0 L a) : a.defers = a0.defers := h.inv.defers
end Go.Proofs.YtdmljilcbndmfaaDoor

/- CODES, in plain terms: what their functions compute. No program in sight. -/
namespace Cd
def bitAt (s i : Nat) : Nat := s / 2 ^ i % 2
/-- A set of small numbers, with those of a list. -/
def setOf (s : Nat) (g : List Int) : Nat := g.foldl (fun s i => s ||| 2 ^ i.toNat) s
def badAt (d : Int) (s : Nat) (g : List Int) (k : Nat) : Bool :=
  decide (g.getD k 0 < 0) || decide (d ≤ g.getD k 0) || (decide (0 < k) && decide (g.getD k 0 ≤ g.getD (k - 1) 0)) || (bitAt s (g.getD k 0).toNat == 1)
def bad (d : Int) (s : Nat) (g : List Int) : Bool := (List.range g.length).any (badAt d s g)
/-- The first error of groups, if the numbers s were met before. -/
def checkG (d : Int) : Nat → List (List Int) → Int
  | _, [] => 0
  | s, g :: r => if g = [] then 8 else if bad d s g then 1 else checkG d (setOf s g) r
def check (d : Int) (gs : List (List Int)) (gl : Int) : Int :=
  if d < 1 ∨ 16 < d ∨ gl < 0 ∨ 4 < gl then 3 else if 24 < gs.length ∨ 24 < d + gs.length + gl then 2 else checkG d 0 gs
theorem check_range {d gl : Int} {gs : List (List Int)} (h : d < 1 ∨ 16 < d ∨ gl < 0 ∨ 4 < gl) : check d gs gl = 3 := if_pos h
theorem check_limit {d gl : Int} {gs : List (List Int)} (h : ¬ (d < 1 ∨ 16 < d ∨ gl < 0 ∨ 4 < gl)) (h2 : 24 < gs.length ∨ 24 < d + gs.length + gl) : check d gs gl = 2 := by rw [check, if_neg h, if_pos h2]
theorem check_groups {d gl : Int} {gs : List (List Int)} (h : ¬ (d < 1 ∨ 16 < d ∨ gl < 0 ∨ 4 < gl)) (h2 : ¬ (24 < gs.length ∨ 24 < d + gs.length + gl)) : check d gs gl = checkG d 0 gs := by rw [check, if_neg h, if_neg h2]
theorem bad_false {d : Int} {s : Nat} {g : List Int} (h : ∀ k, k < g.length → badAt d s g k = false) : bad d s g = false := by
  unfold bad
  rw [List.any_eq_false]
  intro k hk
  rw [h k (by simpa using hk)]
  simp
theorem bad_true {d : Int} {s : Nat} {g : List Int} {k : Nat} (hk : k < g.length) (h : badAt d s g k = true) : bad d s g = true := by
  unfold bad
  rw [List.any_eq_true]
  exact ⟨k, by simpa using hk, h⟩
theorem badAt_of {d : Int} {s : Nat} {g : List Int} (h : bad d s g = false) {k : Nat} (hk : k < g.length) : badAt d s g k = false := by
  unfold bad at h
  rw [List.any_eq_false] at h
  simpa using h k (by simpa using hk)
theorem bad_bounds {d : Int} {s : Nat} {g : List Int} (h : bad d s g = false) {i : Int} (hi : i ∈ g) : 0 ≤ i ∧ i < d := by
  obtain ⟨k, hk, rfl⟩ := List.getElem_of_mem hi
  have := badAt_of h hk
  unfold badAt at this
  rw [List.getD_eq_getElem?_getD, List.getElem?_eq_getElem hk] at this
  simp only [Option.getD_some, Bool.or_eq_false_iff, decide_eq_false_iff_not] at this
  omega
theorem badAt_def (d : Int) (s : Nat) (g : List Int) (k : Nat) : badAt d s g k = (decide (g.getD k 0 < 0) || decide (d ≤ g.getD k 0) || (decide (0 < k) && decide (g.getD k 0 ≤ g.getD (k - 1) 0)) || (bitAt s (g.getD k 0).toNat == 1)) := rfl
theorem setOf_nil (s : Nat) : setOf s [] = s := rfl
theorem checkG_end (d : Int) (s : Nat) : checkG d s [] = 0 := rfl
theorem checkG_nil {d : Int} {s : Nat} {r : List (List Int)} : checkG d s ([] :: r) = 8 := by simp [checkG]
theorem checkG_bad {d : Int} {s : Nat} {g : List Int} {r : List (List Int)} (hg : g ≠ []) (h : bad d s g = true) : checkG d s (g :: r) = 1 := by simp [checkG, hg, h]
theorem checkG_next {d : Int} {s : Nat} {g : List Int} {r : List (List Int)} (hg : g ≠ []) (h : bad d s g = false) : checkG d s (g :: r) = checkG d (setOf s g) r := by simp [checkG, hg, h]
theorem setOf_take {s : Nat} {g : List Int} {k : Nat} (h : k < g.length) : setOf s (g.take (k + 1)) = setOf s (g.take k) ||| 2 ^ (g[k]).toNat := by
  unfold setOf
  rw [List.take_succ_eq_append_getElem h, List.foldl_append]
  rfl
theorem drop_cons {α : Type} {l : List α} {i : Nat} (h : i < l.length) : l.drop i = l[i] :: l.drop (i + 1) := (List.drop_eq_getElem_cons h)
attribute [irreducible] checkG check bad badAt setOf
end Cd

/- THE WALKS over package code: Check, Pieces. -/
namespace Go.Proofs.YtdmljilcbndmfaaDoor
open Go.RowKit

theorem nat_pow_cast (m : Nat) : ((2 : Int) ^ m) = ((2 ^ m : Nat) : Int) := (Int.natCast_pow 2 m).symm
theorem pow_lt62 (m : Nat) (h : m < 62) : ((2 ^ m : Nat) : Int) < 4611686018427387904 := by
  have : 2 ^ m < 2 ^ 62 := Nat.pow_lt_pow_right (by omega) h
  exact Int.ofNat_lt.2 this
theorem wrap_pow (m : Nat) (h : m < 62) : wrap64 (2 ^ m) = ((2 ^ m : Nat) : Int) := by
  rw [nat_pow_cast]
  have h1 := pow_lt62 m h
  have h0 : (0 : Int) ≤ ((2 ^ m : Nat) : Int) := Int.natCast_nonneg _
  generalize ((2 ^ m : Nat) : Int) = z at h1 h0 ⊢
  unfold wrap64
  omega
theorem or_pow (s m : Nat) (hs : s < 65536) (h : m < 16) : bits .or .i64 (s : Int) (wrap64 (2 ^ m)) = ((s ||| 2 ^ m : Nat) : Int) ∧ s ||| 2 ^ m < 65536 := by
  have hpw : 2 ^ m < 2 ^ 16 := Nat.pow_lt_pow_right (by omega) h
  refine ⟨?_, Nat.or_lt_two_pow (n := 16) hs hpw⟩
  rw [wrap_pow m (by omega)]
  exact or64 _ _ (Nat.lt_trans hs (by decide)) (Nat.lt_trans hpw (by decide))
theorem cCheck_range (d gl : Int) (gs : List (List Int)) (G : Value) (w : World) (h : d < 1 ∨ 16 < d ∨ gl < 0 ∨ 4 < gl) :
    Calls Tryd.prog 59 #[.agg #[.int .i64 d, G, .int .i64 gl]] w fun e w' => e = .returned (.int .i64 (Cd.check d gs gl)) ∧ Ext w w' := by
  rw [Cd.check_range h]
  have four : d < 1 ∨ (¬ d < 1 ∧ 16 < d) ∨ (¬ d < 1 ∧ ¬ 16 < d ∧ gl < 0) ∨ (¬ d < 1 ∧ ¬ 16 < d ∧ ¬ gl < 0 ∧ 4 < gl) := by omega
  clear h
  rcases four with g | ⟨g1, g⟩ | ⟨g1, g2, g⟩ | ⟨g1, g2, g3, g⟩
  all_goals
    go_enter Tryd.func59, Tryd.ntmps59
    go_wp2_with fail
    go_step3
    go_wp2_with fail
    try rw [Exit.noGoto_ret]
    go_ret
    exact ⟨rfl, (Ext.refl _).alloc _⟩
theorem cCheck_limit (d gl : Int) (gs : List (List Int)) (G : Value) (w : World) (hG : Rs (Rs RI) w G gs) (h1 : 1 ≤ d) (h2 : d ≤ 16) (h3 : 0 ≤ gl) (h4 : gl ≤ 4) (h : 24 < gs.length ∨ 24 < d + gs.length + gl) :
    Calls Tryd.prog 59 #[.agg #[.int .i64 d, G, .int .i64 gl]] w fun e w' => e = .returned (.int .i64 (Cd.check d gs gl)) ∧ Ext w w' := by
  rw [Cd.check_limit (by omega) h]
  obtain ⟨A, c, rfl, hl⟩ := hG.form
  clear hG
  by_cases hb : 24 < gs.length
  · go_enter Tryd.func59, Tryd.ntmps59
    go_wp2_with fail
    go_step3
    go_wp2_with fail
    try rw [Exit.noGoto_ret]
    go_ret
    exact ⟨rfl, (Ext.refl _).alloc _⟩
  · have hb2 : 24 < d + gs.length + gl := by omega
    clear h
    go_enter Tryd.func59, Tryd.ntmps59
    go_wp2_with fail
    go_step3
    go_wp2_with fail
    try rw [Exit.noGoto_ret]
    go_ret
    exact ⟨rfl, (Ext.refl _).alloc _⟩
set_option maxHeartbeats 8000000 in
theorem cCheck_groups (d gl : Int) (gs : List (List Int)) (G : Value) (w : World) (hG : Rs (Rs RI) w G gs) (h1 : 1 ≤ d) (h2 : d ≤ 16) (h3 : 0 ≤ gl) (h4 : gl ≤ 4) (h5 : gs.length ≤ 24) (h6 : d + gs.length + gl ≤ 24) :
    Calls Tryd.prog 59 #[.agg #[.int .i64 d, G, .int .i64 gl]] w fun e w' => e = .returned (.int .i64 (Cd.check d gs gl)) ∧ Ext w w' := by
  rw [Cd.check_groups (by omega) (by omega)]
  obtain ⟨A, c, rfl, hl⟩ := hG.form
  have HG := Lib.hid hG
  clear hG
  go_enter Tryd.func59, Tryd.ntmps59
  go_wp2_with fail
  go_step3
  go_wp2_with fail
  go_step3
  go_wp2_with fail
  have hx := (Ext.refl w).alloc (.cells #[.int .i64 d, .slice A gs.length c, .int .i64 gl] 24)
  have HX := Lib.hid hx
  clear hx
  go_loop [3, 4, 48] (fun vs ve vi => ∃ i s : Nat, i ≤ gs.length ∧ vi = .int .i64 i ∧ ve = .int .i64 0 ∧ vs = .int .i64 s ∧ s < 65536 ∧ Hid (Cd.checkG d s (gs.drop i) = Cd.checkG d 0 gs)) (fun _ _ vi => gs.length - (intOf vi).toNat)
  case atStart => exact ⟨0, 0, Nat.zero_le _, rfl, rfl, rfl, by omega, rfl⟩
  case round =>
    obtain ⟨i, s, hi, rfl, rfl, rfl, hs, HC⟩ := hrel
    by_cases hlt : i < gs.length
    · obtain ⟨ad, u, rfl, hcell, hu⟩ := HG.out.at hlt
      obtain ⟨B, cB, rfl, hlB⟩ := hu.form
      have hcell' := HX.out.cell hcell
      have HU := Lib.hid hu
      clear hcell hu
      by_cases h0 : gs[i] = []
      · have hc8 : Cd.checkG d 0 gs = 8 := by rw [← HC.out, Cd.drop_cons hlt, h0, Cd.checkG_nil]
        have H8 := Lib.hid hc8
        have hl0 : gs[i].length = 0 := by rw [h0]; rfl
        clear hc8 h0
        go_wp2_with fail
        try rw [Exit.noGoto_ret]
        go_ret
        exact ⟨ret_int H8.out.symm, HX.out⟩
      · have hg0 : gs[i] ≠ [] := h0
        have hgl : gs[i].length ≠ 0 := fun h => h0 (List.length_eq_zero_iff.1 h)
        have e0 : ((gs[i].length : Int) == 0) = false := by rw [beq_eq_false_iff_ne]; omega
        have hgl2 : gs[i].length ≤ 9223372036854775807 := hlB
        have HG0 := Lib.hid h0
        clear h0 hg0 hgl
        obtain ⟨g, hg⟩ : ∃ g, gs[i] = g := ⟨_, rfl⟩
        rw [hg] at hlB hcell' HU e0 HG0
        have HGG := Lib.hid hg
        clear hg hgl2
        go_wp2_with fail
        go_loop [4, 57] (fun ve vk => ∃ k : Nat, k ≤ g.length ∧ vk = .int .i64 k ∧ ve = .int .i64 0 ∧ Hid (∀ j, j < k → Cd.badAt d s g j = false)) (fun _ vk => g.length - (intOf vk).toNat)
        case atStart => exact ⟨0, Nat.zero_le _, rfl, rfl, fun j hj => absurd hj (by omega)⟩
        case round =>
          obtain ⟨k, hk, rfl, rfl, HB⟩ := hrel
          by_cases hkl : k < g.length
          · obtain ⟨bd, u, rfl, hbc, hu⟩ := HU.out.at hkl
            obtain ⟨rfl, hlo, hhi⟩ := hu
            have hbc' := HX.out.cell hbc
            clear hbc
            have hgk : g.getD k 0 = g[k] := by rw [List.getD_eq_getElem?_getD, List.getElem?_eq_getElem hkl]; rfl
            have hbd := Cd.badAt_def d s g k
            rw [hgk] at hbd
            have bad1 : Cd.badAt d s g k = true → Cd.checkG d 0 gs = 1 := fun h => by
              rw [← HC.out, Cd.drop_cons hlt, HGG.out, Cd.checkG_bad HG0.out (Cd.bad_true hkl h)]
            have BD := Lib.hid hbd
            have B1 := Lib.hid bad1
            clear hgk hbd bad1
            by_cases c1 : g[k] < 0
            · have hb : Cd.badAt d s g k = true := by rw [BD.out]; simp [c1]
              have bad1 := B1.out
              have H1 := Lib.hid (bad1 hb)
              clear hb bad1
              go_wp2_with fail
              try rw [Exit.noGoto_ret]
              go_ret
              exact ⟨ret_int H1.out.symm, HX.out⟩
            · by_cases c2 : d ≤ g[k]
              · have hb : Cd.badAt d s g k = true := by rw [BD.out]; simp [c2]
                have bad1 := B1.out
                have H1 := Lib.hid (bad1 hb)
                clear hb bad1
                go_wp2_with fail
                try rw [Exit.noGoto_ret]
                go_ret
                exact ⟨ret_int H1.out.symm, HX.out⟩
              · have hm : bits .and .i64 ((s : Int) / 2 ^ (g[k]).toNat) 1 = ((Cd.bitAt s (g[k]).toNat : Nat) : Int) := by
                  have hle : s / 2 ^ (g[k]).toNat ≤ s := Nat.div_le_self _ _
                  have := odd64 (s / 2 ^ (g[k]).toNat) (by omega)
                  rw [Cd.bitAt, ← this]
                  simp
                have HM := Lib.hid hm
                clear hm
                by_cases ck : 0 < k
                · obtain ⟨bd2, u2, e2, hbc2, hu2⟩ := HU.out.at (i := k - 1) (by omega)
                  injection e2 with e2
                  subst e2
                  obtain ⟨rfl, hlo2, hhi2⟩ := hu2
                  have hbc2' := HX.out.cell hbc2
                  clear hbc2
                  have hgk2 : g.getD (k - 1) 0 = g[k - 1] := by rw [List.getD_eq_getElem?_getD, List.getElem?_eq_getElem (by omega)]; rfl
                  have HK2 := Lib.hid hgk2
                  clear hgk2
                  by_cases c3 : g[k] ≤ g[k - 1]
                  · have hb : Cd.badAt d s g k = true := by rw [BD.out, HK2.out]; simp [c3, ck]
                    have bad1 := B1.out
                    have H1 := Lib.hid (bad1 hb)
                    clear hb bad1
                    go_wp2_with fail
                    try rw [Exit.noGoto_ret]
                    go_ret
                    exact ⟨ret_int H1.out.symm, HX.out⟩
                  · by_cases c4 : Cd.bitAt s (g[k]).toNat = 1
                    · have eb : (bits .and .i64 ((s : Int) / 2 ^ (g[k]).toNat) 1 == 1) = true := by rw [HM.out, c4]; rfl
                      have hb : Cd.badAt d s g k = true := by rw [BD.out]; simp [c4]
                      have bad1 := B1.out
                      have H1 := Lib.hid (bad1 hb)
                      clear hb bad1 c4
                      go_wp2_with fail
                      try rw [Exit.noGoto_ret]
                      go_ret
                      exact ⟨ret_int H1.out.symm, HX.out⟩
                    · have eb : (bits .and .i64 ((s : Int) / 2 ^ (g[k]).toNat) 1 == 1) = false := by rw [HM.out, beq_eq_false_iff_ne]; omega
                      have hb : Cd.badAt d s g k = false := by rw [BD.out, HK2.out]; simp [c4]; omega
                      clear c4
                      have H1 := Lib.hid hb
                      clear hb
                      go_wp2_with fail
                      go_round
                      case rel => exact ⟨k + 1, by omega, by go_num, rfl, fun j hj => by
                        by_cases hjk : j = k
                        · rw [hjk]; exact H1.out
                        · exact HB.out j (by omega)⟩
                      case measure => simp [intOf]; omega
                · by_cases c4 : Cd.bitAt s (g[k]).toNat = 1
                  · have eb : (bits .and .i64 ((s : Int) / 2 ^ (g[k]).toNat) 1 == 1) = true := by rw [HM.out, c4]; rfl
                    have hb : Cd.badAt d s g k = true := by rw [BD.out]; simp [c4]
                    have bad1 := B1.out
                    have H1 := Lib.hid (bad1 hb)
                    clear hb bad1 c4
                    go_wp2_with fail
                    try rw [Exit.noGoto_ret]
                    go_ret
                    exact ⟨ret_int H1.out.symm, HX.out⟩
                  · have eb : (bits .and .i64 ((s : Int) / 2 ^ (g[k]).toNat) 1 == 1) = false := by rw [HM.out, beq_eq_false_iff_ne]; omega
                    have hb : Cd.badAt d s g k = false := by rw [BD.out]; simp [c4, ck]; omega
                    clear c4
                    have H1 := Lib.hid hb
                    clear hb
                    go_wp2_with fail
                    go_round
                    case rel => exact ⟨k + 1, by omega, by go_num, rfl, fun j hj => by
                      by_cases hjk : j = k
                      · rw [hjk]; exact H1.out
                      · exact HB.out j (by omega)⟩
                    case measure => simp [intOf]; omega
          · obtain rfl : k = g.length := by omega
            have hnb : Cd.bad d s g = false := Cd.bad_false HB.out
            have hgb : ∀ i ∈ g, 0 ≤ i ∧ i < 16 := fun i hi => by have := Cd.bad_bounds hnb hi; omega
            have hnx : Cd.checkG d (Cd.setOf s g) (gs.drop (i + 1)) = Cd.checkG d 0 gs := by rw [← HC.out, Cd.drop_cons hlt, HGG.out, Cd.checkG_next HG0.out hnb]
            have HNX := Lib.hid (And.intro hgb hnx)
            clear hnb hgb hnx
            go_wp2_with fail
            go_loop [3, 93] (fun vs vk => ∃ k s' : Nat, k ≤ g.length ∧ vk = .int .i64 k ∧ vs = .int .i64 s' ∧ s' < 65536 ∧ Hid (s' = Cd.setOf s (g.take k))) (fun _ vk => g.length - (intOf vk).toNat)
            case atStart => exact ⟨0, s, Nat.zero_le _, rfl, rfl, hs, by rw [List.take_zero, Cd.setOf_nil]; rfl⟩
            case round =>
              obtain ⟨k, s', hk, rfl, rfl, hs', HS⟩ := hrel
              by_cases hkl : k < g.length
              · obtain ⟨bd, u, rfl, hbc, hu⟩ := HU.out.at hkl
                obtain ⟨rfl, hlo, hhi⟩ := hu
                have hbc' := HX.out.cell hbc
                clear hbc
                have hb2 := HNX.out.1 _ (List.getElem_mem hkl)
                obtain ⟨m, hm⟩ : ∃ m : Nat, g[k] = (m : Int) := ⟨(g[k]).toNat, by omega⟩
                have hst := Cd.setOf_take (s := s) hkl
                rw [hm, Int.toNat_natCast, ← HS.out] at hst
                have hm16 : m < 16 := by omega
                rw [hm] at hbc'
                have hor := or_pow s' m hs' hm16
                have HOR := Lib.hid (And.intro hor.1 (And.intro hst hor.2))
                clear hor hst hb2 hm hlo hhi
                go_wp2_with fail
                go_round
                case rel => exact ⟨k + 1, s' ||| 2 ^ m, by omega, by go_num, by rw [HOR.out.1], HOR.out.2.2, HOR.out.2.1.symm⟩
                case measure => simp [intOf]; omega
              · obtain rfl : k = g.length := by omega
                have hse : s' = Cd.setOf s g := by rw [HS.out, List.take_length]
                have HSE := Lib.hid hse
                clear hse
                go_wp2_with fail
                go_round
                case rel => exact ⟨i + 1, s', by omega, by go_num, rfl, rfl, hs', by rw [HSE.out]; exact HNX.out.2⟩
                case measure => simp [intOf]; omega
    · obtain rfl : i = gs.length := by omega
      have hfin : Cd.checkG d 0 gs = 0 := by rw [← HC.out, List.drop_length, Cd.checkG_end]
      have HF := Lib.hid hfin
      clear hfin
      go_wp2_with fail
      try rw [Exit.noGoto_ret]
      go_ret
      exact ⟨ret_int HF.out.symm, HX.out⟩
/-- `Check` of a code: its first error; nothing that was there is changed. -/
theorem cCheck_any (d gl : Int) (gs : List (List Int)) (G : Value) (w : World) (hG : Rs (Rs RI) w G gs) :
    Calls Tryd.prog 59 #[.agg #[.int .i64 d, G, .int .i64 gl]] w fun e w' => e = .returned (.int .i64 (Cd.check d gs gl)) ∧ Ext w w' := by
  by_cases h : d < 1 ∨ 16 < d ∨ gl < 0 ∨ 4 < gl
  · exact cCheck_range d gl gs G w h
  · by_cases h2 : 24 < gs.length ∨ 24 < d + gs.length + gl
    · exact cCheck_limit d gl gs G w hG (by omega) (by omega) (by omega) (by omega) h2
    · exact cCheck_groups d gl gs G w hG (by omega) (by omega) (by omega) (by omega) (by omega) (by omega)
end Go.Proofs.YtdmljilcbndmfaaDoor

/- THE WALKS over package code: Pieces, first, the closures of Rows. -/
namespace Cd
/-- The number of pieces. -/
def pieces (d : Int) (gs : List (List Int)) (gl : Int) : Int := if check d gs gl = 0 then d + gs.length + gl else 0
theorem pieces_ok {d gl : Int} {gs : List (List Int)} (h : check d gs gl = 0) : pieces d gs gl = d + gs.length + gl := if_pos h
theorem pieces_no {d gl : Int} {gs : List (List Int)} (h : check d gs gl ≠ 0) : pieces d gs gl = 0 := if_neg h
/-- What a code has that Check accepts. -/
theorem check_ok {d gl : Int} {gs : List (List Int)} (h : check d gs gl = 0) : 1 ≤ d ∧ d ≤ 16 ∧ 0 ≤ gl ∧ gl ≤ 4 ∧ gs.length ≤ 24 ∧ d + gs.length + gl ≤ 24 := by
  by_cases h1 : d < 1 ∨ 16 < d ∨ gl < 0 ∨ 4 < gl
  · rw [check_range h1] at h; cases h
  · by_cases h2 : 24 < gs.length ∨ 24 < d + gs.length + gl
    · rw [check_limit h1 h2] at h; cases h
    · omega
theorem checkG_ok {d : Int} : ∀ {gs : List (List Int)} {s : Nat}, checkG d s gs = 0 → ∀ g ∈ gs, ∀ i ∈ g, 0 ≤ i ∧ i < d
  | [], _, _, g, hg, _, _ => by simp at hg
  | g0 :: r, s, h, g, hg, i, hi => by
    by_cases h0 : g0 = []
    · subst h0; rw [checkG_nil] at h; cases h
    · cases hb : bad d s g0 with
      | true => rw [checkG_bad h0 hb] at h; cases h
      | false =>
        rw [checkG_next h0 hb] at h
        rcases List.mem_cons.1 hg with rfl | hg
        · exact bad_bounds hb hi
        · exact checkG_ok h g hg i hi
theorem check_groups_ok {d gl : Int} {gs : List (List Int)} (h : check d gs gl = 0) : ∀ g ∈ gs, ∀ i ∈ g, 0 ≤ i ∧ i < d := by
  have hk := check_ok h
  rw [check_groups (by omega) (by omega)] at h
  exact checkG_ok h
/-- A row of n coefficients. -/
def rowOf (n : Nat) (g : Nat → UInt8) : List UInt8 := (List.range n).map g
def unitAt (k i : Nat) : UInt8 := if i = k then 1 else 0
def inAt (s i : Nat) : UInt8 := UInt8.ofNat (bitAt s i)
def gloAt (j i : Nat) : UInt8 := UInt8.ofNat (Gf.powN 2 ((i * (j + 1)) % 255))
def rows (d : Nat) (gs : List (List Int)) (gl : Nat) : List (List UInt8) :=
  (List.range d).map (fun k => rowOf d (unitAt k)) ++ gs.map (fun g => rowOf d (inAt (setOf 0 g))) ++ (List.range gl).map (fun j => rowOf d (gloAt j))
/-- The place of the first element that is not 0. -/
def first : List UInt8 → Nat
  | [] => 0
  | x :: r => if x = 0 then first r + 1 else 0
theorem unitAt_eq (k : Nat) : unitAt k k = 1 := if_pos rfl
theorem unitAt_ne {k i : Nat} (h : i ≠ k) : unitAt k i = 0 := if_neg h
attribute [irreducible] unitAt inAt gloAt first pieces
end Cd
namespace Go.Proofs.YtdmljilcbndmfaaDoor
open Go.RowKit
theorem enters61 : ∀ args w, (callFunc 61 args).run Tryd.prog w = .ok (.enter 61 args) w := enters_of Tryd.func61 (by kernel_rfl) rfl
theorem enters62 : ∀ args w, (callFunc 62 args).run Tryd.prog w = .ok (.enter 62 args) w := enters_of Tryd.func62 (by kernel_rfl) rfl
theorem enters63 : ∀ args w, (callFunc 63 args).run Tryd.prog w = .ok (.enter 63 args) w := enters_of Tryd.func63 (by kernel_rfl) rfl
theorem rows2_any (i k P : Nat) (w : World) (h1 : w.cell? ⟨P, 0, none⟩ = some (.int .i64 k)) :
    Calls Tryd.prog 61 #[.int .i64 i, .pointer (some ⟨P, 0, none⟩)] w fun e w' => e = .returned (bv (Cd.unitAt k i)) ∧ Ext w w' := by
  by_cases h : i = k
  · subst h
    rw [Cd.unitAt_eq]
    go_enter Tryd.func61, Tryd.ntmps61
    go_wp2_with fail
    go_ret
    exact ⟨rfl, Ext.refl _⟩
  · rw [Cd.unitAt_ne h]
    have e1 : ((i : Int) == (k : Int)) = false := by rw [beq_eq_false_iff_ne]; omega
    clear h
    go_enter Tryd.func61, Tryd.ntmps61
    go_wp2_with fail
    go_ret
    exact ⟨rfl, Ext.refl _⟩
theorem rows3_any (i s P : Nat) (w : World) (hs : s < 65536) (hi : i < 16) (h1 : w.cell? ⟨P, 0, none⟩ = some (.int .i64 s)) :
    Calls Tryd.prog 62 #[.int .i64 i, .pointer (some ⟨P, 0, none⟩)] w fun e w' => e = .returned (bv (Cd.inAt s i)) ∧ Ext w w' := by
  have hm : bits .and .i64 ((s : Int) / 2 ^ i) 1 = ((Cd.bitAt s i : Nat) : Int) := by
    have hle : s / 2 ^ i ≤ s := Nat.div_le_self _ _
    have := odd64 (s / 2 ^ i) (by omega)
    rw [Cd.bitAt, ← this]
    simp
  have hb : Cd.bitAt s i < 2 := Nat.mod_lt _ (by decide)
  have hv : (Cd.inAt s i).toNat = Cd.bitAt s i := by
    unfold Cd.inAt
    rw [UInt8.toNat_ofNat']
    omega
  have HM := Lib.hid (And.intro hm hv)
  clear hm hv
  go_enter Tryd.func62, Tryd.ntmps62
  go_wp2_with fail
  go_ret
  exact ⟨ret_int (by rw [HM.out.1, HM.out.2]; omega), Ext.refl _⟩
theorem rows4_any (i j P : Nat) (w : World) (hT : Tab w) (hi : i < 16) (hj : j < 4) (h1 : w.cell? ⟨P, 0, none⟩ = some (.int .i64 j)) :
    Calls Tryd.prog 63 #[.int .i64 i, .pointer (some ⟨P, 0, none⟩)] w fun e w' => e = .returned (bv (Cd.gloAt j i)) ∧ Ext w w' := by
  have hm : i * (j + 1) < 64 := by
    have := Nat.mul_le_mul (show i ≤ 15 by omega) (show j + 1 ≤ 4 by omega)
    omega
  have hc : (i : Int) * ((j : Int) + 1) = ((i * (j + 1) : Nat) : Int) := by rw [Int.natCast_mul, Int.natCast_add]; rfl
  have hlo : 0 ≤ (i : Int) * ((j : Int) + 1) := by rw [hc]; omega
  have hhi : (i : Int) * ((j : Int) + 1) < 64 := by rw [hc]; omega
  have HC := Lib.hid (And.intro hc hm)
  have HT := Lib.hid hT
  clear hT hc hm
  generalize hz : (i : Int) * ((j : Int) + 1) = z at hlo hhi HC
  go_enter Tryd.func63, Tryd.ntmps63
  go_wp2_with fail
  refine (exp_any z _ HT.out (by omega) (by omega)).mono ?_
  rintro e w' ⟨rfl, rfl⟩
  go_wp2_with fail
  go_ret
  refine ⟨ret_int ?_, Ext.refl _⟩
  have h2 : (z % 255).toNat = i * (j + 1) % 255 := by have := HC.out.1; omega
  rw [h2]
  unfold Cd.gloAt
  rw [UInt8.toNat_ofNat', Nat.mod_eq_of_lt (Gf.powN_lt _)]
theorem Owns.front {w0 w : World} {L M : List LRow} (h : Owns w0 w (L ++ M)) : Owns w0 w L where
  ext := h.ext
  ok i r hr := h.ok i r (by rw [List.getElem?_append_left]; exact hr; exact (List.getElem?_eq_some_iff.1 hr).1)
  far i j a b hij ha hb := h.far i j a b hij (by rw [List.getElem?_append_left]; exact ha; exact (List.getElem?_eq_some_iff.1 ha).1) (by rw [List.getElem?_append_left]; exact hb; exact (List.getElem?_eq_some_iff.1 hb).1)
/-- A row that was made behind all others. -/
theorem Owns.behind {w0 w w' : World} {L : List LRow} (h : Owns w0 w L) (hx : Ext w w') {v : Value} {e s n : Nat} {xs : List Value} (ho : w'.ownsRow w.heap.size e s v n xs) : Owns w0 w' (L ++ [⟨v, e, s, n, xs⟩]) where
  ext := h.ext.trans hx
  ok i r hr := by
    rw [List.getElem?_append] at hr
    split at hr
    · exact (h.next hx).ok i r hr
    · have : r = ⟨v, e, s, n, xs⟩ := by
        cases hk : i - L.length with
        | zero => rw [hk] at hr; simpa using hr.symm
        | succ k => rw [hk] at hr; simp at hr
      subst this
      exact ⟨ho.1, ho.2.imp id fun ⟨g, cap, cur, h1, h2, r⟩ => ⟨g, cap, cur, h1, Nat.le_trans h.ext.size h2, r⟩⟩
  far i j a b hij ha hb := by
    have hlt : ∀ r : LRow, r.ok w0 w → r.far ⟨v, e, s, n, xs⟩ := fun r hr => by
      unfold LRow.far
      cases hv : r.v.ownBlock with
      | none => exact .inl rfl
      | some g =>
        refine .inr fun hh => ?_
        have h1 := (World.ownsRow.lt hr g hv).2
        have h2 := (ho.lt g hh.symm).1
        omega
    rw [List.getElem?_append] at ha hb
    split at ha
    · split at hb
      · exact h.far i j a b hij ha hb
      · have : b = ⟨v, e, s, n, xs⟩ := by
          cases hk : j - L.length with
          | zero => rw [hk] at hb; simpa using hb.symm
          | succ k => rw [hk] at hb; simp at hb
        subst this
        exact hlt a (h.ok i a ha)
    · have : a = ⟨v, e, s, n, xs⟩ := by
        cases hk : i - L.length with
        | zero => rw [hk] at ha; simpa using ha.symm
        | succ k => rw [hk] at ha; simp at ha
      subst this
      split at hb
      · exact LRow.far_symm (hlt b (h.ok j b hb))
      · exfalso
        have h1 : j - L.length = 0 := by
          cases hk : j - L.length with
          | zero => rfl
          | succ k => rw [hk] at hb; simp at hb
        have h2 : i - L.length = 0 := by
          cases hk : i - L.length with
          | zero => rfl
          | succ k => rw [hk] at ha; simp at ha
        omega
def inner1 (g : Nat) (r : List UInt8) : LRow := ⟨.slice (some ⟨g, 0, none⟩) r.length r.length, 5, 1, r.length, r.map bv⟩
def inner (hs : List Nat) (rs : List (List UInt8)) : List LRow := List.zipWith inner1 hs rs
/-- The rows of bytes that a call has made, in a variable of its own. -/
def RowsOut (w0 w : World) (P : Nat) (rs : List (List UInt8)) : Prop :=
  ∃ (A : Option Addr) (c : Nat) (hs : List Nat), hs.length = rs.length ∧ Owns w0 w (⟨.slice (some ⟨P, 0, none⟩) 1 1, 65, 1, 1, [.slice A rs.length c]⟩ :: ⟨.slice A rs.length c, 28, 1, rs.length, (inner hs rs).map (·.v)⟩ :: inner hs rs)
theorem RowsOut.next {w0 w w' : World} {P : Nat} {rs : List (List UInt8)} (h : RowsOut w0 w P rs) (hx : Ext w w') : RowsOut w0 w' P rs := by
  obtain ⟨A, c, hs, hl, h⟩ := h
  exact ⟨A, c, hs, hl, h.next hx⟩
theorem RowsOut.ext {w0 w : World} {P : Nat} {rs : List (List UInt8)} (h : RowsOut w0 w P rs) : Ext w0 w := by
  obtain ⟨A, c, hs, hl, h⟩ := h
  exact h.ext
theorem inner_snoc {hs : List Nat} {rs : List (List UInt8)} (h : hs.length = rs.length) (g : Nat) (r : List UInt8) : inner (hs ++ [g]) (rs ++ [r]) = inner hs rs ++ [inner1 g r] := by
  unfold inner
  rw [List.zipWith_append h]
  rfl
theorem info_bytes : (Tryd.prog.info? 28).map (fun i => (i.zero, i.size, i.bytes)) = some (some (.slice none 0 0), 1, 24) := by kernel_rfl
set_option maxRecDepth 100000 in
theorem rows1_any (w0 w : World) (P1 P5 d : Nat) (rs : List (List UInt8)) (F : FuncId) (cap : Array Value) (g : Nat → UInt8) (hd : d ≤ 16) (hr : rs.length < 100)
    (hE : ∀ args w, (callFunc F args).run Tryd.prog w = .ok (.enter F args) w)
    (hF : ∀ k, k < d → ∀ w', Ext w w' → Calls Tryd.prog F (#[.int .i64 k] ++ cap) w' fun e w'' => e = .returned (bv (g k)) ∧ Ext w' w'')
    (hc : w.cell? ⟨P1, 0, none⟩ = some (.int .i64 d)) (hO : RowsOut w0 w P5 rs) :
    Calls Tryd.prog 60 #[.func (.func F) #[] cap, .pointer (some ⟨P1, 0, none⟩), .pointer (some ⟨P5, 0, none⟩)] w fun e w' => e = .returned (.tuple #[]) ∧ RowsOut w0 w' P5 (rs ++ [Cd.rowOf d g]) := by
  have HF := Lib.hid hF
  have HO := Lib.hid hO
  clear hF hO
  obtain ⟨i0, hi, hz0, hz1, hz2⟩ := info_parts info_u8
  have HZ := Lib.hid hz2
  clear hz2
  go_enter Tryd.func60, Tryd.ntmps60
  go_wp2_with (refine wpList_make_full _ rfl (.tmp 7) (.tmp 7) 28 rfl w.heap.size 5 i0 (.int .u8 0) 1 Tryd.underlying28 hi hz0 hz1 _ _ _ _ d rfl rfl rfl rfl (by rw [HZ.out]; omega) (by unfold maxLen; omega) (Nat.le_refl _) ?_; intro w1 hown hgrow)
  have hx : Ext w w1 := (Ext.refl w).grown hgrow (fun k h => by cases h)
  have hown' : w1.ownsRow w.heap.size 5 1 (.slice (some ⟨w.heap.size, 0, none⟩) d d) d (part d 0 g) := by
    rw [part_zero, ← toList_madeCells_one]
    simpa [Value.cells] using hown
  have H0 := Lib.hid (And.intro hx hown')
  clear hown hown' hgrow hx
  go_loopw [5, 11] (fun vj vi wr => ∃ k : Nat, k ≤ d ∧ vi = .int .i64 k ∧ Hid (Ext w wr ∧ wr.ownsRow w.heap.size 5 1 (.slice (some ⟨w.heap.size, 0, none⟩) d d) d (part d k g))) (fun _ vi _ => d - (intOf vi).toNat)
  case atStart => exact ⟨0, Nat.zero_le _, rfl, H0.out⟩
  case round =>
    obtain ⟨k, hk, rfl, HR⟩ := hrel
    by_cases hlt : k < d
    · go_wp2_with fail
      refine (HF.out k hlt wr HR.out.1).mono ?_
      rintro e w2 ⟨rfl, hx2⟩
      have hown2 : w2.ownsRow w.heap.size 5 1 (.slice (some ⟨w.heap.size, 0, none⟩) d d) d (part d k g) := own_ext HR.out.2 hx2
      have hcc := hown2.cellAt k (by omega)
      rw [List.getElem?_eq_getElem (by rw [part_length g hk]; exact hlt)] at hcc
      have hf := hown2.frozenAt k
      have hst := (hown2.stored k (bv (g k))).1
      rw [part_set g hlt] at hst
      have hx3 : Ext w w2 := HR.out.1.trans hx2
      have HS := Lib.hid (And.intro hx3 hst)
      clear hown2 hst hx3 hx2
      go_wp2_with fail
      go_roundw
      case rel => exact ⟨k + 1, by omega, by go_num, HS.out.1.setCell (Nat.le_refl _) _, HS.out.2⟩
      case measure => simp [intOf]; omega
    · obtain rfl : k = d := by omega
      obtain ⟨A, c, hs, hsl, hL⟩ := HO.out
      have hL1 := hL.behind HR.out.1 HR.out.2
      rw [part_full] at hL1
      have hrow : (List.range k).map g = Cd.rowOf k g := rfl
      rw [hrow] at hL1
      have hc0 := hL1.cell 0 rfl 0 rfl
      have HL := Lib.hid hL1
      clear hL hL1
      go_wp2_with (refine wpl_append_owns (u := .slice (some ⟨w.heap.size, 0, none⟩) k k) 65 28 rfl (.tmp 21) (.tmp 23) rfl Tryd.underlying65 info_bytes rfl HL.out.push1 1 rfl rfl rfl (cell_of_row _ _ 0 _ _ (0, 0) (heap_new _ _)) rfl (by omega) (by decide) ?_; intro g1 c1 w3 hO3 _; have hc3 : w3.cell? ⟨P5, 0, none⟩ = some (.slice A rs.length c) := hO3.cell 0 rfl 0 rfl; have hf3 : w3.frozen? ⟨P5, 0, none⟩ = false := hO3.frozen 0 rfl 0)
      have hs3 := hO3.store 0 rfl 0 (.slice (some ⟨g1, 0, none⟩) (rs.length + 1) c1)
      have H3 := Lib.hid hs3
      clear hO3 hs3
      go_end0
      refine ⟨rfl, some ⟨g1, 0, none⟩, c1, hs ++ [w.heap.size], by simp [hsl], ?_⟩
      refine Owns.front (M := [⟨.slice (some ⟨wr.heap.size, 0, none⟩) 1 1, 28, 1, 1, [.slice (some ⟨w.heap.size, 0, none⟩) k k]⟩]) ?_
      rw [inner_snoc hsl]
      have h := H3.out
      simp [inner1, Cd.rowOf] at h ⊢
      exact h
end Go.Proofs.YtdmljilcbndmfaaDoor

/- THE WALK over code.Rows. -/
namespace Cd
/-- The rows of a code; none if Check has an error. -/
def rowsOf (d : Int) (gs : List (List Int)) (gl : Int) : List (List UInt8) := if check d gs gl = 0 then rows d.toNat gs gl.toNat else []
theorem rowsOf_ok {d gl : Int} {gs : List (List Int)} (h : check d gs gl = 0) : rowsOf d gs gl = rows d.toNat gs gl.toNat := if_pos h
theorem rowsOf_no {d gl : Int} {gs : List (List Int)} (h : check d gs gl ≠ 0) : rowsOf d gs gl = [] := if_neg h
def rows1 (d k : Nat) : List (List UInt8) := (List.range k).map fun k => rowOf d (unitAt k)
def rows2 (d : Nat) (gs : List (List Int)) : List (List UInt8) := gs.map fun g => rowOf d (inAt (setOf 0 g))
def rows3 (d k : Nat) : List (List UInt8) := (List.range k).map fun j => rowOf d (gloAt j)
theorem rows_parts (d : Nat) (gs : List (List Int)) (gl : Nat) : rows1 d d ++ rows2 d gs ++ rows3 d gl = rows d gs gl := rfl
theorem rows1_succ (d k : Nat) : rows1 d (k + 1) = rows1 d k ++ [rowOf d (unitAt k)] := by simp [rows1, List.range_succ]
theorem rows3_succ (d k : Nat) : rows3 d (k + 1) = rows3 d k ++ [rowOf d (gloAt k)] := by simp [rows3, List.range_succ]
theorem rows2_take {d k : Nat} {gs : List (List Int)} (h : k < gs.length) : rows2 d (gs.take (k + 1)) = rows2 d (gs.take k) ++ [rowOf d (inAt (setOf 0 gs[k]))] := by
  rw [rows2, List.take_succ_eq_append_getElem h, List.map_append]; rfl
theorem rows1_length (d k : Nat) : (rows1 d k).length = k := by simp [rows1]
theorem rows2_length (d : Nat) (gs : List (List Int)) : (rows2 d gs).length = gs.length := by simp [rows2]
theorem rows3_length (d k : Nat) : (rows3 d k).length = k := by simp [rows3]
theorem rowOf_length (d : Nat) (g : Nat → UInt8) : (rowOf d g).length = d := by simp [rowOf]
theorem rows_len (d : Nat) (gs : List (List Int)) (gl : Nat) : (rows d gs gl).length = d + gs.length + gl := by
  rw [← rows_parts]; simp [rows1_length, rows2_length, rows3_length]; omega
theorem rows_width {d : Nat} {gs : List (List Int)} {gl : Nat} {r : List UInt8} (h : r ∈ rows d gs gl) : r.length = d := by
  simp only [rows, List.mem_append, List.mem_map] at h
  rcases h with (⟨k, _, rfl⟩ | ⟨g, _, rfl⟩) | ⟨k, _, rfl⟩ <;> exact rowOf_length _ _
attribute [irreducible] rowsOf rows1 rows2 rows3
end Cd
namespace Go.Proofs.YtdmljilcbndmfaaDoor
open Go.RowKit

theorem RowsOut.rs {w0 w : World} {P : Nat} {rs : List (List UInt8)} (h : RowsOut w0 w P rs) (hw : ∀ r ∈ rs, r.length ≤ 9223372036854775807) (hn : rs.length ≤ 9223372036854775807) :
    ∃ A c, w.cell? ⟨P, 0, none⟩ = some (.slice A rs.length c) ∧ Rs (Rs RB) w (.slice A rs.length c) rs := by
  obtain ⟨A, c, hs, hl, hO⟩ := h
  refine ⟨A, c, hO.cell 0 rfl 0 rfl, A, c, rfl, hn, fun i r hi => ?_⟩
  have hi' : i < rs.length := (List.getElem?_eq_some_iff.1 hi).1
  have hr := (List.getElem?_eq_some_iff.1 hi).2
  have hin : (inner hs rs)[i]? = some (inner1 (hs[i]'(by omega)) r) := by
    unfold inner
    rw [List.getElem?_eq_getElem (by simp; omega), List.getElem_zipWith, hr]
  have hrd : Rd w A ((inner hs rs).map (·.v)) := hO.rd 1 rfl
  obtain ⟨ad, hA, _, hc⟩ := hrd i _ (by rw [List.getElem?_map, hin]; rfl)
  refine ⟨ad, _, hA, hc, ?_⟩
  refine Rs.of_rd ?_ (hw r (List.mem_of_getElem? hi))
  exact hO.rd (i + 2) (n := r.length) (by simpa [inner1] using hin)

theorem RowsOut.start {wb : World} : RowsOut wb (wb.alloc (.cells #[.slice none 0 0] 65)) wb.heap.size [] := by
  refine ⟨none, 0, [], rfl, ?_⟩
  have h1 := (Owns.start wb (L := [no, nilRow 28]) (by intro r hr; simp [no, nilRow] at hr; rcases hr with rfl | rfl <;> simp)).new 0 #[.slice none 0 0] 65 (by simp [maxLen])
  exact h1

theorem cRows_no (d gl : Int) (gs : List (List Int)) (G : Value) (w : World) (hG : Rs (Rs RI) w G gs) (h0 : Cd.check d gs gl ≠ 0) :
    Calls Tryd.prog 28 #[.agg #[.int .i64 d, G, .int .i64 gl]] w fun e w' => e = .returned (.tuple #[.slice none 0 0, .int .i64 (Cd.check d gs gl)]) ∧ Ext w w' := by
  have hx0 := (Ext.refl w).alloc (.cells #[.int .i64 d, G, .int .i64 gl] 24)
  have HX := Lib.hid (And.intro hx0 (Rs.ext (Rs.ext RI.ext) _ _ _ _ hx0 hG))
  obtain ⟨A, c, rfl, hl⟩ := hG.form
  clear hG hx0
  have e1 : (Cd.check d gs gl != 0) = true := by rw [bne_iff_ne]; exact h0
  clear h0
  go_enter Tryd.func28, Tryd.ntmps28
  go_wp2_with fail
  refine (cCheck_any d gl gs _ _ HX.out.2).mono ?_
  rintro e w1 ⟨rfl, hx1⟩
  have HX1 := Lib.hid (HX.out.1.trans hx1)
  clear hx1
  go_wp2_with fail
  go_ret2
  exact ⟨rfl, HX1.out⟩
set_option maxRecDepth 100000 in
theorem cRows_ok (d gl : Nat) (gs : List (List Int)) (G : Value) (w : World) (hT : Tab w) (hG : Rs (Rs RI) w G gs) (h0 : Cd.check d gs gl = 0) :
    Calls Tryd.prog 28 #[.agg #[.int .i64 d, G, .int .i64 gl]] w fun e w' => ∃ v, e = .returned (.tuple #[v, .int .i64 0]) ∧ Rs (Rs RB) w' v (Cd.rows d gs gl) ∧ Ext w w' := by
  have hx0 := (Ext.refl w).alloc (.cells #[.int .i64 d, G, .int .i64 gl] 24)
  have HX := Lib.hid (And.intro hx0 (Rs.ext (Rs.ext RI.ext) _ _ _ _ hx0 hG))
  have HT := Lib.hid hT
  obtain ⟨A, c, rfl, hl⟩ := hG.form
  have hk := Cd.check_ok h0
  obtain ⟨k1, k2, k3, k4, k5, k6⟩ := hk
  have H0 := Lib.hid h0
  clear hG hx0 hT h0 k1 k3
  have e1 : (Cd.check d gs gl != 0) = false := by rw [H0.out]; rfl
  go_enter Tryd.func28, Tryd.ntmps28
  go_wp2_with fail
  refine (cCheck_any d gl gs _ _ HX.out.2).mono ?_
  rintro e w1 ⟨rfl, hx1⟩
  have HX1 := Lib.hid (HX.out.1.trans hx1)
  have hc0 : w1.cell? ⟨w.heap.size, 0, none⟩ = some (.int .i64 d) := hx1.cell (by go_simp)
  have hc1 : w1.cell? ⟨w.heap.size, 1, none⟩ = some (.slice A gs.length c) := hx1.cell (by go_simp)
  have hc2 : w1.cell? ⟨w.heap.size, 2, none⟩ = some (.int .i64 gl) := hx1.cell (by go_simp)
  have HC := Lib.hid (And.intro hc0 (And.intro hc1 hc2))
  have HG := Lib.hid (Rs.ext (Rs.ext RI.ext) _ _ _ _ hx1 HX.out.2)
  clear hx1
  have HR0 := Lib.hid (RowsOut.start (wb := w1))
  have ha0 := HR0.out.ext.cell hc0
  have Q0 := Lib.hid ha0
  clear hc0 hc1 hc2
  go_wp2_with fail
  clear ha0
  go_loopw [22] (fun vi wr => ∃ k : Nat, k ≤ d ∧ vi = .int .i64 k ∧ Hid (RowsOut w1 wr w1.heap.size (Cd.rows1 d k))) (fun vi _ => d - (intOf vi).toNat)
  case atStart => exact ⟨0, Nat.zero_le _, rfl, by rw [show Cd.rows1 d 0 = [] from by simp [Cd.rows1]]; exact HR0.out⟩
  case round =>
    obtain ⟨k, hk, rfl, HR⟩ := hrel
    by_cases hlt : k < d
    · have hcd := (HR.out.ext.alloc (.cells #[.int .i64 k] 3)).cell HC.out.1
      have HCD := Lib.hid hcd
      clear hcd
      go_wp2_with fail
      refine (rows1_any w1 _ w.heap.size w1.heap.size d (Cd.rows1 d k) _ _ (Cd.unitAt k) (by omega) (by rw [Cd.rows1_length]; omega) enters61 ?_ HCD.out (HR.out.next ((Ext.refl _).alloc _))).mono ?_
      · intro i hi w' hx
        exact rows2_any i k _ w' (hx.cell (by go_simp))
      rintro e w2 ⟨rfl, ho⟩
      rw [← Cd.rows1_succ] at ho
      have HO := Lib.hid ho
      clear ho
      go_wp2_with fail
      go_roundw
      case rel => exact ⟨k + 1, by omega, by go_num, HO.out⟩
      case measure => simp [intOf]; omega
    · obtain rfl : k = d := by omega
      have hc1 := HR.out.ext.cell HC.out.2.1
      go_wp2_with fail
      clear hc1
      go_loopw [32] (fun vi wr => ∃ i : Nat, i ≤ gs.length ∧ vi = .int .i64 i ∧ Hid (RowsOut w1 wr w1.heap.size (Cd.rows1 k k ++ Cd.rows2 k (gs.take i)))) (fun vi _ => gs.length - (intOf vi).toNat)
      case atStart => exact ⟨0, Nat.zero_le _, rfl, by rw [List.take_zero, show Cd.rows2 k [] = [] from by simp [Cd.rows2], List.append_nil]; exact HR.out⟩
      case round =>
        obtain ⟨i, hi, rfl, HI⟩ := hrel
        by_cases hlt2 : i < gs.length
        · obtain ⟨ad, u, rfl, hcell, hu⟩ := HG.out.at hlt2
          obtain ⟨B, cB, rfl, hlB⟩ := hu.form
          have hcell' := HI.out.ext.cell hcell
          have HU := Lib.hid (Rs.ext RI.ext _ _ _ _ HI.out.ext hu)
          have hgb := Cd.check_groups_ok H0.out gs[i] (List.getElem_mem hlt2)
          have hstep := Cd.rows2_take (d := k) hlt2
          obtain ⟨g, hg⟩ : ∃ g, gs[i] = g := ⟨_, rfl⟩
          rw [hg] at hcell' HU hlB hgb hstep
          have HGB := Lib.hid (And.intro hgb hstep)
          clear hcell hu hgb hstep hg
          have hOs := ((Owns.start wr (L := []) (by simp)).push1 (u := .int .i64 0) (e := 3))
          rw [List.nil_append] at hOs
          have HS0 := Lib.hid hOs
          clear hOs
          go_wp2_with fail
          go_loopw [38] (fun vj wj => ∃ j s : Nat, j ≤ g.length ∧ vj = .int .i64 j ∧ s < 65536 ∧ Hid (Owns wr wj [⟨.slice (some ⟨wr.heap.size, 0, none⟩) 1 1, 3, 1, 1, [.int .i64 s]⟩] ∧ s = Cd.setOf 0 (g.take j))) (fun vj _ => g.length - (intOf vj).toNat)
          case atStart => exact ⟨0, 0, Nat.zero_le _, rfl, by omega, HS0.out, by rw [List.take_zero, Cd.setOf_nil]⟩
          case round =>
            obtain ⟨j, s, hj, rfl, hs, HS⟩ := hrel
            by_cases hlt3 : j < g.length
            · obtain ⟨bd, u, rfl, hbc, hu⟩ := HU.out.at hlt3
              obtain ⟨rfl, hlo, hhi⟩ := hu
              have hbc' := HS.out.1.ext.cell hbc
              clear hbc
              have hb2 := HGB.out.1 _ (List.getElem_mem hlt3)
              obtain ⟨m, hm⟩ : ∃ m : Nat, g[j] = (m : Int) := ⟨(g[j]).toNat, by omega⟩
              have hst := Cd.setOf_take (s := 0) hlt3
              rw [hm, Int.toNat_natCast, ← HS.out.2] at hst
              have hm16 : m < 16 := by omega
              rw [hm] at hbc'
              have hor := or_pow s m hs hm16
              have hcs := HS.out.1.cell 0 rfl 0 rfl
              have hfs := HS.out.1.frozen 0 rfl 0
              have HOR := Lib.hid (And.intro hor.1 (And.intro hst hor.2))
              clear hor hst hb2 hm hlo hhi
              go_wp2_with fail
              go_region
              all_goals go_wp2_with fail
              all_goals go_roundw
              case rel => exact ⟨j + 1, s ||| 2 ^ m, by omega, by go_num, HOR.out.2.2, by rw [HOR.out.1]; exact (HS.out.1.store 0 rfl 0 _).drew, HOR.out.2.1.symm⟩
              case measure => simp [intOf]; omega
            · obtain rfl : j = g.length := by omega
              have hse : s = Cd.setOf 0 g := by rw [HS.out.2, List.take_length]
              have hcs := HS.out.1.cell 0 rfl 0 rfl
              have HCS := Lib.hid (And.intro hcs (And.intro hse hs))
              have hro := HI.out.next HS.out.1.ext
              have hcd := hro.ext.cell HC.out.1
              have HRO := Lib.hid (And.intro hro hcd)
              clear hcs hse hro hcd
              go_wp2_with fail
              refine (rows1_any w1 _ w.heap.size w1.heap.size k (Cd.rows1 k k ++ Cd.rows2 k (gs.take i)) _ _ (Cd.inAt s) (by omega) (by rw [List.length_append, Cd.rows1_length, Cd.rows2_length, List.length_take]; omega) enters62 ?_ HRO.out.2 HRO.out.1).mono ?_
              · intro i hi w' hx
                exact rows3_any i s _ w' hs (by omega) (hx.cell HCS.out.1)
              rintro e w2 ⟨rfl, ho⟩
              rw [HCS.out.2.1, List.append_assoc, ← HGB.out.2] at ho
              have HO := Lib.hid ho
              clear ho
              go_wp2_with fail
              go_roundw
              case rel => exact ⟨i + 1, by omega, by go_num, HO.out⟩
              case measure => simp [intOf]; omega
        · obtain rfl : i = gs.length := by omega
          have hro := HI.out
          rw [List.take_length] at hro
          have hc2 := hro.ext.cell HC.out.2.2
          have HRO := Lib.hid hro
          clear hro
          go_wp2_with fail
          clear hc2
          go_loopw [53] (fun vj wr => ∃ j : Nat, j ≤ gl ∧ vj = .int .i64 j ∧ Hid (RowsOut w1 wr w1.heap.size (Cd.rows1 k k ++ Cd.rows2 k gs ++ Cd.rows3 k j))) (fun vj _ => gl - (intOf vj).toNat)
          case atStart => exact ⟨0, Nat.zero_le _, rfl, by rw [show Cd.rows3 k 0 = [] from by simp [Cd.rows3], List.append_nil]; exact HRO.out⟩
          case round =>
            obtain ⟨j, hj, rfl, HJ⟩ := hrel
            by_cases hlt3 : j < gl
            · have hcd := (HJ.out.ext.alloc (.cells #[.int .i64 j] 3)).cell HC.out.1
              have HCD := Lib.hid hcd
              clear hcd
              go_wp2_with fail
              refine (rows1_any w1 _ w.heap.size w1.heap.size k (Cd.rows1 k k ++ Cd.rows2 k gs ++ Cd.rows3 k j) _ _ (Cd.gloAt j) (by omega) (by simp only [List.length_append, Cd.rows1_length, Cd.rows2_length, Cd.rows3_length]; omega) enters63 ?_ HCD.out (HJ.out.next ((Ext.refl _).alloc _))).mono ?_
              · intro i hi w' hx
                exact rows4_any i j _ w' (((HT.out.ext HX1.out).ext HJ.out.ext).ext (((Ext.refl _).alloc _).trans hx)) (by omega) (by omega) (hx.cell (by go_simp))
              rintro e w2 ⟨rfl, ho⟩
              rw [List.append_assoc, ← Cd.rows3_succ] at ho
              have HO := Lib.hid ho
              clear ho
              go_wp2_with fail
              go_roundw
              case rel => exact ⟨j + 1, by omega, by go_num, HO.out⟩
              case measure => simp [intOf]; omega
            · obtain rfl : j = gl := by omega
              have hro := HJ.out
              rw [Cd.rows_parts] at hro
              obtain ⟨A2, c2, hcell, hrs⟩ := hro.rs (fun r hr => by rw [Cd.rows_width hr]; omega) (by rw [Cd.rows_len]; omega)
              have HRO := Lib.hid (And.intro hro hrs)
              clear hro hrs
              go_wp2_with fail
              go_ret2
              exact ⟨_, rfl, HRO.out.2, HX1.out.trans HRO.out.1.ext⟩
/-- `Rows` of a code: a row for each piece, and the first error; nothing that was there is changed. -/
theorem cRows_any (d gl : Int) (gs : List (List Int)) (G : Value) (w : World) (hT : Tab w) (hG : Rs (Rs RI) w G gs) :
    Calls Tryd.prog 28 #[.agg #[.int .i64 d, G, .int .i64 gl]] w fun e w' => ∃ v, e = .returned (.tuple #[v, .int .i64 (Cd.check d gs gl)]) ∧ Rs (Rs RB) w' v (Cd.rowsOf d gs gl) ∧ Ext w w' := by
  by_cases h0 : Cd.check d gs gl = 0
  · have hk := Cd.check_ok h0
    rw [Cd.rowsOf_ok h0, h0]
    obtain ⟨n, rfl⟩ : ∃ n : Nat, d = n := ⟨d.toNat, by omega⟩
    obtain ⟨m, rfl⟩ : ∃ m : Nat, gl = m := ⟨gl.toNat, by omega⟩
    exact cRows_ok n m gs G w hT hG h0
  · refine (cRows_no d gl gs G w hG h0).mono ?_
    rintro e w' ⟨rfl, hx⟩
    rw [Cd.rowsOf_no h0]
    exact ⟨_, rfl, ⟨none, 0, rfl, by simp, fun i x h => by simp at h⟩, hx⟩
end Go.Proofs.YtdmljilcbndmfaaDoor
