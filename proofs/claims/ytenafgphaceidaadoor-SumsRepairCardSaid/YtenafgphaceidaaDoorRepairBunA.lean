/- What the program's functions do, step by step: part A of the texts for this claim; no condition beyond what each theorem states. -/
import Derived.WalkKit
import Derived.WalkSpells
import Derived.WalkLawsBesides
import Derived.Lib.Hide
import Derived.Laws.BitsAllLaws
import Derived.Laws.BitsLemmas
import Derived.Deep.Draws
import Derived.Deep.QuietTactic
import Derived.BigQuiet
import Derived.Laws.BytesArg
import Derived.Shelf.Abstract
import Derived.ProofKit
import Derived.OpenShut
import Derived.Deep.DeepHandedRow
import Derived.Lib.LaidTab
import Derived.SliceStrings
import Derived.ChangeMaps5
import Derived.KernelRfl
import Derived.Test.YtenafgphaceidaaDoorRows
import Derived.Maps.AppendAt
import Derived.Deep.AppendLies
import Derived.RegionTactic
import Derived.Maps.OwnSet
import Derived.Maps.Views
import Derived.Orders

/- Small laws on bits, worlds and endings that several walks share. -/
namespace Go.Proofs.YtenafgphaceidaaDoor
open Go.RowKit

theorem ret_int {k : IntKind} {a b : Int} (h : a = b) : Ending.returned (.int k a) = .returned (.int k b) := by rw [h]
theorem ret_bool {a b : Bool} (h : a = b) : Ending.returned (.bool a) = .returned (.bool b) := by rw [h]

theorem ofInt64 (a : Nat) (ha : a < 9223372036854775808) : (BitVec.ofInt 64 (a : Int)).toNat = a := by
  rw [BitVec.ofInt_natCast, BitVec.toNat_ofNat]; exact Nat.mod_eq_of_lt (by omega)
theorem and64 (a b : Nat) (ha : a < 9223372036854775808) (hb : b < 9223372036854775808) : bits .and .i64 (a : Int) (b : Int) = ((a &&& b : Nat) : Int) := by
  have hx : a &&& b < 2 ^ 63 := Nat.and_lt_two_pow _ (by omega)
  show IntKind.i64.wrap ((BitVec.ofInt 64 (a : Int) &&& BitVec.ofInt 64 (b : Int)).toNat : Int) = _
  rw [BitVec.toNat_and, ofInt64 a ha, ofInt64 b hb, IntKind.wrap_i64]
  omega
theorem or64 (a b : Nat) (ha : a < 9223372036854775808) (hb : b < 9223372036854775808) : bits .or .i64 (a : Int) (b : Int) = ((a ||| b : Nat) : Int) := by
  have hx : a ||| b < 2 ^ 63 := Nat.or_lt_two_pow (by omega) (by omega)
  show IntKind.i64.wrap ((BitVec.ofInt 64 (a : Int) ||| BitVec.ofInt 64 (b : Int)).toNat : Int) = _
  rw [BitVec.toNat_or, ofInt64 a ha, ofInt64 b hb, IntKind.wrap_i64]
  omega
theorem odd64 (a : Nat) (ha : a < 9223372036854775808) : bits .and .i64 (a : Int) 1 = ((a % 2 : Nat) : Int) := by
  have := and64 a 1 ha (by omega)
  rw [nat_mask1] at this
  exact this

/- A CALL THAT ONLY DRAWS, inside a region whose order is open. -/
theorem quiet_left {P : Program} {f : FuncId} {args : Array Value} {w : World} {n : Nat} {v : Value}
    (h : Calls P f args (w.drewN n) fun e w' => e = .returned v ∧ w.drewN n = w') : Calls P f args (w.drewN n) fun e w'' => e = .returned v ∧ ∃ m, w'' = w.drewN m :=
  h.mono fun _ _ ⟨he, hm⟩ => ⟨he, n, hm.symm⟩
theorem quiet_add_left {P : Program} {f : FuncId} {args : Array Value} {w : World} {a n : Nat} {v : Value}
    (h : Calls P f args (w.drewN (a + n)) fun e w' => e = .returned v ∧ w.drewN (a + n) = w') :
    Calls P f args (w.drewN (a + n)) fun e w'' => e = .returned v ∧ ∃ m, w'' = w.drewN (a + m) :=
  h.mono fun _ _ ⟨he, hm⟩ => ⟨he, n, hm.symm⟩

/-- NOTHING THAT WAS THERE HAS TURNED. -/
def Ext (w w' : World) : Prop := Below w.heap.size w w'
theorem Ext.refl (w : World) : Ext w w := Below.refl _ _
theorem Ext.trans {a b c : World} (h : Ext a b) (k : Ext b c) : Ext a c := Below.trans h (Below.mono k h.size)
theorem Ext.drewN {a w : World} (h : Ext a w) (n : Nat) : Ext a (w.drewN n) := ⟨h.os, h.tape, h.output, h.size, h.block⟩
theorem Ext.drew {a w : World} (h : Ext a w) : Ext a w.drew := Below.drew h
theorem Ext.alloc {a w : World} (h : Ext a w) (o : Obj) : Ext a (w.alloc o) := Below.alloc h h.size o
theorem Ext.setCell {a w : World} (h : Ext a w) {p : Addr} (hp : a.heap.size ≤ p.block) (u : Value) : Ext a (w.setCell p u) := Below.setCell h hp u
theorem Ext.grown {a w w' : World} {row : Option Nat} (h : Ext a w) (hg : w.grownBy w' row) (hr : ∀ k, row = some k → a.heap.size ≤ k) : Ext a w' := Below.grown h hg h.size hr
theorem Ext.cell {a w : World} (h : Ext a w) {p : Addr} {v : Value} (hp : a.cell? p = some v) : w.cell? p = some v := by
  have hlt : p.block < a.heap.size := by
    rcases Nat.lt_or_ge p.block a.heap.size with h1 | h1
    · exact h1
    · simp [World.cell?, Array.getElem?_eq_none h1] at hp
  rw [Below.cell h hlt]; exact hp
theorem Ext.below {w w' : World} (h : Ext w w') : Below w.heap.size w w' := h
theorem lt_of_cell {w : World} {p : Addr} {v : Value} (hp : w.cell? p = some v) : p.block < w.heap.size := by
  rcases Nat.lt_or_ge p.block w.heap.size with h1 | h1
  · exact h1
  · simp [World.cell?, Array.getElem?_eq_none h1] at hp

/-- A byte as a value; a list of bytes as a string; a string as a list of bytes. -/
abbrev bv (b : UInt8) : Value := .int .u8 (b.toNat : Int)
def sb (l : List UInt8) : ByteArray := ⟨l.toArray⟩
def bl (s : ByteArray) : List UInt8 := s.data.toList
@[simp] theorem bl_sb (l : List UInt8) : bl (sb l) = l := rfl
@[simp] theorem sb_bl (s : ByteArray) : sb (bl s) = s := rfl
theorem size_bl (s : ByteArray) : s.size = (bl s).length := by
  show s.data.size = s.data.toList.length
  rw [Array.length_toList]
theorem get_bl (s : ByteArray) (k : Nat) (h : k < s.size) : s[k] = (bl s)[k]'(by rw [← size_bl]; exact h) := by
  simp [bl]; rfl
@[simp] theorem size_sb (l : List UInt8) : (sb l).size = l.length := by simp [sb, ByteArray.size]

/-- THE SLICE AT A READS AS THE CELLS xs, below the heap's end. -/
def Rd (w : World) (A : Option Addr) (xs : List Value) : Prop := ∀ k x, xs[k]? = some x → ∃ ad, A = some ad ∧ ad.block < w.heap.size ∧ w.cell? (ad.add k) = some x
theorem Rd.nil (w : World) (A : Option Addr) : Rd w A [] := fun k x h => by simp at h
theorem block_add (a : Addr) (n : Nat) : (a.add n).block = a.block := by unfold Addr.add; split <;> rfl
theorem Rd.ext {w w' : World} {A : Option Addr} {xs : List Value} (h : Rd w A xs) (he : Ext w w') : Rd w' A xs := fun k x hx => by
  obtain ⟨ad, h1, h2, h3⟩ := h k x hx
  exact ⟨ad, h1, Nat.lt_of_lt_of_le h2 he.size, he.cell h3⟩
theorem Rd.at {w : World} {A : Option Addr} {xs : List Value} (h : Rd w A xs) {k : Nat} (hk : k < xs.length) : ∃ ad, A = some ad ∧ ad.block < w.heap.size ∧ w.cell? (ad.add k) = some xs[k] :=
  h k _ (List.getElem?_eq_getElem hk)
theorem Rd.all {w : World} {ad : Addr} {xs : List Value} (h : Rd w (some ad) xs) {k : Nat} (hk : k < xs.length) : w.cell? (ad.add k) = some xs[k] := by
  obtain ⟨_, e, _, h3⟩ := h.at hk
  injection e with e
  subst e
  exact h3
theorem Rd.drewN {w : World} {A : Option Addr} {xs : List Value} (h : Rd w A xs) (n : Nat) : Rd (w.drewN n) A xs := h
/-- A row of the call's own, read. -/
theorem Rd.of_own {w : World} {B e c : Nat} {A : Option Addr} {xs : List Value} (h : w.ownsRow B e 1 (.slice A xs.length c) xs.length xs) : Rd w A xs := by
  intro k x hx
  rcases h.2 with ⟨hn, h0⟩ | ⟨g, cap, cur, hv, hB, hg, hc, hm, hs, ht⟩
  · rw [List.length_eq_zero_iff] at h0
    subst h0
    simp at hx
  · injection hv with e1 e2 e3
    subst e1
    have hlt : g < w.heap.size := lt_of_block hg
    have := h.cells (g := g) rfl k x hx
    exact ⟨_, rfl, hlt, this⟩

/-- 'string(b)' over a row of bytes. -/
theorem run_str {P : Program} {src dst e : TypeId} (hs : P.underlying src = some (.slice e)) (he : P.underlying e = some (.int .u8)) (hd : P.underlying dst = some .string)
    {w : World} {A : Option Addr} {l : List UInt8} {c n : Nat} (hn : n = l.length) (h : Rd w A (l.map bv)) : (convert src dst (.slice A n c)).run P w = .ok (.string (sb l)) w := by
  subst hn
  by_cases h0 : l = []
  · subst h0
    rcases A with _ | a
    · exact run_convert_bytes_nil w src e hs he _ _ dst hd
    · have := run_bytesToString w a 0 c [] (P := P) (by simp [loadCells, loadCellsFrom])
      rw [run_convert_bytes_string w src dst e _ _ _ hs he hd]
      exact this
  · obtain ⟨ad, rfl, hb, _⟩ := h.at (k := 0) (by have := List.length_pos_iff.2 h0; simpa using this)
    have hsp : ∀ k (hk : k < l.length), w.cell? (ad.add k) = some (bv l[k]) := fun k hk => by
      have := h.all (k := k) (by simpa using hk)
      simpa using this
    have h00 := hsp 0 (List.length_pos_iff.2 h0)
    have hspot : ad.spot = none := by
      cases hq : ad.spot with
      | none => rfl
      | some q =>
        exfalso
        simp [Addr.add, World.cell?, hq] at h00
        split at h00 <;> simp at h00
    obtain ⟨b, off, sp⟩ := ad
    simp at hspot
    subst hspot
    have := run_convert_bytes_arg (P := P) w src e hs he b off l.length c (l.map fun b => (b.toNat : Int)) (by simp) (fun i hi => by
      have h1 := hsp i hi
      have h2 : (⟨b, off, none⟩ : Addr).add i = ⟨b, off + i, none⟩ := by unfold Addr.add; split <;> simp_all
      rw [h2] at h1
      rw [h1]
      simp [bv, List.getD_eq_getElem?_getD, hi]) dst hd
    rw [this]
    congr 2
    apply ByteArray.ext
    apply Array.ext'
    rw [strOfNums_data, List.map_map]
    show List.map _ l = l
    conv => rhs; rw [← List.map_id l]
    apply List.map_congr_left
    intro b _
    simp
theorem own_ext {w w' : World} {B e size n : Nat} {v : Value} {xs : List Value} (h : w.ownsRow B e size v n xs) (hx : Ext w w') : w'.ownsRow B e size v n xs := by
  refine ⟨h.1, ?_⟩
  rcases h.2 with h2 | ⟨g, cap, cur, hv, hB, hg, r⟩
  · exact Or.inl h2
  · exact Or.inr ⟨g, cap, cur, hv, hB, (Below.block hx g (lt_of_block hg)).trans hg, r⟩
theorem heap_new (w : World) (o : Obj) : (w.alloc o).heap[w.heap.size]? = some o := heap_alloc_new w o
theorem own_rd {w : World} {B e n c : Nat} {A : Option Addr} {xs : List Value} (h : w.ownsRow B e 1 (.slice A n c) n xs) : Rd w A xs := by
  have hl : xs.length = n := by have := h.1; omega
  subst hl
  exact Rd.of_own h
theorem own_ge {w : World} {B e size n : Nat} {v : Value} {xs : List Value} (h : w.ownsRow B e size v n xs) : ∀ k, v.ownBlock = some k → B ≤ k := fun k hk => (h.lt k hk).1
theorem Ext.heap {a w : World} (h : Ext a w) {g : Nat} {o : Obj} (hb : a.heap[g]? = some o) : w.heap[g]? = some o := by
  rw [Below.block h g (lt_of_block hb)]; exact hb

/-- v READS AS THE LIST xs: a slice whose elements read as the list's, each by R. -/
def Rs {α : Type} (R : World → Value → α → Prop) (w : World) (v : Value) (xs : List α) : Prop :=
  ∃ (A : Option Addr) (c : Nat), v = .slice A xs.length c ∧ xs.length ≤ 9223372036854775807 ∧ ∀ i x, xs[i]? = some x → ∃ ad u, A = some ad ∧ w.cell? (ad.add i) = some u ∧ R w u x
/-- What is read stays as it is while nothing old turns. -/
def Stable {α : Type} (R : World → Value → α → Prop) : Prop := ∀ w w' v x, Ext w w' → R w v x → R w' v x
theorem Rs.ext {α : Type} {R : World → Value → α → Prop} (hR : Stable R) : Stable (Rs R) := fun w w' v xs hx h => by
  obtain ⟨A, c, rfl, hl, h⟩ := h
  refine ⟨A, c, rfl, hl, fun i x hi => ?_⟩
  obtain ⟨ad, u, h1, h2, h3⟩ := h i x hi
  exact ⟨ad, u, h1, hx.cell h2, hR w w' u x hx h3⟩
def RI (_ : World) (v : Value) (n : Int) : Prop := v = .int .i64 n ∧ -9223372036854775808 ≤ n ∧ n ≤ 9223372036854775807
def RB (_ : World) (v : Value) (b : UInt8) : Prop := v = bv b
def RS (_ : World) (v : Value) (l : List UInt8) : Prop := v = .string (sb l)
theorem RI.ext : Stable RI := fun _ _ _ _ _ h => h
theorem RB.ext : Stable RB := fun _ _ _ _ _ h => h
theorem RS.ext : Stable RS := fun _ _ _ _ _ h => h
theorem Rs.at {α : Type} {R : World → Value → α → Prop} {w : World} {A : Option Addr} {n c : Nat} {xs : List α} (h : Rs R w (.slice A n c) xs) {i : Nat} (hi : i < xs.length) : ∃ ad u, A = some ad ∧ w.cell? (ad.add i) = some u ∧ R w u xs[i] := by
  obtain ⟨A', c', e, _, h⟩ := h
  injection e with e1 e2 e3
  subst e1
  exact h i _ (List.getElem?_eq_getElem hi)
theorem Rs.form {α : Type} {R : World → Value → α → Prop} {w : World} {v : Value} {xs : List α} (h : Rs R w v xs) : ∃ A c, v = .slice A xs.length c ∧ xs.length ≤ 9223372036854775807 := by
  obtain ⟨A, c, e, hl, _⟩ := h
  exact ⟨A, c, e, hl⟩
theorem Rs.len {α : Type} {R : World → Value → α → Prop} {w : World} {A : Option Addr} {n c : Nat} {xs : List α} (h : Rs R w (.slice A n c) xs) : n = xs.length := by
  obtain ⟨A', c', e, _, h⟩ := h
  injection e
theorem Rs.rd {w : World} {A : Option Addr} {n c : Nat} {xs : List UInt8} (h : Rs RB w (.slice A n c) xs) : Rd w A (xs.map bv) := fun k x hx => by
  rw [List.getElem?_map] at hx
  cases hk : xs[k]? with
  | none => rw [hk] at hx; cases hx
  | some b =>
    rw [hk] at hx
    injection hx with hx
    subst hx
    have hk' : k < xs.length := by
      rcases Nat.lt_or_ge k xs.length with h1 | h1
      · exact h1
      · rw [List.getElem?_eq_none h1] at hk; cases hk
    obtain ⟨ad, u, h1, h2, h3⟩ := h.at hk'
    rw [List.getElem?_eq_getElem hk'] at hk
    injection hk with hk
    rw [hk] at h3
    subst h3
    exact ⟨ad, h1, by have := lt_of_cell h2; rwa [block_add] at this, h2⟩
theorem Rs.of_rd {w : World} {A : Option Addr} {c : Nat} {xs : List UInt8} (h : Rd w A (xs.map bv)) (hl : xs.length ≤ 9223372036854775807) : Rs RB w (.slice A xs.length c) xs :=
  ⟨A, c, rfl, hl, fun i x hi => by
    obtain ⟨ad, h1, _, h3⟩ := h i (bv x) (by rw [List.getElem?_map, hi]; rfl)
    exact ⟨ad, bv x, h1, h3, rfl⟩⟩
end Go.Proofs.YtenafgphaceidaaDoor

/- FROM A LAW's WALK TO ITS ROW: what the form asks behind a call that returned true and turned nothing that was there. -/
namespace Go.Proofs.YtenafgphaceidaaDoor
open Go.RowKit Go.ChangeShapes Go.WideShapes Go.ChangeAt

variable {H : Type} {enc : TypeId × Value → H} {P : Program}
theorem trodAll_ext (hl : laidOutB P = true) {W W' : World} (hx : Ext W W') : ∀ {ts : List TypeId} {vs : List Value} {ds : List (DataW H)} {ps : List MemPlace},
    (∀ t ∈ ts, P.readableRec t = true ∧ t < P.types.size) → (∀ x ∈ ps, x.block < W.heap.size) →
    DataW.TrodAll enc P W 0 (fun _ => true) true ts vs ds ps → DataW.TrodAll enc P W' 0 (fun b => decide (b < W.heap.size)) true ts vs ds ps
  | [], [], [], _, _, _, h => h
  | t :: ts, v :: vs, d :: ds, ps, hr, hlt, h => by
    obtain ⟨p, q, h1, h2, rfl⟩ := h
    have h3 := hr t (by simp)
    exact ⟨p, q, Below.trod hl h3.1 h3.2 h1 hx (fun x hx => hlt x (by simp [hx])), trodAll_ext hl hx (fun t ht => hr t (by simp [ht])) (fun x hx => hlt x (by simp [hx])) h2, rfl⟩
  | [], _ :: _, _, _, _, _, h => h.elim
  | [], [], _ :: _, _, _, _, h => h.elim
  | _ :: _, [], _, _, _, _, h => h.elim
  | _ :: _, _ :: _, [], _, _, _, h => h.elim

/-- WHAT THE FORM ASKS BEHIND THE CALL. -/
theorem law_post {f : Func} {s : ChangeSpec} {W W' : World} {args : Array Value} {ds gs : List (DataW H)} {before : List MemPlace} {tb : TypeId}
    (hl : laidOutB P = true) (hr : (f.params.toList.all fun t => P.readableRec t && decide (t < P.types.size)) = true)
    (hv : s.vars = []) (hres : f.resultTypes = #[tb]) (htb : P.underlying tb = some .bool)
    (hspec : (s.fn H (ds ++ gs)).results = [.lit (.bool true)] ∧ (s.fn H (ds ++ gs)).args = ds ∧ (s.fn H (ds ++ gs)).vars = [])
    (hW : DataW.Whole enc P f.params.toList s.vars false W args.toList ds gs before) (hx : Ext W W') :
    s.post enc P f false true false false W args (.bool true) W' := by
  have hW' := hW
  have hlt : ∀ x ∈ before, x.block < W.heap.size := fun x hx => hW.lt x hx
  obtain ⟨p, q, hA, hV, rfl, hfz, hnd⟩ := hW
  have hr' : ∀ t ∈ f.params.toList, P.readableRec t = true ∧ t < P.types.size := fun t ht => by
    have := List.all_eq_true.1 hr t ht
    simpa using this
  refine ⟨ds, gs, p ++ q, [], p, [], hW', ?_, ?_, ?_, hx.frame _, fun h => by cases h⟩
  · rw [hspec.1, hres]
    exact trodAll_cons_mk (shut_bool htb _) trodAll_mk0
  · rw [hspec.2.1]
    exact trodAll_ext hl hx hr' (fun x hx => hlt x (by simp [hx])) hA
  · rw [hspec.2.2, hv]
    rfl

end Go.Proofs.YtenafgphaceidaaDoor

/- THE FIELD OF 256 ELEMENTS, in plain numbers: products bit by bit, and what the program's and the specification's products come to. No program in sight. -/
namespace Gf

/-- What four high bits of a product are modulo the polynomial. -/
def hiL : List Nat := [0, 29, 58, 39, 116, 105, 78, 83, 232, 245, 210, 207, 156, 129, 166, 187]
def hi (k : Nat) : Nat := hiL.getD k 0
def red (x : Nat) : Nat := (x % 256) ^^^ hi (x / 256 % 16)
/-- The sum of the shifted bytes that the lowest k bits of n choose. -/
def tacc (a n : Nat) : Nat → Nat
  | 0 => 0
  | k + 1 => if n / 2 ^ k % 2 = 1 then tacc a n k ^^^ (a * 2 ^ k) else tacc a n k
def tms (a n : Nat) : Nat := red (tacc a n 4)
/-- The program's product. -/
def mulG (a b : Nat) : Nat := red (tms a (b / 16) * 16) ^^^ tms a (b % 16)

/-- A byte times x. -/
def xt (x : Nat) : Nat := (2 * x) ^^^ (285 * (x / 128))
/-- The product that the laws are proved of: n bits of y. -/
def mulK : Nat → Nat → Nat → Nat
  | 0, _, _ => 0
  | n + 1, x, y => (y % 2 * x) ^^^ mulK n (xt x) (y / 2)
def mulN (a b : Nat) : Nat := mulK 8 a b

theorem all1_of {p : Nat → Bool} {n : Nat} (h : (List.range n).all p = true) {a : Nat} (ha : a < n) : p a = true := by
  rw [List.all_eq_true] at h
  exact h a (by simpa using ha)
theorem all2_of {p : Nat → Nat → Bool} {m n : Nat} (h : ((List.range m).all fun a => (List.range n).all fun b => p a b) = true) {a b : Nat} (ha : a < m) (hb : b < n) : p a b = true := by
  have h1 := all1_of (p := fun a => (List.range n).all fun b => p a b) h ha
  exact all1_of (p := fun b => p a b) h1 hb
theorem eq1_of {f g : Nat → Nat} {n : Nat} (h : ((List.range n).all fun a => Nat.beq (f a) (g a)) = true) {a : Nat} (ha : a < n) : f a = g a :=
  Nat.eq_of_beq_eq_true (all1_of (p := fun a => Nat.beq (f a) (g a)) h ha)
theorem eq2_of {f g : Nat → Nat → Nat} {m n : Nat} (h : ((List.range m).all fun a => (List.range n).all fun b => Nat.beq (f a b) (g a b)) = true) {a b : Nat} (ha : a < m) (hb : b < n) : f a b = g a b :=
  Nat.eq_of_beq_eq_true (all2_of (p := fun a b => Nat.beq (f a b) (g a b)) h ha hb)

theorem xor_lt {x y : Nat} (h : x < 256) (h' : y < 256) : x ^^^ y < 256 := Nat.xor_lt_two_pow (n := 8) h h'
theorem mul_pow_xor (x y k : Nat) : (x ^^^ y) * 2 ^ k = (x * 2 ^ k) ^^^ (y * 2 ^ k) := by
  rw [← Nat.shiftLeft_eq, ← Nat.shiftLeft_eq, ← Nat.shiftLeft_eq, Nat.shiftLeft_xor_distrib]
theorem bit_mul_xor {p q : Nat} (z : Nat) (hp : p < 2) (hq : q < 2) : z * (p ^^^ q) = (z * p) ^^^ (z * q) := by
  have h : (p = 0 ∨ p = 1) ∧ (q = 0 ∨ q = 1) := by omega
  rcases h with ⟨rfl | rfl, rfl | rfl⟩ <;> simp
theorem xor4 (a b c d : Nat) : (a ^^^ b) ^^^ (c ^^^ d) = (a ^^^ c) ^^^ (b ^^^ d) := by
  rw [Nat.xor_assoc, Nat.xor_assoc, ← Nat.xor_assoc b c d, Nat.xor_comm b c, Nat.xor_assoc c b d]

theorem xt_lt {x : Nat} (h : x < 256) : xt x < 256 := of_decide_eq_true (all1_of (p := fun x => decide (xt x < 256)) (n := 256) (by decide +kernel) h)
theorem xt_xor {x y : Nat} (h : x < 256) (h' : y < 256) : xt (x ^^^ y) = xt x ^^^ xt y := by
  unfold xt
  have e1 : 2 * (x ^^^ y) = (2 * x) ^^^ (2 * y) := by have := mul_pow_xor x y 1; simpa [Nat.mul_comm] using this
  have e2 : (x ^^^ y) / 128 = (x / 128) ^^^ (y / 128) := Nat.xor_div_two_pow (n := 7)
  rw [e1, e2, bit_mul_xor 285 (by omega) (by omega), xor4]

/-- f takes sums of bytes to sums. -/
def Lin (f : Nat → Nat) : Prop := ∀ x y, x < 256 → y < 256 → f (x ^^^ y) = f x ^^^ f y
theorem Lin.zero {f : Nat → Nat} (h : Lin f) : f 0 = 0 := by
  have := h 0 0 (by omega) (by omega)
  simpa using this
theorem top_bit {n x : Nat} (hn : n < 8) (hx : x < 256) (h1 : 2 ^ n ≤ x) (h2 : x < 2 ^ (n + 1)) : 2 ^ n ^^^ (x - 2 ^ n) = x := by
  have h : ((List.range 8).all fun n => (List.range 256).all fun x => !(Nat.ble (2 ^ n) x) || !(Nat.ble (x + 1) (2 ^ (n + 1))) || Nat.beq (2 ^ n ^^^ (x - 2 ^ n)) x) = true := by decide +kernel
  have h3 := all2_of (p := fun n x => !(Nat.ble (2 ^ n) x) || !(Nat.ble (x + 1) (2 ^ (n + 1))) || Nat.beq (2 ^ n ^^^ (x - 2 ^ n)) x) h hn hx
  simp only [Nat.ble_eq_true_of_le h1, Nat.ble_eq_true_of_le (show x + 1 ≤ 2 ^ (n + 1) from h2), Bool.not_true, Bool.false_or] at h3
  exact Nat.eq_of_beq_eq_true h3
theorem lin_ext {f g : Nat → Nat} (hf : Lin f) (hg : Lin g) (h : ∀ k, k < 8 → f (2 ^ k) = g (2 ^ k)) {x : Nat} (hx : x < 256) : f x = g x := by
  have key : ∀ n, n ≤ 8 → ∀ x, x < 2 ^ n → f x = g x := by
    intro n
    induction n with
    | zero => intro _ x hx; obtain rfl : x = 0 := by omega
              rw [hf.zero, hg.zero]
    | succ n ih =>
      intro hn x hx
      have hp : 2 ^ (n + 1) ≤ 2 ^ 8 := Nat.pow_le_pow_right (by omega) hn
      have hp' : 2 ^ (n + 1) = 2 * 2 ^ n := by rw [Nat.pow_succ]; omega
      by_cases hlt : x < 2 ^ n
      · exact ih (by omega) x hlt
      · have e := top_bit (n := n) (x := x) (by omega) (by omega) (by omega) hx
        rw [← e, hf _ _ (by omega) (by omega), hg _ _ (by omega) (by omega), h n (by omega), ih (by omega) _ (by omega)]
  exact key 8 (by omega) x (by simpa using hx)

theorem lin_xor {f g : Nat → Nat} (hf : Lin f) (hg : Lin g) : Lin fun x => f x ^^^ g x := fun x y hx hy => by
  show f (x ^^^ y) ^^^ g (x ^^^ y) = (f x ^^^ g x) ^^^ (f y ^^^ g y)
  rw [hf x y hx hy, hg x y hx hy, xor4]
theorem lin_comp {f g : Nat → Nat} (hf : Lin f) (hg : Lin g) (hb : ∀ x, x < 256 → g x < 256) : Lin fun x => f (g x) := fun x y hx hy => by
  show f (g (x ^^^ y)) = f (g x) ^^^ f (g y)
  rw [hg x y hx hy, hf _ _ (hb x hx) (hb y hy)]

theorem mulK_lt : ∀ n x y, x < 256 → mulK n x y < 256
  | 0, _, _, _ => by simp [mulK]
  | n + 1, x, y, h => by
    unfold mulK
    refine xor_lt ?_ (mulK_lt n _ _ (xt_lt h))
    have h2 : y % 2 = 0 ∨ y % 2 = 1 := by omega
    rcases h2 with e | e <;> rw [e] <;> omega
theorem mulN_lt {a b : Nat} (h : a < 256) : mulN a b < 256 := mulK_lt 8 a b h
theorem mulK_lin1 : ∀ n y, Lin fun x => mulK n x y
  | 0, _ => fun _ _ _ _ => by simp [mulK]
  | n + 1, y => by
    have h1 : Lin fun x => y % 2 * x := fun a b _ _ => by
      have h2 : y % 2 = 0 ∨ y % 2 = 1 := by omega
      rcases h2 with e | e <;> simp [e]
    exact lin_xor h1 (lin_comp (f := fun x => mulK n x (y / 2)) (g := xt) (mulK_lin1 n (y / 2)) (fun a b ha hb => xt_xor ha hb) fun x h => xt_lt h)
theorem mulK_xor2 (x : Nat) : ∀ n y z, mulK n x (y ^^^ z) = mulK n x y ^^^ mulK n x z := by
  intro n
  induction n generalizing x with
  | zero => intro y z; simp [mulK]
  | succ n ih =>
    intro y z
    have e1 : (y ^^^ z) % 2 = (y % 2) ^^^ (z % 2) := Nat.xor_mod_two_pow (n := 1)
    have e2 : (y ^^^ z) / 2 = (y / 2) ^^^ (z / 2) := Nat.xor_div_two_pow (n := 1)
    simp only [mulK]
    rw [e1, e2, ih, Nat.mul_comm _ x, bit_mul_xor x (by omega) (by omega), xor4, Nat.mul_comm x, Nat.mul_comm x]
theorem mulN_lin1 (b : Nat) : Lin fun a => mulN a b := mulK_lin1 8 b
theorem mulN_lin2 (a : Nat) : Lin fun b => mulN a b := fun x y _ _ => mulK_xor2 a 8 x y

theorem two_pow_lt {k : Nat} (h : k < 8) : 2 ^ k < 256 := by
  have : 2 ^ k ≤ 2 ^ 7 := Nat.pow_le_pow_right (by omega) (by omega)
  omega
theorem mulN_comm {a b : Nat} (h : a < 256) (h' : b < 256) : mulN a b = mulN b a := by
  refine lin_ext (f := fun a => mulN a b) (g := fun a => mulN b a) (mulN_lin1 b) (mulN_lin2 b) (fun j hj => ?_) h
  refine lin_ext (f := fun b => mulN (2 ^ j) b) (g := fun b => mulN b (2 ^ j)) (mulN_lin2 _) (mulN_lin1 _) (fun k hk => ?_) h'
  exact eq2_of (f := fun j k => mulN (2 ^ j) (2 ^ k)) (g := fun j k => mulN (2 ^ k) (2 ^ j)) (by decide +kernel) hj hk
theorem mulN_assoc {a b c : Nat} (h : a < 256) (h' : b < 256) (h'' : c < 256) : mulN (mulN a b) c = mulN a (mulN b c) := by
  refine lin_ext (f := fun a => mulN (mulN a b) c) (g := fun a => mulN a (mulN b c)) (lin_comp (mulN_lin1 c) (mulN_lin1 b) fun x hx => mulN_lt hx) (mulN_lin1 _) (fun i hi => ?_) h
  refine lin_ext (f := fun b => mulN (mulN (2 ^ i) b) c) (g := fun b => mulN (2 ^ i) (mulN b c)) (lin_comp (mulN_lin1 c) (mulN_lin2 _) fun x _ => mulN_lt (two_pow_lt hi)) (lin_comp (mulN_lin2 _) (mulN_lin1 c) fun x hx => mulN_lt hx) (fun j hj => ?_) h'
  refine lin_ext (f := fun c => mulN (mulN (2 ^ i) (2 ^ j)) c) (g := fun c => mulN (2 ^ i) (mulN (2 ^ j) c)) (mulN_lin2 _) (lin_comp (mulN_lin2 _) (mulN_lin2 _) fun x _ => mulN_lt (two_pow_lt hj)) (fun k hk => ?_) h''
  have := all2_of (p := fun i j => (List.range 8).all fun k => Nat.beq (mulN (mulN (2 ^ i) (2 ^ j)) (2 ^ k)) (mulN (2 ^ i) (mulN (2 ^ j) (2 ^ k)))) (m := 8) (n := 8) (by decide +kernel) hi hj
  exact Nat.eq_of_beq_eq_true (all1_of (p := fun k => Nat.beq (mulN (mulN (2 ^ i) (2 ^ j)) (2 ^ k)) (mulN (2 ^ i) (mulN (2 ^ j) (2 ^ k)))) this hk)

theorem hi_xor {p q : Nat} (hp : p < 16) (hq : q < 16) : hi (p ^^^ q) = hi p ^^^ hi q :=
  eq2_of (f := fun p q => hi (p ^^^ q)) (g := fun p q => hi p ^^^ hi q) (by decide +kernel) hp hq
theorem red_xor (x y : Nat) : red (x ^^^ y) = red x ^^^ red y := by
  unfold red
  have e1 : (x ^^^ y) % 256 = (x % 256) ^^^ (y % 256) := Nat.xor_mod_two_pow (n := 8)
  have e2 : (x ^^^ y) / 256 % 16 = (x / 256 % 16) ^^^ (y / 256 % 16) := by
    rw [show (x ^^^ y) / 256 = (x / 256) ^^^ (y / 256) from Nat.xor_div_two_pow (n := 8)]
    exact Nat.xor_mod_two_pow (n := 4)
  rw [e1, e2, hi_xor (by omega) (by omega), xor4]
theorem tacc_xor1 (n x y : Nat) : ∀ k, tacc (x ^^^ y) n k = tacc x n k ^^^ tacc y n k
  | 0 => by simp [tacc]
  | k + 1 => by
    unfold tacc
    split
    · rw [tacc_xor1 n x y k, mul_pow_xor, xor4]
    · exact tacc_xor1 n x y k
theorem mulG_lin1 (b : Nat) : Lin fun a => mulG a b := fun x y _ _ => by
  have e (n : Nat) : tms (x ^^^ y) n = tms x n ^^^ tms y n := by unfold tms; rw [tacc_xor1, red_xor]
  show mulG (x ^^^ y) b = mulG x b ^^^ mulG y b
  unfold mulG
  rw [e, e, show (16 : Nat) = 2 ^ 4 from rfl, mul_pow_xor, red_xor, xor4]
theorem mulG_eq {a b : Nat} (h : a < 256) (h' : b < 256) : mulG a b = mulN a b := by
  refine lin_ext (f := fun a => mulG a b) (g := fun a => mulN a b) (mulG_lin1 b) (mulN_lin1 b) (fun j hj => ?_) h
  exact eq2_of (f := fun j b => mulG (2 ^ j) b) (g := fun j b => mulN (2 ^ j) b) (by decide +kernel) hj h'

theorem tacc_lt (a n : Nat) (ha : a < 256) : ∀ k, tacc a n k < 2 ^ (8 + k)
  | 0 => by simp [tacc]
  | k + 1 => by
    have ih := tacc_lt a n ha k
    have h1 : a * 2 ^ k < 2 ^ (8 + (k + 1)) := by
      have : a * 2 ^ k < 256 * 2 ^ k := Nat.mul_lt_mul_of_pos_right ha (Nat.two_pow_pos k)
      have e : 2 ^ (8 + (k+1)) = 2 * (256 * 2 ^ k) := by rw [Nat.pow_add, Nat.pow_succ]; omega
      omega
    have h2 : tacc a n k < 2 ^ (8 + (k + 1)) := by
      have : 2 ^ (8 + (k + 1)) = 2 * 2 ^ (8 + k) := by rw [← Nat.add_assoc, Nat.pow_succ]; omega
      omega
    unfold tacc; split
    · exact Nat.xor_lt_two_pow h2 h1
    · exact h2
theorem hi_lt {k : Nat} (h : k < 16) : hi k < 256 := of_decide_eq_true (all1_of (p := fun k => decide (hi k < 256)) (n := 16) (by decide +kernel) h)
theorem red_lt (x : Nat) : red x < 256 := xor_lt (by omega) (hi_lt (by omega))
theorem tms_lt (a n : Nat) : tms a n < 256 := red_lt _

theorem mulN_zero2 (a : Nat) : mulN a 0 = 0 := (mulN_lin2 a).zero
theorem mulN_one2 {a : Nat} (h : a < 256) : mulN a 1 = a := eq1_of (f := fun a => mulN a 1) (g := fun a => a) (n := 256) (by decide +kernel) h
theorem mulN_one1 {a : Nat} (h : a < 256) : mulN 1 a = a := by rw [mulN_comm (by omega) h, mulN_one2 h]

/-- a times itself, n times. -/
def powN (a : Nat) : Nat → Nat
  | 0 => 1
  | n + 1 => mulN (powN a n) a
theorem powN_lt {a : Nat} : ∀ n, powN a n < 256
  | 0 => by simp [powN]
  | n + 1 => mulN_lt (powN_lt n)
theorem powN_two {a : Nat} (h : a < 256) : ∀ n, powN (mulN a a) n = powN a (2 * n)
  | 0 => rfl
  | n + 1 => by rw [powN, powN_two h n, show 2 * (n + 1) = 2 * n + 1 + 1 from by omega, powN, powN, mulN_assoc (powN_lt _) h h]
def invN (a : Nat) : Nat := powN a 254
/-- The place of a among the powers of 2, counted from x. -/
def logF (a : Nat) : Nat → Nat → Nat → Nat
  | 0, _, k => k
  | f + 1, x, k => if Nat.beq x a then k else logF a f (xt x) (k + 1)
def logN (a : Nat) : Nat := logF a 255 1 0
/-- The same over the walk's numbers. -/
def mulI (a b : Int) : Int := (mulN a.toNat b.toNat : Nat)
theorem mulI_nat (a b : Nat) : mulI a b = (mulN a b : Nat) := rfl
/-- The code of Inv's and Log's error. -/
def noneI (a : Int) : Int := if a = 0 then 1 else 0
/-- Pow's result. -/
def powI (a n : Int) : Int := if a = 0 ∧ n ≠ 0 then 0 else (powN a.toNat (n % 255).toNat : Nat)
/-- Log's first result. -/
def logI (a : Int) : Int := if a = 0 then 0 else (logN a.toNat : Nat)
theorem red_def (x : Nat) : red x = (x % 256) ^^^ hi (x / 256 % 16) := rfl
theorem tms_def (a n : Nat) : tms a n = red (tacc a n 4) := rfl
theorem powN_nil (a : Nat) : powN a 0 = 1 := rfl
theorem powN_succ (a k : Nat) : powN a (k + 1) = mulN (powN a k) a := rfl
/- A walk must not look into these. -/
attribute [irreducible] mulN mulI powN invN logN logI noneI powI red tms hi
end Gf

/- THE WALKS over package gf: what each of its functions returns, in the numbers of the text on the field. -/
namespace Go.Proofs.YtenafgphaceidaaDoor
open Go.RowKit

/-- The table of package gf lies in memory. -/
def Tab (w : World) : Prop := ∀ k, k < 16 → w.cell? ⟨0, k, none⟩ = some (.int .u8 (Gf.hi k : Nat))
theorem Tab.below {B : Nat} {w w' : World} (h : Tab w) (hb : Below B w w') (hB : 0 < B) : Tab w' :=
  fun k hk => (hb.cell (p := ⟨0, k, none⟩) hB).trans (h k hk)
theorem Tab.size {w : World} (h : Tab w) : 0 < w.heap.size := by
  have := h 0 (by omega)
  rcases Nat.lt_or_ge 0 w.heap.size with h1 | h1
  · exact h1
  · simp [World.cell?, Array.getElem?_eq_none h1] at this
theorem Tab.ext {w w' : World} (h : Tab w) (hb : Below w.heap.size w w') : Tab w' := h.below hb h.size

theorem reduce_nat (n : Nat) (h1 : n < 4096) (w : World) (hT : Tab w) :
    Calls Tryd.prog 53 #[.int .u64 n] w fun e w' => e = .returned (.int .u8 (Gf.red n : Nat)) ∧ w = w' := by
  have e1 : bits .and .u64 ((n : Int) / 256) 15 = ((n / 256 % 16 : Nat) : Int) := by
    have := u64_and_nat (n / 256) 15 (by omega) (by omega)
    rw [nat_mask4] at this
    simpa using this
  have hc := hT (n / 256 % 16) (by omega)
  have hl := Gf.hi_lt (k := n / 256 % 16) (by omega)
  have e2 : bits .xor .u8 ((n : Int) % 256) ((Gf.hi (n / 256 % 16) : Nat) : Int) = ((Gf.red n : Nat) : Int) := by
    have := u8_xor_nat (n % 256) (Gf.hi (n / 256 % 16)) (by omega) hl
    rw [Gf.red_def]
    simpa using this
  go_enter Tryd.func53, Tryd.ntmps53
  go_wp2_with fail
  go_ret
  first | exact ⟨rfl, rfl⟩ | exact ⟨ret_int e2, rfl⟩

theorem times_nat (a n : Nat) (ha : a < 256) (hn : n < 16) (w : World) (hT : Tab w) :
    Calls Tryd.prog 54 #[.int .u8 a, .int .u64 n] w fun e w' => e = .returned (.int .u8 (Gf.tms a n : Nat)) ∧ w = w' := by
  have HT := Lib.hid hT
  clear hT
  go_enter Tryd.func54, Tryd.ntmps54
  go_wp2_with fail
  go_loop [5, 7] (fun x i => ∃ k : Nat, k ≤ 4 ∧ i = .int .i64 k ∧ x = .int .u64 (Gf.tacc a n k : Nat)) (fun _ i => 4 - (intOf i).toNat)
  case atStart => exact ⟨0, by omega, rfl, rfl⟩
  case round =>
    obtain ⟨k, hk, rfl, rfl⟩ := hrel
    have hb := Gf.tacc_lt a n ha k
    have hb2 : 2 ^ (8 + k) ≤ 2 ^ 12 := Nat.pow_le_pow_right (by omega) (by omega)
    have hb3 : Gf.tacc a n k < 4096 := by omega
    clear hb hb2
    by_cases hlt : k < 4
    · have hp : 2 ^ k ≤ 2 ^ 4 := Nat.pow_le_pow_right (by omega) (by omega)
      have hap : a * 2 ^ k < 256 * 16 := Nat.mul_lt_mul_of_lt_of_le ha (by omega) (by omega)
      have e0 : bits .and .u64 ((n : Int) / 2 ^ k) 1 = ((n / 2 ^ k % 2 : Nat) : Int) := by
        have hd : n / 2 ^ k ≤ n := Nat.div_le_self _ _
        have := u64_and_nat (n / 2 ^ k) 1 (by omega) (by omega)
        rw [nat_mask1] at this
        simpa using this
      have e1 : IntKind.u64.wrap ((a : Int) * 2 ^ k) = ((a * 2 ^ k : Nat) : Int) := by
        have h : ((a : Int) * 2 ^ k) = ((a * 2 ^ k : Nat) : Int) := by simp
        rw [h, IntKind.wrap_u64]
        omega
      have e2 : bits .xor .u64 ((Gf.tacc a n k : Nat) : Int) (IntKind.u64.wrap ((a : Int) * 2 ^ k)) = ((Gf.tacc a n k ^^^ (a * 2 ^ k) : Nat) : Int) := by
        rw [e1]; exact u64_xor_nat _ _ (by omega) (by omega)
      have HP := Lib.hid hp
      have HA := Lib.hid hap
      have H1 := Lib.hid e1
      clear hp hap e1
      by_cases hbit : n / 2 ^ k % 2 = 1
      · have H : Gf.tacc a n (k + 1) = Gf.tacc a n k ^^^ (a * 2 ^ k) := by rw [Gf.tacc, if_pos hbit]
        have HH := Lib.hid H
        clear H
        have e3 : (bits .and .u64 ((n : Int) / 2 ^ k) 1 == 1) = true := by rw [e0, hbit]; rfl
        clear e0
        have HB := Lib.hid hbit
        clear hbit
        go_wp2_with fail
        go_round
        case rel => exact ⟨k + 1, by omega, by go_num, by rw [HH.out]⟩
        case measure => simp [intOf]; omega
      · have H : Gf.tacc a n (k + 1) = Gf.tacc a n k := by rw [Gf.tacc, if_neg hbit]
        have HH := Lib.hid H
        clear H
        have e3 : (bits .and .u64 ((n : Int) / 2 ^ k) 1 == 1) = false := by
          have h0 : n / 2 ^ k % 2 = 0 := by omega
          rw [e0, h0]; rfl
        clear e0
        have HB := Lib.hid hbit
        clear hbit
        go_wp2_with fail
        go_round
        case rel => exact ⟨k + 1, by omega, by go_num, by rw [HH.out]⟩
        case measure => simp [intOf]; omega
    · obtain rfl : k = 4 := by omega
      go_wp2_with (go_at_call 53; refine (reduce_nat _ hb3 _ HT.out).mono ?_; rintro e w' ⟨rfl, rfl⟩)
      go_ret
      exact ⟨ret_int (by rw [Gf.tms_def]), rfl⟩

theorem mul_nat (a b : Nat) (ha : a < 256) (hb : b < 256) (w : World) (hT : Tab w) :
    Calls Tryd.prog 43 #[.int .u8 a, .int .u8 b] w fun e w' => e = .returned (.int .u8 (Gf.mulN a b : Nat)) ∧ w = w' := by
  have HT := Lib.hid hT
  clear hT
  have h1 := Gf.tms_lt a (b / 16)
  have h2 := Gf.tms_lt a (b % 16)
  have e1 : bits .and .u8 (b : Int) 15 = ((b % 16 : Nat) : Int) := by
    have := u8_and_nat b 15 (by omega) (by omega)
    rw [nat_mask4] at this
    simpa using this
  have e2 : bits .xor .u8 ((Gf.red (Gf.tms a (b / 16) * 16) : Nat) : Int) ((Gf.tms a (b % 16) : Nat) : Int) = ((Gf.mulN a b : Nat) : Int) := by
    rw [u8_xor_nat _ _ (Gf.red_lt _) h2, ← Gf.mulG_eq ha hb, Gf.mulG]
  have H2 := Lib.hid e2
  clear e2
  go_enter Tryd.func43, Tryd.ntmps43
  go_wp2_with fail
  refine (times_nat a (b / 16) ha (by omega) _ HT.out).mono ?_
  rintro e w' ⟨rfl, rfl⟩
  go_wp2_with fail
  refine (reduce_nat (Gf.tms a (b / 16) * 16) (by omega) _ HT.out).mono ?_
  rintro e w' ⟨rfl, rfl⟩
  go_wp2_with fail
  refine (times_nat a (b % 16) ha (by omega) _ HT.out).mono ?_
  rintro e w' ⟨rfl, rfl⟩
  go_wp2_with fail
  go_ret
  exact ⟨ret_int H2.out, rfl⟩
/-- Mul, whatever the terms for its arguments are. -/
theorem mul_any (a b : Int) (w : World) (hT : Tab w) (ha : 0 ≤ a) (ha' : a < 256) (hb : 0 ≤ b) (hb' : b < 256) :
    Calls Tryd.prog 43 #[.int .u8 a, .int .u8 b] w fun e w' => e = .returned (.int .u8 (Gf.mulI a b)) ∧ w = w' := by
  obtain ⟨a, rfl⟩ := Int.eq_ofNat_of_zero_le ha
  obtain ⟨b, rfl⟩ := Int.eq_ofNat_of_zero_le hb
  rw [Gf.mulI_nat]
  exact mul_nat a b (by omega) (by omega) w hT

theorem power_nat (a n : Nat) (ha : a < 256) (hn : n < 1000) (w : World) (hT : Tab w) :
    Calls Tryd.prog 63 #[.int .u8 a, .int .i64 n] w fun e w' => e = .returned (.int .u8 (Gf.powN a n : Nat)) ∧ w = w' := by
  have HT := Lib.hid hT
  clear hT
  go_enter Tryd.func63, Tryd.ntmps63
  go_wp2_with fail
  go_loop [0, 1, 5] (fun va vn vx => ∃ A N X : Nat, A < 256 ∧ X < 256 ∧ N < 1000 ∧ va = .int .u8 A ∧ vn = .int .i64 N ∧ vx = .int .u8 X ∧ Gf.mulN X (Gf.powN A N) = Gf.powN a n) (fun _ vn _ => (intOf vn).toNat)
  case atStart => exact ⟨a, n, 1, ha, by omega, hn, rfl, rfl, rfl, Gf.mulN_one1 (Gf.powN_lt n)⟩
  case round =>
    obtain ⟨A, N, X, hA, hX, hN, rfl, rfl, rfl, hm⟩ := hrel
    have HM := Lib.hid hm
    clear hm
    have e0 := odd64 N (by omega)
    by_cases hp : 0 < N
    · have hAA := Gf.mulN_lt (a := A) (b := A) hA
      by_cases hbit : N % 2 = 1
      · have hXA := Gf.mulN_lt (a := X) (b := A) hX
        have e3 : (bits .and .i64 (N : Int) 1 == 1) = true := by rw [e0, hbit]; rfl
        have H : Gf.mulN (Gf.mulN X A) (Gf.powN (Gf.mulN A A) (N / 2)) = Gf.powN a n := by
          rw [Gf.powN_two hA, Gf.mulN_assoc hX hA (Gf.powN_lt _), Gf.mulN_comm hA (Gf.powN_lt _), ← HM.out]
          rw [← Gf.powN_succ, show 2 * (N / 2) + 1 = N from by omega]
        have HH := Lib.hid H
        have HB := Lib.hid hbit
        clear H hbit e0
        go_wp2_with fail
        refine (mul_nat X A hX hA _ HT.out).mono ?_
        rintro e w' ⟨rfl, rfl⟩
        go_wp2_with fail
        refine (mul_nat A A hA hA _ HT.out).mono ?_
        rintro e w' ⟨rfl, rfl⟩
        go_wp2_with fail
        go_round
        case rel => exact ⟨Gf.mulN A A, N / 2, Gf.mulN X A, hAA, hXA, by omega, rfl, by go_num, rfl, HH.out⟩
        case measure => simp [intOf]; omega
      · have e3 : (bits .and .i64 (N : Int) 1 == 1) = false := by
          have h0 : N % 2 = 0 := by omega
          rw [e0, h0]; rfl
        have H : Gf.mulN X (Gf.powN (Gf.mulN A A) (N / 2)) = Gf.powN a n := by
          rw [Gf.powN_two hA, show 2 * (N / 2) = N from by omega]; exact HM.out
        have HH := Lib.hid H
        have HB := Lib.hid hbit
        clear H hbit e0
        go_wp2_with fail
        refine (mul_nat A A hA hA _ HT.out).mono ?_
        rintro e w' ⟨rfl, rfl⟩
        go_wp2_with fail
        go_round
        case rel => exact ⟨Gf.mulN A A, N / 2, X, hAA, hX, by omega, rfl, by go_num, rfl, HH.out⟩
        case measure => simp [intOf]; omega
    · obtain rfl : N = 0 := by omega
      have hx : X = Gf.powN a n := by rw [← HM.out, Gf.powN_nil, Gf.mulN_one2 hX]
      have HX := Lib.hid hx
      clear hx e0
      go_wp2_with fail
      go_ret
      exact ⟨ret_int (by rw [HX.out]), rfl⟩

theorem modulo_any (n : Int) (w : World) (h1 : -9223372036854775808 ≤ n) (h2 : n ≤ 9223372036854775807) :
    Calls Tryd.prog 64 #[.int .i64 n] w fun e w' => e = .returned (.int .i64 (n % 255)) ∧ w = w' := by
  by_cases h0 : 0 ≤ n
  · go_enter Tryd.func64, Tryd.ntmps64
    go_wp2_with fail
    go_ret
    exact ⟨rfl, rfl⟩
  · have e : n.tmod 255 = -((-n) % 255) := by
      have h := Int.neg_tmod (-n) 255
      rw [Int.neg_neg, Int.tmod_eq_emod_of_nonneg (a := -n) (by omega)] at h
      exact h
    have e2 : n.tmod 255 < 0 → n.tmod 255 + 255 = n % 255 := fun h => by rw [e] at h ⊢; omega
    have e3 : 0 ≤ n.tmod 255 → n.tmod 255 = n % 255 := fun h => by rw [e] at h ⊢; omega
    have hl : -255 < n.tmod 255 := by rw [e]; omega
    have H2 := Lib.hid e2
    have H3 := Lib.hid e3
    clear e e2 e3
    go_enter Tryd.func64, Tryd.ntmps64
    go_wp2_with fail
    · go_ret
      exact ⟨ret_int (H2.out (by assumption)), rfl⟩
    · go_ret
      exact ⟨ret_int (H3.out (by assumption)), rfl⟩

theorem power_any (a n : Int) (w : World) (hT : Tab w) (ha : 0 ≤ a) (ha' : a < 256) (hn : 0 ≤ n) (hn' : n < 1000) :
    Calls Tryd.prog 63 #[.int .u8 a, .int .i64 n] w fun e w' => e = .returned (.int .u8 (Gf.powN a.toNat n.toNat : Nat)) ∧ w = w' := by
  obtain ⟨a, rfl⟩ := Int.eq_ofNat_of_zero_le ha
  obtain ⟨n, rfl⟩ := Int.eq_ofNat_of_zero_le hn
  exact power_nat a n (by omega) (by omega) w hT

theorem exp_any (n : Int) (w : World) (hT : Tab w) (h1 : -9223372036854775808 ≤ n) (h2 : n ≤ 9223372036854775807) :
    Calls Tryd.prog 59 #[.int .i64 n] w fun e w' => e = .returned (.int .u8 (Gf.powN 2 (n % 255).toNat : Nat)) ∧ w = w' := by
  have HT := Lib.hid hT
  clear hT
  go_enter Tryd.func59, Tryd.ntmps59
  go_wp2_with fail
  refine (modulo_any n _ h1 h2).mono ?_
  rintro e w' ⟨rfl, rfl⟩
  go_wp2_with fail
  refine (power_any 2 (n % 255) _ HT.out (by omega) (by omega) (by omega) (by omega)).mono ?_
  rintro e w' ⟨rfl, rfl⟩
  go_wp2_with fail
  go_ret
  exact ⟨rfl, rfl⟩
end Go.Proofs.YtenafgphaceidaaDoor

/- THE SUMS OF LAYER 19, in plain terms: hauls, what is wrong with them, trees, their cost. -/
namespace Su
/-- A haul: the prices, the houses of the pieces, the house in which the sum is made. -/
structure Ha where
  pr : List (List Int)
  src : List Int
  tgt : Int
/-- The houses that send, of the first k pieces. -/
def sendTo (t : Int) (src : List Int) : Nat → List Int
  | 0 => []
  | k + 1 => if src.getD k 0 ≠ t ∧ src.getD k 0 ∉ sendTo t src k then sendTo t src k ++ [src.getD k 0] else sendTo t src k
theorem sendTo_zero (t : Int) (src : List Int) : sendTo t src 0 = [] := rfl
theorem sendTo_yes {t : Int} {src : List Int} {k : Nat} (h : src.getD k 0 ≠ t) (h2 : src.getD k 0 ∉ sendTo t src k) : sendTo t src (k + 1) = sendTo t src k ++ [src.getD k 0] := if_pos ⟨h, h2⟩
theorem sendTo_tgt {t : Int} {src : List Int} {k : Nat} (h : src.getD k 0 = t) : sendTo t src (k + 1) = sendTo t src k := if_neg fun e => e.1 h
theorem sendTo_in {t : Int} {src : List Int} {k : Nat} (h : src.getD k 0 ∈ sendTo t src k) : sendTo t src (k + 1) = sendTo t src k := if_neg fun e => e.2 h
theorem sendTo_mem (t : Int) (src : List Int) : ∀ k, k ≤ src.length → ∀ x, x ∈ sendTo t src k ↔ x ≠ t ∧ x ∈ src.take k
  | 0, _, x => by simp [sendTo]
  | k + 1, hk, x => by
    have ih := sendTo_mem t src k (by omega)
    have hg : src.getD k 0 = src[k] := by rw [List.getD_eq_getElem?_getD, List.getElem?_eq_getElem hk]; rfl
    have ht : src.take (k + 1) = src.take k ++ [src[k]] := List.take_succ_eq_append_getElem hk
    rw [ht]
    by_cases h1 : src.getD k 0 = t
    · rw [sendTo_tgt h1, ih, List.mem_append, List.mem_singleton]
      rw [hg] at h1
      constructor
      · rintro ⟨a, b⟩; exact ⟨a, .inl b⟩
      · rintro ⟨a, b | b⟩
        · exact ⟨a, b⟩
        · exact absurd (b.trans h1) a
    · by_cases h2 : src.getD k 0 ∈ sendTo t src k
      · rw [sendTo_in h2, ih, List.mem_append, List.mem_singleton]
        rw [hg] at h2
        constructor
        · rintro ⟨a, b⟩; exact ⟨a, .inl b⟩
        · rintro ⟨a, b | b⟩
          · exact ⟨a, b⟩
          · rw [b]; exact (ih _).1 h2
      · rw [sendTo_yes h1 h2, List.mem_append, List.mem_singleton, ih, List.mem_append, List.mem_singleton]
        rw [hg] at h1 ⊢
        constructor
        · rintro (⟨a, b⟩ | b)
          · exact ⟨a, .inl b⟩
          · exact ⟨by rw [b]; exact h1, .inr b⟩
        · rintro ⟨a, b | b⟩
          · exact .inl ⟨a, b⟩
          · exact .inr b
theorem sendTo_nodup (t : Int) (src : List Int) : ∀ k, (sendTo t src k).Nodup
  | 0 => List.nodup_nil
  | k + 1 => by
    have ih := sendTo_nodup t src k
    by_cases h1 : src.getD k 0 = t
    · rw [sendTo_tgt h1]; exact ih
    · by_cases h2 : src.getD k 0 ∈ sendTo t src k
      · rw [sendTo_in h2]; exact ih
      · rw [sendTo_yes h1 h2, List.nodup_append]
        refine ⟨ih, by simp, ?_⟩
        intro a ha b hb
        simp only [List.mem_singleton] at hb
        subst hb
        intro e
        rw [e] at ha
        exact h2 ha
def senders (h : Ha) : List Int := sendTo h.tgt h.src h.src.length
theorem senders_def (h : Ha) : senders h = sendTo h.tgt h.src h.src.length := rfl
theorem senders_mem (h : Ha) (x : Int) : x ∈ senders h ↔ x ≠ h.tgt ∧ x ∈ h.src := by
  rw [senders, sendTo_mem _ _ _ (Nat.le_refl _), List.take_length]
/-- A row of prices that is wrong. -/
def badRow (n : Nat) (r : List Int) : Prop := r.length ≠ n ∨ ∃ x ∈ r, x < -1 ∨ 1000000 < x
instance (n : Nat) (r : List Int) : Decidable (badRow n r) := by unfold badRow; infer_instance
def out (n : Nat) (a : Int) : Prop := a < 0 ∨ (n : Int) ≤ a
instance (n : Nat) (a : Int) : Decidable (out n a) := by unfold out; infer_instance
/-- The first error of a haul. -/
def check (h : Ha) : Int :=
  if h.pr.length < 1 ∨ 12 < h.pr.length then 2 else if ∃ r ∈ h.pr, badRow h.pr.length r then 1
  else if out h.pr.length h.tgt ∨ ∃ a ∈ h.src, out h.pr.length a then 1 else if 8 < (senders h).length then 2 else 0
theorem check_many {h : Ha} (h1 : h.pr.length < 1 ∨ 12 < h.pr.length) : check h = 2 := if_pos h1
theorem check_row {h : Ha} (h1 : ¬ (h.pr.length < 1 ∨ 12 < h.pr.length)) {r : List Int} (hr : r ∈ h.pr) (hb : badRow h.pr.length r) : check h = 1 := by
  rw [check, if_neg h1, if_pos ⟨r, hr, hb⟩]
theorem check_src {h : Ha} (h1 : ¬ (h.pr.length < 1 ∨ 12 < h.pr.length)) (h2 : ∀ r ∈ h.pr, ¬ badRow h.pr.length r) (h3 : out h.pr.length h.tgt ∨ ∃ a ∈ h.src, out h.pr.length a) : check h = 1 := by
  rw [check, if_neg h1, if_neg (by rintro ⟨r, hr, hb⟩; exact h2 r hr hb), if_pos h3]
theorem check_send {h : Ha} (h1 : ¬ (h.pr.length < 1 ∨ 12 < h.pr.length)) (h2 : ∀ r ∈ h.pr, ¬ badRow h.pr.length r) (h3 : ¬ (out h.pr.length h.tgt ∨ ∃ a ∈ h.src, out h.pr.length a)) :
    check h = if 8 < (senders h).length then 2 else 0 := by
  rw [check, if_neg h1, if_neg (by rintro ⟨r, hr, hb⟩; exact h2 r hr hb), if_neg h3]
/-- What a haul without an error is. -/
structure Ok (h : Ha) : Prop where
  one : 1 ≤ h.pr.length
  few : h.pr.length ≤ 12
  row : ∀ r ∈ h.pr, r.length = h.pr.length
  low : ∀ r ∈ h.pr, ∀ x ∈ r, -1 ≤ x ∧ x ≤ 1000000
  tgt : 0 ≤ h.tgt ∧ h.tgt < (h.pr.length : Int)
  src : ∀ a ∈ h.src, 0 ≤ a ∧ a < (h.pr.length : Int)
  send : (senders h).length ≤ 8
theorem ok_of {h : Ha} (hc : check h = 0) : Ok h := by
  unfold check at hc
  split at hc
  · cases hc
  · rename_i h1
    split at hc
    · cases hc
    · rename_i h2
      split at hc
      · cases hc
      · rename_i h3
        split at hc
        · cases hc
        · rename_i h4
          have hb : ∀ r ∈ h.pr, ¬ badRow h.pr.length r := fun r hr hb => h2 ⟨r, hr, hb⟩
          refine ⟨by omega, by omega, fun r hr => ?_, fun r hr x hx => ?_, ?_, fun a ha => ?_, by omega⟩
          · have := hb r hr
            unfold badRow at this
            omega
          · have := hb r hr
            have hn : ¬ (x < -1 ∨ 1000000 < x) := fun hq => this (.inr ⟨x, hx, hq⟩)
            omega
          · have : ¬ out h.pr.length h.tgt := fun hq => h3 (.inl hq)
            unfold out at this
            omega
          · have : ¬ out h.pr.length a := fun hq => h3 (.inr ⟨a, ha, hq⟩)
            unfold out at this
            omega
theorem check_ok {h : Ha} (k : Ok h) : check h = 0 := by
  rw [check, if_neg (by have := k.one; have := k.few; omega), if_neg, if_neg, if_neg (by have := k.send; omega)]
  · rintro (hq | ⟨a, ha, hq⟩)
    · have := k.tgt; unfold out at hq; omega
    · have := k.src a ha; unfold out at hq; omega
  · rintro ⟨r, hr, hq | ⟨x, hx, hq⟩⟩
    · exact hq (k.row r hr)
    · have := k.low r hr x hx; omega
attribute [irreducible] check senders sendTo
/-- The price from a house to another one. -/
def price (h : Ha) (a b : Int) : Int := (h.pr.getD a.toNat []).getD b.toNat 0
/-- The house to which a house sends. -/
def nextOf : List (Int × Int) → Int → Option Int
  | [], _ => none
  | x :: l, a => if x.1 = a then some x.2 else nextOf l a
theorem nextOf_snoc (l : List (Int × Int)) (x : Int × Int) (a : Int) : nextOf (l ++ [x]) a = (nextOf l a).or (if x.1 = a then some x.2 else none) := by
  induction l with
  | nil => simp [nextOf]
  | cons y l ih =>
    rw [List.cons_append, nextOf, nextOf, ih]
    split <;> simp
theorem nextOf_none {l : List (Int × Int)} {a : Int} : nextOf l a = none ↔ ∀ x ∈ l, x.1 ≠ a := by
  induction l with
  | nil => simp [nextOf]
  | cons y l ih =>
    rw [nextOf]
    split
    · rename_i h; simp [h]
    · rename_i h; rw [ih]; simp [h]
theorem nextOf_some {l : List (Int × Int)} {a b : Int} (h : nextOf l a = some b) : (a, b) ∈ l := by
  induction l with
  | nil => cases h
  | cons y l ih =>
    rw [nextOf] at h
    split at h
    · rename_i e
      injection h with h
      rw [← e, ← h]
      exact List.mem_cons_self
    · exact List.mem_cons_of_mem _ (ih h)
/-- A hop that a tree may have behind k others. -/
def badHop (h : Ha) (l : List (Int × Int)) (k : Nat) (x : Int × Int) : Prop :=
  x.1 < 0 ∨ (h.pr.length : Int) ≤ x.1 ∨ x.2 < 0 ∨ (h.pr.length : Int) ≤ x.2 ∨ x.1 = x.2 ∨ x.1 = h.tgt ∨ price h x.1 x.2 < 0 ∨ (0 < k ∧ x.1 ≤ (l.getD (k - 1) (0, 0)).1)
instance (h : Ha) (l : List (Int × Int)) (k : Nat) (x : Int × Int) : Decidable (badHop h l k x) := by unfold badHop; infer_instance
def hopsOk (h : Ha) (l : List (Int × Int)) : Prop := ∀ k, k < l.length → ¬ badHop h l k (l.getD k (0, 0))
instance (h : Ha) (l : List (Int × Int)) : Decidable (hopsOk h l) := by unfold hopsOk; infer_instance
/-- Where the sum of a house is after n steps, if those stay that do not send. -/
def go (l : List (Int × Int)) : Nat → Int → Int
  | 0, a => a
  | n + 1, a => (nextOf l (go l n a)).getD (go l n a)
theorem go_zero (l : List (Int × Int)) (a : Int) : go l 0 a = a := rfl
theorem go_some {l : List (Int × Int)} {n : Nat} {a b : Int} (h : nextOf l (go l n a) = some b) : go l (n + 1) a = b := by rw [go, h]; rfl
theorem go_none {l : List (Int × Int)} {n : Nat} {a : Int} (h : nextOf l (go l n a) = none) : go l (n + 1) a = go l n a := by rw [go, h]; rfl
/-- Is a list of hops a valid tree of a haul? -/
def valid (h : Ha) (l : List (Int × Int)) : Bool :=
  decide (check h = 0 ∧ hopsOk h l ∧ (∀ a ∈ senders h, nextOf l a ≠ none) ∧ ∀ x ∈ l, go l h.pr.length x.1 = h.tgt)
theorem valid_iff {h : Ha} {l : List (Int × Int)} : valid h l = true ↔ check h = 0 ∧ hopsOk h l ∧ (∀ a ∈ senders h, nextOf l a ≠ none) ∧ ∀ x ∈ l, go l h.pr.length x.1 = h.tgt := decide_eq_true_iff
theorem valid_no {h : Ha} {l : List (Int × Int)} (hn : ¬ (check h = 0 ∧ hopsOk h l ∧ (∀ a ∈ senders h, nextOf l a ≠ none) ∧ ∀ x ∈ l, go l h.pr.length x.1 = h.tgt)) : valid h l = false := decide_eq_false hn
theorem valid_err {h : Ha} {l : List (Int × Int)} (hc : check h ≠ 0) : valid h l = false := valid_no fun e => hc e.1
theorem valid_hop {h : Ha} {l : List (Int × Int)} {k : Nat} (hk : k < l.length) (hb : badHop h l k (l.getD k (0, 0))) : valid h l = false := valid_no fun e => e.2.1 k hk hb
theorem valid_send {h : Ha} {l : List (Int × Int)} {a : Int} (ha : a ∈ senders h) (hb : nextOf l a = none) : valid h l = false := valid_no fun e => e.2.2.1 a ha hb
theorem valid_go {h : Ha} {l : List (Int × Int)} {x : Int × Int} (hx : x ∈ l) (hb : go l h.pr.length x.1 ≠ h.tgt) : valid h l = false := valid_no fun e => hb (e.2.2.2 x hx)
/-- The cost of the first k hops. -/
def costTo (h : Ha) (l : List (Int × Int)) : Nat → Int
  | 0 => 0
  | k + 1 => costTo h l k + price h (l.getD k (0, 0)).1 (l.getD k (0, 0)).2
theorem costTo_zero (h : Ha) (l : List (Int × Int)) : costTo h l 0 = 0 := rfl
theorem costTo_succ (h : Ha) (l : List (Int × Int)) (k : Nat) : costTo h l (k + 1) = costTo h l k + price h (l.getD k (0, 0)).1 (l.getD k (0, 0)).2 := rfl
/-- What Cost returns. -/
def cost (h : Ha) (l : List (Int × Int)) : Int × Int :=
  if check h ≠ 0 then (0, check h) else if valid h l = false then (0, 22) else (costTo h l l.length, 0)
theorem cost_err {h : Ha} {l : List (Int × Int)} (hc : check h ≠ 0) : cost h l = (0, check h) := if_pos hc
theorem cost_bad {h : Ha} {l : List (Int × Int)} (hc : check h = 0) (hv : valid h l = false) : cost h l = (0, 22) := by rw [cost, if_neg (by simp [hc]), if_pos hv]
theorem cost_ok {h : Ha} {l : List (Int × Int)} (hv : valid h l = true) : cost h l = (costTo h l l.length, 0) := by
  rw [cost, if_neg (by simp [(valid_iff.1 hv).1]), if_neg (by simp [hv])]
theorem mem_at {l : List (Int × Int)} {x : Int × Int} (hx : x ∈ l) : ∃ k, k < l.length ∧ l.getD k (0, 0) = x := by
  obtain ⟨k, hk, rfl⟩ := List.getElem_of_mem hx
  exact ⟨k, hk, by rw [List.getD_eq_getElem?_getD, List.getElem?_eq_getElem hk]; rfl⟩
/-- Prices within a valid tree. -/
theorem price_bound {h : Ha} (k : Ok h) {a b : Int} (ha : 0 ≤ a ∧ a < (h.pr.length : Int)) (hb : 0 ≤ b ∧ b < (h.pr.length : Int)) : -1 ≤ price h a b ∧ price h a b ≤ 1000000 := by
  have h1 : a.toNat < h.pr.length := by omega
  have e1 : h.pr.getD a.toNat [] = h.pr[a.toNat] := by rw [List.getD_eq_getElem?_getD, List.getElem?_eq_getElem h1]; rfl
  unfold price
  rw [e1]
  have hr := List.getElem_mem h1
  have h2 : b.toNat < (h.pr[a.toNat]).length := by rw [k.row _ hr]; omega
  rw [List.getD_eq_getElem?_getD, List.getElem?_eq_getElem h2]
  exact k.low _ hr _ (List.getElem_mem h2)
theorem hop_fine {h : Ha} {l : List (Int × Int)} (hv : valid h l = true) {k : Nat} (hk : k < l.length) :
    (0 ≤ (l.getD k (0, 0)).1 ∧ (l.getD k (0, 0)).1 < (h.pr.length : Int)) ∧ (0 ≤ (l.getD k (0, 0)).2 ∧ (l.getD k (0, 0)).2 < (h.pr.length : Int)) ∧ 0 ≤ price h (l.getD k (0, 0)).1 (l.getD k (0, 0)).2 ∧ (l.getD k (0, 0)).1 ≠ h.tgt := by
  have := (valid_iff.1 hv).2.1 k hk
  unfold badHop at this
  omega
theorem cost_bounds {h : Ha} {l : List (Int × Int)} (hv : valid h l = true) : ∀ k, k ≤ l.length → 0 ≤ costTo h l k ∧ costTo h l k ≤ 1000000 * k
  | 0, _ => ⟨Int.le_refl _, Int.le_refl _⟩
  | k + 1, hk => by
    obtain ⟨h1, h2⟩ := cost_bounds hv k (by omega)
    obtain ⟨a, b, c, _⟩ := hop_fine hv (k := k) (by omega)
    have := price_bound (ok_of (valid_iff.1 hv).1) a b
    rw [costTo_succ]
    omega
/-- A valid tree has at most as many hops as there are houses. -/
theorem rising {h : Ha} {l : List (Int × Int)} (ho : hopsOk h l) : ∀ k, k < l.length → (k : Int) ≤ (l.getD k (0, 0)).1
  | 0, hk => by
    have := ho 0 hk
    unfold badHop at this
    omega
  | k + 1, hk => by
    have h1 := rising ho k (by omega)
    have := ho (k + 1) hk
    unfold badHop at this
    simp only [Nat.add_sub_cancel] at this
    omega
theorem hops_few {h : Ha} {l : List (Int × Int)} (ho : hopsOk h l) : l.length ≤ h.pr.length := by
  rcases Nat.eq_zero_or_pos l.length with h0 | h0
  · omega
  · have h1 := rising ho (l.length - 1) (by omega)
    have := ho (l.length - 1) (by omega)
    unfold badHop at this
    omega
end Su

/- THE ROWS THAT A CALL HAS MADE, all in one list: what each holds, that no two share a block, and that nothing older has turned. -/
namespace Go.Proofs.YtenafgphaceidaaDoor
open Go.RowKit

/-- A row: the slice value, its element type, cells to an element, the number of elements, the cells. -/
structure LRow where
  v : Value
  e : TypeId
  s : Nat
  n : Nat
  xs : List Value
def LRow.far (a b : LRow) : Prop := a.v.ownBlock = none ∨ a.v.ownBlock ≠ b.v.ownBlock
def LRow.ok (w0 w : World) (r : LRow) : Prop := w.ownsRow w0.heap.size r.e r.s r.v r.n r.xs
/-- No row. -/
def no : LRow := ⟨.slice none 0 0, 0, 1, 0, []⟩
/-- A nil slice. -/
def nilRow (e : TypeId) : LRow := ⟨.slice none 0 0, e, 1, 0, []⟩

structure Owns (w0 w : World) (L : List LRow) : Prop where
  ext : Ext w0 w
  ok : ∀ (i : Nat) (r : LRow), L[i]? = some r → r.ok w0 w
  far : ∀ (i j : Nat) (a b : LRow), i ≠ j → L[i]? = some a → L[j]? = some b → a.far b

section
variable {w0 w w' : World} {L : List LRow} {P : Program}
theorem no_ok (w0 w : World) : no.ok w0 w := World.ownsRow_nil _ _ _ _
theorem nilRow_ok (w0 w : World) (e : TypeId) : (nilRow e).ok w0 w := World.ownsRow_nil _ _ _ _
theorem LRow.far_none {a b : LRow} (h : b.v.ownBlock = none) : a.far b := by
  unfold LRow.far
  cases ha : a.v.ownBlock with
  | none => exact .inl rfl
  | some g => exact .inr (by rw [h]; simp)
theorem LRow.far_symm {a b : LRow} (h : a.far b) : b.far a := by
  unfold LRow.far at h ⊢
  rcases h with h | h
  · exact LRow.far_none h
  · exact .inr (Ne.symm h)

/-- At the call's beginning: rows that own nothing. -/
theorem Owns.start (w : World) (h : ∀ r ∈ L, r.v = .slice none 0 0 ∧ r.n = 0 ∧ r.xs = []) : Owns w w L where
  ext := Ext.refl w
  ok i r hr := by
    obtain ⟨h1, h2, h3⟩ := h r (List.mem_of_getElem? hr)
    unfold LRow.ok
    rw [h1, h2, h3]
    exact World.ownsRow_nil _ _ _ _
  far i j a b _ ha _ := .inl (by rw [(h a (List.mem_of_getElem? ha)).1]; rfl)

theorem Owns.move (h : Owns w0 w L) (hx : Ext w0 w') (hg : ∀ g, w0.heap.size ≤ g → g < w.heap.size → w'.heap[g]? = w.heap[g]?) : Owns w0 w' L where
  ext := hx
  ok i r hr := by
    have h1 := h.ok i r hr
    refine ⟨h1.1, ?_⟩
    rcases h1.2 with h2 | ⟨g, cap, cur, hv, hB, hh, rest⟩
    · exact .inl h2
    · exact .inr ⟨g, cap, cur, hv, hB, (hg g hB (lt_of_block hh)).trans hh, rest⟩
  far := h.far
theorem Owns.next (h : Owns w0 w L) (hx : Ext w w') : Owns w0 w' L := h.move (h.ext.trans hx) fun g _ hlt => Below.block hx g hlt
theorem Owns.alloc (h : Owns w0 w L) (o : Obj) : Owns w0 (w.alloc o) L := h.next ((Ext.refl w).alloc o)
theorem Owns.drew (h : Owns w0 w L) : Owns w0 w.drew L := h.next (Ext.refl w).drew
theorem Owns.drewN (h : Owns w0 w L) (n : Nat) : Owns w0 (w.drewN n) L := h.next ((Ext.refl w).drewN n)

/-- One row anew: of a new block, or of the block that it had; the other rows' blocks are as they were. -/
theorem Owns.put (h : Owns w0 w L) (i : Nat) (r' : LRow) (hx : Ext w0 w') (hr' : r'.ok w0 w')
    (hg : ∀ j r, j ≠ i → L[j]? = some r → ∀ g, r.v.ownBlock = some g → w'.heap[g]? = w.heap[g]?) (hf : ∀ j r, j ≠ i → L[j]? = some r → r'.far r) : Owns w0 w' (L.set i r') where
  ext := hx
  ok j r hr := by
    by_cases hj : j = i
    · subst hj
      rw [List.getElem?_set] at hr
      split at hr
      · split at hr
        · injection hr with hr; subst hr; exact hr'
        · cases hr
      · rename_i hne; exact absurd rfl hne
    · rw [List.getElem?_set_ne (Ne.symm hj)] at hr
      have h1 := h.ok j r hr
      refine ⟨h1.1, ?_⟩
      rcases h1.2 with h2 | ⟨g, cap, cur, hv, hB, hh, rest⟩
      · exact .inl h2
      · exact .inr ⟨g, cap, cur, hv, hB, (hg j r hj hr g (by rw [hv]; rfl)).trans hh, rest⟩
  far j k a b hjk ha hb := by
    by_cases hj : j = i
    · subst hj
      rw [List.getElem?_set_ne hjk] at hb
      rw [List.getElem?_set] at ha
      simp only [↓reduceIte] at ha
      split at ha
      · injection ha with ha; subst ha; exact hf k b (Ne.symm hjk) hb
      · cases ha
    · by_cases hk : k = i
      · subst hk
        rw [List.getElem?_set_ne (Ne.symm hj)] at ha
        rw [List.getElem?_set] at hb
        simp only [↓reduceIte] at hb
        split at hb
        · injection hb with hb; subst hb; exact LRow.far_symm (a := r') (b := a) (hf j a hj ha)
        · cases hb
      · rw [List.getElem?_set_ne (Ne.symm hj)] at ha
        rw [List.getElem?_set_ne (Ne.symm hk)] at hb
        exact h.far j k a b hjk ha hb

/-- A new block of cells, as a row. -/
theorem Owns.new (h : Owns w0 w L) (i : Nat) (cs : Array Value) (e : TypeId) (hm : cs.size ≤ maxLen) : Owns w0 (w.alloc (.cells cs e)) (L.set i ⟨.slice (some ⟨w.heap.size, 0, none⟩) cs.size cs.size, e, 1, cs.size, cs.toList⟩) := by
  have hlt : ∀ r : LRow, r.ok w0 w → ∀ g, r.v.ownBlock = some g → g < w.heap.size := fun r hr g hg => (World.ownsRow.lt hr g hg).2
  refine h.put i _ (h.ext.alloc _) ⟨by simp, .inr ⟨w.heap.size, cs.size, cs, rfl, h.ext.size, heap_new w _, Nat.le_refl _, hm, by simp, List.take_of_length_le (by simp)⟩⟩ ?_ ?_
  · intro j r _ hr g hg
    exact Below.heap_alloc w _ g (hlt r (h.ok j r hr) g hg)
  · intro j r _ hr
    refine .inr ?_
    intro he
    have := hlt r (h.ok j r hr) w.heap.size he.symm
    omega

theorem Owns.wider (h : Owns w0 w L) : Owns w0 w (L ++ [no]) where
  ext := h.ext
  ok i r hr := by
    rw [List.getElem?_append] at hr
    split at hr
    · exact h.ok i r hr
    · have : r = no := by
        cases hk : i - L.length with
        | zero => rw [hk] at hr; simpa using hr.symm
        | succ k => rw [hk] at hr; simp at hr
      subst this
      exact no_ok _ _
  far i j a b hij ha hb := by
    rw [List.getElem?_append] at ha hb
    split at ha
    · split at hb
      · exact h.far i j a b hij ha hb
      · have : b = no := by
          cases hk : j - L.length with
          | zero => rw [hk] at hb; simpa using hb.symm
          | succ k => rw [hk] at hb; simp at hb
        subst this
        exact LRow.far_none rfl
    · have : a = no := by
        cases hk : i - L.length with
        | zero => rw [hk] at ha; simpa using ha.symm
        | succ k => rw [hk] at ha; simp at ha
      subst this
      exact .inl rfl
/-- One, two, three new blocks of one cell each, as rows behind the others. -/
theorem Owns.push1 {u : Value} {e : TypeId} (h : Owns w0 w L) : Owns w0 (w.alloc (.cells #[u] e)) (L ++ [⟨.slice (some ⟨w.heap.size, 0, none⟩) 1 1, e, 1, 1, [u]⟩]) := by
  have := h.wider.new L.length #[u] e (by simp [maxLen])
  simpa using this
theorem Owns.row (h : Owns w0 w L) (i : Nat) {v : Value} {e s n : Nat} {xs : List Value} (hi : L[i]? = some ⟨v, e, s, n, xs⟩) : w.ownsRow w0.heap.size e s v n xs := h.ok i _ hi
/-- A cell of a row. -/
theorem Owns.cell (h : Owns w0 w L) (i : Nat) {g n c e s : Nat} {xs : List Value} (hi : L[i]? = some ⟨.slice (some ⟨g, 0, none⟩) n c, e, s, n, xs⟩) (k : Nat) {u : Value} (hu : xs[k]? = some u) : w.cell? ⟨g, k, none⟩ = some u := by
  have h1 := h.row i hi
  have hk : k < n * s := by
    have := h1.1
    rcases Nat.lt_or_ge k xs.length with h2 | h2
    · omega
    · rw [List.getElem?_eq_none h2] at hu; cases hu
  rw [h1.cellAt k hk]; exact hu
theorem Owns.frozen (h : Owns w0 w L) (i : Nat) {g n c e s : Nat} {xs : List Value} (hi : L[i]? = some ⟨.slice (some ⟨g, 0, none⟩) n c, e, s, n, xs⟩) (k : Nat) : w.frozen? ⟨g, k, none⟩ = false := (h.row i hi).frozenAt k
theorem Owns.rd (h : Owns w0 w L) (i : Nat) {A : Option Addr} {n c e : Nat} {xs : List Value} (hi : L[i]? = some ⟨.slice A n c, e, 1, n, xs⟩) : Rd w A xs := own_rd (h.row i hi)
/-- A store into a row. -/
theorem Owns.store (h : Owns w0 w L) (i : Nat) {g n c e s : Nat} {xs : List Value} (hi : L[i]? = some ⟨.slice (some ⟨g, 0, none⟩) n c, e, s, n, xs⟩) (k : Nat) (u : Value) :
    Owns w0 (w.setCell ⟨g, k, none⟩ u) (L.set i ⟨.slice (some ⟨g, 0, none⟩) n c, e, s, n, xs.set k u⟩) := by
  have h1 := h.row i hi
  have hB := (h1.lt g rfl).1
  refine h.put i _ (h.ext.setCell hB u) (h1.stored k u).1 ?_ ?_
  · intro j r hj hr g' hg'
    refine Below.heap_setCell _ _ _ _ ?_
    rintro rfl
    have := h.far j i _ _ hj hr hi
    rcases this with h2 | h2
    · rw [hg'] at h2; cases h2
    · exact h2 hg'
  · intro j r hj hr
    have := h.far i j _ _ (Ne.symm hj) hi hr
    exact this
/-- A row that is given up. -/
theorem Owns.drop (h : Owns w0 w L) (i : Nat) : Owns w0 w (L.set i no) :=
  h.put i no h.ext (no_ok _ _) (fun _ _ _ _ _ _ => rfl) fun _ _ _ _ => .inl rfl

/-- 'out = append(out, xs...)' onto a row. -/
theorem run_append_owns (t ty e : TypeId) {z : Value} {s bytes : Nat} (ht : P.underlying t = some (.slice e)) (hi : (P.info? e).map (fun i => (i.zero, i.size, i.bytes)) = some (some z, s, bytes)) (hzs : z.cells.size = s) (hs : 0 < s)
    (h : Owns w0 w L) (i : Nat) {v : Value} {n : Nat} {xs : List Value} (hL : L[i]? = some ⟨v, e, s, n, xs⟩)
    (ad : Addr) (m c : Nat) (news : List Value) (hl : news.length = m * s) (hnews : ∀ j u, news[j]? = some u → w.cell? (ad.add j) = some u) (h1 : ∀ u ∈ news, u.oneCell' = true) (hm : 0 < m)
    (h63 : n + m ≤ maxLen) (hb : (n + m) * bytes ≤ 140737488355328) :
    ∃ g cap w', (Builtin.append_ #[t, t] ty #[v, .slice (some ad) m c]).run P w = .ok (.slice (some ⟨g, 0, none⟩) (n + m) cap) w' ∧ Owns w0 w' (L.set i ⟨.slice (some ⟨g, 0, none⟩) (n + m) cap, e, s, n + m, xs ++ news⟩) ∧ Ext w0 w' ∧ w.grownBy w' v.ownBlock := by
  obtain ⟨i0, hi0, hiz, hi1, hi2⟩ := info_parts hi
  have hown := h.row i hL
  obtain ⟨g, cap, w', hr, h2, h3, h4, h5⟩ := run_append_lies (P := P) w t ty w0.heap.size e i0 z s bytes ht hi0 hiz hi1 hi2 hzs hs v n xs hown ad m c news hl hnews h1 hm h63 hb h.ext.size _ rfl
  have hx : Ext w0 w' := h.ext.grown h3 (fun k hk => own_ge hown k hk)
  refine ⟨g, cap, w', hr, h.put i _ hx h2 ?_ ?_, hx, h3⟩
  · intro j r hj hrr g' hg'
    have hok := h.ok j r hrr
    refine h3.block g' (World.ownsRow.lt hok g' hg').2 ?_
    have hf := h.far j i r _ hj hrr hL
    rcases hf with hf | hf
    · rw [hg'] at hf; cases hf
    · rw [← hg']; exact hf
  · intro j r hj hrr
    have hf := h.far i j _ r (Ne.symm hj) hL hrr
    rcases h4 with h4 | h4
    · rcases hf with hf | hf
      · simp only at hf; rw [h4] at hf; cases hf
      · refine .inr ?_
        show some g ≠ _
        rw [← h4]; exact hf
    · refine .inr ?_
      show some g ≠ _
      intro he
      have := (World.ownsRow.lt (h.ok j r hrr) g he.symm).2
      omega
/-- The same at the list of a region's operations, one element. -/
theorem wpl_append_owns {ops : Array Oper} {rest : List Oper} {o : Oper} {a : Act} {Q : Exit → Act → World → Prop} (t e : TypeId) (hgd : o.guard = none) (s x : Operand)
    (ho : o.op = .call { callee := .builtin .append, args := #[s, x], argTypes := #[t, t] })
    {z : Value} {bytes : Nat} (ht : P.underlying t = some (.slice e)) (hi : (P.info? e).map (fun i => (i.zero, i.size, i.bytes)) = some (some z, 1, bytes)) (hzs : z.cells.size = 1)
    (h : Owns w0 w L) (i : Nat) {v : Value} {n : Nat} {xs : List Value} (hL : L[i]? = some ⟨v, e, 1, n, xs⟩) (hs : a.eval s = v) {g0 : Nat} {u : Value}
    (hx : a.eval x = .slice (some ⟨g0, 0, none⟩) 1 1) (hu : w.cell? ⟨g0, 0, none⟩ = some u) (h1 : u.oneCell' = true) (hm : n < 1000000000000) (hb : bytes ≤ 100)
    (hK : ∀ g cap w', Owns w0 w' (L.set i ⟨.slice (some ⟨g, 0, none⟩) (n + 1) cap, e, 1, n + 1, xs ++ [u]⟩) → w.grownBy w' v.ownBlock → wpList P ops Q rest (a.put o.dst (.slice (some ⟨g, 0, none⟩) (n + 1) cap)) w') :
    wpList P ops Q (o :: rest) a w := by
  refine wpList_plain hgd fun K hK' => ?_
  have hbb : (n + 1) * bytes ≤ (n + 1) * 100 := Nat.mul_le_mul_left _ hb
  obtain ⟨g, cap, w', hr, h2, _, h3⟩ := run_append_owns (P := P) t o.type e ht hi hzs (by decide) h i hL ⟨g0, 0, none⟩ 1 1 [u] rfl (fun j y hj => by
    match j, hj with
    | 0, hj => simp at hj; subst hj; exact hu) (fun y hy => by simp at hy; subst hy; exact h1) (by decide) (by unfold maxLen; omega) (by omega)
  unfold Oper.wp execOp
  simp only [ho, resolve, invoke, builtin, Sem.run_bind, Sem.run_pure, Result.andThen_ok, List.map_toArray, List.map_cons, List.map_nil, hs, hx, hr]
  exact hK' _ _ (hK g cap w' h2 h3)
/-- '[]T{x}' laid in a block of its own. -/
theorem run_build_one {t e : TypeId} {z : Value} {bytes : Nat} (ht : P.underlying t = some (.slice e)) (hi : (P.info? e).map (fun i => (i.zero, i.size, i.bytes)) = some (some z, 1, bytes)) (w : World) (u : Value) (hu : u.cells = #[u]) :
    (Instr.buildSlice t 1 #[(0, u)]).run P w = .ok (.slice (some ⟨w.heap.size, 0, none⟩) 1 1) (w.alloc (.cells #[u] e)) := by
  obtain ⟨i0, hi0, hiz, hi1, hi2⟩ := info_parts hi
  simp [Instr.buildSlice, run_underlying ht, sizeOf, typeInfo, hi0, hi1, zeroValue, hiz, Instr.fill, hu]
  rw [show (Array.map (fun x => z.cells[x % z.cells.size]!) (Array.range 1)).setIfInBounds 0 u = #[u] from by apply Array.ext'; simp [Array.toList_range, List.range_succ]]
  rfl
end
end Go.Proofs.YtenafgphaceidaaDoor

/- ROWS THAT A CALL HAS MADE: their order, and which are named, is free. A call as a step of a region that draws. -/
namespace Go.Proofs.YtenafgphaceidaaDoor
open Go.RowKit
theorem Owns.pairwise {w0 w : World} {L : List LRow} (h : Owns w0 w L) : L.Pairwise LRow.far :=
  List.pairwise_iff_getElem.2 fun i j hi hj hij => h.far i j _ _ (by omega) (List.getElem?_eq_getElem hi) (List.getElem?_eq_getElem hj)
theorem Owns.all {w0 w : World} {L : List LRow} (h : Owns w0 w L) : ∀ r ∈ L, r.ok w0 w := fun r hr => by
  obtain ⟨i, hi, rfl⟩ := List.getElem_of_mem hr
  exact h.ok i _ (List.getElem?_eq_getElem hi)
theorem Owns.of_pairwise {w0 w : World} {L : List LRow} (hx : Ext w0 w) (ho : ∀ r ∈ L, r.ok w0 w) (hp : L.Pairwise LRow.far) : Owns w0 w L where
  ext := hx
  ok i r hr := ho r (List.mem_of_getElem? hr)
  far i j a b hij ha hb := by
    obtain ⟨hi, rfl⟩ := List.getElem?_eq_some_iff.1 ha
    obtain ⟨hj, rfl⟩ := List.getElem?_eq_some_iff.1 hb
    rcases Nat.lt_or_ge i j with h1 | h1
    · exact List.pairwise_iff_getElem.1 hp i j hi hj h1
    · exact LRow.far_symm (List.pairwise_iff_getElem.1 hp j i hj hi (by omega))
theorem Owns.sublist {w0 w : World} {L L' : List LRow} (h : Owns w0 w L) (hp : L'.Sublist L) : Owns w0 w L' :=
  Owns.of_pairwise h.ext (fun r hr => h.all r (hp.subset hr)) (h.pairwise.sublist hp)
end Go.Proofs.YtenafgphaceidaaDoor

/- THE FIELD OVER BYTES: what the walks return, as bytes and strings of bytes. No program in sight. -/
namespace Gf
/-- The product of two bytes. -/
def mul (a b : UInt8) : UInt8 := UInt8.ofNat (mulN a.toNat b.toNat)
theorem lt8 (a : UInt8) : a.toNat < 256 := a.toNat_lt
theorem mul_toNat (a b : UInt8) : (mul a b).toNat = mulN a.toNat b.toNat := by
  unfold mul
  have := mulN_lt (a := a.toNat) (b := b.toNat) (lt8 a)
  simp
  omega
theorem mulI_toNat (a b : UInt8) : mulI (a.toNat : Int) (b.toNat : Int) = ((mul a b).toNat : Int) := by rw [mulI_nat, mul_toNat]
theorem mul_comm (a b : UInt8) : mul a b = mul b a := by rw [← UInt8.toNat_inj, mul_toNat, mul_toNat, mulN_comm (lt8 a) (lt8 b)]
theorem mul_assoc (a b c : UInt8) : mul (mul a b) c = mul a (mul b c) := by rw [← UInt8.toNat_inj]; simp only [mul_toNat]; exact mulN_assoc (lt8 a) (lt8 b) (lt8 c)
theorem mul_zero (a : UInt8) : mul a 0 = 0 := by rw [← UInt8.toNat_inj, mul_toNat]; exact mulN_zero2 _
theorem zero_mul (a : UInt8) : mul 0 a = 0 := by rw [mul_comm, mul_zero]
theorem mul_one (a : UInt8) : mul a 1 = a := by rw [← UInt8.toNat_inj, mul_toNat]; exact mulN_one2 (lt8 a)
theorem one_mul (a : UInt8) : mul 1 a = a := by rw [mul_comm, mul_one]
theorem mul_xor (a b c : UInt8) : mul a (b ^^^ c) = mul a b ^^^ mul a c := by rw [← UInt8.toNat_inj]; simp only [mul_toNat, UInt8.toNat_xor]; exact mulN_lin2 _ _ _ (lt8 b) (lt8 c)
theorem xor_mul (a b c : UInt8) : mul (a ^^^ b) c = mul a c ^^^ mul b c := by rw [mul_comm, mul_xor, mul_comm c a, mul_comm c b]
/-- The inverse; 0 for 0. -/
def inv (a : UInt8) : UInt8 := UInt8.ofNat (invN a.toNat)
theorem xor_assoc (a b c : UInt8) : a ^^^ b ^^^ c = a ^^^ (b ^^^ c) := UInt8.xor_assoc a b c
theorem xor_comm (a b : UInt8) : a ^^^ b = b ^^^ a := UInt8.xor_comm a b

/-- The sum of two strings, the shorter one filled up with zeros. -/
def sum (s t : List UInt8) : List UInt8 := (List.range (max s.length t.length)).map fun k => s.getD k 0 ^^^ t.getD k 0
def scale (c : UInt8) (s : List UInt8) : List UInt8 := s.map (mul c)
/-- The byte at place k of the sum of the strings with coefficients, from the first n of them. -/
def comb (coef : List UInt8) (parts : List (List UInt8)) (k : Nat) : Nat → UInt8
  | 0 => 0
  | n + 1 => comb coef parts k n ^^^ mul (coef.getD n 0) ((parts.getD n []).getD k 0)
/-- Combine's string. -/
def combine (coef : List UInt8) (parts : List (List UInt8)) : List UInt8 := (List.range (parts.headD []).length).map fun k => comb coef parts k coef.length
/-- Whether Combine takes its arguments. -/
def combOk (coef : List UInt8) (parts : List (List UInt8)) : Bool := coef.length == parts.length && parts.all fun p => p.length == (parts.headD []).length
/-- Both results of Combine. -/
def combS (coef : List UInt8) (parts : List (List UInt8)) : List UInt8 := if combOk coef parts then combine coef parts else []
def combE (coef : List UInt8) (parts : List (List UInt8)) : Int := if combOk coef parts then 0 else 1
theorem combS_ok {coef : List UInt8} {parts : List (List UInt8)} (h : combOk coef parts = true) : combS coef parts = combine coef parts := if_pos h
theorem combS_no {coef : List UInt8} {parts : List (List UInt8)} (h : combOk coef parts = false) : combS coef parts = [] := if_neg (by rw [h]; simp)
theorem combE_ok {coef : List UInt8} {parts : List (List UInt8)} (h : combOk coef parts = true) : combE coef parts = 0 := if_pos h
theorem combE_no {coef : List UInt8} {parts : List (List UInt8)} (h : combOk coef parts = false) : combE coef parts = 1 := if_neg (by rw [h]; simp)
theorem combOk_ne {coef : List UInt8} {parts : List (List UInt8)} (h : coef.length ≠ parts.length) : combOk coef parts = false := by
  unfold combOk
  rw [show (coef.length == parts.length) = false from by simpa using h]
  rfl
attribute [irreducible] combS combE mul inv
end Gf

/- THE WALKS over the strings of package gf: build, Sum, Scale, Combine and their closures. -/
namespace Go.Proofs.YtenafgphaceidaaDoor
open Go.RowKit

theorem info_u8 : (Tryd.prog.info? 5).map (fun i => (i.zero, i.size, i.bytes)) = some (some (.int .u8 0), 1, 1) := by kernel_rfl

theorem str_u8 {w : World} {A : Option Addr} {l : List UInt8} {c n : Nat} (hn : n = l.length) (h : Rd w A (l.map bv)) :
    (convert 44 9 (.slice A n c)).run Tryd.prog w = .ok (.string (sb l)) w := run_str Tryd.underlying44 Tryd.underlying5 Tryd.underlying9 hn h

def part (n k : Nat) (g : Nat → UInt8) : List Value := (List.range k).map (fun j => bv (g j)) ++ List.replicate (n - k) (.int .u8 0)
theorem part_set {n k : Nat} (g : Nat → UInt8) (h : k < n) : (part n k g).set k (bv (g k)) = part n (k + 1) g := by
  unfold part
  obtain ⟨m, rfl⟩ : ∃ m, n = k + 1 + m := ⟨n - (k + 1), by omega⟩
  rw [show k + 1 + m - k = m + 1 from by omega, show k + 1 + m - (k + 1) = m from by omega, List.set_append_right _ _ (by simp), List.range_succ]
  simp [List.replicate_succ]
theorem part_length {n k : Nat} (g : Nat → UInt8) (h : k ≤ n) : (part n k g).length = n := by simp [part]; omega
theorem part_zero (n : Nat) (g : Nat → UInt8) : part n 0 g = List.replicate n (.int .u8 0) := by simp [part]
theorem part_full (n : Nat) (g : Nat → UInt8) : part n n g = ((List.range n).map g).map bv := by simp [part]

/-- build, over whatever function value that only computes. -/
theorem build_any (n : Nat) (hn : n ≤ 140737488351232) (F : FuncId) (cap : Array Value) (g : Nat → UInt8) (w : World) (hE : ∀ args w, (callFunc F args).run Tryd.prog w = .ok (.enter F args) w)
    (hF : ∀ k, k < n → ∀ w', Ext w w' → Calls Tryd.prog F (#[.int .i64 k] ++ cap) w' fun e w'' => e = .returned (bv (g k)) ∧ Ext w' w'') :
    Calls Tryd.prog 41 #[.int .i64 n, .func (.func F) #[] cap] w fun e w' => e = .returned (.string (sb ((List.range n).map g))) ∧ Ext w w' := by
  have HF := Lib.hid hF
  clear hF
  obtain ⟨i0, hi, hz0, hz1, hz2⟩ := info_parts info_u8
  have HZ := Lib.hid hz2
  clear hz2
  go_enter Tryd.func41, Tryd.ntmps41
  go_wp2_with (refine wpList_make_full _ rfl (.tmp 7) (.tmp 7) 44 rfl w.heap.size 5 i0 (.int .u8 0) 1 Tryd.underlying44 hi hz0 hz1 _ _ _ _ n rfl rfl rfl rfl (by rw [HZ.out]; omega) (by unfold maxLen; omega) (Nat.le_refl _) ?_; intro w1 hown hgrow)
  have hx : Ext w w1 := (Ext.refl w).grown hgrow (fun k h => by cases h)
  have hsz : w.heap.size < w1.heap.size := by
    have := hown.lt w.heap.size rfl
    omega
  have hown' : w1.ownsRow w.heap.size 5 1 (.slice (some ⟨w.heap.size, 0, none⟩) n n) n (part n 0 g) := by
    rw [part_zero, ← toList_madeCells_one]
    simpa [Value.cells] using hown
  have H0 := Lib.hid (And.intro hx hown')
  clear hown hown' hgrow hx
  go_loopw [10] (fun vi wr => ∃ k : Nat, k ≤ n ∧ vi = .int .i64 k ∧ Hid (Ext w wr ∧ wr.ownsRow w.heap.size 5 1 (.slice (some ⟨w.heap.size, 0, none⟩) n n) n (part n k g))) (fun vi _ => n - (intOf vi).toNat)
  case atStart => exact ⟨0, Nat.zero_le _, rfl, H0.out⟩
  case round =>
    obtain ⟨k, hk, rfl, HR⟩ := hrel
    by_cases hlt : k < n
    · go_wp2_with fail
      refine (HF.out k hlt wr HR.out.1).mono ?_
      rintro e w2 ⟨rfl, hx2⟩
      have hown2 : w2.ownsRow w.heap.size 5 1 (.slice (some ⟨w.heap.size, 0, none⟩) n n) n (part n k g) := own_ext HR.out.2 hx2
      have hc := hown2.cellAt k (by omega)
      rw [List.getElem?_eq_getElem (by rw [part_length g hk]; exact hlt)] at hc
      have hf := hown2.frozenAt k
      have hst := (hown2.stored k (bv (g k))).1
      rw [part_set g hlt] at hst
      have hx3 : Ext w w2 := HR.out.1.trans hx2
      have HS := Lib.hid (And.intro hx3 hst)
      clear hown2 hst hx3 hx2
      go_wp2_with fail
      go_roundw
      case rel => exact ⟨k + 1, by omega, by go_num, HS.out.1.setCell (Nat.le_refl _) _, HS.out.2⟩
      case measure => simp [intOf]; omega
    · obtain rfl : k = n := by omega
      have hrun := str_u8 (n := k) (c := k) (A := some ⟨w.heap.size, 0, none⟩) (w := wr) (l := (List.range k).map g) (by simp) (by
        have := Rd.of_own (w := wr) (B := w.heap.size) (e := 5) (c := k) (A := some ⟨w.heap.size, 0, none⟩) (xs := part k k g) (by rw [part_length g hk]; exact HR.out.2)
        rw [part_full] at this
        exact this)
      go_wp2_with fail
      go_ret
      exact ⟨rfl, HR.out.1⟩

theorem getD_bl (s : ByteArray) (k : Nat) (h : k < s.size) : (bl s).getD k 0 = s[k] := by
  rw [get_bl s k h, List.getD_eq_getElem?_getD, List.getElem?_eq_getElem (by rw [← size_bl]; exact h)]
  rfl
theorem getD_bl_out (s : ByteArray) (k : Nat) (h : s.size ≤ k) : (bl s).getD k 0 = 0 := by
  rw [List.getD_eq_getElem?_getD, List.getElem?_eq_none (by rw [← size_bl]; exact h)]
  rfl

/-- The sum's closure: the byte at one place. -/
theorem sum1_any (k P1 P2 : Nat) (a b : ByteArray) (w : World) (hk : k < a.size)
    (h1 : w.cell? ⟨P1, 0, none⟩ = some (.string b)) (h2 : w.cell? ⟨P2, 0, none⟩ = some (.string a)) :
    Calls Tryd.prog 49 #[.int .i64 k, .pointer (some ⟨P1, 0, none⟩), .pointer (some ⟨P2, 0, none⟩)] w fun e w' => e = .returned (bv ((bl a).getD k 0 ^^^ (bl b).getD k 0)) ∧ Ext w w' := by
  have eA := getD_bl a k hk
  by_cases hlt : k < b.size
  · have eB := getD_bl b k hlt
    have hx : bits .xor .u8 (((a[k]'hk).toNat : Nat) : Int) (((b[k]'hlt).toNat : Nat) : Int) = (((bl a).getD k 0 ^^^ (bl b).getD k 0).toNat : Int) := by
      rw [u8_xor_nat _ _ (Gf.lt8 _) (Gf.lt8 _), eA, eB, UInt8.toNat_xor]
    have HX := Lib.hid hx
    clear hx eA eB
    go_enter Tryd.func49, Tryd.ntmps49
    go_wp2_with fail
    go_quiet (fail)
    go_wp2_with fail
    go_ret
    exact ⟨ret_int HX.out, (Ext.refl _).drewN _⟩
  · have eB := getD_bl_out b k (by omega)
    have hx : (((a[k]'hk).toNat : Nat) : Int) = (((bl a).getD k 0 ^^^ (bl b).getD k 0).toNat : Int) := by
      rw [eA, eB, UInt8.xor_zero]
    have HX := Lib.hid hx
    clear hx eA eB
    go_enter Tryd.func49, Tryd.ntmps49
    go_wp2_with fail
    go_ret
    exact ⟨ret_int HX.out, Ext.refl _⟩

theorem enters49 : ∀ args w, (callFunc 49 args).run Tryd.prog w = .ok (.enter 49 args) w := enters_of Tryd.func49 (by kernel_rfl) rfl
theorem sum_any (a b : ByteArray) (w : World) (ha : a.size ≤ 140737488351232) (hb : b.size ≤ 140737488351232) :
    Calls Tryd.prog 38 #[.string a, .string b] w fun e w' => e = .returned (.string (sb (Gf.sum (bl a) (bl b)))) ∧ Ext w w' := by
  by_cases hlt : a.size < b.size
  · have hr : (List.range b.size).map (fun k => (bl b).getD k 0 ^^^ (bl a).getD k 0) = Gf.sum (bl a) (bl b) := by
      unfold Gf.sum
      rw [← size_bl, ← size_bl, show max a.size b.size = b.size from by omega]
      exact List.map_congr_left fun k _ => UInt8.xor_comm _ _
    have HR := Lib.hid hr
    clear hr
    go_enter Tryd.func38, Tryd.ntmps38
    go_wp2_with fail
    refine (build_any b.size hb _ _ (fun k => (bl b).getD k 0 ^^^ (bl a).getD k 0) _ enters49 ?_).mono ?_
    · intro k hk w' hx
      exact sum1_any k _ _ b a w' hk (hx.cell (by go_simp)) (hx.cell (by go_simp))
    rintro e w1 ⟨rfl, hx⟩
    go_wp2_with fail
    go_ret
    exact ⟨by rw [← HR.out]; rfl, Ext.trans (((Ext.refl _).alloc _).alloc _) hx⟩
  · have hr : (List.range a.size).map (fun k => (bl a).getD k 0 ^^^ (bl b).getD k 0) = Gf.sum (bl a) (bl b) := by
      unfold Gf.sum
      rw [← size_bl, ← size_bl, show max a.size b.size = a.size from by omega]
    have HR := Lib.hid hr
    clear hr
    go_enter Tryd.func38, Tryd.ntmps38
    go_wp2_with fail
    refine (build_any a.size ha _ _ (fun k => (bl a).getD k 0 ^^^ (bl b).getD k 0) _ enters49 ?_).mono ?_
    · intro k hk w' hx
      exact sum1_any k _ _ a b w' hk (hx.cell (by go_simp)) (hx.cell (by go_simp))
    rintro e w1 ⟨rfl, hx⟩
    go_wp2_with fail
    go_ret
    exact ⟨by rw [← HR.out]; rfl, Ext.trans (((Ext.refl _).alloc _).alloc _) hx⟩

theorem mul_u8 (a b : UInt8) (w : World) (hT : Tab w) : Calls Tryd.prog 43 #[bv a, bv b] w fun e w' => e = .returned (bv (Gf.mul a b)) ∧ w = w' := by
  refine (mul_any _ _ w hT (by omega) (by have := Gf.lt8 a; omega) (by omega) (by have := Gf.lt8 b; omega)).mono ?_
  rintro e w' ⟨rfl, rfl⟩
  exact ⟨by rw [Gf.mulI_toNat], rfl⟩
theorem Tab.drewN {w : World} (h : Tab w) (n : Nat) : Tab (w.drewN n) := h

theorem scale1_any (k P1 P2 : Nat) (c : UInt8) (s : ByteArray) (w : World) (hT : Tab w) (hk : k < s.size)
    (h1 : w.cell? ⟨P1, 0, none⟩ = some (bv c)) (h2 : w.cell? ⟨P2, 0, none⟩ = some (.string s)) :
    Calls Tryd.prog 50 #[.int .i64 k, .pointer (some ⟨P1, 0, none⟩), .pointer (some ⟨P2, 0, none⟩)] w fun e w' => e = .returned (bv (Gf.mul c ((bl s).getD k 0))) ∧ Ext w w' := by
  have HT := Lib.hid hT
  clear hT
  rw [getD_bl s k hk]
  go_enter Tryd.func50, Tryd.ntmps50
  go_wp2_with fail
  go_quiet ((go_at_call 43; first | exact quiet_left (mul_u8 _ _ _ (HT.out.drewN _)) | exact quiet_add_left (mul_u8 _ _ _ (HT.out.drewN _))))
  go_wp2_with fail
  go_ret
  exact ⟨rfl, (Ext.refl _).drewN _⟩
theorem enters50 : ∀ args w, (callFunc 50 args).run Tryd.prog w = .ok (.enter 50 args) w := enters_of Tryd.func50 (by kernel_rfl) rfl
theorem scale_any (c : UInt8) (s : ByteArray) (w : World) (hT : Tab w) (hs : s.size ≤ 140737488351232) :
    Calls Tryd.prog 39 #[bv c, .string s] w fun e w' => e = .returned (.string (sb (Gf.scale c (bl s)))) ∧ Ext w w' := by
  have hr : (List.range s.size).map (fun k => Gf.mul c ((bl s).getD k 0)) = Gf.scale c (bl s) := by
    unfold Gf.scale
    apply List.ext_getElem
    · simp [size_bl]
    · intro k h1 h2
      simp
      congr 1
      simp at h2
      rw [List.getElem?_eq_getElem h2]; rfl
  have HR := Lib.hid hr
  have HT := Lib.hid hT
  clear hr hT
  go_enter Tryd.func39, Tryd.ntmps39
  go_wp2_with fail
  refine (build_any s.size hs _ _ (fun k => Gf.mul c ((bl s).getD k 0)) _ enters50 ?_).mono ?_
  · intro k hk w' hx
    exact scale1_any k _ _ c s w' ((HT.out.ext (((Ext.refl _).alloc _).alloc _)).ext hx) hk (hx.cell (by go_simp)) (hx.cell (by go_simp))
  rintro e w1 ⟨rfl, hx⟩
  go_wp2_with fail
  go_ret
  exact ⟨by rw [← HR.out]; rfl, Ext.trans (((Ext.refl _).alloc _).alloc _) hx⟩

end Go.Proofs.YtenafgphaceidaaDoor

/- THE WALKS over the small functions of package sums: senders, Check, and the library's functions that they call. -/
namespace Su
theorem nodup_len : ∀ (n : Nat) (l : List Int), l.Nodup → (∀ x ∈ l, 0 ≤ x ∧ x < (n : Int)) → l.length ≤ n
  | 0, l, _, h => by
    cases l with
    | nil => exact Nat.le_refl _
    | cons x l => have := h x List.mem_cons_self; omega
  | n + 1, l, hd, h => by
    have h1 := nodup_len n (l.erase (n : Int)) (hd.erase _) fun x hx => by
      have h2 := (hd.mem_erase_iff).1 hx
      have := h x h2.2
      have := h2.1
      omega
    by_cases hm : (n : Int) ∈ l
    · rw [List.length_erase_of_mem hm] at h1; omega
    · rw [List.erase_of_not_mem hm] at h1; omega
theorem send_few {t : Int} {src : List Int} {n : Nat} (h : ∀ a ∈ src, 0 ≤ a ∧ a < (n : Int)) (k : Nat) (hk : k ≤ src.length) : (sendTo t src k).length ≤ n :=
  nodup_len n _ (sendTo_nodup t src k) fun x hx => h x (List.mem_of_mem_take ((sendTo_mem t src k hk x).1 hx).2)
end Su
namespace Go.Proofs.YtenafgphaceidaaDoor
open Go.RowKit
theorem getD_get {α : Type} {l : List α} {x : α} {i : Nat} (h : i < l.length) : l.getD i x = l[i] := by rw [List.getD_eq_getElem?_getD, List.getElem?_eq_getElem h]; rfl
theorem ret_two {a b c d : Value} (h : a = c) (h2 : b = d) : Ending.returned (.tuple #[a, b]) = .returned (.tuple #[c, d]) := by rw [h, h2]
theorem v_int {k : IntKind} {a b : Int} (h : a = b) : Value.int k a = .int k b := by rw [h]
theorem Rs.of_rdI {w : World} {A : Option Addr} {n c : Nat} {l : List Int} (h : Rd w A (l.map (.int .i64))) (hn : n = l.length) (hl : l.length ≤ 9223372036854775807) (hb : ∀ x ∈ l, -9223372036854775808 ≤ x ∧ x ≤ 9223372036854775807) : Rs RI w (.slice A n c) l := by
  subst hn
  refine ⟨A, c, rfl, hl, fun i x hi => ?_⟩
  obtain ⟨ad, h1, _, h3⟩ := h i (.int .i64 x) (by rw [List.getElem?_map, hi]; rfl)
  exact ⟨ad, _, h1, h3, rfl, hb x (List.mem_of_getElem? hi)⟩
theorem info_int : (Tryd.prog.info? 3).map (fun i => (i.zero, i.size, i.bytes)) = some (some (.int .i64 0), 1, 8) := by kernel_rfl
/-- A value reads as a haul. -/
def RH (w : World) (v : Value) (h : Su.Ha) : Prop := ∃ G S, v = .agg #[G, S, .int .i64 h.tgt] ∧ Rs (Rs RI) w G h.pr ∧ Rs RI w S h.src ∧ -9223372036854775808 ≤ h.tgt ∧ h.tgt ≤ 9223372036854775807
theorem RH.ext : Stable RH := fun _ _ _ _ hx ⟨G, S, e, hG, hS, hb⟩ => ⟨G, S, e, Rs.ext (Rs.ext RI.ext) _ _ _ _ hx hG, Rs.ext RI.ext _ _ _ _ hx hS, hb⟩
theorem RH.open {w : World} {v : Value} {h : Su.Ha} (k : RH w v h) : ∃ A B c d, v = .agg #[.slice A h.pr.length c, .slice B h.src.length d, .int .i64 h.tgt] ∧ Rs (Rs RI) w (.slice A h.pr.length c) h.pr ∧ Rs RI w (.slice B h.src.length d) h.src ∧ h.pr.length ≤ 9223372036854775807 ∧ h.src.length ≤ 9223372036854775807 ∧ -9223372036854775808 ≤ h.tgt ∧ h.tgt ≤ 9223372036854775807 := by
  obtain ⟨G, S, rfl, hG, hS, hb1, hb2⟩ := k
  obtain ⟨A, c, rfl, h1⟩ := hG.form
  obtain ⟨B, d, rfl, h2⟩ := hS.form
  exact ⟨A, B, c, d, rfl, hG, hS, h1, h2, hb1, hb2⟩
/-- What Index returns. -/
def IdxOut (l : List Int) (x : Int) (w : World) (e : Ending) (w' : World) : Prop := ∃ z : Int, e = .returned (.int .i64 z) ∧ (0 ≤ z ↔ x ∈ l) ∧ w = w'
theorem sIndex_any (l : List Int) (x : Int) (B : Option Addr) (n c : Nat) (w : World) (hB : Rs RI w (.slice B n c) l) :
    Calls Tryd.prog 60 #[.slice B n c, .int .i64 x] w fun e w' => IdxOut l x w e w' := by
  have hn := hB.len
  obtain ⟨_, _, e0, hl⟩ := hB.form
  have HB := Lib.hid hB
  have HN := Lib.hid hn
  have hl2 : n ≤ 9223372036854775807 := by omega
  clear hB hn e0 hl
  go_enter Tryd.func60, Tryd.ntmps60
  go_wp2_with fail
  go_loop [8] (fun vi => ∃ i : Nat, i ≤ n ∧ vi = .int .i64 i ∧ Hid (∀ j, j < i → l.getD j 0 ≠ x)) (fun vi => n - (intOf vi).toNat)
  case atStart => exact ⟨0, Nat.zero_le _, rfl, Lib.hid fun j hj => absurd hj (Nat.not_lt_zero j)⟩
  case round =>
    obtain ⟨i, hi, rfl, HJ⟩ := hrel
    by_cases hlt : i < n
    · have hll : i < l.length := by rw [← HN.out]; exact hlt
      obtain ⟨ad, u, rfl, hc, hu⟩ := HB.out.at hll
      obtain ⟨rfl, _, _⟩ := hu
      have hgd := getD_get (x := (0 : Int)) hll
      obtain ⟨y, hy⟩ : ∃ y, l[i] = y := ⟨_, rfl⟩
      rw [hy] at hc hgd
      have hm : y ∈ l := by rw [← hy]; exact List.getElem_mem hll
      have HM := Lib.hid (And.intro hgd hm)
      clear hgd hm hy
      by_cases h1 : x = y
      · have e1 : (x == y) = true := by rw [h1]; simp
        have hd : (0 ≤ (i : Int) ↔ x ∈ l) := ⟨fun _ => by rw [h1]; exact HM.out.2, fun _ => by omega⟩
        have HD := Lib.hid hd
        clear h1 hd
        go_wp2_with fail
        go_ret
        exact ⟨_, rfl, HD.out, rfl⟩
      · have e1 : (x == y) = false := by rw [beq_eq_false_iff_ne]; exact h1
        have H1 := Lib.hid h1
        clear h1
        go_wp2_with fail
        go_round
        case rel => exact ⟨i + 1, by omega, by go_num, Lib.hid fun j hj => by
          by_cases hji : j = i
          · rw [hji, HM.out.1]; exact fun e => H1.out e.symm
          · exact HJ.out j (by omega)⟩
        case measure => simp [intOf]; omega
    · obtain rfl : i = n := by omega
      have hd : (0 ≤ (-1 : Int) ↔ x ∈ l) := by
        refine ⟨fun h => by omega, fun hm => ?_⟩
        obtain ⟨j, hj, he⟩ := List.getElem_of_mem hm
        have := HJ.out j (by rw [HN.out]; exact hj)
        rw [getD_get hj] at this
        exact absurd he this
      have HD := Lib.hid hd
      clear hd
      go_wp2_with fail
      go_ret
      exact ⟨_, rfl, HD.out, rfl⟩
theorem sContains_any (l : List Int) (x : Int) (B : Option Addr) (n c : Nat) (w : World) (hB : Rs RI w (.slice B n c) l) :
    Calls Tryd.prog 48 #[.slice B n c, .int .i64 x] w fun e w' => e = .returned (.bool (decide (x ∈ l))) ∧ w = w' := by
  have HB := Lib.hid hB
  clear hB
  go_enter Tryd.func48, Tryd.ntmps48
  go_wp2_with fail
  refine (sIndex_any l x B n c _ HB.out).mono ?_
  rintro e w1 ⟨z, rfl, hz, rfl⟩
  have HZ := Lib.hid hz
  clear hz
  go_wp2_with fail
  go_ret
  exact ⟨ret_bool (by simp [HZ.out]), rfl⟩
set_option maxHeartbeats 2000000 in
/-- The houses that send. -/
theorem uSenders_any (h : Su.Ha) (v : Value) (w : World) (hv : RH w v h) (hf : ∀ k, k ≤ h.src.length → (Su.sendTo h.tgt h.src k).length ≤ 12) :
    Calls Tryd.prog 33 #[v] w fun e w' => ∃ A n c, e = .returned (.slice A n c) ∧ Rs RI w' (.slice A n c) (Su.senders h) ∧ Ext w w' := by
  obtain ⟨A, B, c, d, rfl, hG, hS, hl1, hl2, hb1, hb2⟩ := hv.open
  have hx0 := (Ext.refl w).alloc (.cells #[.slice A h.pr.length c, .slice B h.src.length d, .int .i64 h.tgt] 25)
  have HS := Lib.hid (And.intro (Rs.ext RI.ext _ _ _ _ hx0 hS) hx0)
  have HF := Lib.hid hf
  have HO0 : Hid (Owns (w.alloc (.cells #[.slice A h.pr.length c, .slice B h.src.length d, .int .i64 h.tgt] 25)) (w.alloc (.cells #[.slice A h.pr.length c, .slice B h.src.length d, .int .i64 h.tgt] 25)) [⟨.slice none 0 0, 3, 1, 0, []⟩, no]) := Lib.hid (Owns.start _ (by intro r hr; simp [no] at hr; rcases hr with rfl | rfl <;> simp))
  have hbb : ∀ x ∈ h.src, -9223372036854775808 ≤ x ∧ x ≤ 9223372036854775807 := fun x hx => by
    obtain ⟨i, hi, rfl⟩ := List.getElem_of_mem hx
    obtain ⟨_, _, _, _, hu⟩ := hS.at hi
    exact hu.2
  have HBB := Lib.hid hbb
  clear hv hG hS hx0 hf hbb
  go_enter Tryd.func33, Tryd.ntmps33
  go_wp2_with fail
  go_loopw [3, 9] (fun vo vi wr => ∃ (i : Nat) (A' : Option Addr) (m c' : Nat), i ≤ h.src.length ∧ vi = .int .i64 i ∧ vo = .slice A' m c' ∧ m ≤ 12 ∧ Hid (m = (Su.sendTo h.tgt h.src i).length ∧ Owns (w.alloc (.cells #[.slice A h.pr.length c, .slice B h.src.length d, .int .i64 h.tgt] 25)) wr [⟨.slice A' m c', 3, 1, m, (Su.sendTo h.tgt h.src i).map (.int .i64)⟩, no])) (fun _ vi _ => h.src.length - (intOf vi).toNat)
  case atStart => exact ⟨0, none, 0, 0, Nat.zero_le _, rfl, rfl, by omega, Lib.hid (by rw [Su.sendTo_zero]; exact ⟨rfl, HO0.out⟩)⟩
  case round =>
    obtain ⟨i, A', m, c', hi, rfl, rfl, hm, HI⟩ := hrel
    have d0 : wr.cell? ⟨w.heap.size, 1, none⟩ = some (.slice B h.src.length d) := HI.out.2.ext.cell (by go_simp)
    have d2 : wr.cell? ⟨w.heap.size, 2, none⟩ = some (.int .i64 h.tgt) := HI.out.2.ext.cell (by go_simp)
    by_cases hlt : i < h.src.length
    · obtain ⟨ad, u, rfl, hcell, hu⟩ := HS.out.1.at hlt
      obtain ⟨rfl, hlo, hhi⟩ := hu
      have hcell2 := HI.out.2.ext.cell hcell
      have hgd := getD_get (x := (0 : Int)) hlt
      obtain ⟨x, hx⟩ : ∃ x, h.src[i] = x := ⟨_, rfl⟩
      rw [hx] at hcell2 hlo hhi hgd
      clear hcell hx
      by_cases h1 : x = h.tgt
      · have e1 : (x != h.tgt) = false := by rw [h1]; simp
        have hst : Su.sendTo h.tgt h.src (i + 1) = Su.sendTo h.tgt h.src i := Su.sendTo_tgt (by rw [hgd]; exact h1)
        have HST := Lib.hid hst
        clear hst h1 hgd
        go_wp2_with fail
        clear d0 d2 hcell2
        go_roundw
        case rel => exact ⟨i + 1, A', m, c', by omega, by go_num, rfl, hm, Lib.hid (by rw [HST.out]; exact HI.out)⟩
        case measure => simp [intOf]; omega
      · have e1 : (x != h.tgt) = true := by rw [bne_iff_ne]; exact h1
        have hrs : Rs RI wr (.slice A' m c') (Su.sendTo h.tgt h.src i) := Rs.of_rdI (HI.out.2.rd 0 rfl) HI.out.1 (by rw [← HI.out.1]; omega) (fun y hy => HBB.out y (List.mem_of_mem_take ((Su.sendTo_mem _ _ _ hi y).1 hy).2))
        have HRS := Lib.hid hrs
        clear hrs
        by_cases h2 : x ∈ Su.sendTo h.tgt h.src i
        · have e2 : decide (x ∈ Su.sendTo h.tgt h.src i) = true := decide_eq_true h2
          have hst : Su.sendTo h.tgt h.src (i + 1) = Su.sendTo h.tgt h.src i := Su.sendTo_in (by rw [hgd]; exact h2)
          have HST := Lib.hid (And.intro hst e2)
          clear hst h1 hgd h2 e2
          go_wp2_with fail
          refine (sContains_any _ x _ _ _ _ HRS.out).mono ?_
          rintro e w1 ⟨rfl, rfl⟩
          rw [HST.out.2]
          go_wp2_with fail
          clear d0 d2 hcell2
          go_roundw
          case rel => exact ⟨i + 1, A', m, c', by omega, by go_num, rfl, hm, Lib.hid (by rw [HST.out.1]; exact HI.out)⟩
          case measure => simp [intOf]; omega
        · have e2 : decide (x ∈ Su.sendTo h.tgt h.src i) = false := decide_eq_false h2
          have hst : Su.sendTo h.tgt h.src (i + 1) = Su.sendTo h.tgt h.src i ++ [x] := by rw [Su.sendTo_yes (by rw [hgd]; exact h1) (by rw [hgd]; exact h2), hgd]
          have hm2 : m + 1 ≤ 12 := by
            have := HF.out (i + 1) (by omega)
            rw [hst, List.length_append, ← HI.out.1] at this
            exact this
          have HST := Lib.hid (And.intro hst e2)
          clear hst h1 hgd h2 e2
          go_wp2_with fail
          refine (sContains_any _ x _ _ _ _ HRS.out).mono ?_
          rintro e w1 ⟨rfl, rfl⟩
          rw [HST.out.2]
          go_wp2_with (have hB := HI.out.2.new 1 #[.int .i64 x] 3 (by simp [maxLen]); refine wpl_append_owns (u := .int .i64 x) 23 3 rfl (.tmp 23) (.tmp 25) rfl Tryd.underlying23 info_int rfl hB 0 rfl rfl rfl (hB.cell 1 rfl 0 rfl) rfl (by omega) (by decide) ?_; clear hB; intro g8 c8 w8 hO8 _)
          have HO8 := Lib.hid hO8
          clear hO8 d0 d2 hcell2
          go_roundw
          case rel => exact ⟨i + 1, some ⟨g8, 0, none⟩, m + 1, c8, by omega, by go_num, rfl, hm2, Lib.hid (by
            rw [HST.out.1]
            refine ⟨by rw [List.length_append, ← HI.out.1]; rfl, ?_⟩
            rw [List.map_append]
            exact HO8.out.drop 1)⟩
          case measure => simp [intOf]; omega
    · obtain rfl : i = h.src.length := by omega
      have hrs : Rs RI wr (.slice A' m c') (Su.senders h) := by
        rw [Su.senders_def]
        exact Rs.of_rdI (HI.out.2.rd 0 rfl) HI.out.1 (by rw [← HI.out.1]; omega) (fun y hy => HBB.out y (List.mem_of_mem_take ((Su.sendTo_mem _ _ _ hi y).1 hy).2))
      have HRS := Lib.hid hrs
      clear hrs
      go_wp2_with fail
      go_ret
      exact ⟨A', m, c', rfl, HRS.out, HS.out.2.trans HI.out.2.ext⟩
end Go.Proofs.YtenafgphaceidaaDoor

/- THE WALK over Check of package sums. -/
namespace Go.Proofs.YtenafgphaceidaaDoor
open Go.RowKit
/-- What Min returns: the least element. -/
def MinOut (l : List Int) (w : World) (e : Ending) (w' : World) : Prop := ∃ z : Int, e = .returned (.int .i64 z) ∧ ((∀ x ∈ l, z ≤ x) ∧ z ∈ l) ∧ w = w'
def MaxOut (l : List Int) (w : World) (e : Ending) (w' : World) : Prop := ∃ z : Int, e = .returned (.int .i64 z) ∧ ((∀ x ∈ l, x ≤ z) ∧ z ∈ l) ∧ w = w'
theorem sMin_any (l : List Int) (B : Option Addr) (n c : Nat) (w : World) (hB : Rs RI w (.slice B n c) l) (h0 : 0 < n) :
    Calls Tryd.prog 30 #[.slice B n c] w fun e w' => MinOut l w e w' := by
  have hn := hB.len
  obtain ⟨_, _, e0, hl⟩ := hB.form
  have HB := Lib.hid hB
  have HN := Lib.hid hn
  have hl2 : n ≤ 9223372036854775807 := by omega
  have hl0 : 0 < l.length := by omega
  obtain ⟨ad, u, rfl, hc0, hu⟩ := hB.at hl0
  obtain ⟨rfl, hlo, hhi⟩ := hu
  have hgd := getD_get (x := (0 : Int)) hl0
  obtain ⟨y0, hy0⟩ : ∃ y, l[0] = y := ⟨_, rfl⟩
  rw [hy0] at hc0 hgd hlo hhi
  have e00 : ad.add 0 = ad := by unfold Addr.add; split <;> simp_all
  have hc00 := hc0
  rw [e00] at hc00
  have H0 := Lib.hid hgd
  have h1n : ¬ n < 1 := by omega
  clear hB hn e0 hl hy0 hgd hl0 e00
  go_enter Tryd.func30, Tryd.ntmps30
  go_wp2_with fail
  go_loop [3, 4] (fun vm vi => ∃ (i : Nat) (m : Int), 1 ≤ i ∧ i ≤ n ∧ vi = .int .i64 i ∧ vm = .int .i64 m ∧ Hid ((∀ j, j < i → m ≤ l.getD j 0) ∧ ∃ j, j < i ∧ l.getD j 0 = m)) (fun _ vi => n - (intOf vi).toNat)
  case atStart =>
    refine ⟨1, y0, by omega, by omega, rfl, rfl, Lib.hid ⟨fun j hj => ?_, 0, by omega, H0.out⟩⟩
    obtain rfl : j = 0 := by omega
    rw [H0.out]
    exact Int.le_refl _
  case round =>
    obtain ⟨i, m, hi1, hi, rfl, rfl, HJ⟩ := hrel
    by_cases hlt : i < n
    · have hll : i < l.length := by rw [← HN.out]; exact hlt
      obtain ⟨ad', u, e, hc, hu⟩ := HB.out.at hll
      injection e with e
      subst e
      obtain ⟨rfl, _, _⟩ := hu
      have hgd := getD_get (x := (0 : Int)) hll
      obtain ⟨y, hy⟩ : ∃ y, l[i] = y := ⟨_, rfl⟩
      rw [hy] at hc hgd
      have HM := Lib.hid hgd
      clear hgd hy hc0 hc00
      rcases Int.lt_trichotomy y m with h1 | h1 | h1
      · have h1' : ¬ m < y := by omega
        have h1'' : ¬ m ≤ y := by omega
        have hz : (∀ j, j < i + 1 → y ≤ l.getD j 0) ∧ ∃ j, j < i + 1 ∧ l.getD j 0 = y := by
          refine ⟨fun j hj => ?_, i, by omega, HM.out⟩
          by_cases hji : j = i
          · rw [hji, HM.out]; exact Int.le_refl _
          · have := HJ.out.1 j (by omega); omega
        have HZ := Lib.hid hz
        clear hz
        go_wp2_with fail
        go_round
        case rel => exact ⟨i + 1, y, by omega, by omega, by go_num, rfl, HZ⟩
        case measure => simp [intOf]; omega
      · subst h1
        have hz : (∀ j, j < i + 1 → y ≤ l.getD j 0) ∧ ∃ j, j < i + 1 ∧ l.getD j 0 = y := by
          refine ⟨fun j hj => ?_, i, by omega, HM.out⟩
          by_cases hji : j = i
          · rw [hji, HM.out]; exact Int.le_refl _
          · exact HJ.out.1 j (by omega)
        have HZ := Lib.hid hz
        clear hz
        go_wp2_with fail
        go_round
        case rel => exact ⟨i + 1, y, by omega, by omega, by go_num, rfl, HZ⟩
        case measure => simp [intOf]; omega
      · have h1' : ¬ y < m := by omega
        have h1'' : ¬ y ≤ m := by omega
        have hz : (∀ j, j < i + 1 → m ≤ l.getD j 0) ∧ ∃ j, j < i + 1 ∧ l.getD j 0 = m := by
          obtain ⟨j, hj, hjm⟩ := HJ.out.2
          refine ⟨fun j hj => ?_, j, by omega, hjm⟩
          by_cases hji : j = i
          · rw [hji, HM.out]; omega
          · exact HJ.out.1 j (by omega)
        have HZ := Lib.hid hz
        clear hz
        go_wp2_with fail
        go_round
        case rel => exact ⟨i + 1, m, by omega, by omega, by go_num, rfl, HZ⟩
        case measure => simp [intOf]; omega
    · obtain rfl : i = n := by omega
      have hz : (∀ x ∈ l, m ≤ x) ∧ m ∈ l := by
        obtain ⟨j, hj, hjm⟩ := HJ.out.2
        refine ⟨fun x hx => ?_, ?_⟩
        · obtain ⟨k, hk, rfl⟩ := List.getElem_of_mem hx
          have := HJ.out.1 k (by rw [HN.out]; exact hk)
          rw [getD_get hk] at this
          exact this
        · rw [← hjm, getD_get (by rw [← HN.out]; exact hj)]
          exact List.getElem_mem _
      have HZ := Lib.hid hz
      clear hz
      go_wp2_with fail
      go_ret
      exact ⟨_, rfl, HZ.out, rfl⟩
theorem sMax_any (l : List Int) (B : Option Addr) (n c : Nat) (w : World) (hB : Rs RI w (.slice B n c) l) (h0 : 0 < n) :
    Calls Tryd.prog 31 #[.slice B n c] w fun e w' => MaxOut l w e w' := by
  have hn := hB.len
  obtain ⟨_, _, e0, hl⟩ := hB.form
  have HB := Lib.hid hB
  have HN := Lib.hid hn
  have hl2 : n ≤ 9223372036854775807 := by omega
  have hl0 : 0 < l.length := by omega
  obtain ⟨ad, u, rfl, hc0, hu⟩ := hB.at hl0
  obtain ⟨rfl, hlo, hhi⟩ := hu
  have hgd := getD_get (x := (0 : Int)) hl0
  obtain ⟨y0, hy0⟩ : ∃ y, l[0] = y := ⟨_, rfl⟩
  rw [hy0] at hc0 hgd hlo hhi
  have e00 : ad.add 0 = ad := by unfold Addr.add; split <;> simp_all
  have hc00 := hc0
  rw [e00] at hc00
  have H0 := Lib.hid hgd
  have h1n : ¬ n < 1 := by omega
  clear hB hn e0 hl hy0 hgd hl0 e00
  go_enter Tryd.func31, Tryd.ntmps31
  go_wp2_with fail
  go_loop [3, 4] (fun vm vi => ∃ (i : Nat) (m : Int), 1 ≤ i ∧ i ≤ n ∧ vi = .int .i64 i ∧ vm = .int .i64 m ∧ Hid ((∀ j, j < i → l.getD j 0 ≤ m) ∧ ∃ j, j < i ∧ l.getD j 0 = m)) (fun _ vi => n - (intOf vi).toNat)
  case atStart =>
    refine ⟨1, y0, by omega, by omega, rfl, rfl, Lib.hid ⟨fun j hj => ?_, 0, by omega, H0.out⟩⟩
    obtain rfl : j = 0 := by omega
    rw [H0.out]
    exact Int.le_refl _
  case round =>
    obtain ⟨i, m, hi1, hi, rfl, rfl, HJ⟩ := hrel
    by_cases hlt : i < n
    · have hll : i < l.length := by rw [← HN.out]; exact hlt
      obtain ⟨ad', u, e, hc, hu⟩ := HB.out.at hll
      injection e with e
      subst e
      obtain ⟨rfl, _, _⟩ := hu
      have hgd := getD_get (x := (0 : Int)) hll
      obtain ⟨y, hy⟩ : ∃ y, l[i] = y := ⟨_, rfl⟩
      rw [hy] at hc hgd
      have HM := Lib.hid hgd
      clear hgd hy hc0 hc00
      rcases Int.lt_trichotomy m y with h1 | h1 | h1
      · have h1' : ¬ y < m := by omega
        have h1'' : ¬ y ≤ m := by omega
        have hz : (∀ j, j < i + 1 → l.getD j 0 ≤ y) ∧ ∃ j, j < i + 1 ∧ l.getD j 0 = y := by
          refine ⟨fun j hj => ?_, i, by omega, HM.out⟩
          by_cases hji : j = i
          · rw [hji, HM.out]; exact Int.le_refl _
          · have := HJ.out.1 j (by omega); omega
        have HZ := Lib.hid hz
        clear hz
        go_wp2_with fail
        go_round
        case rel => exact ⟨i + 1, y, by omega, by omega, by go_num, rfl, HZ⟩
        case measure => simp [intOf]; omega
      · have h1' := h1.symm
        subst h1'
        have hz : (∀ j, j < i + 1 → l.getD j 0 ≤ y) ∧ ∃ j, j < i + 1 ∧ l.getD j 0 = y := by
          refine ⟨fun j hj => ?_, i, by omega, HM.out⟩
          by_cases hji : j = i
          · rw [hji, HM.out]; exact Int.le_refl _
          · exact HJ.out.1 j (by omega)
        have HZ := Lib.hid hz
        clear hz
        go_wp2_with fail
        go_round
        case rel => exact ⟨i + 1, y, by omega, by omega, by go_num, rfl, HZ⟩
        case measure => simp [intOf]; omega
      · have h1' : ¬ m < y := by omega
        have h1'' : ¬ m ≤ y := by omega
        have hz : (∀ j, j < i + 1 → l.getD j 0 ≤ m) ∧ ∃ j, j < i + 1 ∧ l.getD j 0 = m := by
          obtain ⟨j, hj, hjm⟩ := HJ.out.2
          refine ⟨fun j hj => ?_, j, by omega, hjm⟩
          by_cases hji : j = i
          · rw [hji, HM.out]; omega
          · exact HJ.out.1 j (by omega)
        have HZ := Lib.hid hz
        clear hz
        go_wp2_with fail
        go_round
        case rel => exact ⟨i + 1, m, by omega, by omega, by go_num, rfl, HZ⟩
        case measure => simp [intOf]; omega
    · obtain rfl : i = n := by omega
      have hz : (∀ x ∈ l, x ≤ m) ∧ m ∈ l := by
        obtain ⟨j, hj, hjm⟩ := HJ.out.2
        refine ⟨fun x hx => ?_, ?_⟩
        · obtain ⟨k, hk, rfl⟩ := List.getElem_of_mem hx
          have := HJ.out.1 k (by rw [HN.out]; exact hk)
          rw [getD_get hk] at this
          exact this
        · rw [← hjm, getD_get (by rw [← HN.out]; exact hj)]
          exact List.getElem_mem _
      have HZ := Lib.hid hz
      clear hz
      go_wp2_with fail
      go_ret
      exact ⟨_, rfl, HZ.out, rfl⟩
/-- The closure of Check: is a house none of n ones? -/
theorem out1_any (a : Int) (g n : Nat) (w : World) (hc : w.cell? ⟨g, 0, none⟩ = some (.int .i64 n)) :
    Calls Tryd.prog 29 #[.int .i64 a, .pointer (some ⟨g, 0, none⟩)] w fun e w' => e = .returned (.bool (decide (Su.out n a))) ∧ w = w' := by
  by_cases h0 : a < 0
  · have hd : decide (Su.out n a) = true := decide_eq_true (.inl h0)
    have HD := Lib.hid hd
    clear hd
    go_enter Tryd.func29, Tryd.ntmps29
    go_wp2_with fail
    go_ret
    exact ⟨ret_bool HD.out.symm, rfl⟩
  · by_cases h1 : (n : Int) ≤ a
    · have hd : decide (Su.out n a) = true := decide_eq_true (.inr h1)
      have HD := Lib.hid hd
      clear hd
      go_enter Tryd.func29, Tryd.ntmps29
      go_wp2_with fail
      go_ret
      exact ⟨ret_bool HD.out.symm, rfl⟩
    · have hd : decide (Su.out n a) = false := decide_eq_false (by rintro (h | h); exact h0 h; exact h1 h)
      have HD := Lib.hid hd
      clear hd
      go_enter Tryd.func29, Tryd.ntmps29
      go_wp2_with fail
      go_ret
      exact ⟨ret_bool HD.out.symm, rfl⟩
theorem enters29 : ∀ args w, (callFunc 29 args).run Tryd.prog w = .ok (.enter 29 args) w := enters_of Tryd.func29 (by kernel_rfl) rfl
/-- What IndexFunc returns. -/
def IdxFOut (l : List Int) (p : Int → Bool) (w : World) (e : Ending) (w' : World) : Prop := ∃ z : Int, e = .returned (.int .i64 z) ∧ (0 ≤ z ↔ ∃ x ∈ l, p x = true) ∧ w = w'
theorem sIndexFunc_any (l : List Int) (p : Int → Bool) (B : Option Addr) (n c : Nat) (F : FuncId) (cap : Array Value) (w : World) (hB : Rs RI w (.slice B n c) l) (hE : ∀ args w, (callFunc F args).run Tryd.prog w = .ok (.enter F args) w)
    (hF : ∀ x, Calls Tryd.prog F (#[.int .i64 x] ++ cap) w fun e w'' => e = .returned (.bool (p x)) ∧ w = w'') :
    Calls Tryd.prog 47 #[.slice B n c, .func (.func F) #[] cap] w fun e w' => IdxFOut l p w e w' := by
  have hn := hB.len
  obtain ⟨_, _, e0, hl⟩ := hB.form
  have HB := Lib.hid hB
  have HN := Lib.hid hn
  have HF := Lib.hid hF
  have hl2 : n ≤ 9223372036854775807 := by omega
  clear hB hn e0 hl hF
  go_enter Tryd.func47, Tryd.ntmps47
  go_wp2_with fail
  go_loop [8] (fun vi => ∃ i : Nat, i ≤ n ∧ vi = .int .i64 i ∧ Hid (∀ j, j < i → p (l.getD j 0) = false)) (fun vi => n - (intOf vi).toNat)
  case atStart => exact ⟨0, Nat.zero_le _, rfl, Lib.hid fun j hj => absurd hj (Nat.not_lt_zero j)⟩
  case round =>
    obtain ⟨i, hi, rfl, HJ⟩ := hrel
    by_cases hlt : i < n
    · have hll : i < l.length := by rw [← HN.out]; exact hlt
      obtain ⟨ad, u, rfl, hc, hu⟩ := HB.out.at hll
      obtain ⟨rfl, _, _⟩ := hu
      have hgd := getD_get (x := (0 : Int)) hll
      obtain ⟨y, hy⟩ : ∃ y, l[i] = y := ⟨_, rfl⟩
      rw [hy] at hc hgd
      have hm : y ∈ l := by rw [← hy]; exact List.getElem_mem hll
      have HM := Lib.hid (And.intro hgd hm)
      clear hgd hm hy
      cases hp : p y with
      | true =>
        have hd : (0 ≤ (i : Int) ↔ ∃ x ∈ l, p x = true) := ⟨fun _ => ⟨y, HM.out.2, hp⟩, fun _ => by omega⟩
        have HD := Lib.hid hd
        have HP := Lib.hid hp
        clear hd hp
        go_wp2_with fail
        refine (HF.out y).mono ?_
        rintro e w1 ⟨rfl, rfl⟩
        rw [HP.out]
        go_wp2_with fail
        go_ret
        exact ⟨_, rfl, HD.out, rfl⟩
      | false =>
        have HP := Lib.hid hp
        clear hp
        go_wp2_with fail
        refine (HF.out y).mono ?_
        rintro e w1 ⟨rfl, rfl⟩
        rw [HP.out]
        go_wp2_with fail
        go_round
        case rel => exact ⟨i + 1, by omega, by go_num, Lib.hid fun j hj => by
          by_cases hji : j = i
          · rw [hji, HM.out.1]; exact HP.out
          · exact HJ.out j (by omega)⟩
        case measure => simp [intOf]; omega
    · obtain rfl : i = n := by omega
      have hd : (0 ≤ (-1 : Int) ↔ ∃ x ∈ l, p x = true) := by
        refine ⟨fun h => by omega, fun ⟨x, hm, hp⟩ => ?_⟩
        obtain ⟨j, hj, rfl⟩ := List.getElem_of_mem hm
        have := HJ.out j (by rw [HN.out]; exact hj)
        rw [getD_get hj, hp] at this
        cases this
      have HD := Lib.hid hd
      clear hd
      go_wp2_with fail
      go_ret
      exact ⟨_, rfl, HD.out, rfl⟩
theorem sContainsFunc_any (l : List Int) (p : Int → Bool) (B : Option Addr) (n c : Nat) (F : FuncId) (cap : Array Value) (w : World) (hB : Rs RI w (.slice B n c) l) (hE : ∀ args w, (callFunc F args).run Tryd.prog w = .ok (.enter F args) w)
    (hF : ∀ x, Calls Tryd.prog F (#[.int .i64 x] ++ cap) w fun e w'' => e = .returned (.bool (p x)) ∧ w = w'') :
    Calls Tryd.prog 32 #[.slice B n c, .func (.func F) #[] cap] w fun e w' => e = .returned (.bool (decide (∃ x ∈ l, p x = true))) ∧ w = w' := by
  have HB := Lib.hid hB
  have HF := Lib.hid hF
  clear hB hF
  go_enter Tryd.func32, Tryd.ntmps32
  go_wp2_with fail
  refine (sIndexFunc_any l p B n c F cap _ HB.out hE HF.out).mono ?_
  rintro e w1 ⟨z, rfl, hz, rfl⟩
  have hz2 : decide (0 ≤ z) = decide (∃ x ∈ l, p x = true) := decide_eq_decide.2 hz
  have HZ := Lib.hid hz2
  clear hz hz2
  go_wp2_with fail
  go_ret
  exact ⟨ret_bool HZ.out, rfl⟩
end Go.Proofs.YtenafgphaceidaaDoor

/- THE WALK over Check of package sums. -/
namespace Go.Proofs.YtenafgphaceidaaDoor
open Go.RowKit
set_option maxHeartbeats 4000000 in
set_option maxRecDepth 100000 in
theorem uCheck_any (h : Su.Ha) (v : Value) (w : World) (hv : RH w v h) :
    Calls Tryd.prog 13 #[v] w fun e w' => e = .returned (.int .i64 (Su.check h)) ∧ Ext w w' := by
  have hvv := hv
  obtain ⟨A, B, c, d, rfl, hG, hS, hl1, hl2, hb1, hb2⟩ := hv.open
  have hx0 := ((Ext.refl w).alloc (.cells #[.slice A h.pr.length c, .slice B h.src.length d, .int .i64 h.tgt] 25)).alloc (.cells #[.int .i64 (h.pr.length : Nat)] 3)
  have HX0 := Lib.hid hx0
  have HG := Lib.hid (Rs.ext (Rs.ext RI.ext) _ _ _ _ hx0 hG)
  have HS := Lib.hid (Rs.ext RI.ext _ _ _ _ hx0 hS)
  have HV := Lib.hid (RH.ext _ _ _ _ hx0 hvv)
  have hE := @enters29
  clear hv hvv hG hS hx0
  obtain ⟨n, hn⟩ : ∃ n, h.pr.length = n := ⟨_, rfl⟩
  rw [hn] at HX0 HG HS HV hl1 ⊢
  by_cases h0 : n < 1 ∨ 12 < n
  · have hc : Su.check h = 2 := Su.check_many (by rw [hn]; exact h0)
    have HC := Lib.hid hc
    clear hc
    by_cases h1 : n < 1
    · clear h0
      go_enter Tryd.func13, Tryd.ntmps13
      go_wp2_with fail
      go_ret
      exact ⟨ret_int HC.out.symm, HX0.out⟩
    · have h2 : 12 < n := by omega
      clear h0
      go_enter Tryd.func13, Tryd.ntmps13
      go_wp2_with fail
      go_ret
      exact ⟨ret_int HC.out.symm, HX0.out⟩
  · have hcn : w.heap.size + 1 = (w.alloc (.cells #[.slice A n c, .slice B h.src.length d, .int .i64 h.tgt] 25)).heap.size := by simp
    have h1 : ¬ n < 1 := by omega
    have h2 : ¬ 12 < n := by omega
    have H0 := Lib.hid (And.intro hn h0)
    clear h0 hcn
    go_enter Tryd.func13, Tryd.ntmps13
    go_wp2_with fail
    go_loop [20] (fun vi => ∃ i : Nat, i ≤ n ∧ vi = .int .i64 i ∧ Hid (∀ j r, j < i → h.pr[j]? = some r → ¬ Su.badRow n r)) (fun vi => n - (intOf vi).toNat)
    case atStart => exact ⟨0, Nat.zero_le _, rfl, Lib.hid fun j _ hj => absurd hj (Nat.not_lt_zero j)⟩
    case round =>
      obtain ⟨i, hi, rfl, HJ⟩ := hrel
      by_cases hlt : i < n
      · have hll : i < h.pr.length := by rw [H0.out.1]; exact hlt
        obtain ⟨ad, u, rfl, hcell, hu⟩ := HG.out.at hll
        have hrow : h.pr[i]? = some h.pr[i] := List.getElem?_eq_getElem hll
        have hmem : h.pr[i] ∈ h.pr := List.getElem_mem hll
        obtain ⟨r, hr⟩ : ∃ r, h.pr[i] = r := ⟨_, rfl⟩
        rw [hr] at hu hrow hmem
        obtain ⟨A2, c2, rfl, hl3⟩ := hu.form
        obtain ⟨m, hm⟩ : ∃ m, r.length = m := ⟨_, rfl⟩
        rw [hm] at hcell hu hl3
        have HU := Lib.hid (And.intro hu (And.intro hm (And.intro hrow hmem)))
        clear hu hrow hmem hr hm
        by_cases hb1 : m = n
        · have e1 : ((m : Int) != (n : Int)) = false := by rw [hb1]; simp
          have hm0 : 0 < m := by omega
          clear hb1
          go_wp2_with fail
          refine (sMin_any r A2 m c2 _ HU.out.1 hm0).mono ?_
          rintro e w1 ⟨z, rfl, hz, rfl⟩
          by_cases hz1 : z < -1
          · have hc : Su.check h = 1 := Su.check_row (by rw [H0.out.1]; exact H0.out.2) HU.out.2.2.2 (.inr ⟨z, hz.2, .inl hz1⟩)
            have HC := Lib.hid hc
            clear hc hz
            go_wp2_with fail
            go_ret
            exact ⟨ret_int HC.out.symm, HX0.out⟩
          · have HZ := Lib.hid hz
            clear hz
            go_wp2_with fail
            refine (sMax_any r A2 m c2 _ HU.out.1 hm0).mono ?_
            rintro e w1 ⟨z2, rfl, hz, rfl⟩
            by_cases hz2 : 1000000 < z2
            · have hc : Su.check h = 1 := Su.check_row (by rw [H0.out.1]; exact H0.out.2) HU.out.2.2.2 (.inr ⟨z2, hz.2, .inr hz2⟩)
              have HC := Lib.hid hc
              clear hc hz
              go_wp2_with fail
              go_ret
              exact ⟨ret_int HC.out.symm, HX0.out⟩
            · have hgood : ¬ Su.badRow n r := by
                rintro (hq | ⟨x, hx, hq⟩)
                · rw [HU.out.2.1] at hq
                  have : ((m : Int) != (n : Int)) = true := by rw [bne_iff_ne]; omega
                  rw [this] at e1
                  cases e1
                · have := HZ.out.1 x hx
                  have := hz.1 x hx
                  omega
              have HGD := Lib.hid hgood
              clear hz hgood
              go_wp2_with fail
              go_round
              case rel => exact ⟨i + 1, by omega, by go_num, Lib.hid fun j r' hj hr' => by
                by_cases hji : j = i
                · rw [hji, HU.out.2.2.1] at hr'
                  injection hr' with hr'
                  rw [← hr']
                  exact HGD.out
                · exact HJ.out j r' (by omega) hr'⟩
              case measure => simp [intOf]; omega
        · have e1 : ((m : Int) != (n : Int)) = true := by rw [bne_iff_ne]; omega
          have hc : Su.check h = 1 := Su.check_row (by rw [H0.out.1]; exact H0.out.2) HU.out.2.2.2 (.inl (by rw [HU.out.2.1, H0.out.1]; exact hb1))
          have HC := Lib.hid hc
          clear hc
          go_wp2_with fail
          go_ret
          exact ⟨ret_int HC.out.symm, HX0.out⟩
      · obtain rfl : i = n := by omega
        have hrows : ∀ r ∈ h.pr, ¬ Su.badRow h.pr.length r := fun r hr => by
          obtain ⟨j, hj, rfl⟩ := List.getElem_of_mem hr
          rw [H0.out.1]
          exact HJ.out j _ (by rw [← H0.out.1]; exact hj) (List.getElem?_eq_getElem hj)
        have HR := Lib.hid hrows
        clear hrows
        go_wp2_with fail
        refine (out1_any h.tgt _ i _ (by go_simp)).mono ?_
        rintro e w1 ⟨rfl, rfl⟩
        by_cases ho : Su.out i h.tgt
        · have hc : Su.check h = 1 := Su.check_src (by rw [H0.out.1]; exact H0.out.2) HR.out (.inl (by rw [H0.out.1]; exact ho))
          have HC := Lib.hid hc
          have ed : decide (Su.out i h.tgt) = true := decide_eq_true ho
          rw [ed]
          clear hc ho ed
          go_wp2_with fail
          go_ret
          exact ⟨ret_int HC.out.symm, HX0.out⟩
        · have ed : decide (Su.out i h.tgt) = false := decide_eq_false ho
          have HOT := Lib.hid ho
          rw [ed]
          clear ho ed
          go_wp2_with fail
          refine (sContainsFunc_any h.src (fun a => decide (Su.out i a)) B _ d 29 #[.pointer (some ⟨w.heap.size + 1, 0, none⟩)] _ HS.out hE (fun x => out1_any x _ i _ (by go_simp))).mono ?_
          rintro e w1 ⟨rfl, rfl⟩
          by_cases hs : ∃ a ∈ h.src, decide (Su.out i a) = true
          · have hc : Su.check h = 1 := Su.check_src (by rw [H0.out.1]; exact H0.out.2) HR.out (.inr (by obtain ⟨a, ha, hq⟩ := hs; exact ⟨a, ha, by rw [H0.out.1]; exact of_decide_eq_true hq⟩))
            have HC := Lib.hid hc
            rw [decide_eq_true hs]
            clear hc hs
            go_wp2_with fail
            go_ret
            exact ⟨ret_int HC.out.symm, HX0.out⟩
          · have hin : ∀ a ∈ h.src, 0 ≤ a ∧ a < (i : Int) := fun a ha => by
              have : ¬ Su.out i a := fun hq => hs ⟨a, ha, decide_eq_true hq⟩
              unfold Su.out at this
              omega
            have hc : Su.check h = if 8 < (Su.senders h).length then 2 else 0 := Su.check_send (by rw [H0.out.1]; exact H0.out.2) HR.out (by
              rw [H0.out.1]
              rintro (hq | ⟨a, ha, hq⟩)
              · exact HOT.out hq
              · exact hs ⟨a, ha, decide_eq_true hq⟩)
            rw [decide_eq_false hs]
            have HIN := Lib.hid hin
            clear hs hin
            by_cases h8 : 8 < (Su.senders h).length
            · rw [if_pos h8] at hc
              have HC := Lib.hid (And.intro hc h8)
              clear hc h8
              go_wp2_with fail
              refine (uSenders_any h _ _ HV.out (fun k hk => Nat.le_trans (Su.send_few HIN.out k hk) (by omega))).mono ?_
              rintro e w1 ⟨A9, n9, c9, rfl, hr9, hx9⟩
              have hn9 := hr9.len
              have h8 := HC.out.2
              rw [← hn9] at h8
              have HX9 := Lib.hid (HX0.out.trans hx9)
              clear hr9 hx9 hn9
              go_wp2_with fail
              go_ret
              exact ⟨ret_int HC.out.1.symm, HX9.out⟩
            · rw [if_neg h8] at hc
              have HC := Lib.hid (And.intro hc h8)
              clear hc h8
              go_wp2_with fail
              refine (uSenders_any h _ _ HV.out (fun k hk => Nat.le_trans (Su.send_few HIN.out k hk) (by omega))).mono ?_
              rintro e w1 ⟨A9, n9, c9, rfl, hr9, hx9⟩
              have hn9 := hr9.len
              have h8 := HC.out.2
              rw [← hn9] at h8
              have HX9 := Lib.hid (HX0.out.trans hx9)
              clear hr9 hx9 hn9
              go_wp2_with fail
              go_ret
              exact ⟨ret_int HC.out.1.symm, HX9.out⟩
end Go.Proofs.YtenafgphaceidaaDoor

/- THE WALK over Valid of package sums. -/
namespace Go.Proofs.YtenafgphaceidaaDoor
open Go.RowKit
/-- A value reads as a list of hops. -/
def RL (w : World) (v : Value) (l : List (Int × Int)) : Prop :=
  ∃ (A : Option Addr) (c : Nat), v = .slice A l.length c ∧ l.length ≤ 9223372036854775807 ∧ ∀ i x, l[i]? = some x → ∃ ad, A = some ad ∧ w.cell? (ad.add (i * 2)) = some (.int .i64 x.1) ∧ w.cell? ⟨(ad.add (i * 2)).block, (ad.add (i * 2)).off + 1, none⟩ = some (.int .i64 x.2) ∧ -9223372036854775808 ≤ x.1 ∧ x.1 ≤ 9223372036854775807 ∧ -9223372036854775808 ≤ x.2 ∧ x.2 ≤ 9223372036854775807
theorem RL.ext : Stable RL := fun _ _ _ _ hx ⟨A, c, e, hl, h⟩ => ⟨A, c, e, hl, fun i x hi => by
  obtain ⟨ad, h1, h2, h3, h4⟩ := h i x hi
  exact ⟨ad, h1, hx.cell h2, hx.cell h3, h4⟩⟩
theorem RL.form {w : World} {v : Value} {l : List (Int × Int)} (h : RL w v l) : ∃ A c, v = .slice A l.length c ∧ l.length ≤ 9223372036854775807 := by
  obtain ⟨A, c, e, hl, _⟩ := h
  exact ⟨A, c, e, hl⟩
theorem RL.len {w : World} {l : List (Int × Int)} {A : Option Addr} {n c : Nat} (h : RL w (.slice A n c) l) : n = l.length := by
  obtain ⟨A', c', e, _, h⟩ := h
  injection e
theorem RL.at {w : World} {l : List (Int × Int)} {A : Option Addr} {n c : Nat} (h : RL w (.slice A n c) l) {i : Nat} (hi : i < l.length) :
    ∃ ad f t, A = some ad ∧ l.getD i (0, 0) = (f, t) ∧ w.cell? (ad.add (i * 2)) = some (.int .i64 f) ∧ w.cell? ⟨(ad.add (i * 2)).block, (ad.add (i * 2)).off + 1, none⟩ = some (.int .i64 t) ∧ (-9223372036854775808 ≤ f ∧ f ≤ 9223372036854775807) ∧ -9223372036854775808 ≤ t ∧ t ≤ 9223372036854775807 := by
  obtain ⟨A', c', e, _, h⟩ := h
  injection e with e1 e2 e3
  subst e1
  obtain ⟨ad, h1, h2, h3, h4, h5, h6, h7⟩ := h i _ (List.getElem?_eq_getElem hi)
  exact ⟨ad, l[i].1, l[i].2, h1, getD_get hi, h2, h3, ⟨h4, h5⟩, h6, h7⟩
/-- The price of a hop, in memory. -/
theorem price_at {w : World} {h : Su.Ha} {A : Option Addr} {n c : Nat} (hG : Rs (Rs RI) w (.slice A n c) h.pr) (k : Su.Ok h) (hn : h.pr.length = n) {a b : Nat} (ha : a < n) (hb : b < n) :
    ∃ ad ad2 cc, A = some ad ∧ w.cell? (ad.add a) = some (.slice (some ad2) n cc) ∧ w.cell? (ad2.add b) = some (.int .i64 (Su.price h a b)) := by
  have ha2 : a < h.pr.length := by omega
  obtain ⟨ad, u, rfl, hc, hu⟩ := hG.at ha2
  have hl := k.row _ (List.getElem_mem ha2)
  have hpr : Su.price h a b = (h.pr[a]).getD b 0 := by
    unfold Su.price
    rw [Int.toNat_natCast, Int.toNat_natCast, getD_get ha2]
  obtain ⟨A2, c2, rfl, _⟩ := hu.form
  rw [hl, hn] at hc hu
  have hb2 : b < (h.pr[a]).length := by omega
  obtain ⟨ad2, u2, rfl, hc2, hu2⟩ := hu.at hb2
  obtain ⟨rfl, _, _⟩ := hu2
  exact ⟨ad, ad2, c2, rfl, hc, by rw [hc2, hpr, getD_get hb2]⟩
set_option maxHeartbeats 4000000 in
set_option maxRecDepth 100000 in
theorem uCost_any (h : Su.Ha) (l : List (Int × Int)) (v u : Value) (w : World) (hv : RH w v h) (hu : RL w u l) 
    (hV : ∀ v w, RH w v h → RL w u l → Calls Tryd.prog 14 #[v, u] w fun e w' => e = .returned (.bool (Su.valid h l)) ∧ Ext w w') :
    Calls Tryd.prog 12 #[v, u] w fun e w' => e = .returned (.tuple #[.int .i64 (Su.cost h l).1, .int .i64 (Su.cost h l).2]) ∧ Ext w w' := by
  have hvv := hv
  obtain ⟨A, B, c, d, rfl, hG, hS, hl1, hl2, hb1, hb2⟩ := hv.open
  have hx0 := (Ext.refl w).alloc (.cells #[.slice A h.pr.length c, .slice B h.src.length d, .int .i64 h.tgt] 25)
  have HX0 := Lib.hid hx0
  have HG := Lib.hid (Rs.ext (Rs.ext RI.ext) _ _ _ _ hx0 hG)
  have HL := Lib.hid (RL.ext _ _ _ _ hx0 hu)
  have HV := Lib.hid (RH.ext _ _ _ _ hx0 hvv)
  have HVAL := Lib.hid hV
  obtain ⟨C, e, rfl, hl3⟩ := hu.form
  clear hv hvv hG hS hx0 hu hV
  obtain ⟨n, hn⟩ : ∃ n, h.pr.length = n := ⟨_, rfl⟩
  rw [hn] at HX0 HG HV HL hl1 ⊢
  by_cases h0 : Su.check h = 0
  · cases hval : Su.valid h l with
    | true =>
      have e1 : (Su.check h != 0) = false := by rw [h0]; rfl
      have HC := Lib.hid (And.intro (Su.cost_ok hval) (And.intro hval hn))
      have hkk := Su.ok_of h0
      have HK := Lib.hid hkk
      have hn12 := hkk.few
      rw [hn] at hn12
      have hlen : l.length ≤ 12 := by
        have := Su.hops_few (Su.valid_iff.1 hval).2.1
        rw [hn] at this
        omega
      clear h0 hval hkk
      go_enter Tryd.func12, Tryd.ntmps12
      go_wp2_with fail
      refine (uCheck_any h _ _ HV.out).mono ?_
      rintro ee w1 ⟨rfl, hx1⟩
      have d0 : w1.cell? ⟨w.heap.size, 0, none⟩ = some (.slice A n c) := hx1.cell (by go_simp)
      have d1 : w1.cell? ⟨w.heap.size, 1, none⟩ = some (.slice B h.src.length d) := hx1.cell (by go_simp)
      have d2 : w1.cell? ⟨w.heap.size, 2, none⟩ = some (.int .i64 h.tgt) := hx1.cell (by go_simp)
      have HX1 := Lib.hid hx1
      clear hx1
      go_wp2_with fail
      clear d0 d1 d2
      refine (HVAL.out _ _ (RH.ext _ _ _ _ HX1.out HV.out) (RL.ext _ _ _ _ HX1.out HL.out)).mono ?_
      rintro ee w2 ⟨rfl, hx2⟩
      rw [HC.out.2.1]
      have HX2 := Lib.hid (HX1.out.trans hx2)
      clear hx2
      go_wp2_with fail
      go_loopw [7, 21] (fun vs vi wr => ∃ (i : Nat) (s : Int), i ≤ l.length ∧ vi = .int .i64 i ∧ vs = .int .i64 s ∧ (0 ≤ s ∧ s ≤ 1000000 * i) ∧ Hid (s = Su.costTo h l i ∧ Ext (w.alloc (.cells #[.slice A n c, .slice B h.src.length d, .int .i64 h.tgt] 25)) wr)) (fun _ vi _ => l.length - (intOf vi).toNat)
      case atStart => exact ⟨0, 0, Nat.zero_le _, rfl, rfl, by omega, Lib.hid ⟨by rw [Su.costTo_zero], HX2.out⟩⟩
      case round =>
        obtain ⟨i, s, hi, rfl, rfl, hs, HI⟩ := hrel
        by_cases hlt : i < l.length
        · obtain ⟨ad, f, t, rfl, hft, k1, k2, kb, kb2⟩ := HL.out.at hlt
          have k1' := HI.out.2.cell k1
          have k2' := HI.out.2.cell k2
          have hfine := Su.hop_fine HC.out.2.1 hlt
          have hcs := Su.costTo_succ h l i
          have hcb := Su.cost_bounds HC.out.2.1 (i + 1) (by omega)
          rw [hft] at hfine hcs
          simp only at hfine hcs
          rw [hn] at hfine
          obtain ⟨⟨f1, f2⟩, ⟨t1, t2⟩, hp0, _⟩ := hfine
          obtain ⟨a, rfl⟩ : ∃ a : Nat, f = a := ⟨f.toNat, by omega⟩
          obtain ⟨b, rfl⟩ : ∃ b : Nat, t = b := ⟨t.toNat, by omega⟩
          have ha : a < n := by omega
          have hb : b < n := by omega
          obtain ⟨ad1, ad2, cc, hA, g1, g2⟩ := price_at HG.out HK.out hn ha hb
          have g1 := HI.out.2.cell g1
          have g2 := HI.out.2.cell g2
          have d0 : wr.cell? ⟨w.heap.size, 0, none⟩ = some (.slice A n c) := HI.out.2.cell (by go_simp)
          rw [hA] at d0
          have hpb := Su.price_bound HK.out (a := a) (b := b) (by rw [hn]; exact ⟨f1, f2⟩) (by rw [hn]; exact ⟨t1, t2⟩)
          obtain ⟨pp, hpp⟩ : ∃ pp, Su.price h a b = pp := ⟨_, rfl⟩
          rw [hpp] at g2 hpb hcs hp0
          rw [← HI.out.1] at hcs
          have HCS := Lib.hid hcs
          have HX3 := Lib.hid (HI.out.2.alloc (.cells #[.int .i64 a, .int .i64 b] 65))
          have e0 : (wr.alloc (.cells #[.int .i64 a, .int .i64 b] 65)).cell? ⟨w.heap.size, 0, none⟩ = some (.slice (some ad1) n c) := ((Ext.refl wr).alloc _).cell d0
          have e1 : (wr.alloc (.cells #[.int .i64 a, .int .i64 b] 65)).cell? (ad1.add a) = some (.slice (some ad2) n cc) := ((Ext.refl wr).alloc _).cell g1
          have e2 : (wr.alloc (.cells #[.int .i64 a, .int .i64 b] 65)).cell? (ad2.add b) = some (.int .i64 pp) := ((Ext.refl wr).alloc _).cell g2
          clear hft kb kb2 hcs hcb k1 k2 g1 g2 d0 hA hpp f1 f2 t1 t2
          go_wp2_with fail
          go_quiet (fail)
          go_wp2_with fail
          clear e0 e1 e2 k1' k2'
          go_roundw
          case rel => exact ⟨i + 1, s + pp, by omega, by go_num, by go_num, by omega, Lib.hid ⟨HCS.out.symm, HX3.out.drewN _⟩⟩
          case measure => simp [intOf]; omega
        · obtain rfl : i = l.length := by omega
          go_wp2_with fail
          go_ret2
          exact ⟨ret_two (v_int (by rw [HC.out.1, HI.out.1])) (v_int (by rw [HC.out.1])), HX0.out.trans HI.out.2⟩
    | false =>
      have e1 : (Su.check h != 0) = false := by rw [h0]; rfl
      have HC := Lib.hid (And.intro (Su.cost_bad h0 hval) hval)
      clear h0 hval
      go_enter Tryd.func12, Tryd.ntmps12
      go_wp2_with fail
      refine (uCheck_any h _ _ HV.out).mono ?_
      rintro ee w1 ⟨rfl, hx1⟩
      have d0 : w1.cell? ⟨w.heap.size, 0, none⟩ = some (.slice A n c) := hx1.cell (by go_simp)
      have d1 : w1.cell? ⟨w.heap.size, 1, none⟩ = some (.slice B h.src.length d) := hx1.cell (by go_simp)
      have d2 : w1.cell? ⟨w.heap.size, 2, none⟩ = some (.int .i64 h.tgt) := hx1.cell (by go_simp)
      have HX1 := Lib.hid hx1
      clear hx1
      go_wp2_with fail
      clear d0 d1 d2
      refine (HVAL.out _ _ (RH.ext _ _ _ _ HX1.out HV.out) (RL.ext _ _ _ _ HX1.out HL.out)).mono ?_
      rintro ee w2 ⟨rfl, hx2⟩
      rw [HC.out.2]
      have HX2 := Lib.hid (HX1.out.trans hx2)
      clear hx2
      go_wp2_with fail
      go_ret2
      exact ⟨ret_two (v_int (by rw [HC.out.1])) (v_int (by rw [HC.out.1])), HX0.out.trans HX2.out⟩
  · have e1 : (Su.check h != 0) = true := by rw [bne_iff_ne]; exact h0
    have HC := Lib.hid (Su.cost_err (l := l) h0)
    clear h0
    go_enter Tryd.func12, Tryd.ntmps12
    go_wp2_with fail
    refine (uCheck_any h _ _ HV.out).mono ?_
    rintro ee w1 ⟨rfl, hx1⟩
    have HX1 := Lib.hid (HX0.out.trans hx1)
    clear hx1
    go_wp2_with fail
    go_ret2
    exact ⟨ret_two (v_int (by rw [HC.out])) (v_int (by rw [HC.out])), HX1.out⟩
end Go.Proofs.YtenafgphaceidaaDoor

/- THE WALKS over Combine of package gf. -/
namespace Go.Proofs.YtenafgphaceidaaDoor
open Go.RowKit

/-- Combine's closure: the byte at one place of the combination. -/
theorem comb1_any (k P1 P2 : Nat) (coef : List UInt8) (parts : List (List UInt8)) (A B : Option Addr) (n ca cb : Nat) (w : World) (hT : Tab w) (hn : n = coef.length) (hn' : n = parts.length)
    (hl : n ≤ 140737488351232) (hk : ∀ i, i < n → k < (parts.getD i []).length)
    (h1 : w.cell? ⟨P1, 0, none⟩ = some (.slice A n ca)) (h2 : w.cell? ⟨P2, 0, none⟩ = some (.slice B n cb)) (hA : Rd w A (coef.map bv)) (hB : Rd w B (parts.map fun p => .string (sb p))) :
    Calls Tryd.prog 42 #[.int .i64 k, .pointer (some ⟨P1, 0, none⟩), .pointer (some ⟨P2, 0, none⟩)] w fun e w' => e = .returned (bv (Gf.comb coef parts k coef.length)) ∧ Ext w w' := by
  have HT := Lib.hid hT
  have HA := Lib.hid hA
  have HB := Lib.hid hB
  have HK := Lib.hid hk
  have HN := Lib.hid (And.intro hn hn')
  clear hT hA hB hk hn hn'
  go_enter Tryd.func42, Tryd.ntmps42
  go_wp2_with fail
  go_loop [5, 10] (fun vx vi => ∃ i : Nat, i ≤ n ∧ vi = .int .i64 i ∧ vx = bv (Gf.comb coef parts k i)) (fun _ vi => n - (intOf vi).toNat)
  case atStart => exact ⟨0, Nat.zero_le _, rfl, rfl⟩
  case round =>
    obtain ⟨i, hi, rfl, rfl⟩ := hrel
    by_cases hlt : i < n
    · have hlc : i < coef.length := by rw [← HN.out.1]; exact hlt
      have hlp : i < parts.length := by rw [← HN.out.2]; exact hlt
      obtain ⟨ad, rfl, _, ha⟩ := HA.out.at (k := i) (by simpa using hlc)
      obtain ⟨bd, rfl, _, hb⟩ := HB.out.at (k := i) (by simpa using hlp)
      rw [List.getElem_map] at ha hb
      have hkk : k < (sb parts[i]).size := by
        have := HK.out i hlt
        rw [List.getD_eq_getElem?_getD, List.getElem?_eq_getElem hlp] at this
        simpa using this
      have hstep : Gf.comb coef parts k (i + 1) = Gf.comb coef parts k i ^^^ Gf.mul coef[i] ((sb parts[i])[k]'hkk) := by
        rw [Gf.comb, get_bl, List.getD_eq_getElem?_getD, List.getElem?_eq_getElem hlc, List.getD_eq_getElem?_getD (l := parts), List.getElem?_eq_getElem hlp, List.getD_eq_getElem?_getD]
        simp only [Option.getD_some]
        rw [List.getElem?_eq_getElem (by simpa using hkk)]
        rfl
      have hx : bits .xor .u8 ((Gf.comb coef parts k i).toNat : Int) ((Gf.mul coef[i] ((sb parts[i])[k]'hkk)).toNat : Int) = ((Gf.comb coef parts k (i + 1)).toNat : Int) := by
        rw [u8_xor_nat _ _ (Gf.lt8 _) (Gf.lt8 _), hstep, UInt8.toNat_xor]
      have HX := Lib.hid hx
      clear hx hstep
      go_wp2_with fail
      refine (mul_u8 _ _ _ HT.out).mono ?_
      rintro e w' ⟨rfl, rfl⟩
      go_wp2_with fail
      go_round
      case rel => exact ⟨i + 1, by omega, by go_num, by rw [HX.out]⟩
      case measure => simp [intOf]; omega
    · obtain rfl : i = n := by omega
      have HI := Lib.hid HN.out.1
      go_wp2_with fail
      go_ret
      exact ⟨by rw [← HI.out]; rfl, Ext.refl _⟩

theorem enters42 : ∀ args w, (callFunc 42 args).run Tryd.prog w = .ok (.enter 42 args) w := enters_of Tryd.func42 (by kernel_rfl) rfl

theorem combine_ne (A B : Option Addr) (n m ca cb : Nat) (w : World) (hne : n ≠ m) :
    Calls Tryd.prog 21 #[.slice A n ca, .slice B m cb] w fun e w' => e = .returned (.tuple #[.string (sb []), .int .i64 1]) ∧ Ext w w' := by
  have h1 : ((n : Int) != (m : Int)) = true := by rw [bne_iff_ne]; omega
  clear hne
  go_enter Tryd.func21, Tryd.ntmps21
  go_wp2_with fail
  go_ret2
  exact ⟨rfl, ((Ext.refl _).alloc _).alloc _⟩
/-- The length that Combine has taken after i parts. -/
def headN (parts : List (List UInt8)) (i : Nat) : Nat := if i = 0 then 0 else (parts.headD []).length
theorem combine_eq (coef : List UInt8) (parts : List (List UInt8)) (A B : Option Addr) (n ca cb : Nat) (w : World) (hT : Tab w) (hn : n = coef.length) (hn' : n = parts.length)
    (hl : n ≤ 140737488351232) (hs : ∀ p ∈ parts, p.length ≤ 140737488351232) (hA : Rd w A (coef.map bv)) (hB : Rd w B (parts.map fun p => .string (sb p))) :
    Calls Tryd.prog 21 #[.slice A n ca, .slice B n cb] w fun e w' => e = .returned (.tuple #[.string (sb (Gf.combS coef parts)), .int .i64 (Gf.combE coef parts)]) ∧ Ext w w' := by
  have HT := Lib.hid hT
  have HA := Lib.hid hA
  have HB := Lib.hid hB
  have HS := Lib.hid hs
  have HN := Lib.hid (And.intro hn hn')
  clear hT hA hB hs hn hn'
  go_enter Tryd.func21, Tryd.ntmps21
  go_wp2_with fail
  have hW : Ext w ((w.alloc (.cells #[.slice A n ca] 44)).alloc (.cells #[.slice B n cb] 45)) := ((Ext.refl w).alloc _).alloc _
  have HW := Lib.hid hW
  clear hW
  go_loop [6, 16] (fun vn vi => ∃ i : Nat, i ≤ n ∧ vi = .int .i64 i ∧ vn = .int .i64 (headN parts i : Nat) ∧ Hid (∀ j, j < i → (parts.getD j []).length = (parts.headD []).length)) (fun _ vi => n - (intOf vi).toNat)
  case atStart => exact ⟨0, Nat.zero_le _, rfl, rfl, fun j hj => absurd hj (by omega)⟩
  case round =>
    obtain ⟨i, hi, rfl, rfl, HJ⟩ := hrel
    by_cases hlt : i < n
    · have hlp : i < parts.length := by rw [← HN.out.2]; exact hlt
      obtain ⟨bd, rfl, _, hb⟩ := (HB.out.ext HW.out).at (k := i) (by simpa using hlp)
      rw [List.getElem_map] at hb
      have hsz : parts[i].length ≤ 140737488351232 := HS.out _ (List.getElem_mem _)
      have hgd : parts.getD i [] = parts[i] := by rw [List.getD_eq_getElem?_getD, List.getElem?_eq_getElem hlp]; rfl
      have HG := Lib.hid hgd
      clear hgd
      by_cases h0 : i = 0
      · subst h0
        have hb0 : ((w.alloc (.cells #[.slice A n ca] 44)).alloc (.cells #[.slice (some bd) n cb] 45)).cell? bd = some (.string (sb parts[0])) := hb
        have hh : (parts.headD []).length = parts[0].length := by
          cases parts with
          | nil => simp at hlp
          | cons a l => rfl
        have HH := Lib.hid hh
        clear hh
        go_wp2_with fail
        go_round
        case rel => exact ⟨1, by omega, by go_num, by rw [headN, if_neg (by omega), HH.out], fun j hj => by
          obtain rfl : j = 0 := by omega
          rw [HH.out, HG.out]⟩
        case measure => simp [intOf]; omega
      · have hn0 : headN parts i = (parts.headD []).length := if_neg h0
        have HN0 := Lib.hid hn0
        clear hn0
        by_cases he : parts[i].length = (parts.headD []).length
        · have e1 : ((parts[i].length : Int) != (headN parts i : Int)) = false := by
            rw [HN0.out, he]; simp
          have e2 : ((i : Int) == 0) = false := by rw [beq_eq_false_iff_ne]; omega
          have HE := Lib.hid he
          have H0 := Lib.hid h0
          clear he h0
          go_wp2_with fail
          go_round
          case rel => exact ⟨i + 1, by omega, by go_num, by rw [HN0.out, headN, if_neg (by omega)], fun j hj => by
            by_cases hji : j = i
            · rw [hji, HG.out, HE.out]
            · exact HJ.out j (by omega)⟩
          case measure => simp [intOf]; omega
        · have e1 : ((parts[i].length : Int) != (headN parts i : Int)) = true := by
            rw [HN0.out, bne_iff_ne]; omega
          have e2 : ((i : Int) == 0) = false := by rw [beq_eq_false_iff_ne]; omega
          have hno : Gf.combOk coef parts = false := by
            rw [Bool.eq_false_iff]
            intro h
            unfold Gf.combOk at h
            rw [Bool.and_eq_true, List.all_eq_true] at h
            exact he (by simpa using h.2 _ (List.getElem_mem hlp))
          have HO := Lib.hid hno
          clear he h0 hno
          go_wp2_with fail
          go_ret2
          exact ⟨by rw [Gf.combS_no HO.out, Gf.combE_no HO.out]; rfl, HW.out⟩
    · obtain rfl : i = n := by omega
      have hok : Gf.combOk coef parts = true := by
        unfold Gf.combOk
        rw [Bool.and_eq_true, List.all_eq_true]
        refine ⟨by simp [← HN.out.1, ← HN.out.2], fun p hp => ?_⟩
        obtain ⟨j, hj, rfl⟩ := List.getElem_of_mem hp
        have := HJ.out j (by rw [HN.out.2]; exact hj)
        rw [List.getD_eq_getElem?_getD, List.getElem?_eq_getElem hj] at this
        simpa using this
      have hhd : headN parts i = (parts.headD []).length := by
        unfold headN
        split
        · rename_i h
          have := HN.out.2
          rw [h] at this
          cases parts with
          | nil => rfl
          | cons a l => simp at this
        · rfl
      have hle : headN parts i ≤ 140737488351232 := by
        rw [hhd]
        cases parts with
        | nil => simp
        | cons a l => exact HS.out a (by simp)
      have HO := Lib.hid hok
      have HD := Lib.hid hhd
      clear hok hhd
      go_wp2_with fail
      refine (build_any (headN parts i) hle _ _ (fun k => Gf.comb coef parts k coef.length) _ enters42 ?_).mono ?_
      · intro k hk w' hx
        refine comb1_any k _ _ coef parts A B i ca cb w' ((HT.out.ext HW.out).ext hx) HN.out.1 HN.out.2 hl (fun j hj => ?_) (hx.cell (by go_simp)) (hx.cell (by go_simp)) ((HA.out.ext HW.out).ext hx) ((HB.out.ext HW.out).ext hx)
        rw [HJ.out j hj, ← HD.out]
        exact hk
      rintro e w1 ⟨rfl, hx⟩
      go_wp2_with fail
      go_ret2
      refine ⟨?_, HW.out.trans hx⟩
      rw [Gf.combS_ok HO.out, Gf.combE_ok HO.out, Gf.combine, ← HD.out]
      rfl
/-- What Combine returns. -/
theorem combine_any (coef : List UInt8) (parts : List (List UInt8)) (A B : Option Addr) (n m ca cb : Nat) (w : World) (hT : Tab w) (hn : n = coef.length) (hm : m = parts.length)
    (hl : n ≤ 140737488351232) (hs : ∀ p ∈ parts, p.length ≤ 140737488351232) (hA : Rd w A (coef.map bv)) (hB : Rd w B (parts.map fun p => .string (sb p))) :
    Calls Tryd.prog 21 #[.slice A n ca, .slice B m cb] w fun e w' => e = .returned (.tuple #[.string (sb (Gf.combS coef parts)), .int .i64 (Gf.combE coef parts)]) ∧ Ext w w' := by
  by_cases h : n = m
  · subst h
    exact combine_eq coef parts A B n ca cb w hT hn hm hl hs hA hB
  · have h' := Gf.combOk_ne (coef := coef) (parts := parts) (by omega)
    rw [Gf.combS_no h', Gf.combE_no h']
    exact combine_ne A B n m ca cb w h
end Go.Proofs.YtenafgphaceidaaDoor

/- A REGION THAT DRAWS ITS ORDER, by an invariant over the operations that are done: one obligation per operation. -/
namespace Go.Proofs.YtenafgphaceidaaDoor
section
variable {P : Program} {ops : Array Oper} {Q : Exit → Act → World → Prop} {md : Region.Mode}
/-- How many operations are not done. -/
def undone (listed : Array Bool) : Nat := listed.toList.countP (· == false)
theorem undone_set {listed : Array Bool} {i : Nat} (h : listed.getD i true = false) : undone (listed.setIfInBounds i true) + 1 = undone listed := by
  unfold undone
  rw [Array.toList_setIfInBounds]
  obtain ⟨l⟩ := listed
  have hi : l[i]? = some false := by
    simp only [Array.getD_eq_getD_getElem?, List.getElem?_toArray] at h
    cases hk : l[i]? with
    | none => rw [hk] at h; cases h
    | some b => rw [hk] at h; cases b; rfl; cases h
  show List.countP _ (l.set i true) + 1 = List.countP _ l
  clear h
  induction l generalizing i with
  | nil => simp at hi
  | cons b r ih =>
    cases i with
    | zero =>
      simp at hi
      subst hi
      simp
    | succ i =>
      have h2 := ih (i := i) (by simpa using hi)
      simp only [List.set_cons_succ, List.countP_cons]
      omega
/-- What may come up: it is not done, and all that it waits for is. -/
theorem ready_spec {listed : Array Bool} {i : Nat} (hi : i ∈ Region.ready md ops listed) :
    i < ops.size ∧ listed.getD i true = false ∧ ∀ o, ops[i]? = some o → ∀ e ∈ o.after, Region.binds md e = true → listed.getD e.on false = true := by
  unfold Region.ready at hi
  obtain ⟨h1, h2⟩ := List.mem_filter.1 hi
  simp only [Bool.and_eq_true, Bool.not_eq_true'] at h2
  refine ⟨by simpa using h1, h2.1, fun o ho e he hb => ?_⟩
  have h3 := h2.2
  rw [ho] at h3
  simp only [Option.map_some, Option.getD_some] at h3
  rw [Array.all_eq_true_iff_forall_mem] at h3
  have := h3 e he
  simp only [hb, Bool.not_true, Bool.false_or] at this
  exact this
theorem wpAny_inv (I : Array Bool → Act → World → Prop)
    (hstep : ∀ listed a w i, I listed a w → i ∈ Region.ready md ops listed → wpOp P ops Q i (I (listed.setIfInBounds i true)) a w)
    (hend : ∀ listed a w, I listed a w → Region.ready md ops listed = [] → Q .normal a w) :
    ∀ (fuel : Nat) (listed : Array Bool) (a : Act) (w : World), undone listed ≤ fuel → I listed a w → wpAny P md ops Q fuel listed a w := by
  have hun : ∀ (listed : Array Bool) (i : Nat), i ∈ Region.ready md ops listed → listed.getD i true = false := fun listed i hi => by
    unfold Region.ready at hi
    have := (List.mem_filter.1 hi).2
    simp only [Bool.and_eq_true, Bool.not_eq_true'] at this
    exact this.1
  intro fuel
  induction fuel with
  | zero =>
    intro listed a w hf hI
    have hr : Region.ready md ops listed = [] := by
      cases h : Region.ready md ops listed with
      | nil => rfl
      | cons i r =>
        exfalso
        have := undone_set (hun listed i (by rw [h]; simp))
        omega
    exact ⟨hr, hend _ _ _ hI hr⟩
  | succ fuel ih =>
    intro listed a w hf hI
    refine ⟨fun hr => hend _ _ _ hI hr, fun i hi => ?_⟩
    have h1 := undone_set (hun listed i hi)
    exact wpOp_mono (fun a w h => ih _ a w (by omega) h) (hstep _ _ _ _ hI hi)
end
end Go.Proofs.YtenafgphaceidaaDoor

/- A REGION THAT DRAWS ITS ORDER, by an invariant: what each operation yields, and what the world is by those that are done. One obligation per operation. -/
namespace Go.Proofs.YtenafgphaceidaaDoor
open Go.RowKit
def upd (L : Nat → Bool) (i : Nat) : Nat → Bool := fun j => if j = i then true else L j
def depsOf (ops : Array Oper) : List (List Nat) := ops.toList.map fun o => (o.after.toList.filter (Region.binds .any)).map (·.on)
def Closed (deps : List (List Nat)) (L : Nat → Bool) : Prop := ∀ i, L i = true → ∀ j ∈ deps.getD i [], L j = true
/-- The order: each waits for such alone as stand before it. -/
def topo (deps : List (List Nat)) : List Nat → List Nat → Bool
  | [], _ => true
  | i :: r, done => (deps.getD i []).all (fun j => done.contains j) && topo deps r (i :: done)
section
variable {P : Program} {ops : Array Oper} {Q : Exit → Act → World → Prop}
def StepOk (P : Program) (ops : Array Oper) (Q : Exit → Act → World → Prop) (deps : List (List Nat)) (I : (Nat → Bool) → Act → World → Prop) (i : Nat) : Prop :=
  ∀ L a w, I L a w → L i = false → Closed deps L → (∀ j ∈ deps.getD i [], L j = true) → wpOp P ops Q i (I (upd L i)) a w
def Steps (P : Program) (ops : Array Oper) (Q : Exit → Act → World → Prop) (deps : List (List Nat)) (I : (Nat → Bool) → Act → World → Prop) : Nat → Nat → Prop
  | _, 0 => True
  | n, k + 1 => StepOk P ops Q deps I n ∧ Steps P ops Q deps I (n + 1) k
theorem Steps.at {deps : List (List Nat)} {I : (Nat → Bool) → Act → World → Prop} : ∀ {k n i : Nat}, Steps P ops Q deps I n k → n ≤ i → i < n + k → StepOk P ops Q deps I i
  | 0, n, i, _, h1, h2 => by omega
  | k + 1, n, i, h, h1, h2 => by
    by_cases he : i = n
    · rw [he]; exact h.1
    · exact Steps.at h.2 (by omega) (by omega)
theorem topo_all {deps : List (List Nat)} {L : Nat → Bool} (hr : ∀ i, i < deps.length → (∀ j ∈ deps.getD i [], L j = true) → L i = true) : ∀ (ord done : List Nat), topo deps ord done = true → (∀ i ∈ ord, i < deps.length) → (∀ j ∈ done, L j = true) → ∀ i ∈ ord, L i = true
  | [], _, _, _, _ => fun i h => by cases h
  | k :: r, done, ht, hl, hd => by
    rw [topo, Bool.and_eq_true] at ht
    have hk : L k = true := hr k (hl k (by simp)) fun j hj => hd j (by
      have := List.all_eq_true.1 ht.1 j hj
      simpa using this)
    intro i hi
    rcases List.mem_cons.1 hi with rfl | hi
    · exact hk
    · exact topo_all hr r (k :: done) ht.2 (fun i hi => hl i (by simp [hi])) (fun j hj => by
        rcases List.mem_cons.1 hj with rfl | hj
        · exact hk
        · exact hd j hj) i hi
theorem region_inv {id : Nat} {a : Act} {w : World} (hm : P.follows .mixedOrders = true) (deps : List (List Nat)) (hdeps : depsOf ops = deps) (ord : List Nat) (ht : topo deps ord [] = true) (ho : ((List.range deps.length).all fun i => ord.contains i) = true) (ho2 : (ord.all fun i => decide (i < deps.length)) = true)
    (I : (Nat → Bool) → Act → World → Prop) (h0 : I (fun _ => false) a { w with drawn := w.drawn + 1 })
    (hs : Steps P ops Q deps I 0 deps.length)
    (hend : ∀ L a w, I L a w → (∀ i, i < deps.length → L i = true) → Q .normal a w) : (Code.region id ops true).wp P Q a w := by
  refine wp_region_any hm ?_
  have hlen : deps.length = ops.size := by rw [← hdeps]; simp [depsOf]
  have hdep : ∀ (i : Nat) (o : Oper), ops[i]? = some o → deps.getD i [] = (o.after.toList.filter (Region.binds .any)).map (·.on) := fun i o hi => by
    rw [← hdeps, depsOf, List.getD_eq_getElem?_getD, List.getElem?_map]
    rw [← Array.getElem?_toList] at hi
    rw [hi]
    rfl
  have hun : undone (Array.replicate ops.size false) ≤ ops.size := by
    unfold undone
    have := List.countP_le_length (p := (· == false)) (l := (Array.replicate ops.size false).toList)
    simpa using this
  refine wpAny_inv (fun listed a w => listed.size = ops.size ∧ Closed deps (fun j => listed.getD j false) ∧ I (fun j => listed.getD j false) a w) ?_ ?_ ops.size _ _ _ hun ?_
  · rintro listed a w i ⟨hsz, hc, hI⟩ hi
    obtain ⟨h1, h2, h3⟩ := ready_spec hi
    have hL : listed.getD i false = false := by
      rw [Array.getD_eq_getD_getElem?] at h2 ⊢
      rw [Array.getElem?_eq_getElem (by omega)] at h2 ⊢
      exact h2
    obtain ⟨o, hoi⟩ : ∃ o, ops[i]? = some o := ⟨_, Array.getElem?_eq_getElem h1⟩
    have hd : ∀ j ∈ deps.getD i [], listed.getD j false = true := fun j hj => by
      rw [hdep i o hoi] at hj
      obtain ⟨e, he, rfl⟩ := List.mem_map.1 hj
      exact h3 o hoi e (by simpa using (List.mem_filter.1 he).1) (List.mem_filter.1 he).2
    have hu : (fun j => (listed.setIfInBounds i true).getD j false) = upd (fun j => listed.getD j false) i := by
      funext j
      unfold upd
      by_cases hji : j = i
      · subst hji
        rw [if_pos rfl, Array.getD_eq_getD_getElem?, Array.getElem?_setIfInBounds_self_of_lt (by omega)]
        rfl
      · rw [if_neg hji]
        exact getD_set_ne false (Ne.symm hji)
    have hstep := Steps.at hs (Nat.zero_le i) (by omega) (fun j => listed.getD j false) a w hI hL hc hd
    refine wpOp_mono ?_ hstep
    intro a' w' hI'
    refine ⟨by rw [Array.size_setIfInBounds]; exact hsz, ?_, by rw [hu]; exact hI'⟩
    rw [hu]
    intro k hk j hj
    unfold upd at hk ⊢
    by_cases hki : k = i
    · subst hki
      split
      · rfl
      · exact hd j hj
    · rw [if_neg hki] at hk
      split
      · rfl
      · exact hc k hk j hj
  · rintro listed a w ⟨hsz, hc, hI⟩ hr
    refine hend _ a w hI ?_
    have hall : ∀ i, i < deps.length → (∀ j ∈ deps.getD i [], listed.getD j false = true) → listed.getD i false = true := by
      intro i hi hdi
      by_cases hL : listed.getD i false = true
      · exact hL
      · exfalso
        have hmem : i ∈ Region.ready .any ops listed := by
          rw [mem_ready]
          obtain ⟨o, hoi⟩ : ∃ o, ops[i]? = some o := ⟨_, Array.getElem?_eq_getElem (by omega)⟩
          refine ⟨?_, o, hoi, fun e he hbn => hdi e.on (by rw [hdep i o hoi]; exact List.mem_map.2 ⟨e, List.mem_filter.2 ⟨by simpa using he, hbn⟩, rfl⟩)⟩
          rw [Array.getD_eq_getD_getElem?] at hL ⊢
          rw [Array.getElem?_eq_getElem (by omega)] at hL ⊢
          simpa using hL
        rw [hr] at hmem
        cases hmem
    intro i hi
    refine topo_all (L := fun j => listed.getD j false) hall ord [] ht (fun i hi => by simpa using List.all_eq_true.1 ho2 i hi) (fun j hj => by cases hj) i ?_
    have := List.all_eq_true.1 ho i (by simpa using hi)
    simpa using this
  · refine ⟨by simp, fun i hi => ?_, ?_⟩
    · simp [Array.getElem?_replicate] at hi
      split at hi <;> simp at hi
    · have e : (fun j => (Array.replicate ops.size false).getD j false) = fun _ => false := by
        funext j
        simp [Array.getElem?_replicate]
        split <;> simp
      rw [e]
      exact h0
theorem wpOp_value {i : Nat} {o : Oper} {a : Act} {w w' : World} {K : Act → World → Prop} {v : Value} (hi : ops[i]? = some o) (hg : o.guard = none) (hr : (execOp a.eval o).run P w = .ok (.value v) w') (hK : K (a.put o.dst v) w') : wpOp P ops Q i K a w := by
  have hw : Region.wanted o (yielded ops a.tmps) = true := by simp [Region.wanted, hg]
  unfold wpOp
  simp only [hi, hw, if_true, Oper.wp, hr, Oper.upon]
  exact .inl hK
theorem wpOp_skip {i : Nat} {o : Oper} {a : Act} {w w' : World} {K : Act → World → Prop} (hi : ops[i]? = some o) (hg : o.guard = none) (hd : o.dst = none) (hr : (execOp a.eval o).run P w = .ok .skip w') (hK : K a w') : wpOp P ops Q i K a w := by
  have hw : Region.wanted o (yielded ops a.tmps) = true := by simp [Region.wanted, hg]
  unfold wpOp
  simp only [hi, hw, if_true, Oper.wp, hr, Oper.upon, hd, Act.put]
  exact .inl hK
theorem wpOp_call {i : Nat} {o : Oper} {a : Act} {w w1 : World} {K : Act → World → Prop} {f : FuncId} {args : Array Value} {R : Value → World → Prop} (hi : ops[i]? = some o) (hg : o.guard = none) (hr : (execOp a.eval o).run P w = .ok (.enter f args) w1)
    (h : Calls P f args w1 fun e w' => ∃ v, e = .returned v ∧ R v w') (hK : ∀ v w', R v w' → K (a.put o.dst v) w') : wpOp P ops Q i K a w := by
  have hw : Region.wanted o (yielded ops a.tmps) = true := by simp [Region.wanted, hg]
  unfold wpOp
  simp only [hi, hw, if_true, Oper.wp, hr, Oper.upon]
  refine .inl (h.mono ?_)
  rintro e w' ⟨v, rfl, hv⟩
  exact hK v w' hv
end
section
variable {P : Program} {o : Oper} {a : Act} {w : World}
theorem ex_move {x : Operand} {v : Value} (ho : o.op = .move x) (hx : a.eval x = v) : (execOp a.eval o).run P w = .ok (.value v) w := by
  subst hx
  unfold execOp
  simp only [ho, Sem.run_pure]
theorem ex_nil {x : Operand} {ad : Addr} (ho : o.op = .nilCheck x) (hx : a.eval x = .pointer (some ad)) : (execOp a.eval o).run P w = .ok (.value (.pointer (some ad))) w := by
  unfold execOp
  simp only [ho, hx, Sem.run_pure]
theorem ex_field {s : TypeId} {x : Operand} {f : Nat} {v u : Value} (ho : o.op = .fieldAddr s x f) (hx : a.eval x = u) (hr : (Instr.fieldAt s u f).run P w = .ok v w) : (execOp a.eval o).run P w = .ok (.value v) w := by
  unfold execOp
  simp only [ho, hx, hr, Sem.run_bind, Sem.run_pure, Result.andThen_ok]
theorem ex_index {s : TypeId} {x y : Operand} {v u z : Value} (ho : o.op = .indexAddr s x y) (hx : a.eval x = u) (hy : a.eval y = z) (hr : (Instr.indexAt s u z).run P w = .ok v w) : (execOp a.eval o).run P w = .ok (.value v) w := by
  unfold execOp
  simp only [ho, hx, hy, hr, Sem.run_bind, Sem.run_pure, Result.andThen_ok]
theorem ex_load {t : TypeId} {x : Operand} {u v : Value} (ho : o.op = .load t x) (hx : a.eval x = u) (hr : (Instr.loadAt t u).run P w = .ok v w) : (execOp a.eval o).run P w = .ok (.value v) w := by
  unfold execOp
  simp only [ho, hx, hr, Sem.run_bind, Sem.run_pure, Result.andThen_ok]
theorem ex_store {t : TypeId} {x y : Operand} {u v : Value} {w' : World} (ho : o.op = .store t x y) (hx : a.eval x = u) (hy : a.eval y = v) (hr : (Instr.storeAt t u v).run P w = .ok () w') : (execOp a.eval o).run P w = .ok .skip w' := by
  unfold execOp
  simp only [ho, hx, hy, hr, Sem.run_bind, Sem.run_pure, Result.andThen_ok]
theorem ex_build {t e : TypeId} {z : Value} {bytes : Nat} {x : Operand} {u : Value} (ho : o.op = .buildSlice t 1 #[(0, x)]) (ht : P.underlying t = some (.slice e)) (hi : (P.info? e).map (fun i => (i.zero, i.size, i.bytes)) = some (some z, 1, bytes)) (hx : a.eval x = u) (hu : u.cells = #[u]) :
    (execOp a.eval o).run P w = .ok (.value (.slice (some ⟨w.heap.size, 0, none⟩) 1 1)) (w.alloc (.cells #[u] e)) := by
  have hr := run_build_one (P := P) ht hi w u hu
  unfold execOp
  simp only [ho, List.map_toArray, List.map_cons, List.map_nil, hx, hr, Sem.run_bind, Sem.run_pure, Result.andThen_ok]
theorem ex_assign {x : Operand} {v : Value} (ho : o.op = .assign x) (hx : a.eval x = v) : (execOp a.eval o).run P w = .ok (.value v) w := by
  subst hx
  unfold execOp
  simp only [ho, Sem.run_pure]
theorem ex_bin {op : BinOp} {t t2 : TypeId} {x y : Operand} {u v r : Value} (ho : o.op = .binOp op t x y t2) (hx : a.eval x = u) (hy : a.eval y = v) (hr : (do eqGuard op t x y u v; binOp op t u v : Sem Value).run P w = .ok r w) : (execOp a.eval o).run P w = .ok (.value r) w := by
  unfold execOp
  simp only [ho, hx, hy, Sem.run_bind, Sem.run_pure] at hr ⊢
  rw [hr]
  rfl
theorem ex_un {op : UnOp} {t : TypeId} {x : Operand} {u r : Value} (ho : o.op = .unOp op t x) (hx : a.eval x = u) (hr : (Op.unary op u).run P w = .ok r w) : (execOp a.eval o).run P w = .ok (.value r) w := by
  unfold execOp
  simp only [ho, hx, hr, Sem.run_bind, Sem.run_pure, Result.andThen_ok]
theorem ex_pick {c x y : Operand} {b : Bool} {u : Value} (ho : o.op = .pick c x y) (hc : a.eval c = .bool b) (hx : (if b then a.eval x else a.eval y) = u) : (execOp a.eval o).run P w = .ok (.value u) w := by
  subst hx
  unfold execOp
  simp [ho, hc, asBool, Sem.run_pure]
theorem ex_slice {t : TypeId} {x : Operand} {lo hi mx : Option Operand} {v : Value} (ho : o.op = .slice t x lo hi mx) (hr : (Instr.sliceAt t (a.eval x) (lo.map a.eval) (hi.map a.eval) (mx.map a.eval)).run P w = .ok v w) : (execOp a.eval o).run P w = .ok (.value v) w := by
  unfold execOp
  simp only [ho, hr, Sem.run_bind, Sem.run_pure, Result.andThen_ok]
theorem ex_len {x : Operand} {A : Option Addr} {n c : Nat} {t : TypeId} (ho : o.op = .call { callee := .builtin .len, args := #[x], argTypes := #[t] }) (hx : a.eval x = .slice A n c) (hr : (Builtin.len_ #[t] o.type #[.slice A n c]).run P w = .ok (.int .i64 n) w) : (execOp a.eval o).run P w = .ok (.value (.int .i64 n)) w := by
  unfold execOp
  simp only [ho, resolve, invoke, builtin, Sem.run_bind, Sem.run_pure, Result.andThen_ok, List.map_toArray, List.map_cons, List.map_nil, hx, hr]
theorem map2c {x y : Operand} {u v : Value} (h : a.eval x = u) (h2 : a.eval y = v) : #[x, y].map a.eval ++ #[] = #[u, v] := by simp [h, h2]
theorem ex_call {f : Operand} {k : FuncId} {args : Array Operand} {ts : Array TypeId} {cap vs : Array Value} (ho : o.op = .call { callee := .value f, args := args, argTypes := ts }) (hf : a.eval f = .func (.func k) #[] cap) (ha : args.map a.eval ++ cap = vs) (he : (callFunc k vs).run P w = .ok (.enter k vs) w) : (execOp a.eval o).run P w = .ok (.enter k vs) w := by
  subst ha
  unfold execOp
  simp only [ho, resolve, hf, Deferred.ofValue, invoke, Sem.run_bind, Sem.run_pure, Result.andThen_ok, Array.empty_append, he]
/-- 'append(row, x)' onto a row of the call's own, x laid in a row of one cell. -/
theorem ex_append {w0 : World} {L : List LRow} (t e : TypeId) {s x : Operand} (ho : o.op = .call { callee := .builtin .append, args := #[s, x], argTypes := #[t, t] })
    {z : Value} {bytes : Nat} (ht : P.underlying t = some (.slice e)) (hi : (P.info? e).map (fun i => (i.zero, i.size, i.bytes)) = some (some z, 1, bytes)) (hzs : z.cells.size = 1)
    (h : Owns w0 w L) (i : Nat) {v : Value} {n : Nat} {xs : List Value} (hL : L[i]? = some ⟨v, e, 1, n, xs⟩) (hs : a.eval s = v) {g0 : Nat} {u : Value}
    (hx : a.eval x = .slice (some ⟨g0, 0, none⟩) 1 1) (hu : w.cell? ⟨g0, 0, none⟩ = some u) (h1 : u.oneCell' = true) (hm : n < 1000000000000) (hb : bytes ≤ 100) :
    ∃ g cap w', (execOp a.eval o).run P w = .ok (.value (.slice (some ⟨g, 0, none⟩) (n + 1) cap)) w' ∧ Owns w0 w' (L.set i ⟨.slice (some ⟨g, 0, none⟩) (n + 1) cap, e, 1, n + 1, xs ++ [u]⟩) := by
  have hbb : (n + 1) * bytes ≤ (n + 1) * 100 := Nat.mul_le_mul_left _ hb
  obtain ⟨g, cap, w', hr, h2, _, h3⟩ := run_append_owns (P := P) t o.type e ht hi hzs (by decide) h i hL ⟨g0, 0, none⟩ 1 1 [u] rfl (fun j y hj => by
    match j, hj with
    | 0, hj => simp at hj; subst hj; exact hu) (fun y hy => by simp at hy; subst hy; exact h1) (by decide) (by unfold maxLen; omega) (by omega)
  refine ⟨g, cap, w', ?_, h2⟩
  unfold execOp
  simp only [ho, resolve, invoke, builtin, Sem.run_bind, Sem.run_pure, Result.andThen_ok, List.map_toArray, List.map_cons, List.map_nil, hs, hx, hr]
theorem wpOp_append {ops : Array Oper} {Q : Exit → Act → World → Prop} {K : Act → World → Prop} {w0 : World} {L : List LRow} {i0 : Nat} (hi0 : ops[i0]? = some o) (hg : o.guard = none) (t e : TypeId) {s x : Operand} (ho : o.op = .call { callee := .builtin .append, args := #[s, x], argTypes := #[t, t] })
    {z : Value} {bytes : Nat} (ht : P.underlying t = some (.slice e)) (hi : (P.info? e).map (fun i => (i.zero, i.size, i.bytes)) = some (some z, 1, bytes)) (hzs : z.cells.size = 1)
    (h : Owns w0 w L) (i : Nat) {v : Value} {n : Nat} {xs : List Value} (hL : L[i]? = some ⟨v, e, 1, n, xs⟩) (hs : a.eval s = v) {g0 : Nat} {u : Value}
    (hx : a.eval x = .slice (some ⟨g0, 0, none⟩) 1 1) (hu : w.cell? ⟨g0, 0, none⟩ = some u) (h1 : u.oneCell' = true) (hm : n < 1000000000000) (hb : bytes ≤ 100)
    (hK : ∀ g cap w', Owns w0 w' (L.set i ⟨.slice (some ⟨g, 0, none⟩) (n + 1) cap, e, 1, n + 1, xs ++ [u]⟩) → K (a.put o.dst (.slice (some ⟨g, 0, none⟩) (n + 1) cap)) w') : wpOp P ops Q i0 K a w := by
  obtain ⟨g, cap, w', hr, h2⟩ := ex_append (P := P) t e ho ht hi hzs h i hL hs hx hu h1 hm hb
  exact wpOp_value hi0 hg hr (hK g cap w' h2)
theorem wanted_at {ops : Array Oper} {o : Oper} {a : Act} {g t : Nat} {b want : Bool} (hg : o.guard = some (g, want)) (hd : (ops[g]?).bind (·.dst) = some t) (he : a.eval (.tmp t) = .bool b) : Region.wanted o (yielded ops a.tmps) = (b == want) := by
  have ht : a.tmps[t]? = some (.bool b) := by
    simp only [Act.eval, Array.getD_eq_getD_getElem?] at he
    cases h : a.tmps[t]? with
    | none => rw [h] at he; cases he
    | some v => rw [h] at he; simp at he; rw [he]
  unfold Region.wanted yielded
  rw [hg]
  dsimp only
  rw [hd]
  simp [ht]
theorem wpOp_val {ops : Array Oper} {Q : Exit → Act → World → Prop} {i : Nat} {w' : World} {K : Act → World → Prop} {v : Value} (hi : ops[i]? = some o) (hw : Region.wanted o (yielded ops a.tmps) = true) (hr : (execOp a.eval o).run P w = .ok (.value v) w') (hK : K (a.put o.dst v) w') : wpOp P ops Q i K a w := by
  unfold wpOp
  simp only [hi, hw, if_true, Oper.wp, hr, Oper.upon]
  exact .inl hK
theorem wpOp_callw {ops : Array Oper} {Q : Exit → Act → World → Prop} {i : Nat} {w1 : World} {K : Act → World → Prop} {f : FuncId} {args : Array Value} {R : Value → World → Prop} (hi : ops[i]? = some o) (hw : Region.wanted o (yielded ops a.tmps) = true) (hr : (execOp a.eval o).run P w = .ok (.enter f args) w1)
    (h : Calls P f args w1 fun e w' => ∃ v, e = .returned v ∧ R v w') (hK : ∀ v w', R v w' → K (a.put o.dst v) w') : wpOp P ops Q i K a w := by
  unfold wpOp
  simp only [hi, hw, if_true, Oper.wp, hr, Oper.upon]
  refine .inl (h.mono ?_)
  rintro e w' ⟨v, rfl, hv⟩
  exact hK v w' hv
theorem wpOp_off {ops : Array Oper} {Q : Exit → Act → World → Prop} {i : Nat} {K : Act → World → Prop} (hi : ops[i]? = some o) (hw : Region.wanted o (yielded ops a.tmps) = false) (hK : K (a.put o.dst undef) w) : wpOp P ops Q i K a w := by
  unfold wpOp
  simp only [hi, hw]
  exact hK
end
/-- A post that a region meets at its end, and nowhere else. -/
def AtEnd (R : Act → World → Prop) : Exit → Act → World → Prop
  | .normal, a, w => R a w
  | _, _, _ => False
theorem wp_atEnd {P : Program} {c : Code} {K : Act → World → Prop} {Q : Exit → Act → World → Prop} {a : Act} {w : World} (h : Code.wp P c (AtEnd K) a w) : Code.wp P c (Exit.then K Q) a w :=
  Code.wp_mono (fun e a w hr => by
    cases e with
    | normal => exact hr
    | _ => exact (hr : False).elim) h
/-- A region of a function's text, by its number. -/
def regionOf (n : Nat) : Code → Option Code
  | .region id ops b => if id == n then some (.region id ops b) else none
  | .seq a b => match regionOf n a with
    | some c => some c
    | none => regionOf n b
  | .loop c => regionOf n c
  | .rangeFunc _ _ a b => match regionOf n a with
    | some c => some c
    | none => regionOf n b
  | .block _ c => regionOf n c
  | .scope c => regionOf n c
  | .cond _ a b => match regionOf n a with
    | some c => some c
    | none => regionOf n b
  | _ => none
/-- WHAT THE OPERATIONS THAT ARE DONE HAVE YIELDED: vals, in the slots dsts; other slots are as they were. -/
structure Inv (dsts : List (Option Nat)) (vals : List Value) (a0 : Act) (L : Nat → Bool) (a : Act) : Prop where
  size : a.tmps.size = a0.tmps.size
  defers : a.defers = a0.defers
  fixed : ∀ t, (dsts.contains (some t)) = false → a.eval (.tmp t) = a0.eval (.tmp t)
  vals : ∀ (i d : Nat) (v : Value), dsts[i]? = some (some d) → vals[i]? = some v → L i = true → a.eval (.tmp d) = v
def apartD (dsts : List (Option Nat)) : Bool := (List.range dsts.length).all fun i => (List.range dsts.length).all fun j => i == j || dsts.getD i none == none || dsts.getD i none != dsts.getD j none
theorem apartD_spec {dsts : List (Option Nat)} (h : apartD dsts = true) {i j d : Nat} (hi : dsts[i]? = some (some d)) (hj : dsts[j]? = some (some d)) : i = j := by
  have h1 := (List.getElem?_eq_some_iff.1 hi).1
  have h2 := (List.getElem?_eq_some_iff.1 hj).1
  have h3 := List.all_eq_true.1 (List.all_eq_true.1 h i (by simpa using h1)) j (by simpa using h2)
  rw [List.getD_eq_getElem?_getD, List.getD_eq_getElem?_getD, hi, hj] at h3
  simpa using h3
theorem eval_put_same {a : Act} {d : Nat} {v : Value} (h : d < a.tmps.size) : (a.put (some d) v).eval (.tmp d) = v := by
  simp [Act.eval, Act.put, Array.getElem?_setIfInBounds_self_of_lt h]
theorem eval_put_ne {a : Act} {d t : Nat} {v : Value} (h : t ≠ d) : (a.put (some d) v).eval (.tmp t) = a.eval (.tmp t) := by
  simp [Act.eval, Act.put, Array.getElem?_setIfInBounds_ne (Ne.symm h)]
theorem Inv.start {dsts : List (Option Nat)} {vals : List Value} {a0 : Act} : Inv dsts vals a0 (fun _ => false) a0 := ⟨rfl, rfl, fun _ _ => rfl, fun _ _ _ _ _ h => by cases h⟩
theorem Inv.get {dsts : List (Option Nat)} {vals : List Value} {a0 a : Act} {L : Nat → Bool} (h : Inv dsts vals a0 L a) (i : Nat) {d : Nat} {v : Value} (hd : dsts[i]? = some (some d)) (hv : vals[i]? = some v) (hL : L i = true) : a.eval (.tmp d) = v := h.vals i d v hd hv hL
theorem Inv.put {dsts : List (Option Nat)} {vals : List Value} {a0 a : Act} {L : Nat → Bool} (h : Inv dsts vals a0 L a) (hap : apartD dsts = true) (i : Nat) {d : Nat} {v : Value} (hd : dsts[i]? = some (some d)) (hds : d < a0.tmps.size) (hi : i < vals.length) {vals' : List Value} (hv : vals' = vals.set i v) : Inv dsts vals' a0 (upd L i) (a.put (some d) v) := by
  subst hv
  have hsz : d < a.tmps.size := by rw [h.size]; exact hds
  have hmem : dsts.contains (some d) = true := by
    rw [List.contains_iff_mem]
    exact List.mem_of_getElem? hd
  refine ⟨by simp [Act.put, h.size], by simp [Act.put, h.defers], fun t ht => ?_, fun j d' v' hj hv' hL => ?_⟩
  · have hne : t ≠ d := by
      rintro rfl
      rw [hmem] at ht
      cases ht
    rw [eval_put_ne hne]
    exact h.fixed t ht
  · by_cases hji : j = i
    · subst hji
      rw [hd] at hj
      injection hj with hj
      injection hj with hj
      subst hj
      rw [List.getElem?_set_self hi] at hv'
      injection hv' with hv'
      rw [eval_put_same hsz, hv']
    · have hne : d' ≠ d := by
        rintro rfl
        exact hji (apartD_spec hap hj hd)
      rw [eval_put_ne hne]
      rw [List.getElem?_set_ne (Ne.symm hji)] at hv'
      unfold upd at hL
      rw [if_neg hji] at hL
      exact h.vals j d' v' hj hv' hL
theorem Inv.reset {dsts : List (Option Nat)} {vals : List Value} {a0 a : Act} {L : Nat → Bool} (h : Inv dsts vals a0 L a) (i : Nat) (hL : L i = false) (v : Value) : Inv dsts (vals.set i v) a0 L a :=
  ⟨h.size, h.defers, h.fixed, fun j d v' hj hv' hLj => by
    have hji : j ≠ i := by
      rintro rfl
      rw [hL] at hLj
      cases hLj
    rw [List.getElem?_set_ne (Ne.symm hji)] at hv'
    exact h.vals j d v' hj hv' hLj⟩
theorem Inv.skip {dsts : List (Option Nat)} {vals : List Value} {a0 a : Act} {L : Nat → Bool} (h : Inv dsts vals a0 L a) (i : Nat) (hd : dsts[i]? = some none) : Inv dsts vals a0 (upd L i) a := by
  refine ⟨h.size, h.defers, h.fixed, fun j d' v' hj hv' hL => ?_⟩
  unfold upd at hL
  split at hL
  · rename_i he
    subst he
    rw [hd] at hj
    injection hj with hj
    cases hj
  · exact h.vals j d' v' hj hv' hL
/-- A frame, out of its slots' values. -/
theorem act_lit (a : Act) : a = ⟨((List.range a.tmps.size).map fun t => a.eval (.tmp t)).toArray, a.defers⟩ := by
  obtain ⟨t, d⟩ := a
  congr 1
  apply Array.ext
  · simp
  · intro i h1 h2
    simp [Act.eval, Array.getElem?_eq_getElem h1]
end Go.Proofs.YtenafgphaceidaaDoor

/- A DRAWN REGION BY AN INVARIANT, with slots that it reads and writes. -/
namespace Go.Proofs.YtenafgphaceidaaDoor
open Go.RowKit
/-- As Inv, and a slot whose operation is not done is as it was. -/
structure InvO (dsts : List (Option Nat)) (vals : List Value) (a0 : Act) (L : Nat → Bool) (a : Act) : Prop where
  inv : Inv dsts vals a0 L a
  old : ∀ i t, dsts[i]? = some (some t) → L i = false → a.eval (.tmp t) = a0.eval (.tmp t)
theorem InvO.start {dsts : List (Option Nat)} {vals : List Value} {a0 : Act} : InvO dsts vals a0 (fun _ => false) a0 := ⟨Inv.start, fun _ _ _ _ => rfl⟩
theorem InvO.put {dsts : List (Option Nat)} {vals : List Value} {a0 a : Act} {L : Nat → Bool} (h : InvO dsts vals a0 L a) (hap : apartD dsts = true) (i : Nat) {d : Nat} {v : Value} (hd : dsts[i]? = some (some d)) (hds : d < a0.tmps.size) (hi : i < vals.length) {vals' : List Value} (hv : vals' = vals.set i v) : InvO dsts vals' a0 (upd L i) (a.put (some d) v) := by
  refine ⟨h.inv.put hap i hd hds hi hv, ?_⟩
  intro j t hj hL
  unfold upd at hL
  split at hL
  · cases hL
  · rename_i hji
    rw [eval_put_ne]
    · exact h.old j t hj hL
    · rintro rfl
      exact hji (apartD_spec hap hj hd)
theorem InvO.reset {dsts : List (Option Nat)} {vals : List Value} {a0 a : Act} {L : Nat → Bool} (h : InvO dsts vals a0 L a) (i : Nat) (hL : L i = false) (v : Value) : InvO dsts (vals.set i v) a0 L a := ⟨h.inv.reset i hL v, h.old⟩
theorem InvO.get {dsts : List (Option Nat)} {vals : List Value} {a0 a : Act} {L : Nat → Bool} (h : InvO dsts vals a0 L a) (i : Nat) {d : Nat} {v : Value} (hd : dsts[i]? = some (some d)) (hv : vals[i]? = some v) (hL : L i = true) : a.eval (.tmp d) = v := h.inv.get i hd hv hL
theorem InvO.fixed {dsts : List (Option Nat)} {vals : List Value} {a0 a : Act} {L : Nat → Bool} (h : InvO dsts vals a0 L a) (t : Nat) (ht : dsts.contains (some t) = false) : a.eval (.tmp t) = a0.eval (.tmp t) := h.inv.fixed t ht
theorem InvO.size {dsts : List (Option Nat)} {vals : List Value} {a0 a : Act} {L : Nat → Bool} (h : InvO dsts vals a0 L a) : a.tmps.size = a0.tmps.size := h.inv.size
theorem InvO.defers {dsts : List (Option Nat)} {vals : List Value} {a0 a : Act} {L : Nat → Bool} (h : InvO dsts vals a0 L a) : a.defers = a0.defers := h.inv.defers
end Go.Proofs.YtenafgphaceidaaDoor

/- THE DRAWN REGION OF Carry's closure. -/
namespace Go.Proofs.YtenafgphaceidaaDoor
open Go.RowKit
theorem ent_scale : ∀ args w, (callFunc 39 args).run Tryd.prog w = .ok (.enter 39 args) w := enters_of Tryd.func39 (by kernel_rfl) rfl
theorem ent_sum : ∀ args w, (callFunc 38 args).run Tryd.prog w = .ok (.enter 38 args) w := enters_of Tryd.func38 (by kernel_rfl) rfl
noncomputable def carry_part_code : Code := ((Tryd.f37.body.bind (regionOf 6)).getD .skip)
def carry_part_dsts : List (Option Nat) := [some 29, some 30, some 31, some 32, some 33, some 34, some 35, some 36, some 37, some 38, some 39, some 9]
theorem carry_part_apart : apartD carry_part_dsts = true := by decide +kernel
set_option maxRecDepth 1000000 in
set_option maxHeartbeats 16000000 in
theorem carry_part (wr : World) (P3 P4 n m cc cp k : Nat) (ac ap : Addr) (x : UInt8) (y Z : List UInt8) (hkn : k < n) (hkm : k < m) (hy : y.length ≤ 140737488351232) (hZ : Z.length ≤ 140737488351232) (HT : Hid (Tab wr)) (p3 : wr.cell? ⟨P3, 0, none⟩ = some (.slice (some ac) n cc)) (p4 : wr.cell? ⟨P4, 0, none⟩ = some (.slice (some ap) m cp)) (cx : wr.cell? (ac.add k) = some (bv x)) (cy : wr.cell? (ap.add k) = some (.string (sb y))) (c0 c1 c2 c5 c6 c7 c8 c11 c12 c13 c14 c15 c16 c17 c18 c19 c20 c21 c22 c23 c24 c25 c26 c27 c28 c29 c30 c31 c32 c33 c34 c35 c36 c37 c38 c39 c40 c41 c42 c43 c44 c45 c46 c47 c48 c49 c50 c51 c52 c53 c54 c55 c56 c57 c58 : Value) (df : List Deferred) (K : Act → World → Prop)
    (hK : ∀  (u29 u30 u31 u32 u33 u34 u35 u36 u37 u38 u39 : Value) (wx : World), Ext wr wx → K ⟨#[c0, c1, c2, .pointer (some ⟨P3, 0, none⟩), .pointer (some ⟨P4, 0, none⟩), c5, c6, c7, c8, .string (sb (Gf.sum Z (Gf.scale x y))), .int .i64 k, c11, c12, c13, c14, c15, c16, c17, c18, c19, c20, c21, c22, c23, c24, c25, c26, c27, c28, u29, u30, u31, u32, u33, u34, u35, u36, u37, u38, u39, c40, c41, c42, c43, c44, c45, c46, c47, c48, c49, c50, c51, c52, c53, c54, c55, c56, c57, c58], df⟩ wx) :
    Code.wp Tryd.prog carry_part_code (AtEnd K) ⟨#[c0, c1, c2, .pointer (some ⟨P3, 0, none⟩), .pointer (some ⟨P4, 0, none⟩), c5, c6, c7, c8, .string (sb Z), .int .i64 k, c11, c12, c13, c14, c15, c16, c17, c18, c19, c20, c21, c22, c23, c24, c25, c26, c27, c28, c29, c30, c31, c32, c33, c34, c35, c36, c37, c38, c39, c40, c41, c42, c43, c44, c45, c46, c47, c48, c49, c50, c51, c52, c53, c54, c55, c56, c57, c58], df⟩ wr := by
  conv => arg 2; whnf
  refine region_inv (by kernel_rfl) [[], [], [], [1, 2], [3], [], [], [5, 6], [7], [4, 8], [0, 9, 9], [10, 10, 0, 1, 2, 3, 4, 5, 6, 7, 8, 9, 10]] (by kernel_rfl) [0, 1, 2, 3, 4, 5, 6, 7, 8, 9, 10, 11] (by decide +kernel) (by decide +kernel) (by decide +kernel) (fun L a wc => InvO carry_part_dsts [.string (sb Z), .slice (some ac) n cc, .int .i64 k, .pointer (some (ac.add k)), bv x, .slice (some ap) m cp, .int .i64 k, .pointer (some (ap.add k)), .string (sb y), .string (sb (Gf.scale x y)), .string (sb (Gf.sum Z (Gf.scale x y))), .string (sb (Gf.sum Z (Gf.scale x y)))] ⟨#[c0, c1, c2, .pointer (some ⟨P3, 0, none⟩), .pointer (some ⟨P4, 0, none⟩), c5, c6, c7, c8, .string (sb Z), .int .i64 k, c11, c12, c13, c14, c15, c16, c17, c18, c19, c20, c21, c22, c23, c24, c25, c26, c27, c28, c29, c30, c31, c32, c33, c34, c35, c36, c37, c38, c39, c40, c41, c42, c43, c44, c45, c46, c47, c48, c49, c50, c51, c52, c53, c54, c55, c56, c57, c58], df⟩ L a ∧ Hid (Ext wr wc)) ⟨InvO.start, Lib.hid ((Ext.refl wr).drew)⟩ ?_ ?_
  · refine ⟨?_, ?_, ?_, ?_, ?_, ?_, ?_, ?_, ?_, ?_, ?_, ?_, trivial⟩
    · -- 0 move
      rintro L a wc ⟨hv, HO⟩ hL hc hd
      exact wpOp_val rfl rfl (ex_move rfl ((hv.old 11 9 rfl (Bool.eq_false_iff.2 fun h => Bool.false_ne_true (hL.symm.trans (hc 11 h 0 (by decide))))).trans rfl)) ⟨hv.put carry_part_apart 0 rfl (Nat.le_of_ble_eq_true rfl) (Nat.le_of_ble_eq_true rfl) rfl, HO⟩
    · -- 1 load
      rintro L a wc ⟨hv, HO⟩ hL hc hd
      have e3 : wc.cell? ⟨P3, 0, none⟩ = some (.slice (some ac) n cc) := HO.out.cell p3
      exact wpOp_val rfl rfl (ex_load rfl ((hv.fixed 3 (by decide)).trans rfl) (by go_simp)) ⟨hv.put carry_part_apart 1 rfl (Nat.le_of_ble_eq_true rfl) (Nat.le_of_ble_eq_true rfl) rfl, HO⟩
    · -- 2 move
      rintro L a wc ⟨hv, HO⟩ hL hc hd
      exact wpOp_val rfl rfl (ex_move rfl ((hv.fixed 10 (by decide)).trans rfl)) ⟨hv.put carry_part_apart 2 rfl (Nat.le_of_ble_eq_true rfl) (Nat.le_of_ble_eq_true rfl) rfl, HO⟩
    · -- 3 index
      rintro L a wc ⟨hv, HO⟩ hL hc hd
      have b1 : (0 : Int) ≤ (k : Int) := by omega
      have b2 : (k : Int) < (n : Int) := by omega
      exact wpOp_val rfl rfl (ex_index rfl (hv.get 1 rfl rfl (hd 1 (by decide))) (hv.get 2 rfl rfl (hd 2 (by decide))) (by go_simp)) ⟨hv.put carry_part_apart 3 rfl (Nat.le_of_ble_eq_true rfl) (Nat.le_of_ble_eq_true rfl) rfl, HO⟩
    · -- 4 load
      rintro L a wc ⟨hv, HO⟩ hL hc hd
      have eX : wc.cell? (ac.add k) = some (bv x) := HO.out.cell cx
      exact wpOp_val rfl rfl (ex_load rfl (hv.get 3 rfl rfl (hd 3 (by decide))) (by go_simp)) ⟨hv.put carry_part_apart 4 rfl (Nat.le_of_ble_eq_true rfl) (Nat.le_of_ble_eq_true rfl) rfl, HO⟩
    · -- 5 load
      rintro L a wc ⟨hv, HO⟩ hL hc hd
      have e4 : wc.cell? ⟨P4, 0, none⟩ = some (.slice (some ap) m cp) := HO.out.cell p4
      exact wpOp_val rfl rfl (ex_load rfl ((hv.fixed 4 (by decide)).trans rfl) (by go_simp)) ⟨hv.put carry_part_apart 5 rfl (Nat.le_of_ble_eq_true rfl) (Nat.le_of_ble_eq_true rfl) rfl, HO⟩
    · -- 6 move
      rintro L a wc ⟨hv, HO⟩ hL hc hd
      exact wpOp_val rfl rfl (ex_move rfl ((hv.fixed 10 (by decide)).trans rfl)) ⟨hv.put carry_part_apart 6 rfl (Nat.le_of_ble_eq_true rfl) (Nat.le_of_ble_eq_true rfl) rfl, HO⟩
    · -- 7 index
      rintro L a wc ⟨hv, HO⟩ hL hc hd
      have b1 : (0 : Int) ≤ (k : Int) := by omega
      have b2 : (k : Int) < (m : Int) := by omega
      exact wpOp_val rfl rfl (ex_index rfl (hv.get 5 rfl rfl (hd 5 (by decide))) (hv.get 6 rfl rfl (hd 6 (by decide))) (by go_simp)) ⟨hv.put carry_part_apart 7 rfl (Nat.le_of_ble_eq_true rfl) (Nat.le_of_ble_eq_true rfl) rfl, HO⟩
    · -- 8 load
      rintro L a wc ⟨hv, HO⟩ hL hc hd
      have eY : wc.cell? (ap.add k) = some (.string (sb y)) := HO.out.cell cy
      exact wpOp_val rfl rfl (ex_load rfl (hv.get 7 rfl rfl (hd 7 (by decide))) (by go_simp)) ⟨hv.put carry_part_apart 8 rfl (Nat.le_of_ble_eq_true rfl) (Nat.le_of_ble_eq_true rfl) rfl, HO⟩
    · -- 9 call
      rintro L a wc ⟨hv, HO⟩ hL hc hd
      refine wpOp_call (R := fun v w1 => v = .string (sb (Gf.scale x y)) ∧ Ext wc w1) rfl rfl (ex_call rfl rfl (map2c (hv.get 4 rfl rfl (hd 4 (by decide))) (hv.get 8 rfl rfl (hd 8 (by decide)))) (ent_scale _ _)) ((scale_any x (sb y) wc (HT.out.ext HO.out) (by rw [size_sb]; omega)).mono (fun e w' h => ⟨_, h.1, by rw [bl_sb], h.2⟩)) ?_
      rintro v w' ⟨rfl, hx⟩
      exact ⟨hv.put carry_part_apart 9 rfl (Nat.le_of_ble_eq_true rfl) (Nat.le_of_ble_eq_true rfl) rfl, Lib.hid (HO.out.trans hx)⟩
    · -- 10 call
      rintro L a wc ⟨hv, HO⟩ hL hc hd
      refine wpOp_call (R := fun v w1 => v = .string (sb (Gf.sum Z (Gf.scale x y))) ∧ Ext wc w1) rfl rfl (ex_call rfl rfl (map2c (hv.get 0 rfl rfl (hd 0 (by decide))) (hv.get 9 rfl rfl (hd 9 (by decide)))) (ent_sum _ _)) ((sum_any (sb Z) (sb (Gf.scale x y)) wc (by rw [size_sb]; omega) (by rw [size_sb]; unfold Gf.scale; rw [List.length_map]; omega)).mono (fun e w' h => ⟨_, h.1, by rw [bl_sb, bl_sb], h.2⟩)) ?_
      rintro v w' ⟨rfl, hx⟩
      exact ⟨hv.put carry_part_apart 10 rfl (Nat.le_of_ble_eq_true rfl) (Nat.le_of_ble_eq_true rfl) rfl, Lib.hid (HO.out.trans hx)⟩
    · -- 11 assign
      rintro L a wc ⟨hv, HO⟩ hL hc hd
      exact wpOp_val rfl rfl (ex_assign rfl (hv.get 10 rfl rfl (hd 10 (by decide)))) ⟨hv.put carry_part_apart 11 rfl (Nat.le_of_ble_eq_true rfl) (Nat.le_of_ble_eq_true rfl) rfl, HO⟩
  · rintro L a wc ⟨hv, HO⟩ hall
    show K a wc
    have ha := act_lit a
    rw [hv.size, hv.defers] at ha
    have hl : ∀ f : Nat → Value, ((List.range (⟨#[c0, c1, c2, .pointer (some ⟨P3, 0, none⟩), .pointer (some ⟨P4, 0, none⟩), c5, c6, c7, c8, .string (sb Z), .int .i64 k, c11, c12, c13, c14, c15, c16, c17, c18, c19, c20, c21, c22, c23, c24, c25, c26, c27, c28, c29, c30, c31, c32, c33, c34, c35, c36, c37, c38, c39, c40, c41, c42, c43, c44, c45, c46, c47, c48, c49, c50, c51, c52, c53, c54, c55, c56, c57, c58], df⟩ : Act).tmps.size).map f).toArray = #[f 0, f 1, f 2, f 3, f 4, f 5, f 6, f 7, f 8, f 9, f 10, f 11, f 12, f 13, f 14, f 15, f 16, f 17, f 18, f 19, f 20, f 21, f 22, f 23, f 24, f 25, f 26, f 27, f 28, f 29, f 30, f 31, f 32, f 33, f 34, f 35, f 36, f 37, f 38, f 39, f 40, f 41, f 42, f 43, f 44, f 45, f 46, f 47, f 48, f 49, f 50, f 51, f 52, f 53, f 54, f 55, f 56, f 57, f 58] := fun _ => rfl
    rw [hl] at ha
    simp only [hv.fixed 0 (by decide), hv.fixed 1 (by decide), hv.fixed 2 (by decide), hv.fixed 3 (by decide), hv.fixed 4 (by decide), hv.fixed 5 (by decide), hv.fixed 6 (by decide), hv.fixed 7 (by decide), hv.fixed 8 (by decide), hv.fixed 10 (by decide), hv.fixed 11 (by decide), hv.fixed 12 (by decide), hv.fixed 13 (by decide), hv.fixed 14 (by decide), hv.fixed 15 (by decide), hv.fixed 16 (by decide), hv.fixed 17 (by decide), hv.fixed 18 (by decide), hv.fixed 19 (by decide), hv.fixed 20 (by decide), hv.fixed 21 (by decide), hv.fixed 22 (by decide), hv.fixed 23 (by decide), hv.fixed 24 (by decide), hv.fixed 25 (by decide), hv.fixed 26 (by decide), hv.fixed 27 (by decide), hv.fixed 28 (by decide), hv.fixed 40 (by decide), hv.fixed 41 (by decide), hv.fixed 42 (by decide), hv.fixed 43 (by decide), hv.fixed 44 (by decide), hv.fixed 45 (by decide), hv.fixed 46 (by decide), hv.fixed 47 (by decide), hv.fixed 48 (by decide), hv.fixed 49 (by decide), hv.fixed 50 (by decide), hv.fixed 51 (by decide), hv.fixed 52 (by decide), hv.fixed 53 (by decide), hv.fixed 54 (by decide), hv.fixed 55 (by decide), hv.fixed 56 (by decide), hv.fixed 57 (by decide), hv.fixed 58 (by decide), hv.get 11 (d := 9) rfl rfl (hall 11 (by decide))] at ha
    rw [ha]
    exact hK _ _ _ _ _ _ _ _ _ _ _ wc HO.out
end Go.Proofs.YtenafgphaceidaaDoor
