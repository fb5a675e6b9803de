/- What the program's functions do, step by step: part A of the texts for this claim; no condition beyond what each theorem states. -/
import Derived.BigQuiet
import Derived.WalkKit
import Derived.WalkSpells
import Derived.WalkLawsBesides
import Derived.Lib.Hide
import Derived.Laws.BitsAllLaws
import Derived.Laws.BitsLemmas
import Derived.Deep.Draws
import Derived.Deep.QuietTactic
import Derived.Laws.BytesArg
import Derived.Shelf.Abstract
import Derived.ProofKit
import Derived.OpenShut
import Derived.Deep.DeepHandedRow
import Derived.Lib.LaidTab
import Derived.SliceStrings
import Derived.ChangeMaps5
import Derived.KernelRfl
import Derived.Test.YtdmljilcbndmfaaDoorRows
import Derived.WalkMore
import Derived.Deep.LoopGhost
import Derived.Maps.AppendAt
import Derived.Deep.AppendLies
import Derived.RegionTactic
import Derived.BigRegion
import Derived.StillTailTactics
import Derived.Deep.RegionHeld3
import Derived.Deep.RegionWith
import Derived.Deep.RegionLaw
namespace Go.Proofs.YtdmljilcbndmfaaDoor
theorem lb {n m : Nat} (h : Nat.ble n m = true) : n ≤ m := Nat.le_of_ble_eq_true h
end Go.Proofs.YtdmljilcbndmfaaDoor
/- Small laws on bits, worlds and endings that several walks share. -/
namespace Go.Proofs.YtdmljilcbndmfaaDoor
open Go.RowKit

theorem ret_int {k : IntKind} {a b : Int} (h : a = b) : Ending.returned (.int k a) = .returned (.int k b) := by rw [h]
theorem ret_bool {a b : Bool} (h : a = b) : Ending.returned (.bool a) = .returned (.bool b) := by rw [h]

theorem ofInt64 (a : Nat) (ha : a < 9223372036854775808) : (BitVec.ofInt 64 (a : Int)).toNat = a := by
  rw [BitVec.ofInt_natCast, BitVec.toNat_ofNat]; exact Nat.mod_eq_of_lt (by omega)
theorem and64 (a b : Nat) (ha : a < 9223372036854775808) (hb : b < 9223372036854775808) : bits .and .i64 (a : Int) (b : Int) = ((a &&& b : Nat) : Int) := by
  have hx : a &&& b < 2 ^ 63 := Nat.and_lt_two_pow _ (by omega)
  show IntKind.i64.wrap ((BitVec.ofInt 64 (a : Int) &&& BitVec.ofInt 64 (b : Int)).toNat : Int) = _
  rw [BitVec.toNat_and, ofInt64 a ha, ofInt64 b hb, IntKind.wrap_i64]
  omega
theorem or64 (a b : Nat) (ha : a < 9223372036854775808) (hb : b < 9223372036854775808) : bits .or .i64 (a : Int) (b : Int) = ((a ||| b : Nat) : Int) := by
  have hx : a ||| b < 2 ^ 63 := Nat.or_lt_two_pow (by omega) (by omega)
  show IntKind.i64.wrap ((BitVec.ofInt 64 (a : Int) ||| BitVec.ofInt 64 (b : Int)).toNat : Int) = _
  rw [BitVec.toNat_or, ofInt64 a ha, ofInt64 b hb, IntKind.wrap_i64]
  omega
theorem odd64 (a : Nat) (ha : a < 9223372036854775808) : bits .and .i64 (a : Int) 1 = ((a % 2 : Nat) : Int) := by
  have := and64 a 1 ha (by omega)
  rw [nat_mask1] at this
  exact this

/- A CALL THAT ONLY DRAWS, inside a region whose order is open. -/
theorem quiet_left {P : Program} {f : FuncId} {args : Array Value} {w : World} {n : Nat} {v : Value}
    (h : Calls P f args (w.drewN n) fun e w' => e = .returned v ∧ w.drewN n = w') : Calls P f args (w.drewN n) fun e w'' => e = .returned v ∧ ∃ m, w'' = w.drewN m :=
  h.mono fun _ _ ⟨he, hm⟩ => ⟨he, n, hm.symm⟩
theorem quiet_add_left {P : Program} {f : FuncId} {args : Array Value} {w : World} {a n : Nat} {v : Value}
    (h : Calls P f args (w.drewN (a + n)) fun e w' => e = .returned v ∧ w.drewN (a + n) = w') :
    Calls P f args (w.drewN (a + n)) fun e w'' => e = .returned v ∧ ∃ m, w'' = w.drewN (a + m) :=
  h.mono fun _ _ ⟨he, hm⟩ => ⟨he, n, hm.symm⟩

/-- NOTHING THAT WAS THERE HAS TURNED. -/
def Ext (w w' : World) : Prop := Below w.heap.size w w'
theorem Ext.refl (w : World) : Ext w w := Below.refl _ _
theorem Ext.trans {a b c : World} (h : Ext a b) (k : Ext b c) : Ext a c := Below.trans h (Below.mono k h.size)
theorem Ext.drewN {a w : World} (h : Ext a w) (n : Nat) : Ext a (w.drewN n) := ⟨h.os, h.tape, h.output, h.size, h.block⟩
theorem Ext.drew {a w : World} (h : Ext a w) : Ext a w.drew := Below.drew h
theorem Ext.alloc {a w : World} (h : Ext a w) (o : Obj) : Ext a (w.alloc o) := Below.alloc h h.size o
theorem Ext.setCell {a w : World} (h : Ext a w) {p : Addr} (hp : a.heap.size ≤ p.block) (u : Value) : Ext a (w.setCell p u) := Below.setCell h hp u
theorem Ext.grown {a w w' : World} {row : Option Nat} (h : Ext a w) (hg : w.grownBy w' row) (hr : ∀ k, row = some k → a.heap.size ≤ k) : Ext a w' := Below.grown h hg h.size hr
theorem Ext.cell {a w : World} (h : Ext a w) {p : Addr} {v : Value} (hp : a.cell? p = some v) : w.cell? p = some v := by
  have hlt : p.block < a.heap.size := by
    rcases Nat.lt_or_ge p.block a.heap.size with h1 | h1
    · exact h1
    · simp [World.cell?, Array.getElem?_eq_none h1] at hp
  rw [Below.cell h hlt]; exact hp
theorem Ext.below {w w' : World} (h : Ext w w') : Below w.heap.size w w' := h
theorem lt_of_cell {w : World} {p : Addr} {v : Value} (hp : w.cell? p = some v) : p.block < w.heap.size := by
  rcases Nat.lt_or_ge p.block w.heap.size with h1 | h1
  · exact h1
  · simp [World.cell?, Array.getElem?_eq_none h1] at hp

/-- A byte as a value; a list of bytes as a string; a string as a list of bytes. -/
abbrev bv (b : UInt8) : Value := .int .u8 (b.toNat : Int)
def sb (l : List UInt8) : ByteArray := ⟨l.toArray⟩
def bl (s : ByteArray) : List UInt8 := s.data.toList
@[simp] theorem bl_sb (l : List UInt8) : bl (sb l) = l := rfl
@[simp] theorem sb_bl (s : ByteArray) : sb (bl s) = s := rfl
theorem size_bl (s : ByteArray) : s.size = (bl s).length := by
  show s.data.size = s.data.toList.length
  rw [Array.length_toList]
theorem get_bl (s : ByteArray) (k : Nat) (h : k < s.size) : s[k] = (bl s)[k]'(by rw [← size_bl]; exact h) := by
  simp [bl]; rfl
@[simp] theorem size_sb (l : List UInt8) : (sb l).size = l.length := by simp [sb, ByteArray.size]

/-- THE SLICE AT A READS AS THE CELLS xs, below the heap's end. -/
def Rd (w : World) (A : Option Addr) (xs : List Value) : Prop := ∀ k x, xs[k]? = some x → ∃ ad, A = some ad ∧ ad.block < w.heap.size ∧ w.cell? (ad.add k) = some x
theorem Rd.nil (w : World) (A : Option Addr) : Rd w A [] := fun k x h => by simp at h
theorem block_add (a : Addr) (n : Nat) : (a.add n).block = a.block := by unfold Addr.add; split <;> rfl
theorem Rd.ext {w w' : World} {A : Option Addr} {xs : List Value} (h : Rd w A xs) (he : Ext w w') : Rd w' A xs := fun k x hx => by
  obtain ⟨ad, h1, h2, h3⟩ := h k x hx
  exact ⟨ad, h1, Nat.lt_of_lt_of_le h2 he.size, he.cell h3⟩
theorem Rd.at {w : World} {A : Option Addr} {xs : List Value} (h : Rd w A xs) {k : Nat} (hk : k < xs.length) : ∃ ad, A = some ad ∧ ad.block < w.heap.size ∧ w.cell? (ad.add k) = some xs[k] :=
  h k _ (List.getElem?_eq_getElem hk)
theorem Rd.all {w : World} {ad : Addr} {xs : List Value} (h : Rd w (some ad) xs) {k : Nat} (hk : k < xs.length) : w.cell? (ad.add k) = some xs[k] := by
  obtain ⟨_, e, _, h3⟩ := h.at hk
  injection e with e
  subst e
  exact h3
theorem Rd.drewN {w : World} {A : Option Addr} {xs : List Value} (h : Rd w A xs) (n : Nat) : Rd (w.drewN n) A xs := h
/-- A row of the call's own, read. -/
theorem Rd.of_own {w : World} {B e c : Nat} {A : Option Addr} {xs : List Value} (h : w.ownsRow B e 1 (.slice A xs.length c) xs.length xs) : Rd w A xs := by
  intro k x hx
  rcases h.2 with ⟨hn, h0⟩ | ⟨g, cap, cur, hv, hB, hg, hc, hm, hs, ht⟩
  · rw [List.length_eq_zero_iff] at h0
    subst h0
    simp at hx
  · injection hv with e1 e2 e3
    subst e1
    have hlt : g < w.heap.size := lt_of_block hg
    have := h.cells (g := g) rfl k x hx
    exact ⟨_, rfl, hlt, this⟩

/-- 'string(b)' over a row of bytes. -/
theorem run_str {P : Program} {src dst e : TypeId} (hs : P.underlying src = some (.slice e)) (he : P.underlying e = some (.int .u8)) (hd : P.underlying dst = some .string)
    {w : World} {A : Option Addr} {l : List UInt8} {c n : Nat} (hn : n = l.length) (h : Rd w A (l.map bv)) : (convert src dst (.slice A n c)).run P w = .ok (.string (sb l)) w := by
  subst hn
  by_cases h0 : l = []
  · subst h0
    rcases A with _ | a
    · exact run_convert_bytes_nil w src e hs he _ _ dst hd
    · have := run_bytesToString w a 0 c [] (P := P) (by simp [loadCells, loadCellsFrom])
      rw [run_convert_bytes_string w src dst e _ _ _ hs he hd]
      exact this
  · obtain ⟨ad, rfl, hb, _⟩ := h.at (k := 0) (by have := List.length_pos_iff.2 h0; simpa using this)
    have hsp : ∀ k (hk : k < l.length), w.cell? (ad.add k) = some (bv l[k]) := fun k hk => by
      have := h.all (k := k) (by simpa using hk)
      simpa using this
    have h00 := hsp 0 (List.length_pos_iff.2 h0)
    have hspot : ad.spot = none := by
      cases hq : ad.spot with
      | none => rfl
      | some q =>
        exfalso
        simp [Addr.add, World.cell?, hq] at h00
        split at h00 <;> simp at h00
    obtain ⟨b, off, sp⟩ := ad
    simp at hspot
    subst hspot
    have := run_convert_bytes_arg (P := P) w src e hs he b off l.length c (l.map fun b => (b.toNat : Int)) (by simp) (fun i hi => by
      have h1 := hsp i hi
      have h2 : (⟨b, off, none⟩ : Addr).add i = ⟨b, off + i, none⟩ := by unfold Addr.add; split <;> simp_all
      rw [h2] at h1
      rw [h1]
      simp [bv, List.getD_eq_getElem?_getD, hi]) dst hd
    rw [this]
    congr 2
    apply ByteArray.ext
    apply Array.ext'
    rw [strOfNums_data, List.map_map]
    show List.map _ l = l
    conv => rhs; rw [← List.map_id l]
    apply List.map_congr_left
    intro b _
    simp
theorem own_ext {w w' : World} {B e size n : Nat} {v : Value} {xs : List Value} (h : w.ownsRow B e size v n xs) (hx : Ext w w') : w'.ownsRow B e size v n xs := by
  refine ⟨h.1, ?_⟩
  rcases h.2 with h2 | ⟨g, cap, cur, hv, hB, hg, r⟩
  · exact Or.inl h2
  · exact Or.inr ⟨g, cap, cur, hv, hB, (Below.block hx g (lt_of_block hg)).trans hg, r⟩
theorem heap_new (w : World) (o : Obj) : (w.alloc o).heap[w.heap.size]? = some o := heap_alloc_new w o
theorem own_form {w : World} {B e size n : Nat} {v : Value} {xs : List Value} (h : w.ownsRow B e size v n xs) : ∃ A c, v = .slice A n c := by
  rcases h.2 with ⟨h2, h0⟩ | ⟨g, cap, cur, hv, r⟩
  · exact ⟨none, 0, by rw [h2, h0]⟩
  · exact ⟨_, cap, hv⟩
theorem own_rd {w : World} {B e n c : Nat} {A : Option Addr} {xs : List Value} (h : w.ownsRow B e 1 (.slice A n c) n xs) : Rd w A xs := by
  have hl : xs.length = n := by have := h.1; omega
  subst hl
  exact Rd.of_own h
theorem own_ge {w : World} {B e size n : Nat} {v : Value} {xs : List Value} (h : w.ownsRow B e size v n xs) : ∀ k, v.ownBlock = some k → B ≤ k := fun k hk => (h.lt k hk).1
theorem Ext.heap {a w : World} (h : Ext a w) {g : Nat} {o : Obj} (hb : a.heap[g]? = some o) : w.heap[g]? = some o := by
  rw [Below.block h g (lt_of_block hb)]; exact hb

/-- v READS AS THE LIST xs: a slice whose elements read as the list's, each by R. -/
def Rs {α : Type} (R : World → Value → α → Prop) (w : World) (v : Value) (xs : List α) : Prop :=
  ∃ (A : Option Addr) (c : Nat), v = .slice A xs.length c ∧ xs.length ≤ 9223372036854775807 ∧ ∀ i x, xs[i]? = some x → ∃ ad u, A = some ad ∧ w.cell? (ad.add i) = some u ∧ R w u x
/-- What is read stays as it is while nothing old turns. -/
def Stable {α : Type} (R : World → Value → α → Prop) : Prop := ∀ w w' v x, Ext w w' → R w v x → R w' v x
theorem Rs.ext {α : Type} {R : World → Value → α → Prop} (hR : Stable R) : Stable (Rs R) := fun w w' v xs hx h => by
  obtain ⟨A, c, rfl, hl, h⟩ := h
  refine ⟨A, c, rfl, hl, fun i x hi => ?_⟩
  obtain ⟨ad, u, h1, h2, h3⟩ := h i x hi
  exact ⟨ad, u, h1, hx.cell h2, hR w w' u x hx h3⟩
def RI (_ : World) (v : Value) (n : Int) : Prop := v = .int .i64 n ∧ -9223372036854775808 ≤ n ∧ n ≤ 9223372036854775807
def RB (_ : World) (v : Value) (b : UInt8) : Prop := v = bv b
def RS (_ : World) (v : Value) (l : List UInt8) : Prop := v = .string (sb l)
theorem RI.ext : Stable RI := fun _ _ _ _ _ h => h
theorem RB.ext : Stable RB := fun _ _ _ _ _ h => h
theorem RS.ext : Stable RS := fun _ _ _ _ _ h => h
theorem Rs.at {α : Type} {R : World → Value → α → Prop} {w : World} {A : Option Addr} {n c : Nat} {xs : List α} (h : Rs R w (.slice A n c) xs) {i : Nat} (hi : i < xs.length) : ∃ ad u, A = some ad ∧ w.cell? (ad.add i) = some u ∧ R w u xs[i] := by
  obtain ⟨A', c', e, _, h⟩ := h
  injection e with e1 e2 e3
  subst e1
  exact h i _ (List.getElem?_eq_getElem hi)
theorem Rs.form {α : Type} {R : World → Value → α → Prop} {w : World} {v : Value} {xs : List α} (h : Rs R w v xs) : ∃ A c, v = .slice A xs.length c ∧ xs.length ≤ 9223372036854775807 := by
  obtain ⟨A, c, e, hl, _⟩ := h
  exact ⟨A, c, e, hl⟩
theorem Rs.len {α : Type} {R : World → Value → α → Prop} {w : World} {A : Option Addr} {n c : Nat} {xs : List α} (h : Rs R w (.slice A n c) xs) : n = xs.length := by
  obtain ⟨A', c', e, _, h⟩ := h
  injection e
theorem Rs.rd {w : World} {A : Option Addr} {n c : Nat} {xs : List UInt8} (h : Rs RB w (.slice A n c) xs) : Rd w A (xs.map bv) := fun k x hx => by
  rw [List.getElem?_map] at hx
  cases hk : xs[k]? with
  | none => rw [hk] at hx; cases hx
  | some b =>
    rw [hk] at hx
    injection hx with hx
    subst hx
    have hk' : k < xs.length := by
      rcases Nat.lt_or_ge k xs.length with h1 | h1
      · exact h1
      · rw [List.getElem?_eq_none h1] at hk; cases hk
    obtain ⟨ad, u, h1, h2, h3⟩ := h.at hk'
    rw [List.getElem?_eq_getElem hk'] at hk
    injection hk with hk
    rw [hk] at h3
    subst h3
    exact ⟨ad, h1, by have := lt_of_cell h2; rwa [block_add] at this, h2⟩
theorem Rs.of_rd {w : World} {A : Option Addr} {c : Nat} {xs : List UInt8} (h : Rd w A (xs.map bv)) (hl : xs.length ≤ 9223372036854775807) : Rs RB w (.slice A xs.length c) xs :=
  ⟨A, c, rfl, hl, fun i x hi => by
    obtain ⟨ad, h1, _, h3⟩ := h i (bv x) (by rw [List.getElem?_map, hi]; rfl)
    exact ⟨ad, bv x, h1, h3, rfl⟩⟩
end Go.Proofs.YtdmljilcbndmfaaDoor

/- FROM A LAW's WALK TO ITS ROW: what the form asks behind a call that returned true and turned nothing that was there. -/
namespace Go.Proofs.YtdmljilcbndmfaaDoor
open Go.RowKit Go.ChangeShapes Go.WideShapes Go.ChangeAt

variable {H : Type} {enc : TypeId × Value → H} {P : Program}
theorem trodAll_ext (hl : laidOutB P = true) {W W' : World} (hx : Ext W W') : ∀ {ts : List TypeId} {vs : List Value} {ds : List (DataW H)} {ps : List MemPlace},
    (∀ t ∈ ts, P.readableRec t = true ∧ t < P.types.size) → (∀ x ∈ ps, x.block < W.heap.size) →
    DataW.TrodAll enc P W 0 (fun _ => true) true ts vs ds ps → DataW.TrodAll enc P W' 0 (fun b => decide (b < W.heap.size)) true ts vs ds ps
  | [], [], [], _, _, _, h => h
  | t :: ts, v :: vs, d :: ds, ps, hr, hlt, h => by
    obtain ⟨p, q, h1, h2, rfl⟩ := h
    have h3 := hr t (by simp)
    exact ⟨p, q, Below.trod hl h3.1 h3.2 h1 hx (fun x hx => hlt x (by simp [hx])), trodAll_ext hl hx (fun t ht => hr t (by simp [ht])) (fun x hx => hlt x (by simp [hx])) h2, rfl⟩
  | [], _ :: _, _, _, _, _, h => h.elim
  | [], [], _ :: _, _, _, _, h => h.elim
  | _ :: _, [], _, _, _, _, h => h.elim
  | _ :: _, _ :: _, [], _, _, _, h => h.elim

/-- WHAT THE FORM ASKS BEHIND THE CALL. -/
theorem law_post {f : Func} {s : ChangeSpec} {W W' : World} {args : Array Value} {ds gs : List (DataW H)} {before : List MemPlace} {tb : TypeId}
    (hl : laidOutB P = true) (hr : (f.params.toList.all fun t => P.readableRec t && decide (t < P.types.size)) = true)
    (hv : s.vars = []) (hres : f.resultTypes = #[tb]) (htb : P.underlying tb = some .bool)
    (hspec : (s.fn H (ds ++ gs)).results = [.lit (.bool true)] ∧ (s.fn H (ds ++ gs)).args = ds ∧ (s.fn H (ds ++ gs)).vars = [])
    (hW : DataW.Whole enc P f.params.toList s.vars false W args.toList ds gs before) (hx : Ext W W') :
    s.post enc P f false true false false W args (.bool true) W' := by
  have hW' := hW
  have hlt : ∀ x ∈ before, x.block < W.heap.size := fun x hx => hW.lt x hx
  obtain ⟨p, q, hA, hV, rfl, hfz, hnd⟩ := hW
  have hr' : ∀ t ∈ f.params.toList, P.readableRec t = true ∧ t < P.types.size := fun t ht => by
    have := List.all_eq_true.1 hr t ht
    simpa using this
  refine ⟨ds, gs, p ++ q, [], p, [], hW', ?_, ?_, ?_, hx.frame _, fun h => by cases h⟩
  · rw [hspec.1, hres]
    exact trodAll_cons_mk (shut_bool htb _) trodAll_mk0
  · rw [hspec.2.1]
    exact trodAll_ext hl hx hr' (fun x hx => hlt x (by simp [hx])) hA
  · rw [hspec.2.2, hv]
    rfl

end Go.Proofs.YtdmljilcbndmfaaDoor

/- THE FIELD OF 256 ELEMENTS, in plain numbers: products bit by bit, and what the program's and the specification's products come to. No program in sight. -/
namespace Gf

/-- What four high bits of a product are modulo the polynomial. -/
def hiL : List Nat := [0, 29, 58, 39, 116, 105, 78, 83, 232, 245, 210, 207, 156, 129, 166, 187]
def hi (k : Nat) : Nat := hiL.getD k 0
def red (x : Nat) : Nat := (x % 256) ^^^ hi (x / 256 % 16)
/-- The sum of the shifted bytes that the lowest k bits of n choose. -/
def tacc (a n : Nat) : Nat → Nat
  | 0 => 0
  | k + 1 => if n / 2 ^ k % 2 = 1 then tacc a n k ^^^ (a * 2 ^ k) else tacc a n k
def tms (a n : Nat) : Nat := red (tacc a n 4)
/-- The program's product. -/
def mulG (a b : Nat) : Nat := red (tms a (b / 16) * 16) ^^^ tms a (b % 16)

/-- A byte times x. -/
def xt (x : Nat) : Nat := (2 * x) ^^^ (285 * (x / 128))
/-- The product that the laws are proved of: n bits of y. -/
def mulK : Nat → Nat → Nat → Nat
  | 0, _, _ => 0
  | n + 1, x, y => (y % 2 * x) ^^^ mulK n (xt x) (y / 2)
def mulN (a b : Nat) : Nat := mulK 8 a b

theorem all1_of {p : Nat → Bool} {n : Nat} (h : (List.range n).all p = true) {a : Nat} (ha : a < n) : p a = true := by
  rw [List.all_eq_true] at h
  exact h a (by simpa using ha)
theorem all2_of {p : Nat → Nat → Bool} {m n : Nat} (h : ((List.range m).all fun a => (List.range n).all fun b => p a b) = true) {a b : Nat} (ha : a < m) (hb : b < n) : p a b = true := by
  have h1 := all1_of (p := fun a => (List.range n).all fun b => p a b) h ha
  exact all1_of (p := fun b => p a b) h1 hb
theorem eq1_of {f g : Nat → Nat} {n : Nat} (h : ((List.range n).all fun a => Nat.beq (f a) (g a)) = true) {a : Nat} (ha : a < n) : f a = g a :=
  Nat.eq_of_beq_eq_true (all1_of (p := fun a => Nat.beq (f a) (g a)) h ha)
theorem eq2_of {f g : Nat → Nat → Nat} {m n : Nat} (h : ((List.range m).all fun a => (List.range n).all fun b => Nat.beq (f a b) (g a b)) = true) {a b : Nat} (ha : a < m) (hb : b < n) : f a b = g a b :=
  Nat.eq_of_beq_eq_true (all2_of (p := fun a b => Nat.beq (f a b) (g a b)) h ha hb)

theorem xor_lt {x y : Nat} (h : x < 256) (h' : y < 256) : x ^^^ y < 256 := Nat.xor_lt_two_pow (n := 8) h h'
theorem mul_pow_xor (x y k : Nat) : (x ^^^ y) * 2 ^ k = (x * 2 ^ k) ^^^ (y * 2 ^ k) := by
  rw [← Nat.shiftLeft_eq, ← Nat.shiftLeft_eq, ← Nat.shiftLeft_eq, Nat.shiftLeft_xor_distrib]
theorem bit_mul_xor {p q : Nat} (z : Nat) (hp : p < 2) (hq : q < 2) : z * (p ^^^ q) = (z * p) ^^^ (z * q) := by
  have h : (p = 0 ∨ p = 1) ∧ (q = 0 ∨ q = 1) := by omega
  rcases h with ⟨rfl | rfl, rfl | rfl⟩ <;> simp
theorem xor4 (a b c d : Nat) : (a ^^^ b) ^^^ (c ^^^ d) = (a ^^^ c) ^^^ (b ^^^ d) := by
  rw [Nat.xor_assoc, Nat.xor_assoc, ← Nat.xor_assoc b c d, Nat.xor_comm b c, Nat.xor_assoc c b d]

theorem xt_lt {x : Nat} (h : x < 256) : xt x < 256 := of_decide_eq_true (all1_of (p := fun x => decide (xt x < 256)) (n := 256) (by decide +kernel) h)
theorem xt_xor {x y : Nat} (h : x < 256) (h' : y < 256) : xt (x ^^^ y) = xt x ^^^ xt y := by
  unfold xt
  have e1 : 2 * (x ^^^ y) = (2 * x) ^^^ (2 * y) := by have := mul_pow_xor x y 1; simpa [Nat.mul_comm] using this
  have e2 : (x ^^^ y) / 128 = (x / 128) ^^^ (y / 128) := Nat.xor_div_two_pow (n := 7)
  rw [e1, e2, bit_mul_xor 285 (by omega) (by omega), xor4]

/-- f takes sums of bytes to sums. -/
def Lin (f : Nat → Nat) : Prop := ∀ x y, x < 256 → y < 256 → f (x ^^^ y) = f x ^^^ f y
theorem Lin.zero {f : Nat → Nat} (h : Lin f) : f 0 = 0 := by
  have := h 0 0 (by omega) (by omega)
  simpa using this
theorem top_bit {n x : Nat} (hn : n < 8) (hx : x < 256) (h1 : 2 ^ n ≤ x) (h2 : x < 2 ^ (n + 1)) : 2 ^ n ^^^ (x - 2 ^ n) = x := by
  have h : ((List.range 8).all fun n => (List.range 256).all fun x => !(Nat.ble (2 ^ n) x) || !(Nat.ble (x + 1) (2 ^ (n + 1))) || Nat.beq (2 ^ n ^^^ (x - 2 ^ n)) x) = true := by decide +kernel
  have h3 := all2_of (p := fun n x => !(Nat.ble (2 ^ n) x) || !(Nat.ble (x + 1) (2 ^ (n + 1))) || Nat.beq (2 ^ n ^^^ (x - 2 ^ n)) x) h hn hx
  simp only [Nat.ble_eq_true_of_le h1, Nat.ble_eq_true_of_le (show x + 1 ≤ 2 ^ (n + 1) from h2), Bool.not_true, Bool.false_or] at h3
  exact Nat.eq_of_beq_eq_true h3
theorem lin_ext {f g : Nat → Nat} (hf : Lin f) (hg : Lin g) (h : ∀ k, k < 8 → f (2 ^ k) = g (2 ^ k)) {x : Nat} (hx : x < 256) : f x = g x := by
  have key : ∀ n, n ≤ 8 → ∀ x, x < 2 ^ n → f x = g x := by
    intro n
    induction n with
    | zero => intro _ x hx; obtain rfl : x = 0 := by omega
              rw [hf.zero, hg.zero]
    | succ n ih =>
      intro hn x hx
      have hp : 2 ^ (n + 1) ≤ 2 ^ 8 := Nat.pow_le_pow_right (by omega) hn
      have hp' : 2 ^ (n + 1) = 2 * 2 ^ n := by rw [Nat.pow_succ]; omega
      by_cases hlt : x < 2 ^ n
      · exact ih (by omega) x hlt
      · have e := top_bit (n := n) (x := x) (by omega) (by omega) (by omega) hx
        rw [← e, hf _ _ (by omega) (by omega), hg _ _ (by omega) (by omega), h n (by omega), ih (by omega) _ (by omega)]
  exact key 8 (by omega) x (by simpa using hx)

theorem lin_xor {f g : Nat → Nat} (hf : Lin f) (hg : Lin g) : Lin fun x => f x ^^^ g x := fun x y hx hy => by
  show f (x ^^^ y) ^^^ g (x ^^^ y) = (f x ^^^ g x) ^^^ (f y ^^^ g y)
  rw [hf x y hx hy, hg x y hx hy, xor4]
theorem lin_comp {f g : Nat → Nat} (hf : Lin f) (hg : Lin g) (hb : ∀ x, x < 256 → g x < 256) : Lin fun x => f (g x) := fun x y hx hy => by
  show f (g (x ^^^ y)) = f (g x) ^^^ f (g y)
  rw [hg x y hx hy, hf _ _ (hb x hx) (hb y hy)]

theorem mulK_lt : ∀ n x y, x < 256 → mulK n x y < 256
  | 0, _, _, _ => by simp [mulK]
  | n + 1, x, y, h => by
    unfold mulK
    refine xor_lt ?_ (mulK_lt n _ _ (xt_lt h))
    have h2 : y % 2 = 0 ∨ y % 2 = 1 := by omega
    rcases h2 with e | e <;> rw [e] <;> omega
theorem mulN_lt {a b : Nat} (h : a < 256) : mulN a b < 256 := mulK_lt 8 a b h
theorem mulK_lin1 : ∀ n y, Lin fun x => mulK n x y
  | 0, _ => fun _ _ _ _ => by simp [mulK]
  | n + 1, y => by
    have h1 : Lin fun x => y % 2 * x := fun a b _ _ => by
      have h2 : y % 2 = 0 ∨ y % 2 = 1 := by omega
      rcases h2 with e | e <;> simp [e]
    exact lin_xor h1 (lin_comp (f := fun x => mulK n x (y / 2)) (g := xt) (mulK_lin1 n (y / 2)) (fun a b ha hb => xt_xor ha hb) fun x h => xt_lt h)
theorem mulK_xor2 (x : Nat) : ∀ n y z, mulK n x (y ^^^ z) = mulK n x y ^^^ mulK n x z := by
  intro n
  induction n generalizing x with
  | zero => intro y z; simp [mulK]
  | succ n ih =>
    intro y z
    have e1 : (y ^^^ z) % 2 = (y % 2) ^^^ (z % 2) := Nat.xor_mod_two_pow (n := 1)
    have e2 : (y ^^^ z) / 2 = (y / 2) ^^^ (z / 2) := Nat.xor_div_two_pow (n := 1)
    simp only [mulK]
    rw [e1, e2, ih, Nat.mul_comm _ x, bit_mul_xor x (by omega) (by omega), xor4, Nat.mul_comm x, Nat.mul_comm x]
theorem mulN_lin1 (b : Nat) : Lin fun a => mulN a b := mulK_lin1 8 b
theorem mulN_lin2 (a : Nat) : Lin fun b => mulN a b := fun x y _ _ => mulK_xor2 a 8 x y

theorem two_pow_lt {k : Nat} (h : k < 8) : 2 ^ k < 256 := by
  have : 2 ^ k ≤ 2 ^ 7 := Nat.pow_le_pow_right (by omega) (by omega)
  omega
theorem mulN_comm {a b : Nat} (h : a < 256) (h' : b < 256) : mulN a b = mulN b a := by
  refine lin_ext (f := fun a => mulN a b) (g := fun a => mulN b a) (mulN_lin1 b) (mulN_lin2 b) (fun j hj => ?_) h
  refine lin_ext (f := fun b => mulN (2 ^ j) b) (g := fun b => mulN b (2 ^ j)) (mulN_lin2 _) (mulN_lin1 _) (fun k hk => ?_) h'
  exact eq2_of (f := fun j k => mulN (2 ^ j) (2 ^ k)) (g := fun j k => mulN (2 ^ k) (2 ^ j)) (by decide +kernel) hj hk
theorem mulN_assoc {a b c : Nat} (h : a < 256) (h' : b < 256) (h'' : c < 256) : mulN (mulN a b) c = mulN a (mulN b c) := by
  refine lin_ext (f := fun a => mulN (mulN a b) c) (g := fun a => mulN a (mulN b c)) (lin_comp (mulN_lin1 c) (mulN_lin1 b) fun x hx => mulN_lt hx) (mulN_lin1 _) (fun i hi => ?_) h
  refine lin_ext (f := fun b => mulN (mulN (2 ^ i) b) c) (g := fun b => mulN (2 ^ i) (mulN b c)) (lin_comp (mulN_lin1 c) (mulN_lin2 _) fun x _ => mulN_lt (two_pow_lt hi)) (lin_comp (mulN_lin2 _) (mulN_lin1 c) fun x hx => mulN_lt hx) (fun j hj => ?_) h'
  refine lin_ext (f := fun c => mulN (mulN (2 ^ i) (2 ^ j)) c) (g := fun c => mulN (2 ^ i) (mulN (2 ^ j) c)) (mulN_lin2 _) (lin_comp (mulN_lin2 _) (mulN_lin2 _) fun x _ => mulN_lt (two_pow_lt hj)) (fun k hk => ?_) h''
  have := all2_of (p := fun i j => (List.range 8).all fun k => Nat.beq (mulN (mulN (2 ^ i) (2 ^ j)) (2 ^ k)) (mulN (2 ^ i) (mulN (2 ^ j) (2 ^ k)))) (m := 8) (n := 8) (by decide +kernel) hi hj
  exact Nat.eq_of_beq_eq_true (all1_of (p := fun k => Nat.beq (mulN (mulN (2 ^ i) (2 ^ j)) (2 ^ k)) (mulN (2 ^ i) (mulN (2 ^ j) (2 ^ k)))) this hk)

theorem hi_xor {p q : Nat} (hp : p < 16) (hq : q < 16) : hi (p ^^^ q) = hi p ^^^ hi q :=
  eq2_of (f := fun p q => hi (p ^^^ q)) (g := fun p q => hi p ^^^ hi q) (by decide +kernel) hp hq
theorem red_xor (x y : Nat) : red (x ^^^ y) = red x ^^^ red y := by
  unfold red
  have e1 : (x ^^^ y) % 256 = (x % 256) ^^^ (y % 256) := Nat.xor_mod_two_pow (n := 8)
  have e2 : (x ^^^ y) / 256 % 16 = (x / 256 % 16) ^^^ (y / 256 % 16) := by
    rw [show (x ^^^ y) / 256 = (x / 256) ^^^ (y / 256) from Nat.xor_div_two_pow (n := 8)]
    exact Nat.xor_mod_two_pow (n := 4)
  rw [e1, e2, hi_xor (by omega) (by omega), xor4]
theorem tacc_xor1 (n x y : Nat) : ∀ k, tacc (x ^^^ y) n k = tacc x n k ^^^ tacc y n k
  | 0 => by simp [tacc]
  | k + 1 => by
    unfold tacc
    split
    · rw [tacc_xor1 n x y k, mul_pow_xor, xor4]
    · exact tacc_xor1 n x y k
theorem mulG_lin1 (b : Nat) : Lin fun a => mulG a b := fun x y _ _ => by
  have e (n : Nat) : tms (x ^^^ y) n = tms x n ^^^ tms y n := by unfold tms; rw [tacc_xor1, red_xor]
  show mulG (x ^^^ y) b = mulG x b ^^^ mulG y b
  unfold mulG
  rw [e, e, show (16 : Nat) = 2 ^ 4 from rfl, mul_pow_xor, red_xor, xor4]
theorem mulG_eq {a b : Nat} (h : a < 256) (h' : b < 256) : mulG a b = mulN a b := by
  refine lin_ext (f := fun a => mulG a b) (g := fun a => mulN a b) (mulG_lin1 b) (mulN_lin1 b) (fun j hj => ?_) h
  exact eq2_of (f := fun j b => mulG (2 ^ j) b) (g := fun j b => mulN (2 ^ j) b) (by decide +kernel) hj h'

theorem tacc_lt (a n : Nat) (ha : a < 256) : ∀ k, tacc a n k < 2 ^ (8 + k)
  | 0 => by simp [tacc]
  | k + 1 => by
    have ih := tacc_lt a n ha k
    have h1 : a * 2 ^ k < 2 ^ (8 + (k + 1)) := by
      have : a * 2 ^ k < 256 * 2 ^ k := Nat.mul_lt_mul_of_pos_right ha (Nat.two_pow_pos k)
      have e : 2 ^ (8 + (k+1)) = 2 * (256 * 2 ^ k) := by rw [Nat.pow_add, Nat.pow_succ]; omega
      omega
    have h2 : tacc a n k < 2 ^ (8 + (k + 1)) := by
      have : 2 ^ (8 + (k + 1)) = 2 * 2 ^ (8 + k) := by rw [← Nat.add_assoc, Nat.pow_succ]; omega
      omega
    unfold tacc; split
    · exact Nat.xor_lt_two_pow h2 h1
    · exact h2
theorem hi_lt {k : Nat} (h : k < 16) : hi k < 256 := of_decide_eq_true (all1_of (p := fun k => decide (hi k < 256)) (n := 16) (by decide +kernel) h)
theorem red_lt (x : Nat) : red x < 256 := xor_lt (by omega) (hi_lt (by omega))
theorem tms_lt (a n : Nat) : tms a n < 256 := red_lt _

theorem mulN_zero1 (b : Nat) : mulN 0 b = 0 := (mulN_lin1 b).zero
theorem mulN_zero2 (a : Nat) : mulN a 0 = 0 := (mulN_lin2 a).zero
theorem mulN_one2 {a : Nat} (h : a < 256) : mulN a 1 = a := eq1_of (f := fun a => mulN a 1) (g := fun a => a) (n := 256) (by decide +kernel) h
theorem mulN_one1 {a : Nat} (h : a < 256) : mulN 1 a = a := by rw [mulN_comm (by omega) h, mulN_one2 h]

/-- a times itself, n times. -/
def powN (a : Nat) : Nat → Nat
  | 0 => 1
  | n + 1 => mulN (powN a n) a
theorem powN_lt {a : Nat} : ∀ n, powN a n < 256
  | 0 => by simp [powN]
  | n + 1 => mulN_lt (powN_lt n)
theorem powN_two {a : Nat} (h : a < 256) : ∀ n, powN (mulN a a) n = powN a (2 * n)
  | 0 => rfl
  | n + 1 => by rw [powN, powN_two h n, show 2 * (n + 1) = 2 * n + 1 + 1 from by omega, powN, powN, mulN_assoc (powN_lt _) h h]
theorem powN_zero {n : Nat} (h : n ≠ 0) : powN 0 n = 0 := by
  cases n with
  | zero => exact absurd rfl h
  | succ n => exact mulN_zero2 _
/-- By squares. -/
def pow8 (a : Nat) (n : Nat) : Nat → Nat → Nat
  | 0, x => x
  | f + 1, x => pow8 (mulN a a) (n / 2) f (if n % 2 = 1 then mulN x a else x)
theorem pow8_eq : ∀ (f a n x : Nat), a < 256 → x < 256 → n < 2 ^ f → pow8 a n f x = mulN x (powN a n)
  | 0, a, n, x, _, hx, hn => by
    obtain rfl : n = 0 := by simpa using hn
    rw [pow8, powN, mulN_one2 hx]
  | f + 1, a, n, x, ha, hx, hn => by
    have hn2 : n / 2 < 2 ^ f := by rw [Nat.pow_succ] at hn; omega
    have e2 := powN_two ha (n / 2)
    rw [pow8]
    split
    · rename_i h1
      rw [pow8_eq f _ _ _ (mulN_lt ha) (mulN_lt hx) hn2, e2, mulN_assoc hx ha (powN_lt _), mulN_comm ha (powN_lt _), show mulN (powN a (2 * (n / 2))) a = powN a (2 * (n / 2) + 1) from rfl]
      rw [show 2 * (n / 2) + 1 = n from by omega]
    · rename_i h1
      rw [pow8_eq f _ _ _ (mulN_lt ha) hx hn2, e2, show 2 * (n / 2) = n from by omega]
theorem powN_eq8 {a n : Nat} (ha : a < 256) (hn : n < 256) : powN a n = pow8 a n 8 1 := by
  rw [pow8_eq 8 a n 1 ha (by omega) hn, mulN_one1 (powN_lt n)]
theorem powN_255 {a : Nat} (ha : a < 256) (h0 : a ≠ 0) : powN a 255 = 1 := by
  rw [powN_eq8 ha (by omega)]
  have h := all1_of (p := fun a => Nat.beq a 0 || Nat.beq (pow8 a 255 8 1) 1) (n := 256) (by decide +kernel) ha
  rw [Bool.or_eq_true] at h
  rcases h with h | h
  · exact absurd (Nat.eq_of_beq_eq_true h) h0
  · exact Nat.eq_of_beq_eq_true h
def invN (a : Nat) : Nat := powN a 254
theorem invN_lt (a : Nat) : invN a < 256 := powN_lt _
theorem mul_invN {a : Nat} (ha : a < 256) (h0 : a ≠ 0) : mulN a (invN a) = 1 := by
  rw [mulN_comm ha (invN_lt a)]; exact powN_255 ha h0
theorem mulN_eq_zero {a b : Nat} (ha : a < 256) (hb : b < 256) : mulN a b = 0 ↔ a = 0 ∨ b = 0 := by
  constructor
  · intro h
    by_cases h0 : a = 0
    · exact .inl h0
    · right
      have e : mulN (invN a) (mulN a b) = b := by rw [← mulN_assoc (invN_lt a) ha hb, mulN_comm (invN_lt a) ha, mul_invN ha h0, mulN_one1 hb]
      rw [← e, h, mulN_zero2]
  · rintro (rfl | rfl)
    · exact mulN_zero1 b
    · exact mulN_zero2 a
/-- The place of a among the powers of 2, counted from x. -/
def logF (a : Nat) : Nat → Nat → Nat → Nat
  | 0, _, k => k
  | f + 1, x, k => if Nat.beq x a then k else logF a f (xt x) (k + 1)
def logN (a : Nat) : Nat := logF a 255 1 0
/-- The same over the walk's numbers. -/
def mulI (a b : Int) : Int := (mulN a.toNat b.toNat : Nat)
theorem mulI_nat (a b : Nat) : mulI a b = (mulN a b : Nat) := rfl
/-- The code of Inv's and Log's error. -/
def noneI (a : Int) : Int := if a = 0 then 1 else 0
/-- Pow's result. -/
def powI (a n : Int) : Int := if a = 0 ∧ n ≠ 0 then 0 else (powN a.toNat (n % 255).toNat : Nat)
/-- Log's first result. -/
def logI (a : Int) : Int := if a = 0 then 0 else (logN a.toNat : Nat)
theorem red_def (x : Nat) : red x = (x % 256) ^^^ hi (x / 256 % 16) := rfl
theorem tms_def (a n : Nat) : tms a n = red (tacc a n 4) := rfl
theorem powN_nil (a : Nat) : powN a 0 = 1 := rfl
theorem powN_succ (a k : Nat) : powN a (k + 1) = mulN (powN a k) a := rfl
theorem invN_def (a : Nat) : invN a = powN a 254 := rfl
theorem noneI_zero : noneI 0 = 1 := rfl
theorem noneI_nat {a : Int} (h : a ≠ 0) : noneI a = 0 := if_neg h
/- A walk must not look into these. -/
attribute [irreducible] mulN mulI powN invN logN logI noneI powI red tms hi
end Gf

/- THE WALKS over package gf: what each of its functions returns, in the numbers of the text on the field. -/
namespace Go.Proofs.YtdmljilcbndmfaaDoor
open Go.RowKit

/-- The table of package gf lies in memory. -/
def Tab (w : World) : Prop := ∀ k, k < 16 → w.cell? ⟨0, k, none⟩ = some (.int .u8 (Gf.hi k : Nat))
theorem Tab.below {B : Nat} {w w' : World} (h : Tab w) (hb : Below B w w') (hB : 0 < B) : Tab w' :=
  fun k hk => (hb.cell (p := ⟨0, k, none⟩) hB).trans (h k hk)
theorem Tab.size {w : World} (h : Tab w) : 0 < w.heap.size := by
  have := h 0 (by omega)
  rcases Nat.lt_or_ge 0 w.heap.size with h1 | h1
  · exact h1
  · simp [World.cell?, Array.getElem?_eq_none h1] at this
theorem Tab.ext {w w' : World} (h : Tab w) (hb : Below w.heap.size w w') : Tab w' := h.below hb h.size

theorem reduce_nat (n : Nat) (h1 : n < 4096) (w : World) (hT : Tab w) :
    Calls Tryd.prog 97 #[.int .u64 n] w fun e w' => e = .returned (.int .u8 (Gf.red n : Nat)) ∧ w = w' := by
  have e1 : bits .and .u64 ((n : Int) / 256) 15 = ((n / 256 % 16 : Nat) : Int) := by
    have := u64_and_nat (n / 256) 15 (by omega) (by omega)
    rw [nat_mask4] at this
    simpa using this
  have hc := hT (n / 256 % 16) (by omega)
  have hl := Gf.hi_lt (k := n / 256 % 16) (by omega)
  have e2 : bits .xor .u8 ((n : Int) % 256) ((Gf.hi (n / 256 % 16) : Nat) : Int) = ((Gf.red n : Nat) : Int) := by
    have := u8_xor_nat (n % 256) (Gf.hi (n / 256 % 16)) (by omega) hl
    rw [Gf.red_def]
    simpa using this
  go_enter Tryd.func97, Tryd.ntmps97
  go_wp2_with fail
  go_ret
  first | exact ⟨rfl, rfl⟩ | exact ⟨ret_int e2, rfl⟩

theorem times_nat (a n : Nat) (ha : a < 256) (hn : n < 16) (w : World) (hT : Tab w) :
    Calls Tryd.prog 98 #[.int .u8 a, .int .u64 n] w fun e w' => e = .returned (.int .u8 (Gf.tms a n : Nat)) ∧ w = w' := by
  have HT := Lib.hid hT
  clear hT
  go_enter Tryd.func98, Tryd.ntmps98
  go_wp2_with fail
  go_loop [5, 7] (fun x i => ∃ k : Nat, k ≤ 4 ∧ i = .int .i64 k ∧ x = .int .u64 (Gf.tacc a n k : Nat)) (fun _ i => 4 - (intOf i).toNat)
  case atStart => exact ⟨0, by omega, rfl, rfl⟩
  case round =>
    obtain ⟨k, hk, rfl, rfl⟩ := hrel
    have hb := Gf.tacc_lt a n ha k
    have hb2 : 2 ^ (8 + k) ≤ 2 ^ 12 := Nat.pow_le_pow_right (by omega) (by omega)
    have hb3 : Gf.tacc a n k < 4096 := by omega
    clear hb hb2
    by_cases hlt : k < 4
    · have hp : 2 ^ k ≤ 2 ^ 4 := Nat.pow_le_pow_right (by omega) (by omega)
      have hap : a * 2 ^ k < 256 * 16 := Nat.mul_lt_mul_of_lt_of_le ha (by omega) (by omega)
      have e0 : bits .and .u64 ((n : Int) / 2 ^ k) 1 = ((n / 2 ^ k % 2 : Nat) : Int) := by
        have hd : n / 2 ^ k ≤ n := Nat.div_le_self _ _
        have := u64_and_nat (n / 2 ^ k) 1 (by omega) (by omega)
        rw [nat_mask1] at this
        simpa using this
      have e1 : IntKind.u64.wrap ((a : Int) * 2 ^ k) = ((a * 2 ^ k : Nat) : Int) := by
        have h : ((a : Int) * 2 ^ k) = ((a * 2 ^ k : Nat) : Int) := by simp
        rw [h, IntKind.wrap_u64]
        omega
      have e2 : bits .xor .u64 ((Gf.tacc a n k : Nat) : Int) (IntKind.u64.wrap ((a : Int) * 2 ^ k)) = ((Gf.tacc a n k ^^^ (a * 2 ^ k) : Nat) : Int) := by
        rw [e1]; exact u64_xor_nat _ _ (by omega) (by omega)
      have HP := Lib.hid hp
      have HA := Lib.hid hap
      have H1 := Lib.hid e1
      clear hp hap e1
      by_cases hbit : n / 2 ^ k % 2 = 1
      · have H : Gf.tacc a n (k + 1) = Gf.tacc a n k ^^^ (a * 2 ^ k) := by rw [Gf.tacc, if_pos hbit]
        have HH := Lib.hid H
        clear H
        have e3 : (bits .and .u64 ((n : Int) / 2 ^ k) 1 == 1) = true := by rw [e0, hbit]; rfl
        clear e0
        have HB := Lib.hid hbit
        clear hbit
        go_wp2_with fail
        go_round
        case rel => exact ⟨k + 1, by omega, by go_num, by rw [HH.out]⟩
        case measure => simp [intOf]; omega
      · have H : Gf.tacc a n (k + 1) = Gf.tacc a n k := by rw [Gf.tacc, if_neg hbit]
        have HH := Lib.hid H
        clear H
        have e3 : (bits .and .u64 ((n : Int) / 2 ^ k) 1 == 1) = false := by
          have h0 : n / 2 ^ k % 2 = 0 := by omega
          rw [e0, h0]; rfl
        clear e0
        have HB := Lib.hid hbit
        clear hbit
        go_wp2_with fail
        go_round
        case rel => exact ⟨k + 1, by omega, by go_num, by rw [HH.out]⟩
        case measure => simp [intOf]; omega
    · obtain rfl : k = 4 := by omega
      go_wp2_with (go_at_call 97; refine (reduce_nat _ hb3 _ HT.out).mono ?_; rintro e w' ⟨rfl, rfl⟩)
      go_ret
      exact ⟨ret_int (by rw [Gf.tms_def]), rfl⟩

theorem mul_nat (a b : Nat) (ha : a < 256) (hb : b < 256) (w : World) (hT : Tab w) :
    Calls Tryd.prog 82 #[.int .u8 a, .int .u8 b] w fun e w' => e = .returned (.int .u8 (Gf.mulN a b : Nat)) ∧ w = w' := by
  have HT := Lib.hid hT
  clear hT
  have h1 := Gf.tms_lt a (b / 16)
  have h2 := Gf.tms_lt a (b % 16)
  have e1 : bits .and .u8 (b : Int) 15 = ((b % 16 : Nat) : Int) := by
    have := u8_and_nat b 15 (by omega) (by omega)
    rw [nat_mask4] at this
    simpa using this
  have e2 : bits .xor .u8 ((Gf.red (Gf.tms a (b / 16) * 16) : Nat) : Int) ((Gf.tms a (b % 16) : Nat) : Int) = ((Gf.mulN a b : Nat) : Int) := by
    rw [u8_xor_nat _ _ (Gf.red_lt _) h2, ← Gf.mulG_eq ha hb, Gf.mulG]
  have H2 := Lib.hid e2
  clear e2
  go_enter Tryd.func82, Tryd.ntmps82
  go_wp2_with fail
  refine (times_nat a (b / 16) ha (by omega) _ HT.out).mono ?_
  rintro e w' ⟨rfl, rfl⟩
  go_wp2_with fail
  refine (reduce_nat (Gf.tms a (b / 16) * 16) (by omega) _ HT.out).mono ?_
  rintro e w' ⟨rfl, rfl⟩
  go_wp2_with fail
  refine (times_nat a (b % 16) ha (by omega) _ HT.out).mono ?_
  rintro e w' ⟨rfl, rfl⟩
  go_wp2_with fail
  go_ret
  exact ⟨ret_int H2.out, rfl⟩
/-- Mul, whatever the terms for its arguments are. -/
theorem mul_any (a b : Int) (w : World) (hT : Tab w) (ha : 0 ≤ a) (ha' : a < 256) (hb : 0 ≤ b) (hb' : b < 256) :
    Calls Tryd.prog 82 #[.int .u8 a, .int .u8 b] w fun e w' => e = .returned (.int .u8 (Gf.mulI a b)) ∧ w = w' := by
  obtain ⟨a, rfl⟩ := Int.eq_ofNat_of_zero_le ha
  obtain ⟨b, rfl⟩ := Int.eq_ofNat_of_zero_le hb
  rw [Gf.mulI_nat]
  exact mul_nat a b (by omega) (by omega) w hT

theorem power_nat (a n : Nat) (ha : a < 256) (hn : n < 1000) (w : World) (hT : Tab w) :
    Calls Tryd.prog 86 #[.int .u8 a, .int .i64 n] w fun e w' => e = .returned (.int .u8 (Gf.powN a n : Nat)) ∧ w = w' := by
  have HT := Lib.hid hT
  clear hT
  go_enter Tryd.func86, Tryd.ntmps86
  go_wp2_with fail
  go_loop [0, 1, 5] (fun va vn vx => ∃ A N X : Nat, A < 256 ∧ X < 256 ∧ N < 1000 ∧ va = .int .u8 A ∧ vn = .int .i64 N ∧ vx = .int .u8 X ∧ Gf.mulN X (Gf.powN A N) = Gf.powN a n) (fun _ vn _ => (intOf vn).toNat)
  case atStart => exact ⟨a, n, 1, ha, by omega, hn, rfl, rfl, rfl, Gf.mulN_one1 (Gf.powN_lt n)⟩
  case round =>
    obtain ⟨A, N, X, hA, hX, hN, rfl, rfl, rfl, hm⟩ := hrel
    have HM := Lib.hid hm
    clear hm
    have e0 := odd64 N (by omega)
    by_cases hp : 0 < N
    · have hAA := Gf.mulN_lt (a := A) (b := A) hA
      by_cases hbit : N % 2 = 1
      · have hXA := Gf.mulN_lt (a := X) (b := A) hX
        have e3 : (bits .and .i64 (N : Int) 1 == 1) = true := by rw [e0, hbit]; rfl
        have H : Gf.mulN (Gf.mulN X A) (Gf.powN (Gf.mulN A A) (N / 2)) = Gf.powN a n := by
          rw [Gf.powN_two hA, Gf.mulN_assoc hX hA (Gf.powN_lt _), Gf.mulN_comm hA (Gf.powN_lt _), ← HM.out]
          rw [← Gf.powN_succ, show 2 * (N / 2) + 1 = N from by omega]
        have HH := Lib.hid H
        have HB := Lib.hid hbit
        clear H hbit e0
        go_wp2_with fail
        refine (mul_nat X A hX hA _ HT.out).mono ?_
        rintro e w' ⟨rfl, rfl⟩
        go_wp2_with fail
        refine (mul_nat A A hA hA _ HT.out).mono ?_
        rintro e w' ⟨rfl, rfl⟩
        go_wp2_with fail
        go_round
        case rel => exact ⟨Gf.mulN A A, N / 2, Gf.mulN X A, hAA, hXA, by omega, rfl, by go_num, rfl, HH.out⟩
        case measure => simp [intOf]; omega
      · have e3 : (bits .and .i64 (N : Int) 1 == 1) = false := by
          have h0 : N % 2 = 0 := by omega
          rw [e0, h0]; rfl
        have H : Gf.mulN X (Gf.powN (Gf.mulN A A) (N / 2)) = Gf.powN a n := by
          rw [Gf.powN_two hA, show 2 * (N / 2) = N from by omega]; exact HM.out
        have HH := Lib.hid H
        have HB := Lib.hid hbit
        clear H hbit e0
        go_wp2_with fail
        refine (mul_nat A A hA hA _ HT.out).mono ?_
        rintro e w' ⟨rfl, rfl⟩
        go_wp2_with fail
        go_round
        case rel => exact ⟨Gf.mulN A A, N / 2, X, hAA, hX, by omega, rfl, by go_num, rfl, HH.out⟩
        case measure => simp [intOf]; omega
    · obtain rfl : N = 0 := by omega
      have hx : X = Gf.powN a n := by rw [← HM.out, Gf.powN_nil, Gf.mulN_one2 hX]
      have HX := Lib.hid hx
      clear hx e0
      go_wp2_with fail
      go_ret
      exact ⟨ret_int (by rw [HX.out]), rfl⟩

theorem modulo_any (n : Int) (w : World) (h1 : -9223372036854775808 ≤ n) (h2 : n ≤ 9223372036854775807) :
    Calls Tryd.prog 87 #[.int .i64 n] w fun e w' => e = .returned (.int .i64 (n % 255)) ∧ w = w' := by
  by_cases h0 : 0 ≤ n
  · go_enter Tryd.func87, Tryd.ntmps87
    go_wp2_with fail
    go_ret
    exact ⟨rfl, rfl⟩
  · have e : n.tmod 255 = -((-n) % 255) := by
      have h := Int.neg_tmod (-n) 255
      rw [Int.neg_neg, Int.tmod_eq_emod_of_nonneg (a := -n) (by omega)] at h
      exact h
    have e2 : n.tmod 255 < 0 → n.tmod 255 + 255 = n % 255 := fun h => by rw [e] at h ⊢; omega
    have e3 : 0 ≤ n.tmod 255 → n.tmod 255 = n % 255 := fun h => by rw [e] at h ⊢; omega
    have hl : -255 < n.tmod 255 := by rw [e]; omega
    have H2 := Lib.hid e2
    have H3 := Lib.hid e3
    clear e e2 e3
    go_enter Tryd.func87, Tryd.ntmps87
    go_wp2_with fail
    · go_ret
      exact ⟨ret_int (H2.out (by assumption)), rfl⟩
    · go_ret
      exact ⟨ret_int (H3.out (by assumption)), rfl⟩

theorem power_any (a n : Int) (w : World) (hT : Tab w) (ha : 0 ≤ a) (ha' : a < 256) (hn : 0 ≤ n) (hn' : n < 1000) :
    Calls Tryd.prog 86 #[.int .u8 a, .int .i64 n] w fun e w' => e = .returned (.int .u8 (Gf.powN a.toNat n.toNat : Nat)) ∧ w = w' := by
  obtain ⟨a, rfl⟩ := Int.eq_ofNat_of_zero_le ha
  obtain ⟨n, rfl⟩ := Int.eq_ofNat_of_zero_le hn
  exact power_nat a n (by omega) (by omega) w hT

/-- What Inv returns: the zero, and the code of ErrArg, for 0. -/
theorem inv_zero (w : World) : Calls Tryd.prog 100 #[.int .u8 0] w fun e w' => e = .returned (.tuple #[.int .u8 0, .int .i64 1]) ∧ w = w' := by
  go_enter Tryd.func100, Tryd.ntmps100
  go_wp2_with fail
  go_ret2
  exact ⟨rfl, rfl⟩
theorem inv_nat (a : Nat) (ha : a < 256) (h0 : a ≠ 0) (w : World) (hT : Tab w) :
    Calls Tryd.prog 100 #[.int .u8 a] w fun e w' => e = .returned (.tuple #[.int .u8 (Gf.invN a : Nat), .int .i64 0]) ∧ w = w' := by
  have HT := Lib.hid hT
  clear hT
  go_enter Tryd.func100, Tryd.ntmps100
  go_wp2_with fail
  refine (power_any a 254 _ HT.out (by omega) (by omega) (by omega) (by omega)).mono ?_
  rintro e w' ⟨rfl, rfl⟩
  go_wp2_with fail
  go_ret2
  exact ⟨by rw [Gf.invN_def]; rfl, rfl⟩
/-- Both results of Inv, for every byte. -/
theorem inv_any (a : Int) (w : World) (hT : Tab w) (ha : 0 ≤ a) (ha' : a < 256) :
    Calls Tryd.prog 100 #[.int .u8 a] w fun e w' => e = .returned (.tuple #[.int .u8 (Gf.invN a.toNat : Nat), .int .i64 (Gf.noneI a)]) ∧ w = w' := by
  obtain ⟨a, rfl⟩ := Int.eq_ofNat_of_zero_le ha
  by_cases h0 : a = 0
  · subst h0
    refine (inv_zero w).mono ?_
    rintro e w' ⟨rfl, rfl⟩
    refine ⟨?_, rfl⟩
    rw [show Gf.noneI ((0 : Nat) : Int) = 1 from Gf.noneI_zero, show Gf.invN ((0 : Nat) : Int).toNat = 0 from by rw [Gf.invN_def]; exact Gf.powN_zero (by omega)]
    rfl
  · refine (inv_nat a (by omega) h0 w hT).mono ?_
    rintro e w' ⟨rfl, rfl⟩
    refine ⟨?_, rfl⟩
    rw [Gf.noneI_nat (by omega), Int.toNat_natCast]
theorem exp_any (n : Int) (w : World) (hT : Tab w) (h1 : -9223372036854775808 ≤ n) (h2 : n ≤ 9223372036854775807) :
    Calls Tryd.prog 64 #[.int .i64 n] w fun e w' => e = .returned (.int .u8 (Gf.powN 2 (n % 255).toNat : Nat)) ∧ w = w' := by
  have HT := Lib.hid hT
  clear hT
  go_enter Tryd.func64, Tryd.ntmps64
  go_wp2_with fail
  refine (modulo_any n _ h1 h2).mono ?_
  rintro e w' ⟨rfl, rfl⟩
  go_wp2_with fail
  refine (power_any 2 (n % 255) _ HT.out (by omega) (by omega) (by omega) (by omega)).mono ?_
  rintro e w' ⟨rfl, rfl⟩
  go_wp2_with fail
  go_ret
  exact ⟨rfl, rfl⟩
end Go.Proofs.YtdmljilcbndmfaaDoor

/- THE FIELD OVER BYTES: what the walks return, as bytes and strings of bytes. No program in sight. -/
namespace Gf
/-- The product of two bytes. -/
def mul (a b : UInt8) : UInt8 := UInt8.ofNat (mulN a.toNat b.toNat)
theorem lt8 (a : UInt8) : a.toNat < 256 := a.toNat_lt
theorem mul_toNat (a b : UInt8) : (mul a b).toNat = mulN a.toNat b.toNat := by
  unfold mul
  have := mulN_lt (a := a.toNat) (b := b.toNat) (lt8 a)
  simp
  omega
theorem mulI_toNat (a b : UInt8) : mulI (a.toNat : Int) (b.toNat : Int) = ((mul a b).toNat : Int) := by rw [mulI_nat, mul_toNat]
theorem mul_comm (a b : UInt8) : mul a b = mul b a := by rw [← UInt8.toNat_inj, mul_toNat, mul_toNat, mulN_comm (lt8 a) (lt8 b)]
theorem mul_assoc (a b c : UInt8) : mul (mul a b) c = mul a (mul b c) := by rw [← UInt8.toNat_inj]; simp only [mul_toNat]; exact mulN_assoc (lt8 a) (lt8 b) (lt8 c)
theorem mul_zero (a : UInt8) : mul a 0 = 0 := by rw [← UInt8.toNat_inj, mul_toNat]; exact mulN_zero2 _
theorem zero_mul (a : UInt8) : mul 0 a = 0 := by rw [mul_comm, mul_zero]
theorem mul_one (a : UInt8) : mul a 1 = a := by rw [← UInt8.toNat_inj, mul_toNat]; exact mulN_one2 (lt8 a)
theorem one_mul (a : UInt8) : mul 1 a = a := by rw [mul_comm, mul_one]
theorem mul_xor (a b c : UInt8) : mul a (b ^^^ c) = mul a b ^^^ mul a c := by rw [← UInt8.toNat_inj]; simp only [mul_toNat, UInt8.toNat_xor]; exact mulN_lin2 _ _ _ (lt8 b) (lt8 c)
theorem xor_mul (a b c : UInt8) : mul (a ^^^ b) c = mul a c ^^^ mul b c := by rw [mul_comm, mul_xor, mul_comm c a, mul_comm c b]
theorem mul_eq_zero {a b : UInt8} : mul a b = 0 ↔ a = 0 ∨ b = 0 := by
  rw [← UInt8.toNat_inj, mul_toNat, ← UInt8.toNat_inj (a := a), ← UInt8.toNat_inj (a := b)]
  exact mulN_eq_zero (lt8 a) (lt8 b)
/-- The inverse; 0 for 0. -/
def inv (a : UInt8) : UInt8 := UInt8.ofNat (invN a.toNat)
theorem inv_toNat (a : UInt8) : (inv a).toNat = invN a.toNat := by
  unfold inv
  have := invN_lt a.toNat
  simp
  omega
theorem mul_inv {a : UInt8} (h : a ≠ 0) : mul a (inv a) = 1 := by
  rw [← UInt8.toNat_inj, mul_toNat, inv_toNat]
  exact Gf.mul_invN (lt8 a) (fun e => h (by rw [← UInt8.toNat_inj]; exact e))
theorem inv_mul {a : UInt8} (h : a ≠ 0) : mul (inv a) a = 1 := by rw [mul_comm, mul_inv h]
theorem xor_assoc (a b c : UInt8) : a ^^^ b ^^^ c = a ^^^ (b ^^^ c) := UInt8.xor_assoc a b c
theorem xor_comm (a b : UInt8) : a ^^^ b = b ^^^ a := UInt8.xor_comm a b

/-- The sum of two strings, the shorter one filled up with zeros. -/
def sum (s t : List UInt8) : List UInt8 := (List.range (max s.length t.length)).map fun k => s.getD k 0 ^^^ t.getD k 0
def scale (c : UInt8) (s : List UInt8) : List UInt8 := s.map (mul c)
/-- The byte at place k of the sum of the strings with coefficients, from the first n of them. -/
def comb (coef : List UInt8) (parts : List (List UInt8)) (k : Nat) : Nat → UInt8
  | 0 => 0
  | n + 1 => comb coef parts k n ^^^ mul (coef.getD n 0) ((parts.getD n []).getD k 0)
/-- Combine's string. -/
def combine (coef : List UInt8) (parts : List (List UInt8)) : List UInt8 := (List.range (parts.headD []).length).map fun k => comb coef parts k coef.length
/-- Whether Combine takes its arguments. -/
def combOk (coef : List UInt8) (parts : List (List UInt8)) : Bool := coef.length == parts.length && parts.all fun p => p.length == (parts.headD []).length
/-- Both results of Combine. -/
def combS (coef : List UInt8) (parts : List (List UInt8)) : List UInt8 := if combOk coef parts then combine coef parts else []
def combE (coef : List UInt8) (parts : List (List UInt8)) : Int := if combOk coef parts then 0 else 1
theorem combS_ok {coef : List UInt8} {parts : List (List UInt8)} (h : combOk coef parts = true) : combS coef parts = combine coef parts := if_pos h
theorem combS_no {coef : List UInt8} {parts : List (List UInt8)} (h : combOk coef parts = false) : combS coef parts = [] := if_neg (by rw [h]; simp)
theorem combE_ok {coef : List UInt8} {parts : List (List UInt8)} (h : combOk coef parts = true) : combE coef parts = 0 := if_pos h
theorem combE_no {coef : List UInt8} {parts : List (List UInt8)} (h : combOk coef parts = false) : combE coef parts = 1 := if_neg (by rw [h]; simp)
theorem combOk_ne {coef : List UInt8} {parts : List (List UInt8)} (h : coef.length ≠ parts.length) : combOk coef parts = false := by
  unfold combOk
  rw [show (coef.length == parts.length) = false from by simpa using h]
  rfl
attribute [irreducible] combS combE mul inv
end Gf

/- LINEAR ALGEBRA over bytes, in plain terms: sums, spans, and that more vectors than coordinates depend on each other. No program in sight. -/
namespace Gf
/-- The sum of f 0 .. f (k-1). -/
def sm : Nat → (Nat → UInt8) → UInt8
  | 0, _ => 0
  | k + 1, f => sm k f ^^^ f k
theorem sm_congr {f g : Nat → UInt8} : ∀ {k : Nat}, (∀ j, j < k → f j = g j) → sm k f = sm k g
  | 0, _ => rfl
  | k + 1, h => by rw [sm, sm, sm_congr (k := k) fun j hj => h j (by omega), h k (by omega)]
theorem sm_zero : ∀ {k : Nat} {f : Nat → UInt8}, (∀ j, j < k → f j = 0) → sm k f = 0
  | 0, _, _ => rfl
  | k + 1, f, h => by rw [sm, sm_zero (k := k) fun j hj => h j (by omega), h k (by omega)]; rfl
theorem xor4b (a b c d : UInt8) : (a ^^^ b) ^^^ (c ^^^ d) = (a ^^^ c) ^^^ (b ^^^ d) := by
  rw [xor_assoc, xor_assoc, ← xor_assoc b c d, xor_comm b c, xor_assoc c b d]
theorem sm_add (f g : Nat → UInt8) : ∀ k, sm k (fun j => f j ^^^ g j) = sm k f ^^^ sm k g
  | 0 => by simp [sm]
  | k + 1 => by rw [sm, sm, sm, sm_add f g k, xor4b]
theorem sm_mul (c : UInt8) (f : Nat → UInt8) : ∀ k, mul c (sm k f) = sm k (fun j => mul c (f j))
  | 0 => mul_zero c
  | k + 1 => by rw [sm, mul_xor, sm_mul c f k, sm]
theorem sm_swap (f : Nat → Nat → UInt8) : ∀ m k, sm m (fun i => sm k (fun j => f i j)) = sm k (fun j => sm m (fun i => f i j))
  | 0, k => (sm_zero fun _ _ => rfl).symm
  | m + 1, k => by rw [sm, sm_swap f m k, ← sm_add]; rfl
theorem sm_one {p : Nat} (f : Nat → UInt8) : ∀ {k : Nat}, p < k → (∀ j, j < k → j ≠ p → f j = 0) → sm k f = f p
  | 0, h, _ => by omega
  | k + 1, h, hz => by
    rw [sm]
    by_cases hp : p = k
    · subst hp
      rw [sm_zero fun j hj => hz j (by omega) (by omega)]
      exact UInt8.zero_xor
    · rw [sm_one f (by omega) fun j hj hne => hz j (by omega) hne, hz k (by omega) (Ne.symm hp)]
      exact UInt8.xor_zero
/-- All indices but p. -/
def skip (p j : Nat) : Nat := if j < p then j else j + 1
theorem skip_ne (p j : Nat) : skip p j ≠ p := by unfold skip; split <;> omega
theorem skip_lt {p j k : Nat} (h : j < k) : skip p j < k + 1 := by unfold skip; split <;> omega
theorem sm_skip {p : Nat} (f : Nat → UInt8) : ∀ {k : Nat}, p < k + 1 → sm (k + 1) f = sm k (fun j => f (skip p j)) ^^^ f p
  | 0, h => by
    obtain rfl : p = 0 := by omega
    rfl
  | k + 1, h => by
    by_cases hp : p = k + 1
    · subst hp
      rw [sm]
      congr 1
      exact sm_congr fun j hj => by unfold skip; rw [if_pos (by omega)]
    · rw [sm, sm_skip f (show p < k + 1 by omega), sm]
      have e : skip p k = k + 1 := if_neg (by omega)
      rw [e, xor_assoc, xor_assoc, xor_comm (f p)]
theorem xor_eq_zero {a b : UInt8} : a ^^^ b = 0 ↔ a = b := by
  constructor
  · intro h
    have : a ^^^ b ^^^ b = b := by rw [h]; exact UInt8.zero_xor
    rwa [xor_assoc, UInt8.xor_self, UInt8.xor_zero] at this
  · rintro rfl; exact UInt8.xor_self
/-- MORE VECTORS THAN COORDINATES DEPEND ON EACH OTHER. -/
theorem depend : ∀ (m k : Nat) (a : Nat → Nat → UInt8), m < k → ∃ x : Nat → UInt8, (∃ j, j < k ∧ x j ≠ 0) ∧ ∀ i, i < m → sm k (fun j => mul (x j) (a j i)) = 0
  | 0, k, a, h => ⟨fun _ => 1, ⟨0, h, by decide⟩, fun i hi => by omega⟩
  | m + 1, k, a, h => by
    by_cases hz : ∀ j, j < k → a j m = 0
    · obtain ⟨x, hx, he⟩ := depend m k a (by omega)
      refine ⟨x, hx, fun i hi => ?_⟩
      by_cases him : i = m
      · subst him
        exact sm_zero fun j hj => by rw [hz j hj, mul_zero]
      · exact he i (by omega)
    · have hz' : ∃ p, p < k ∧ a p m ≠ 0 := by
        apply Classical.byContradiction
        intro hn
        exact hz fun j hj => Classical.byContradiction fun hne => hn ⟨j, hj, hne⟩
      obtain ⟨p, hp, hpm⟩ := hz'
      obtain ⟨k, rfl⟩ : ∃ l, k = l + 1 := ⟨k - 1, by omega⟩
      obtain ⟨x, ⟨j0, hj0, hx0⟩, he⟩ := depend m k (fun j i => a (skip p j) i ^^^ mul (mul (a (skip p j) m) (inv (a p m))) (a p i)) (by omega)
      let s := sm k (fun j => mul (x j) (mul (a (skip p j) m) (inv (a p m))))
      have hback : ∀ j, j < k → ∃ i, i < k ∧ skip p i = skip p j ∧ i = j := fun j hj => ⟨j, hj, rfl, rfl⟩
      have hinj : ∀ i j, skip p i = skip p j → i = j := by
        intro i j hij
        unfold skip at hij
        split at hij <;> split at hij <;> omega
      let y : Nat → UInt8 := fun q => if q = p then s else x (if q < p then q else q - 1)
      have hy : ∀ j, y (skip p j) = x j := by
        intro j
        show (if skip p j = p then s else x (if skip p j < p then skip p j else skip p j - 1)) = x j
        rw [if_neg (skip_ne p j)]
        congr 1
        unfold skip
        by_cases hjp : j < p
        · rw [if_pos hjp, if_pos hjp]
        · rw [if_neg hjp, if_neg (by omega)]; omega
      have hyp : y p = s := if_pos rfl
      refine ⟨y, ⟨skip p j0, skip_lt hj0, by rw [hy]; exact hx0⟩, fun i hi => ?_⟩
      rw [sm_skip _ hp, hyp]
      have e1 : sm k (fun j => mul (y (skip p j)) (a (skip p j) i)) = sm k (fun j => mul (x j) (a (skip p j) i)) := sm_congr fun j _ => by rw [hy]
      rw [e1]
      have e2 : mul s (a p i) = sm k (fun j => mul (x j) (mul (mul (a (skip p j) m) (inv (a p m))) (a p i))) := by
        rw [mul_comm, sm_mul]
        exact sm_congr fun j _ => by rw [mul_comm, mul_assoc]
      rw [e2, ← sm_add]
      by_cases him : i = m
      · subst him
        refine sm_zero fun j _ => ?_
        rw [mul_assoc (a (skip p j) i), inv_mul hpm, mul_one]
        exact UInt8.xor_self
      · rw [← he i (by omega)]
        exact sm_congr fun j _ => by rw [mul_xor]

/-- v is a combination of the m vectors vs, on the first n places. -/
def InSpan (n m : Nat) (vs : Nat → Nat → UInt8) (v : Nat → UInt8) : Prop := ∃ c : Nat → UInt8, ∀ i, i < n → v i = sm m (fun k => mul (c k) (vs k i))
theorem InSpan.zero (n m : Nat) (vs : Nat → Nat → UInt8) {v : Nat → UInt8} (h : ∀ i, i < n → v i = 0) : InSpan n m vs v :=
  ⟨fun _ => 0, fun i hi => by rw [h i hi, sm_zero fun j _ => zero_mul _]⟩
theorem InSpan.add {n m : Nat} {vs : Nat → Nat → UInt8} {u v : Nat → UInt8} (hu : InSpan n m vs u) (hv : InSpan n m vs v) : InSpan n m vs fun i => u i ^^^ v i := by
  obtain ⟨c, hc⟩ := hu
  obtain ⟨d, hd⟩ := hv
  exact ⟨fun k => c k ^^^ d k, fun i hi => by show u i ^^^ v i = _; rw [hc i hi, hd i hi, ← sm_add]; exact sm_congr fun j _ => by rw [xor_mul]⟩
theorem InSpan.smul {n m : Nat} {vs : Nat → Nat → UInt8} {v : Nat → UInt8} (a : UInt8) (hv : InSpan n m vs v) : InSpan n m vs fun i => mul a (v i) := by
  obtain ⟨d, hd⟩ := hv
  exact ⟨fun k => mul a (d k), fun i hi => by show mul a (v i) = _; rw [hd i hi, sm_mul]; exact sm_congr fun j _ => by rw [mul_assoc]⟩
theorem InSpan.mem {n m : Nat} {vs : Nat → Nat → UInt8} {k : Nat} (hk : k < m) : InSpan n m vs (vs k) :=
  ⟨fun j => if j = k then 1 else 0, fun i _ => by rw [sm_one (p := k) _ hk fun j _ hne => by simp [hne, zero_mul]]; simp [one_mul]⟩
theorem InSpan.congr {n m : Nat} {vs : Nat → Nat → UInt8} {u v : Nat → UInt8} (h : InSpan n m vs u) (he : ∀ i, i < n → v i = u i) : InSpan n m vs v := by
  obtain ⟨c, hc⟩ := h
  exact ⟨c, fun i hi => by rw [he i hi, hc i hi]⟩
theorem InSpan.sum {n m : Nat} {vs : Nat → Nat → UInt8} (c : Nat → UInt8) (us : Nat → Nat → UInt8) : ∀ k, (∀ j, j < k → InSpan n m vs (us j)) → InSpan n m vs fun i => sm k fun j => mul (c j) (us j i)
  | 0, _ => InSpan.zero n m vs fun _ _ => rfl
  | k + 1, h => (InSpan.sum c us k fun j hj => h j (by omega)).add ((h k (by omega)).smul (c k))
/-- What is in the span of vectors of a span is in it. -/
theorem InSpan.trans {n m k : Nat} {vs us : Nat → Nat → UInt8} {v : Nat → UInt8} (h : InSpan n k us v) (hu : ∀ j, j < k → InSpan n m vs (us j)) : InSpan n m vs v := by
  obtain ⟨c, hc⟩ := h
  exact (InSpan.sum c us k hu).congr hc
/-- k vectors in the span of fewer depend on each other. -/
theorem InSpan.depend {n m k : Nat} {vs us : Nat → Nat → UInt8} (h : m < k) (hu : ∀ j, j < k → InSpan n m vs (us j)) :
    ∃ x : Nat → UInt8, (∃ j, j < k ∧ x j ≠ 0) ∧ ∀ i, i < n → sm k (fun j => mul (x j) (us j i)) = 0 := by
  have hc : ∃ c : Nat → Nat → UInt8, ∀ j, j < k → ∀ i, i < n → us j i = sm m (fun l => mul (c j l) (vs l i)) := by
    refine ⟨fun j => if hj : j < k then (hu j hj).choose else fun _ => 0, fun j hj => ?_⟩
    simp only [hj, ↓reduceDIte]
    exact (hu j hj).choose_spec
  obtain ⟨c, hc⟩ := hc
  obtain ⟨x, hx, he⟩ := Gf.depend m k c h
  refine ⟨x, hx, fun i hi => ?_⟩
  have e : sm k (fun j => mul (x j) (us j i)) = sm k (fun j => sm m (fun l => mul (x j) (mul (c j l) (vs l i)))) := sm_congr fun j hj => by rw [hc j hj i hi, sm_mul]
  rw [e, sm_swap]
  refine sm_zero fun l hl => ?_
  have e2 : sm k (fun j => mul (x j) (mul (c j l) (vs l i))) = mul (vs l i) (sm k (fun j => mul (x j) (c j l))) := by
    rw [sm_mul]
    exact sm_congr fun j _ => by rw [← mul_assoc, mul_comm]
  rw [e2, he l hl, mul_zero]
end Gf

/- ROWS IN THE FORM OF STAIRS, in plain terms: as many as columns exactly if the rows span all. No program in sight. -/
namespace Gf
def vec (l : List UInt8) : Nat → UInt8 := fun i => l.getD i 0
/-- The place of the first element that is not 0; the length if there is none. -/
def firstNZ : List UInt8 → Nat
  | [] => 0
  | x :: r => if x = 0 then firstNZ r + 1 else 0
theorem firstNZ_le : ∀ l, firstNZ l ≤ l.length
  | [] => Nat.le_refl _
  | x :: r => by
    have := firstNZ_le r
    unfold firstNZ
    split <;> simp <;> omega
theorem firstNZ_before : ∀ (l : List UInt8) (j : Nat), j < firstNZ l → l.getD j 0 = 0
  | [], j, h => by simp [firstNZ] at h
  | x :: r, j, h => by
    unfold firstNZ at h
    split at h
    · rename_i hx
      cases j with
      | zero => simpa using hx
      | succ j => simpa using firstNZ_before r j (by omega)
    · omega
theorem firstNZ_at : ∀ (l : List UInt8), firstNZ l < l.length → l.getD (firstNZ l) 0 ≠ 0
  | [], h => by simp at h
  | x :: r, h => by
    unfold firstNZ at h ⊢
    split
    · rename_i hx
      rw [if_pos hx] at h
      have := firstNZ_at r (by simpa using h)
      simpa using this
    · rename_i hx
      simpa using hx
theorem getD_out {l : List UInt8} {i : Nat} (h : l.length ≤ i) : l.getD i 0 = 0 := by
  rw [List.getD_eq_getElem?_getD, List.getElem?_eq_none h]; rfl
theorem getD_map_range (n : Nat) (f : Nat → UInt8) {i : Nat} (h : i < n) : ((List.range n).map f).getD i 0 = f i := by
  rw [List.getD_eq_getElem?_getD, List.getElem?_map, List.getElem?_eq_getElem (by simpa using h)]
  simp

/-- r without its multiple of x that makes it 0 at x's first place. -/
def redRow (r x : List UInt8) : List UInt8 := (List.range r.length).map fun i => r.getD i 0 ^^^ mul (r.getD (firstNZ x) 0) (x.getD i 0)
theorem redRow_length (r x : List UInt8) : (redRow r x).length = r.length := by simp [redRow]
theorem redRow_get (r x : List UInt8) {i : Nat} (h : i < r.length) : (redRow r x).getD i 0 = r.getD i 0 ^^^ mul (r.getD (firstNZ x) 0) (x.getD i 0) := getD_map_range _ _ h
theorem redRow_same {r x : List UInt8} (h : r.getD (firstNZ x) 0 = 0) : redRow r x = r := by
  apply List.ext_getElem
  · exact redRow_length r x
  · intro i h1 h2
    have e := redRow_get r x h2
    rw [h, zero_mul, UInt8.xor_zero, List.getD_eq_getElem?_getD, List.getElem?_eq_getElem h1, List.getD_eq_getElem?_getD, List.getElem?_eq_getElem h2] at e
    exact e
def reduce (S : List (List UInt8)) (r : List UInt8) : List UInt8 := S.foldl redRow r
theorem reduce_length : ∀ (S : List (List UInt8)) (r : List UInt8), (reduce S r).length = r.length
  | [], _ => rfl
  | x :: S, r => by
    show (reduce S (redRow r x)).length = _
    rw [reduce_length S, redRow_length]

structure Stairs (n : Nat) (S : List (List UInt8)) : Prop where
  len : ∀ x ∈ S, x.length = n
  nz : ∀ x ∈ S, firstNZ x < n
  one : ∀ x ∈ S, x.getD (firstNZ x) 0 = 1
  tri : S.Pairwise fun x y => y.getD (firstNZ x) 0 = 0

theorem reduce_keep {p : Nat} : ∀ (S : List (List UInt8)) (r : List UInt8), (∀ y ∈ S, y.getD p 0 = 0) → r.getD p 0 = 0 → (reduce S r).getD p 0 = 0
  | [], _, _, h => h
  | x :: S, r, hS, h => by
    show (reduce S (redRow r x)).getD p 0 = 0
    refine reduce_keep S _ (fun y hy => hS y (by simp [hy])) ?_
    by_cases hp : p < r.length
    · rw [redRow_get r x hp, h, hS x (by simp), mul_zero]; rfl
    · exact getD_out (by rw [redRow_length]; omega)
theorem reduce_zero {n : Nat} : ∀ (S : List (List UInt8)) (r : List UInt8), Stairs n S → r.length = n → ∀ x ∈ S, (reduce S r).getD (firstNZ x) 0 = 0
  | [], _, _, _, x, hx => by cases hx
  | y :: S, r, h, hr, x, hx => by
    show (reduce S (redRow r y)).getD (firstNZ x) 0 = 0
    have htri := List.pairwise_cons.1 h.tri
    rcases List.mem_cons.1 hx with rfl | hx
    · refine reduce_keep S _ (fun z hz => htri.1 z hz) ?_
      have hp : firstNZ x < r.length := by rw [hr]; exact h.nz x (by simp)
      rw [redRow_get r x hp, h.one x (by simp), mul_one]
      exact UInt8.xor_self
    · exact reduce_zero S _ ⟨fun z hz => h.len z (by simp [hz]), fun z hz => h.nz z (by simp [hz]), fun z hz => h.one z (by simp [hz]), htri.2⟩ (by rw [redRow_length, hr]) x hx

/-- v is a combination of the rows of L. -/
def SpanL (n : Nat) (L : List (List UInt8)) (v : Nat → UInt8) : Prop := InSpan n L.length (fun k => vec (L.getD k [])) v
theorem SpanL.mem {n : Nat} {L : List (List UInt8)} {x : List UInt8} (h : x ∈ L) : SpanL n L (vec x) := by
  obtain ⟨k, hk, rfl⟩ := List.getElem_of_mem h
  have := InSpan.mem (n := n) (vs := fun k => vec (L.getD k [])) hk
  have e : L.getD k [] = L[k] := by rw [List.getD_eq_getElem?_getD, List.getElem?_eq_getElem hk]; rfl
  simp only [e] at this
  exact this
theorem SpanL.trans {n : Nat} {L M : List (List UInt8)} {v : Nat → UInt8} (h : SpanL n L v) (hm : ∀ x ∈ L, SpanL n M (vec x)) : SpanL n M v :=
  InSpan.trans h fun j hj => by
    have e : L.getD j [] = L[j] := by rw [List.getD_eq_getElem?_getD, List.getElem?_eq_getElem hj]; rfl
    simp only [e]
    exact hm _ (List.getElem_mem hj)
theorem SpanL.mono {n : Nat} {L M : List (List UInt8)} {v : Nat → UInt8} (h : SpanL n L v) (hm : ∀ x ∈ L, x ∈ M) : SpanL n M v := h.trans fun x hx => SpanL.mem (hm x hx)
theorem SpanL.add {n : Nat} {L : List (List UInt8)} {u v : Nat → UInt8} (hu : SpanL n L u) (hv : SpanL n L v) : SpanL n L fun i => u i ^^^ v i := InSpan.add hu hv
theorem SpanL.smul {n : Nat} {L : List (List UInt8)} {v : Nat → UInt8} (a : UInt8) (hv : SpanL n L v) : SpanL n L fun i => mul a (v i) := InSpan.smul a hv
theorem SpanL.congr {n : Nat} {L : List (List UInt8)} {u v : Nat → UInt8} (h : SpanL n L u) (he : ∀ i, i < n → v i = u i) : SpanL n L v := InSpan.congr h he

theorem reduce_span {n : Nat} {M : List (List UInt8)} : ∀ (S : List (List UInt8)) (r : List UInt8), r.length = n → (∀ x ∈ S, SpanL n M (vec x)) → SpanL n M (vec r) → SpanL n M (vec (reduce S r))
  | [], _, _, _, h => h
  | x :: S, r, hr, hS, h => by
    refine reduce_span S (redRow r x) (by rw [redRow_length, hr]) (fun y hy => hS y (by simp [hy])) ?_
    exact (h.add ((hS x (by simp)).smul (r.getD (firstNZ x) 0))).congr fun i hi => redRow_get r x (by rw [hr]; exact hi)
theorem reduce_back {n : Nat} {M : List (List UInt8)} : ∀ (S : List (List UInt8)) (r : List UInt8), r.length = n → (∀ x ∈ S, SpanL n M (vec x)) → SpanL n M (vec (reduce S r)) → SpanL n M (vec r)
  | [], _, _, _, h => h
  | x :: S, r, hr, hS, h => by
    have h1 := reduce_back S (redRow r x) (by rw [redRow_length, hr]) (fun y hy => hS y (by simp [hy])) h
    refine (h1.add ((hS x (by simp)).smul (r.getD (firstNZ x) 0))).congr fun i hi => ?_
    have e : vec (redRow r x) i = _ := redRow_get r x (by rw [hr]; exact hi)
    rw [e]
    show r.getD i 0 = r.getD i 0 ^^^ mul _ (x.getD i 0) ^^^ mul _ (x.getD i 0)
    rw [xor_assoc, UInt8.xor_self, UInt8.xor_zero]

/-- The stairs with one row more; none if it is a combination of those that are there. -/
def addRow (S : List (List UInt8)) (r : List UInt8) : Option (List UInt8) :=
  if firstNZ (reduce S r) = r.length then none else some ((reduce S r).map (mul (inv ((reduce S r).getD (firstNZ (reduce S r)) 0))))
theorem addRow_none {n : Nat} {S : List (List UInt8)} {r : List UInt8} (hr : r.length = n) (h : addRow S r = none) : SpanL n S (vec r) := by
  unfold addRow at h
  split at h
  · rename_i h1
    refine reduce_back S r hr (fun x hx => SpanL.mem hx) (InSpan.zero _ _ _ fun i hi => ?_)
    exact firstNZ_before _ i (by rw [h1, hr]; exact hi)
  · cases h
theorem getD_map_mul (c : UInt8) (l : List UInt8) (i : Nat) : (l.map (mul c)).getD i 0 = mul c (l.getD i 0) := by
  rw [List.getD_eq_getElem?_getD, List.getElem?_map, List.getD_eq_getElem?_getD]
  cases l[i]? with
  | none => exact (mul_zero c).symm
  | some x => rfl
theorem mul_ne_zero {a b : UInt8} (ha : a ≠ 0) (hb : b ≠ 0) : mul a b ≠ 0 := fun h => by
  rcases mul_eq_zero.1 h with h | h
  · exact ha h
  · exact hb h
theorem firstNZ_map {c : UInt8} (hc : c ≠ 0) : ∀ l : List UInt8, firstNZ (l.map (mul c)) = firstNZ l
  | [] => rfl
  | x :: r => by
    simp only [List.map_cons, firstNZ]
    by_cases hx : x = 0
    · rw [if_pos hx, if_pos (by rw [hx, mul_zero]), firstNZ_map hc r]
    · rw [if_neg hx, if_neg (mul_ne_zero hc hx)]
theorem inv_ne_zero {a : UInt8} (h : a ≠ 0) : inv a ≠ 0 := fun e => by
  have := mul_inv h
  rw [e, mul_zero] at this
  exact absurd this (by decide)
theorem addRow_some {n : Nat} {S : List (List UInt8)} {r t : List UInt8} (hS : Stairs n S) (hr : r.length = n) (h : addRow S r = some t) :
    Stairs n (S ++ [t]) ∧ SpanL n (S ++ [r]) (vec t) ∧ SpanL n (S ++ [t]) (vec r) := by
  unfold addRow at h
  split at h
  · cases h
  · rename_i h1
    injection h with h
    have hl : (reduce S r).length = n := by rw [reduce_length, hr]
    have hle := firstNZ_le (reduce S r)
    have hlt : firstNZ (reduce S r) < (reduce S r).length := by rw [hl] at hle ⊢; omega
    have hnz := firstNZ_at _ hlt
    have hi := inv_ne_zero hnz
    subst h
    refine ⟨⟨?_, ?_, ?_, ?_⟩, ?_, ?_⟩
    · intro x hx
      rcases List.mem_append.1 hx with hx | hx
      · exact hS.len x hx
      · obtain rfl := List.mem_singleton.1 hx; simp [hl]
    · intro x hx
      rcases List.mem_append.1 hx with hx | hx
      · exact hS.nz x hx
      · obtain rfl := List.mem_singleton.1 hx; rw [firstNZ_map hi]; omega
    · intro x hx
      rcases List.mem_append.1 hx with hx | hx
      · exact hS.one x hx
      · obtain rfl := List.mem_singleton.1 hx; rw [firstNZ_map hi, getD_map_mul, inv_mul hnz]
    · rw [List.pairwise_append]
      refine ⟨hS.tri, by simp, fun x hx y hy => ?_⟩
      obtain rfl := List.mem_singleton.1 hy
      rw [getD_map_mul, reduce_zero S r hS hr x hx, mul_zero]
    · have h2 : SpanL n (S ++ [r]) (vec (reduce S r)) := reduce_span S r hr (fun x hx => SpanL.mem (by simp [hx])) (SpanL.mem (by simp))
      exact (h2.smul _).congr fun i _ => getD_map_mul _ _ i
    · refine reduce_back S r hr (fun x hx => SpanL.mem (by simp [hx])) ?_
      have h2 : SpanL n (S ++ [(reduce S r).map (mul (inv ((reduce S r).getD (firstNZ (reduce S r)) 0)))]) (vec ((reduce S r).map (mul (inv ((reduce S r).getD (firstNZ (reduce S r)) 0))))) := SpanL.mem (by simp)
      refine (h2.smul ((reduce S r).getD (firstNZ (reduce S r)) 0)).congr fun i _ => ?_
      show (reduce S r).getD i 0 = mul _ (((reduce S r).map _).getD i 0)
      rw [getD_map_mul, ← mul_assoc, mul_inv hnz, one_mul]

/-- Rows of stairs depend on none of the others. -/
theorem stairs_indep {n : Nat} : ∀ (S : List (List UInt8)) (x : Nat → UInt8), Stairs n S → (∀ i, i < n → sm S.length (fun j => mul (x j) ((S.getD j []).getD i 0)) = 0) → ∀ j, j < S.length → x j = 0
  | [], _, _, _, j, hj => by simp at hj
  | y :: S, x, h, hz, j, hj => by
    have htri := List.pairwise_cons.1 h.tri
    have hp := h.nz y (by simp)
    have h0 : x 0 = 0 := by
      have h1 := hz _ hp
      rw [sm_one (p := 0) _ (by simp) (fun j hj hne => ?_)] at h1
      · rw [show ((y :: S).getD 0 []) = y from rfl, h.one y (by simp), mul_one] at h1
        exact h1
      · obtain ⟨k, rfl⟩ : ∃ k, j = k + 1 := ⟨j - 1, by omega⟩
        have hk : k < S.length := by simpa using hj
        have e : (y :: S).getD (k + 1) [] = S[k] := by rw [List.getD_eq_getElem?_getD, List.getElem?_cons_succ, List.getElem?_eq_getElem hk]; rfl
        rw [e, htri.1 _ (List.getElem_mem hk), mul_zero]
    cases j with
    | zero => exact h0
    | succ j =>
      refine stairs_indep S (fun k => x (k + 1)) ⟨fun z hz => h.len z (by simp [hz]), fun z hz => h.nz z (by simp [hz]), fun z hz => h.one z (by simp [hz]), htri.2⟩ (fun i hi => ?_) j (by simpa using hj)
      have h1 := hz i hi
      rw [show (y :: S).length = S.length + 1 from rfl, sm_skip (p := 0) _ (by omega), h0, zero_mul, UInt8.xor_zero] at h1
      refine Eq.trans ?_ h1
      exact sm_congr fun k hk => by rw [show skip 0 k = k + 1 from if_neg (by omega)]; rfl

/-- The vector that is 1 at q alone. -/
def unit (q : Nat) : Nat → UInt8 := fun i => if i = q then 1 else 0
theorem stairs_full {n : Nat} {S : List (List UInt8)} (h : Stairs n S) (hn : S.length = n) (v : Nat → UInt8) : SpanL n S v := by
  obtain ⟨x, ⟨j0, hj0, hx0⟩, he⟩ := depend n (n + 1) (fun j i => if j < n then (S.getD j []).getD i 0 else v i) (by omega)
  have hlast : x n ≠ 0 := by
    intro h0
    have h1 : ∀ j, j < S.length → x j = 0 := stairs_indep S x h fun i hi => by
      have h2 := he i hi
      rw [sm, if_neg (by omega), h0, zero_mul, UInt8.xor_zero] at h2
      refine Eq.trans ?_ h2
      rw [hn]
      exact sm_congr fun j hj => by rw [if_pos hj]
    by_cases hj : j0 = n
    · rw [hj] at hx0; exact hx0 h0
    · exact hx0 (h1 j0 (by omega))
  refine ⟨fun k => mul (inv (x n)) (x k), fun i hi => ?_⟩
  have h2 := he i hi
  rw [sm, if_neg (by omega), xor_eq_zero] at h2
  have h3 : sm n (fun j => mul (x j) (if j < n then (S.getD j []).getD i 0 else v i)) = sm S.length (fun j => mul (x j) ((S.getD j []).getD i 0)) := by
    rw [hn]; exact sm_congr fun j hj => by rw [if_pos hj]
  rw [h3] at h2
  have h4 : v i = mul (inv (x n)) (mul (x n) (v i)) := by rw [← mul_assoc, inv_mul hlast, one_mul]
  rw [h4, ← h2, sm_mul]
  exact sm_congr fun j _ => by rw [mul_assoc]; rfl
theorem stairs_few {n : Nat} {S : List (List UInt8)} (hn : S.length < n) : ¬ ∀ q, q < n → SpanL n S (unit q) := by
  intro h
  obtain ⟨x, ⟨j0, hj0, hx0⟩, he⟩ := InSpan.depend hn h
  have := he j0 hj0
  rw [sm_one (p := j0) _ hj0 (fun j _ hne => by rw [unit, if_neg (Ne.symm hne), mul_zero]), unit, if_pos rfl, mul_one] at this
  exact hx0 this

/-- The stairs of rows, one after the other, as long as there are fewer than columns. -/
def step (n : Nat) (S : List (List UInt8)) (r : List UInt8) : List (List UInt8) :=
  if S.length < n then (match addRow S r with | none => S | some t => S ++ [t]) else S
def stairs (n : Nat) (L : List (List UInt8)) : List (List UInt8) := L.foldl (step n) []
theorem stairs_inv {n : Nat} : ∀ (L P S : List (List UInt8)), (∀ r ∈ P ++ L, r.length = n) → Stairs n S → S.length ≤ n → (∀ x ∈ S, SpanL n P (vec x)) → (S.length < n → ∀ r ∈ P, SpanL n S (vec r)) →
    Stairs n (L.foldl (step n) S) ∧ (L.foldl (step n) S).length ≤ n ∧ (∀ x ∈ L.foldl (step n) S, SpanL n (P ++ L) (vec x)) ∧ ((L.foldl (step n) S).length < n → ∀ r ∈ P ++ L, SpanL n (L.foldl (step n) S) (vec r))
  | [], P, S, _, h1, h2, h3, h4 => by
    simp only [List.append_nil, List.foldl_nil]
    exact ⟨h1, h2, h3, h4⟩
  | r :: L, P, S, hl, h1, h2, h3, h4 => by
    have hr : r.length = n := hl r (by simp)
    rw [List.foldl_cons, show P ++ r :: L = (P ++ [r]) ++ L by simp]
    refine stairs_inv L (P ++ [r]) (step n S r) (fun x hx => hl x (by simpa using hx)) ?_ ?_ ?_ ?_
    all_goals
      unfold step
      split
      · rename_i hlt
        split
        · rename_i hn
          have hs := addRow_none hr hn
          first
            | exact h1
            | exact h2
            | exact fun x hx => (h3 x hx).mono fun y hy => by simp [hy]
            | (intro _ x hx
               rcases List.mem_append.1 hx with hx | hx
               · exact h4 hlt x hx
               · obtain rfl := List.mem_singleton.1 hx; exact hs)
        · rename_i t ht
          obtain ⟨g1, g2, g3⟩ := addRow_some h1 hr ht
          first
            | exact g1
            | (simp; omega)
            | (intro x hx
               rcases List.mem_append.1 hx with hx | hx
               · exact (h3 x hx).mono fun y hy => by simp [hy]
               · obtain rfl := List.mem_singleton.1 hx
                 exact g2.trans fun y hy => by
                   rcases List.mem_append.1 hy with hy | hy
                   · exact (h3 y hy).mono fun z hz => by simp [hz]
                   · exact SpanL.mem (by simp at hy; simp [hy]))
            | (intro _ x hx
               rcases List.mem_append.1 hx with hx | hx
               · exact (h4 hlt x hx).mono fun y hy => by simp [hy]
               · obtain rfl := List.mem_singleton.1 hx; exact g3)
      · rename_i hge
        first
          | exact h1
          | exact h2
          | exact fun x hx => (h3 x hx).mono fun y hy => by simp [hy]
          | exact fun h => absurd h hge
/-- THE STAIRS HAVE AS MANY ROWS AS COLUMNS EXACTLY IF THE ROWS SPAN ALL. -/
theorem stairs_iff {n : Nat} {L : List (List UInt8)} (hl : ∀ r ∈ L, r.length = n) : (stairs n L).length = n ↔ ∀ v, SpanL n L v := by
  obtain ⟨h1, h2, h3, h4⟩ := stairs_inv L [] [] (by simpa using hl) ⟨by simp, by simp, by simp, by simp⟩ (by simp) (by simp) (fun _ r hr => by cases hr)
  rw [List.nil_append] at h3 h4
  constructor
  · intro h v
    exact (stairs_full h1 h v).trans h3
  · intro h
    rcases Nat.lt_or_ge (stairs n L).length n with hlt | hge
    · exact absurd (fun q _ => (h (unit q)).trans (h4 hlt)) (stairs_few hlt)
    · exact Nat.le_antisymm h2 hge
end Gf

/- MATRICES in plain terms: the reduced form by steps of one column, and that it keeps the solutions. No program in sight. -/
namespace Mx
open Gf
abbrev Mat := List (List UInt8)
def row (m : Mat) (i : Nat) : List UInt8 := m.getD i []
def cell (m : Mat) (i c : Nat) : UInt8 := (row m i).getD c 0
def Rect (n : Nat) (m : Mat) : Prop := ∀ i, i < m.length → (row m i).length = n
/-- A row, and the multiple of another one. -/
def addTo (by' : UInt8) (t x : List UInt8) : List UInt8 := (List.range x.length).map fun j => x.getD j 0 ^^^ mul by' (t.getD j 0)
def swap (m : Mat) (r k : Nat) : Mat := (m.set r (row m k)).set k (row m r)
/-- The row i when t, the row r, is taken from it in the column c. -/
def cleanRow (r c : Nat) (t : List UInt8) (i : Nat) (x : List UInt8) : List UInt8 :=
  if i = r then t else if x.getD c 0 = 0 then x else addTo (x.getD c 0) t x
def clean (m : Mat) (r c : Nat) (t : List UInt8) : Mat := (List.range m.length).map fun i => cleanRow r c t i (row m i)
def topRow (m : Mat) (k c : Nat) : List UInt8 := (row m k).map (mul (inv (cell m k c)))
def pivot (m : Mat) (r k c : Nat) : Mat := clean (swap m r k) r c (topRow m k c)
def lead (m : Mat) (r c : Nat) : Option Nat := (List.range m.length).find? fun k => decide (r ≤ k) && (cell m k c != 0)
def colStep (s : Mat × List Nat) (c : Nat) : Mat × List Nat :=
  match lead s.1 s.2.length c with
  | none => s
  | some k => (pivot s.1 s.2.length k c, s.2 ++ [c])
def redTo (m : Mat) : Nat → Mat × List Nat
  | 0 => (m, [])
  | c + 1 => colStep (redTo m c) c

theorem addTo_length (b : UInt8) (t x : List UInt8) : (addTo b t x).length = x.length := by simp [addTo]
theorem addTo_get {b : UInt8} {t x : List UInt8} (h : t.length = x.length) (j : Nat) : (addTo b t x).getD j 0 = x.getD j 0 ^^^ mul b (t.getD j 0) := by
  by_cases hj : j < x.length
  · exact getD_map_range _ _ hj
  · rw [getD_out (by rw [addTo_length]; omega), getD_out (by omega), getD_out (by omega), mul_zero]; rfl
theorem swap_length (m : Mat) (r k : Nat) : (swap m r k).length = m.length := by simp [swap]
theorem swap_row (m : Mat) {r k i : Nat} (hr : r < m.length) (hk : k < m.length) : row (swap m r k) i = if i = k then row m r else if i = r then row m k else row m i := by
  unfold swap row
  simp only [List.getD_eq_getElem?_getD, List.getElem?_set, List.length_set]
  by_cases h1 : k = i
  · subst h1; simp [hk]
  · by_cases h2 : r = i
    · subst h2; simp [h1, Ne.symm h1, hr]
    · simp [h1, h2, Ne.symm h1, Ne.symm h2]
theorem clean_length (m : Mat) (r c : Nat) (t : List UInt8) : (clean m r c t).length = m.length := by simp [clean]
theorem clean_row (m : Mat) (r c : Nat) (t : List UInt8) {i : Nat} (h : i < m.length) : row (clean m r c t) i = cleanRow r c t i (row m i) := by
  unfold clean
  show ((List.range m.length).map fun i => cleanRow r c t i (row m i)).getD i [] = _
  simp [List.getD_eq_getElem?_getD, h]
theorem cleanRow_get {r c i : Nat} {t x : List UInt8} (h : t.length = x.length) (j : Nat) :
    (cleanRow r c t i x).getD j 0 = if i = r then t.getD j 0 else x.getD j 0 ^^^ mul (x.getD c 0) (t.getD j 0) := by
  unfold cleanRow
  by_cases h1 : i = r
  · rw [if_pos h1, if_pos h1]
  · rw [if_neg h1, if_neg h1]
    by_cases h2 : x.getD c 0 = 0
    · rw [if_pos h2, h2, zero_mul, UInt8.xor_zero]
    · rw [if_neg h2, addTo_get h]
theorem pivot_length (m : Mat) (r k c : Nat) : (pivot m r k c).length = m.length := by rw [pivot, clean_length, swap_length]
/-- The place from which the row i comes, when the rows r and k change places. -/
def sw (r k i : Nat) : Nat := if i = k then r else if i = r then k else i
theorem sw_lt {r k i n : Nat} (hr : r < n) (hk : k < n) (hi : i < n) : sw r k i < n := by unfold sw; split <;> (try split) <;> assumption
theorem sw_sw (r k i : Nat) : sw r k (sw r k i) = i := by
  unfold sw
  (repeat' split) <;> omega
theorem swap_row' (m : Mat) {r k i : Nat} (hr : r < m.length) (hk : k < m.length) : row (swap m r k) i = row m (sw r k i) := by
  rw [swap_row m hr hk]; unfold sw; split <;> (try split) <;> rfl
theorem topRow_get (m : Mat) (k c j : Nat) : (topRow m k c).getD j 0 = mul (inv (cell m k c)) (cell m k j) := getD_map_mul _ _ _
theorem pivot_cell {n : Nat} {m : Mat} (hm : Rect n m) {r k c i : Nat} (hr : r < m.length) (hk : k < m.length) (hi : i < m.length) (j : Nat) :
    cell (pivot m r k c) i j = if i = r then mul (inv (cell m k c)) (cell m k j) else cell m (sw r k i) j ^^^ mul (cell m (sw r k i) c) (mul (inv (cell m k c)) (cell m k j)) := by
  show (row (pivot m r k c) i).getD j 0 = _
  rw [pivot, clean_row _ _ _ _ (by rw [swap_length]; exact hi), swap_row' m hr hk]
  rw [cleanRow_get (by rw [hm _ (sw_lt hr hk hi), topRow, List.length_map, hm _ hk]), topRow_get]
  rfl
theorem pivot_rect {n : Nat} {m : Mat} (hm : Rect n m) {r k c : Nat} (hr : r < m.length) (hk : k < m.length) : Rect n (pivot m r k c) := by
  intro i hi
  rw [pivot_length] at hi
  rw [pivot, clean_row _ _ _ _ (by rw [swap_length]; exact hi), swap_row' m hr hk]
  unfold cleanRow
  split
  · rw [topRow, List.length_map, hm _ hk]
  · split
    · exact hm _ (sw_lt hr hk hi)
    · rw [addTo_length]; exact hm _ (sw_lt hr hk hi)

/-- y solves the rows of m. -/
def dot (n : Nat) (x y : Nat → UInt8) : UInt8 := sm n fun j => mul (x j) (y j)
theorem dot_add (n : Nat) (u v y : Nat → UInt8) : dot n (fun j => u j ^^^ v j) y = dot n u y ^^^ dot n v y := by
  unfold dot; rw [← sm_add]; exact sm_congr fun j _ => xor_mul _ _ _
theorem dot_smul (n : Nat) (a : UInt8) (u y : Nat → UInt8) : dot n (fun j => mul a (u j)) y = mul a (dot n u y) := by
  unfold dot; rw [sm_mul]; exact sm_congr fun j _ => mul_assoc _ _ _
def Sol (n : Nat) (m : Mat) (y : Nat → UInt8) : Prop := ∀ i, i < m.length → dot n (cell m i) y = 0
theorem pivot_dot {n : Nat} {m : Mat} (hm : Rect n m) {r k c i : Nat} (hr : r < m.length) (hk : k < m.length) (hi : i < m.length) (y : Nat → UInt8) :
    dot n (cell (pivot m r k c) i) y = if i = r then mul (inv (cell m k c)) (dot n (cell m k) y) else dot n (cell m (sw r k i)) y ^^^ mul (cell m (sw r k i) c) (mul (inv (cell m k c)) (dot n (cell m k) y)) := by
  have e : cell (pivot m r k c) i = fun j => if i = r then mul (inv (cell m k c)) (cell m k j) else cell m (sw r k i) j ^^^ mul (cell m (sw r k i) c) (mul (inv (cell m k c)) (cell m k j)) :=
    funext fun j => pivot_cell hm hr hk hi j
  rw [e]
  by_cases h : i = r
  · simp only [if_pos h]; exact dot_smul _ _ _ _
  · simp only [if_neg h]; rw [dot_add, dot_smul, dot_smul]
theorem pivot_sol {n : Nat} {m : Mat} (hm : Rect n m) {r k c : Nat} (hr : r < m.length) (hk : k < m.length) (hc : cell m k c ≠ 0) (y : Nat → UInt8) :
    Sol n (pivot m r k c) y ↔ Sol n m y := by
  constructor
  · intro h
    have hK : dot n (cell m k) y = 0 := by
      have := h r (by rw [pivot_length]; exact hr)
      rw [pivot_dot hm hr hk hr, if_pos rfl] at this
      rcases mul_eq_zero.mp this with h0 | h0
      · exact absurd h0 (inv_ne_zero hc)
      · exact h0
    intro i hi
    by_cases hik : i = k
    · rw [hik]; exact hK
    · have hs := sw_lt hr hk hi
      have := h (sw r k i) (by rw [pivot_length]; exact hs)
      rw [pivot_dot hm hr hk hs] at this
      have hne : sw r k i ≠ r := by unfold sw; (repeat' split) <;> omega
      rw [if_neg hne, sw_sw, hK, mul_zero, mul_zero, UInt8.xor_zero] at this
      exact this
  · intro h i hi
    rw [pivot_length] at hi
    rw [pivot_dot hm hr hk hi, h k hk, mul_zero]
    split
    · rfl
    · rw [h _ (sw_lt hr hk hi), mul_zero]; rfl
theorem lead_some {m : Mat} {r c k : Nat} (h : lead m r c = some k) : r ≤ k ∧ k < m.length ∧ cell m k c ≠ 0 := by
  have h1 := List.find?_some h
  have h2 := List.mem_of_find?_eq_some h
  simp only [Bool.and_eq_true, decide_eq_true_eq, bne_iff_ne, ne_eq] at h1
  exact ⟨h1.1, List.mem_range.mp h2, h1.2⟩
theorem lead_none {m : Mat} {r c : Nat} (h : lead m r c = none) : ∀ k, r ≤ k → k < m.length → cell m k c = 0 := by
  intro k h1 h2
  have := List.find?_eq_none.mp h k (List.mem_range.mpr h2)
  simp only [Bool.and_eq_true, decide_eq_true_eq, bne_iff_ne, ne_eq, not_and, Decidable.not_not] at this
  exact this h1

/-- What holds when so many columns have been reduced. -/
structure Red (n : Nat) (m0 : Mat) (c : Nat) (m : Mat) (p : List Nat) : Prop where
  len : m.length = m0.length
  rect : Rect n m
  few : p.length ≤ m.length
  lt : ∀ j, j < p.length → p.getD j 0 < c
  inc : ∀ i j, i < j → j < p.length → p.getD i 0 < p.getD j 0
  one : ∀ i j, i < m.length → j < p.length → cell m i (p.getD j 0) = if i = j then 1 else 0
  left : ∀ j q, j < p.length → q < p.getD j 0 → cell m j q = 0
  zero : ∀ i q, p.length ≤ i → i < m.length → q < c → cell m i q = 0
  sol : ∀ y, Sol n m y ↔ Sol n m0 y
theorem Red.start {n : Nat} {m : Mat} (h : Rect n m) : Red n m 0 m [] :=
  ⟨rfl, h, Nat.zero_le _, fun j hj => absurd hj (by simp), fun i j _ hj => absurd hj (by simp), fun i j _ hj => absurd hj (by simp), fun j q hj => absurd hj (by simp), fun i q _ _ hq => absurd hq (by omega), fun y => Iff.rfl⟩
theorem getD_snoc {p : List Nat} {c j : Nat} : (p ++ [c]).getD j 0 = if j < p.length then p.getD j 0 else if j = p.length then c else 0 := by
  simp only [List.getD_eq_getElem?_getD, List.getElem?_append]
  split
  · rfl
  · split
    · next h => subst h; simp
    · next h1 h2 => rw [List.getElem?_eq_none (by simp; omega)]; rfl
theorem Red.step {n : Nat} {m0 m : Mat} {c : Nat} {p : List Nat} (h : Red n m0 c m p) :
    Red n m0 (c + 1) (colStep (m, p) c).1 (colStep (m, p) c).2 := by
  unfold colStep
  dsimp only
  cases hl : lead m p.length c with
  | none =>
    dsimp only
    refine ⟨h.len, h.rect, h.few, fun j hj => by have := h.lt j hj; omega, h.inc, h.one, h.left, fun i q h1 h2 h3 => ?_, h.sol⟩
    by_cases hq : q = c
    · rw [hq]; exact lead_none hl i h1 h2
    · exact h.zero i q h1 h2 (by omega)
  | some k =>
    obtain ⟨hk1, hk2, hk3⟩ := lead_some hl
    dsimp only
    have hr : p.length < m.length := by omega
    have hi1 := inv_mul hk3
    have hsame : ∀ i, i < p.length → sw p.length k i = i := fun i hi => by unfold sw; rw [if_neg (by omega), if_neg (by omega)]
    have hbelow : ∀ i, p.length < i → p.length ≤ sw p.length k i := fun i hi => by unfold sw; (repeat' split) <;> omega
    refine ⟨by rw [pivot_length, h.len], pivot_rect h.rect hr hk2, by rw [pivot_length]; simp; omega, fun j hj => ?_, fun i j hij hj => ?_, fun i j hi hj => ?_, fun j q hj hq => ?_, fun i q h1 h2 h3 => ?_, fun y => (pivot_sol h.rect hr hk2 hk3 y).trans (h.sol y)⟩
    · rw [getD_snoc]; split
      · next h' => have := h.lt j h'; omega
      · split <;> omega
    · simp only [List.length_append, List.length_cons, List.length_nil] at hj
      rw [getD_snoc, getD_snoc]
      rw [if_pos (by omega : i < p.length)]
      split
      · next h' => exact h.inc i j hij h'
      · rw [if_pos (by omega)]; exact h.lt i (by omega)
    · rw [pivot_length] at hi
      simp only [List.length_append, List.length_cons, List.length_nil] at hj
      rw [pivot_cell h.rect hr hk2 hi, getD_snoc]
      by_cases hjp : j < p.length
      · rw [if_pos hjp]
        have hK : cell m k (p.getD j 0) = 0 := by rw [h.one k j hk2 hjp, if_neg (by omega)]
        rw [hK, mul_zero, mul_zero, UInt8.xor_zero]
        by_cases hir : i = p.length
        · rw [if_pos hir, if_neg (by omega)]
        · rw [if_neg hir, h.one _ j (sw_lt hr hk2 hi) hjp]
          by_cases hij : i = j
          · rw [if_pos hij, if_pos]; rw [hij]; exact hsame j hjp
          · rw [if_neg hij, if_neg]
            intro e
            apply hij
            have := congrArg (sw p.length k) e
            rw [sw_sw, hsame j hjp] at this
            exact this
      · rw [if_neg hjp, if_pos (by omega : j = p.length), hi1]
        by_cases hir : i = p.length
        · rw [if_pos hir, if_pos (by omega)]
        · rw [if_neg hir, if_neg (by omega), mul_one, xor_eq_zero]
    · simp only [List.length_append, List.length_cons, List.length_nil] at hj
      rw [getD_snoc] at hq
      by_cases hjp : j < p.length
      · rw [if_pos hjp] at hq
        have hqc : q < c := by have := h.lt j hjp; omega
        rw [pivot_cell h.rect hr hk2 (by omega), if_neg (by omega), hsame j hjp, h.left j q hjp hq, h.zero k q hk1 hk2 hqc, mul_zero, mul_zero]; rfl
      · rw [if_neg hjp, if_pos (by omega : j = p.length)] at hq
        rw [pivot_cell h.rect hr hk2 (by omega), if_pos (by omega), h.zero k q hk1 hk2 hq, mul_zero]
    · rw [pivot_length] at h2
      simp only [List.length_append, List.length_cons, List.length_nil] at h1
      have hs := sw_lt hr hk2 h2
      rw [pivot_cell h.rect hr hk2 h2, if_neg (by omega)]
      by_cases hq : q = c
      · rw [hq, hi1, mul_one, xor_eq_zero]
      · rw [h.zero _ q (hbelow i (by omega)) hs (by omega), h.zero k q hk1 hk2 (by omega), mul_zero, mul_zero]; rfl
theorem red_to {n : Nat} {m : Mat} (h : Rect n m) : ∀ c, Red n m c (redTo m c).1 (redTo m c).2
  | 0 => Red.start h
  | c + 1 => (red_to h c).step
end Mx

/- EXPRESS in plain terms: a row as a combination of other ones. No program in sight. -/
namespace Mx
open Gf
/-- The matrix of the system whose solutions express a row b by rows. -/
def aug (rows : Mat) (b : List UInt8) : Mat := (List.range b.length).map fun i => (List.range (rows.length + 1)).map fun k => if k < rows.length then cell rows k i else b.getD i 0
def solTo (R : Mat) (P : List Nat) (n : Nat) : Nat → List UInt8
  | 0 => List.replicate n 0
  | k + 1 => (solTo R P n k).set (P.getD k 0) (cell R k n)
/-- The coefficients by which b is a combination of rows. -/
def expr (rows : Mat) (b : List UInt8) : Option (List UInt8) :=
  if rows.length ∈ (redTo (aug rows b) (rows.length + 1)).2 then none
  else some (solTo (redTo (aug rows b) (rows.length + 1)).1 (redTo (aug rows b) (rows.length + 1)).2 rows.length (redTo (aug rows b) (rows.length + 1)).2.length)
theorem solTo_length (R : Mat) (P : List Nat) (n : Nat) : ∀ k, (solTo R P n k).length = n
  | 0 => by simp [solTo]
  | k + 1 => by rw [solTo, List.length_set, solTo_length R P n k]
theorem getD_set {x : List UInt8} {p q : Nat} {a : UInt8} (h : p < x.length) : (x.set p a).getD q 0 = if p = q then a else x.getD q 0 := by
  simp only [List.getD_eq_getElem?_getD, List.getElem?_set]
  split
  · simp
    try omega
  · rfl
theorem solTo_other (R : Mat) (P : List Nat) (n : Nat) {q : Nat} : ∀ k, (∀ j, j < k → P.getD j 0 < n) → (∀ j, j < k → P.getD j 0 ≠ q) → (solTo R P n k).getD q 0 = 0
  | 0, _, _ => by simp [solTo, List.getD_eq_getElem?_getD, List.getElem?_replicate]; split <;> rfl
  | k + 1, hl, h => by
    rw [solTo, getD_set (by rw [solTo_length]; exact hl k (by omega)), if_neg (h k (by omega))]
    exact solTo_other R P n k (fun j hj => hl j (by omega)) fun j hj => h j (by omega)
theorem solTo_at (R : Mat) (P : List Nat) (n : Nat) {j : Nat} : ∀ k, (∀ i, i < k → P.getD i 0 < n) → (∀ i i', i < i' → i' < k → P.getD i 0 < P.getD i' 0) → j < k → (solTo R P n k).getD (P.getD j 0) 0 = cell R j n
  | 0, _, _, h => absurd h (by omega)
  | k + 1, hl, hi, h => by
    rw [solTo, getD_set (by rw [solTo_length]; exact hl k (by omega))]
    by_cases hj : j = k
    · rw [if_pos (by rw [hj]), hj]
    · rw [if_neg (by have := hi j k (by omega) (by omega); omega)]
      exact solTo_at R P n k (fun i h' => hl i (by omega)) (fun i i' h1 h2 => hi i i' h1 (by omega)) (by omega)
theorem aug_length (rows : Mat) (b : List UInt8) : (aug rows b).length = b.length := by simp [aug]
theorem aug_row (rows : Mat) (b : List UInt8) {i : Nat} (h : i < b.length) : row (aug rows b) i = (List.range (rows.length + 1)).map fun k => if k < rows.length then cell rows k i else b.getD i 0 := by
  simp [row, aug, List.getD_eq_getElem?_getD, h]
theorem aug_rect (rows : Mat) (b : List UInt8) : Rect (rows.length + 1) (aug rows b) := fun i h => by
  rw [aug_length] at h; rw [aug_row rows b h]; simp
theorem aug_cell (rows : Mat) (b : List UInt8) {i k : Nat} (h : i < b.length) (hk : k < rows.length + 1) : cell (aug rows b) i k = if k < rows.length then cell rows k i else b.getD i 0 := by
  show (row (aug rows b) i).getD k 0 = _
  rw [aug_row rows b h, getD_map_range _ _ hk]
/-- x makes b of the rows. -/
def Makes (rows : Mat) (b : List UInt8) (x : Nat → UInt8) : Prop := ∀ i, i < b.length → b.getD i 0 = sm rows.length fun k => mul (x k) (cell rows k i)
def ext1 (n : Nat) (x : Nat → UInt8) : Nat → UInt8 := fun j => if j < n then x j else 1
theorem aug_sol (rows : Mat) (b : List UInt8) (x : Nat → UInt8) : Sol (rows.length + 1) (aug rows b) (ext1 rows.length x) ↔ Makes rows b x := by
  unfold Sol Makes
  rw [aug_length]
  refine forall_congr' fun i => forall_congr' fun hi => ?_
  have e : dot (rows.length + 1) (cell (aug rows b) i) (ext1 rows.length x) = (sm rows.length fun k => mul (x k) (cell rows k i)) ^^^ b.getD i 0 := by
    show sm rows.length _ ^^^ _ = _
    dsimp only
    rw [aug_cell rows b hi (by omega), if_neg (by omega)]
    have e1 : ext1 rows.length x rows.length = 1 := if_neg (by omega)
    rw [e1, mul_one]
    congr 1
    refine sm_congr fun j hj => ?_
    rw [aug_cell rows b hi (by omega), if_pos hj]
    have e2 : ext1 rows.length x j = x j := if_pos hj
    rw [e2, mul_comm]
  rw [e, xor_eq_zero]
  exact eq_comm
theorem sm_two {p q : Nat} (f : Nat → UInt8) {k : Nat} (hp : p < k) (hq : q < k) (hpq : p ≠ q) (h : ∀ j, j < k → j ≠ p → j ≠ q → f j = 0) : sm k f = f p ^^^ f q := by
  have e : sm k f = sm k (fun j => (if j = p then f p else 0) ^^^ (if j = q then f q else 0)) := by
    refine sm_congr fun j hj => ?_
    by_cases h1 : j = p
    · rw [if_pos h1, if_neg (by omega), h1, UInt8.xor_zero]
    · by_cases h2 : j = q
      · rw [if_neg h1, if_pos h2, h2, UInt8.zero_xor]
      · rw [if_neg h1, if_neg h2, h j hj h1 h2]; rfl
  rw [e, sm_add, sm_one (p := p) _ hp (fun j _ hj => if_neg hj), sm_one (p := q) _ hq (fun j _ hj => if_neg hj), if_pos rfl, if_pos rfl]
theorem getD_mem {l : List Nat} {a : Nat} (h : a ∈ l) : ∃ j, j < l.length ∧ l.getD j 0 = a := by
  obtain ⟨j, hj, e⟩ := List.getElem_of_mem h
  exact ⟨j, hj, by rw [List.getD_eq_getElem?_getD, List.getElem?_eq_getElem hj]; exact e⟩
theorem mem_getD {l : List Nat} {j : Nat} (h : j < l.length) : l.getD j 0 ∈ l := by
  rw [List.getD_eq_getElem?_getD, List.getElem?_eq_getElem h]; exact List.getElem_mem h
theorem expr_none {rows : Mat} {b : List UInt8} (h : expr rows b = none) (x : Nat → UInt8) : ¬ Makes rows b x := by
  intro hx
  have R := red_to (aug_rect rows b) (rows.length + 1)
  unfold expr at h
  split at h
  · next hm =>
    obtain ⟨j, hj, ej⟩ := getD_mem hm
    have hs := (R.sol _).mpr ((aug_sol rows b x).mpr hx) j (by have := R.few; omega)
    rw [dot, sm_one (p := rows.length) _ (by omega) (fun q hq hne => by rw [R.left j q hj (by omega), zero_mul])] at hs
    have h1 := R.one j j (by have := R.few; omega) hj
    rw [ej, if_pos rfl] at h1
    rw [h1, one_mul] at hs
    have e1 : ext1 rows.length x rows.length = 1 := if_neg (by omega)
    rw [e1] at hs
    exact absurd hs (by decide)
  · exact absurd h (by simp)
theorem expr_some {rows : Mat} {b x : List UInt8} (h : expr rows b = some x) : x.length = rows.length ∧ Makes rows b (vec x) := by
  have R := red_to (aug_rect rows b) (rows.length + 1)
  unfold expr at h
  split at h
  · exact absurd h (by simp)
  · next hm =>
    have e := Option.some.inj h
    generalize redTo (aug rows b) (rows.length + 1) = S at *
    obtain ⟨M, P⟩ := S
    dsimp only at *
    have hlt : ∀ j, j < P.length → P.getD j 0 < rows.length := fun j hj => by
      have h1 := R.lt j hj
      have h2 : P.getD j 0 ≠ rows.length := fun e' => hm (e' ▸ mem_getD hj)
      omega
    refine ⟨by rw [← e, solTo_length], ?_⟩
    rw [← aug_sol, ← R.sol]
    intro i hi
    have hv : ∀ q, ext1 rows.length (vec x) q = if q < rows.length then x.getD q 0 else 1 := fun q => rfl
    by_cases hip : i < P.length
    · rw [dot, sm_two (p := P.getD i 0) (q := rows.length) _ (by have := hlt i hip; omega) (by omega) (by have := hlt i hip; omega)]
      · rw [hv, hv, if_pos (hlt i hip), if_neg (by omega), R.one i i hi hip, if_pos rfl, one_mul, mul_one, ← e, solTo_at M P rows.length P.length hlt R.inc hip]
        exact xor_eq_zero.mpr rfl
      · intro q hq h1 h2
        by_cases hqp : q ∈ P
        · obtain ⟨j, hj, ej⟩ := getD_mem hqp
          rw [← ej, R.one i j hi hj, if_neg (by intro e'; apply h1; rw [← ej, e']), zero_mul]
        · rw [hv, if_pos (by omega), ← e, solTo_other M P rows.length P.length hlt (fun j hj e' => hqp (by rw [← e']; exact mem_getD hj)), mul_zero]
    · have := R.zero i
      rw [dot]
      exact sm_zero fun q hq => by rw [R.zero i q (by omega) hi (by omega), zero_mul]
theorem makes_span {rows : Mat} {b : List UInt8} : (∃ x, Makes rows b x) ↔ SpanL b.length rows (vec b) := Iff.rfl
theorem expr_iff {rows : Mat} {b : List UInt8} : (expr rows b).isSome = true ↔ SpanL b.length rows (vec b) := by
  rw [← makes_span]
  cases h : expr rows b with
  | none => simp; exact expr_none h
  | some x => simp; exact ⟨_, (expr_some h).2⟩
end Mx

/- REBUILD in plain terms: choices, recipes, the least of them. No program in sight. -/
namespace Rb
open Gf Mx
/-- The lists of so many elements of a list, in order. -/
def choose : List Int → Nat → List (List Int)
  | _, 0 => [[]]
  | [], _ + 1 => []
  | x :: l, n + 1 => (choose l n).map (x :: ·) ++ choose l (n + 1)
theorem choose_zero (l : List Int) : choose l 0 = [[]] := by cases l <;> rfl
theorem choose_short : ∀ (l : List Int) (n : Nat), l.length < n → choose l n = []
  | l, 0, h => absurd h (by omega)
  | [], n + 1, _ => rfl
  | x :: l, n + 1, h => by
    simp only [List.length_cons] at h
    rw [choose, choose_short l n (by omega), choose_short l (n + 1) (by omega)]; rfl
theorem mem_choose : ∀ (l : List Int) (n : Nat) (s : List Int), s ∈ choose l n ↔ s.Sublist l ∧ s.length = n
  | l, 0, s => by
    rw [choose_zero, List.mem_singleton, List.length_eq_zero_iff]
    exact ⟨fun h => ⟨h ▸ List.nil_sublist l, h⟩, fun h => h.2⟩
  | [], n + 1, s => by
    simp only [choose, List.not_mem_nil, false_iff, List.sublist_nil, not_and]
    intro h; rw [h]; simp
  | x :: l, n + 1, s => by
    rw [choose, List.mem_append, List.mem_map, mem_choose l (n + 1) s]
    constructor
    · rintro (⟨t, ht, rfl⟩ | ⟨h1, h2⟩)
      · obtain ⟨h1, h2⟩ := (mem_choose l n t).mp ht
        exact ⟨h1.cons_cons x, by simp [h2]⟩
      · exact ⟨h1.cons x, h2⟩
    · rintro ⟨h1, h2⟩
      cases h1 with
      | cons _ h => exact Or.inr ⟨h, h2⟩
      | @cons_cons t _ _ h => exact Or.inl ⟨t, (mem_choose l n t).mpr ⟨h, by simpa using h2⟩, rfl⟩
/-- A recipe. -/
structure Rec where
  piece : Int
  src : List Int
  coef : List UInt8
def rowsAt (m : Mat) (f : List Int) : Mat := f.map fun k => m.getD k.toNat []
def keep (f : List Int) (x : List UInt8) : List (Int × UInt8) := (f.zip x).filter fun a => a.2 != 0
def made (p : Int) (f : List Int) (x : List UInt8) : Rec := ⟨p, (keep f x).map Prod.fst, (keep f x).map Prod.snd⟩
/-- The recipe of a piece from some pieces, if there is one. -/
def recipe (m : Mat) (p : Nat) (f : List Int) : Option Rec := (expr (rowsAt m f) (m.getD p [])).map (made p f)
def found (m : Mat) (p : Nat) (l : List Int) (many : Nat) : List Rec := (choose l many).filterMap (recipe m p)
/-- The recipes that read as few as possible, from so many on. -/
def leastFrom (m : Mat) (p : Nat) (l : List Int) : Nat → Nat → List Rec
  | 0, _ => []
  | fuel + 1, many => if found m p l many = [] then leastFrom m p l fuel (many + 1) else found m p l many
def least (m : Mat) (p : Nat) (l : List Int) : List Rec := leastFrom m p l l.length 1
theorem leastFrom_nil {m : Mat} {p : Nat} {l : List Int} : ∀ (fuel many : Nat), leastFrom m p l fuel many = [] → ∀ k, many ≤ k → k < many + fuel → found m p l k = []
  | 0, many, _, k, h1, h2 => absurd h2 (by omega)
  | fuel + 1, many, h, k, h1, h2 => by
    rw [leastFrom] at h
    split at h
    · next h0 =>
      by_cases hk : k = many
      · rw [hk]; exact h0
      · exact leastFrom_nil fuel (many + 1) h k (by omega) (by omega)
    · next h0 => exact absurd h h0
theorem leastFrom_at {m : Mat} {p : Nat} {l : List Int} : ∀ (fuel many : Nat), leastFrom m p l fuel many ≠ [] →
    ∃ k, many ≤ k ∧ k < many + fuel ∧ leastFrom m p l fuel many = found m p l k ∧ ∀ i, many ≤ i → i < k → found m p l i = []
  | 0, many, h => absurd rfl h
  | fuel + 1, many, h => by
    rw [leastFrom] at h ⊢
    split at h
    · next h0 =>
      rw [if_pos h0]
      obtain ⟨k, h1, h2, h3, h4⟩ := leastFrom_at fuel (many + 1) h
      refine ⟨k, by omega, by omega, h3, fun i hi1 hi2 => ?_⟩
      by_cases hi : i = many
      · rw [hi]; exact h0
      · exact h4 i (by omega) hi2
    · next h0 => exact ⟨many, by omega, by omega, if_neg h0, fun i h1 h2 => absurd h2 (by omega)⟩
theorem found_nil {m : Mat} {p : Nat} {l : List Int} {many : Nat} : found m p l many = [] ↔ ∀ s, s.Sublist l → s.length = many → ¬ SpanL (m.getD p []).length (rowsAt m s) (vec (m.getD p [])) := by
  unfold found
  rw [List.filterMap_eq_nil_iff]
  constructor
  · intro h s h1 h2 h3
    have := h s ((mem_choose l many s).mpr ⟨h1, h2⟩)
    unfold recipe at this
    rw [Option.map_eq_none_iff] at this
    have h4 := expr_iff.mpr h3
    rw [this] at h4
    exact absurd h4 (by simp)
  · intro h s hs
    obtain ⟨h1, h2⟩ := (mem_choose l many s).mp hs
    unfold recipe
    rw [Option.map_eq_none_iff]
    cases he : expr (rowsAt m s) (m.getD p []) with
    | none => rfl
    | some x => exact absurd (expr_iff.mp (by rw [he]; rfl)) (h s h1 h2)
end Rb

/- THE LEAST RECIPES in plain terms: none reads a piece in vain, they ascend, and fewer do not do. No program in sight. -/
namespace Rb
open Gf Mx
/-- A piece can be made of some pieces. -/
def can (m : Mat) (p : Nat) (f : List Int) : Prop := SpanL (m.getD p []).length (rowsAt m f) (vec (m.getD p []))
theorem can_mono {m : Mat} {p : Nat} {f g : List Int} (h : ∀ k ∈ f, k ∈ g) (hf : can m p f) : can m p g := by
  refine SpanL.mono hf fun x hx => ?_
  obtain ⟨k, hk, rfl⟩ := List.mem_map.mp hx
  exact List.mem_map.mpr ⟨k, h k hk, rfl⟩
theorem rowsAt_length (m : Mat) (f : List Int) : (rowsAt m f).length = f.length := by simp [rowsAt]
theorem rowsAt_getD (m : Mat) (f : List Int) {k : Nat} (h : k < f.length) : (rowsAt m f).getD k [] = m.getD (f.getD k 0).toNat [] := by
  simp [rowsAt, List.getD_eq_getElem?_getD, h]
theorem expr_can {m : Mat} {p : Nat} {f : List Int} : (expr (rowsAt m f) (m.getD p [])).isSome = true ↔ can m p f := expr_iff
theorem keep_src_sub {p : Int} {f : List Int} {x : List UInt8} (h : x.length = f.length) : (made p f x).src.Sublist f := by
  have h1 : (keep f x).Sublist (f.zip x) := List.filter_sublist
  have h2 := h1.map Prod.fst
  rw [List.map_fst_zip (by omega)] at h2
  exact h2
theorem mem_src {p : Int} {f : List Int} {x : List UInt8} {k : Nat} (h : x.length = f.length) (hk : k < f.length) (hx : x.getD k 0 ≠ 0) : f.getD k 0 ∈ (made p f x).src := by
  refine List.mem_map.mpr ⟨(f.getD k 0, x.getD k 0), List.mem_filter.mpr ⟨?_, by simpa using hx⟩, rfl⟩
  have hk' : k < x.length := by omega
  have hz : k < (f.zip x).length := by simp [List.length_zip]; omega
  have : (f.zip x)[k] = (f.getD k 0, x.getD k 0) := by
    rw [List.getElem_zip]; simp [List.getD_eq_getElem?_getD, hk, hk']
  rw [← this]; exact List.getElem_mem hz
theorem can_src {m : Mat} {p : Nat} {f : List Int} {x : List UInt8} {q : Int} (h : expr (rowsAt m f) (m.getD p []) = some x) : can m p (made q f x).src := by
  obtain ⟨hl, hm⟩ := expr_some h
  rw [rowsAt_length] at hl
  have hs : InSpan (m.getD p []).length (rowsAt m (made q f x).src).length (fun k => vec ((rowsAt m (made q f x).src).getD k []))
      (fun i => sm f.length fun j => mul (x.getD j 0) ((if x.getD j 0 = 0 then fun _ => 0 else vec (m.getD (f.getD j 0).toNat [])) i)) := by
    refine InSpan.sum (fun j => x.getD j 0) (fun j => if x.getD j 0 = 0 then fun _ => 0 else vec (m.getD (f.getD j 0).toNat [])) f.length fun j hj => ?_
    by_cases h0 : x.getD j 0 = 0
    · simp only [if_pos h0]; exact InSpan.zero _ _ _ fun i _ => rfl
    · simp only [if_neg h0]; exact SpanL.mem (List.mem_map.mpr ⟨_, mem_src hl hj h0, rfl⟩)
  refine InSpan.congr hs fun i hi => ?_
  have := hm i hi
  rw [rowsAt_length] at this
  show (m.getD p []).getD i 0 = _
  rw [this]
  refine sm_congr fun j hj => ?_
  by_cases h0 : x.getD j 0 = 0
  · simp only [h0]; show mul (x.getD j 0) _ = _; rw [h0, zero_mul, zero_mul]
  · simp only [if_neg h0]
    show mul (x.getD j 0) (((rowsAt m f).getD j []).getD i 0) = _
    rw [rowsAt_getD m f hj]; rfl
/-- One list comes before another one. -/
def Bf (a b : List Int) : Prop := ∃ i, i < a.length ∧ i < b.length ∧ (∀ j, j < i → a.getD j 0 = b.getD j 0) ∧ a.getD i 0 < b.getD i 0
theorem Bf.cons {a b : List Int} (x : Int) (h : Bf a b) : Bf (x :: a) (x :: b) := by
  obtain ⟨i, h1, h2, h3, h4⟩ := h
  refine ⟨i + 1, by simpa using h1, by simpa using h2, fun j hj => ?_, by simpa using h4⟩
  cases j with
  | zero => rfl
  | succ j => simpa using h3 j (by omega)
/-- What Best and All return, whole. -/
theorem least_none {m : Mat} {p : Nat} {l : List Int} (h0 : ¬ can m p []) : least m p l = [] ↔ ¬ can m p l := by
  constructor
  · intro h hc
    obtain ⟨x, hx⟩ := Option.isSome_iff_exists.mp (expr_can.mpr hc)
    by_cases hl : l.length = 0
    · rw [List.length_eq_zero_iff.mp hl] at hc; exact h0 hc
    · have := leastFrom_nil l.length 1 h l.length (by omega) (by omega)
      exact found_nil.mp this l (List.Sublist.refl l) rfl hc
  · intro h
    by_cases he : least m p l = []
    · exact he
    · obtain ⟨k, _, _, h3, _⟩ := leastFrom_at l.length 1 he
      exfalso
      have : found m p l k ≠ [] := by rw [← h3]; exact he
      apply this
      rw [found_nil]
      intro s hs _ hc
      exact h (can_mono (fun k hk => hs.subset hk) hc)
end Rb

/- THE WALKS over the strings of package gf: build, Sum, Scale, Combine and their closures. -/
namespace Go.Proofs.YtdmljilcbndmfaaDoor
open Go.RowKit

theorem info_u8 : (Tryd.prog.info? 5).map (fun i => (i.zero, i.size, i.bytes)) = some (some (.int .u8 0), 1, 1) := by kernel_rfl

theorem str_u8 {w : World} {A : Option Addr} {l : List UInt8} {c n : Nat} (hn : n = l.length) (h : Rd w A (l.map bv)) :
    (convert 28 9 (.slice A n c)).run Tryd.prog w = .ok (.string (sb l)) w := run_str Tryd.underlying28 Tryd.underlying5 Tryd.underlying9 hn h

def part (n k : Nat) (g : Nat → UInt8) : List Value := (List.range k).map (fun j => bv (g j)) ++ List.replicate (n - k) (.int .u8 0)
theorem part_set {n k : Nat} (g : Nat → UInt8) (h : k < n) : (part n k g).set k (bv (g k)) = part n (k + 1) g := by
  unfold part
  obtain ⟨m, rfl⟩ : ∃ m, n = k + 1 + m := ⟨n - (k + 1), by omega⟩
  rw [show k + 1 + m - k = m + 1 from by omega, show k + 1 + m - (k + 1) = m from by omega, List.set_append_right _ _ (by simp), List.range_succ]
  simp [List.replicate_succ]
theorem part_length {n k : Nat} (g : Nat → UInt8) (h : k ≤ n) : (part n k g).length = n := by simp [part]; omega
theorem part_zero (n : Nat) (g : Nat → UInt8) : part n 0 g = List.replicate n (.int .u8 0) := by simp [part]
theorem part_full (n : Nat) (g : Nat → UInt8) : part n n g = ((List.range n).map g).map bv := by simp [part]

/-- build, over whatever function value that only computes. -/
theorem build_any (n : Nat) (hn : n ≤ 140737488351232) (F : FuncId) (cap : Array Value) (g : Nat → UInt8) (w : World) (hE : ∀ args w, (callFunc F args).run Tryd.prog w = .ok (.enter F args) w)
    (hF : ∀ k, k < n → ∀ w', Ext w w' → Calls Tryd.prog F (#[.int .i64 k] ++ cap) w' fun e w'' => e = .returned (bv (g k)) ∧ Ext w' w'') :
    Calls Tryd.prog 80 #[.int .i64 n, .func (.func F) #[] cap] w fun e w' => e = .returned (.string (sb ((List.range n).map g))) ∧ Ext w w' := by
  have HF := Lib.hid hF
  clear hF
  obtain ⟨i0, hi, hz0, hz1, hz2⟩ := info_parts info_u8
  have HZ := Lib.hid hz2
  clear hz2
  go_enter Tryd.func80, Tryd.ntmps80
  go_wp2_with (refine wpList_make_full _ rfl (.tmp 7) (.tmp 7) 28 rfl w.heap.size 5 i0 (.int .u8 0) 1 Tryd.underlying28 hi hz0 hz1 _ _ _ _ n rfl rfl rfl rfl (by rw [HZ.out]; omega) (by unfold maxLen; omega) (Nat.le_refl _) ?_; intro w1 hown hgrow)
  have hx : Ext w w1 := (Ext.refl w).grown hgrow (fun k h => by cases h)
  have hsz : w.heap.size < w1.heap.size := by
    have := hown.lt w.heap.size rfl
    omega
  have hown' : w1.ownsRow w.heap.size 5 1 (.slice (some ⟨w.heap.size, 0, none⟩) n n) n (part n 0 g) := by
    rw [part_zero, ← toList_madeCells_one]
    simpa [Value.cells] using hown
  have H0 := Lib.hid (And.intro hx hown')
  clear hown hown' hgrow hx
  go_loopw [10] (fun vi wr => ∃ k : Nat, k ≤ n ∧ vi = .int .i64 k ∧ Hid (Ext w wr ∧ wr.ownsRow w.heap.size 5 1 (.slice (some ⟨w.heap.size, 0, none⟩) n n) n (part n k g))) (fun vi _ => n - (intOf vi).toNat)
  case atStart => exact ⟨0, Nat.zero_le _, rfl, H0.out⟩
  case round =>
    obtain ⟨k, hk, rfl, HR⟩ := hrel
    by_cases hlt : k < n
    · go_wp2_with fail
      refine (HF.out k hlt wr HR.out.1).mono ?_
      rintro e w2 ⟨rfl, hx2⟩
      have hown2 : w2.ownsRow w.heap.size 5 1 (.slice (some ⟨w.heap.size, 0, none⟩) n n) n (part n k g) := own_ext HR.out.2 hx2
      have hc := hown2.cellAt k (by omega)
      rw [List.getElem?_eq_getElem (by rw [part_length g hk]; exact hlt)] at hc
      have hf := hown2.frozenAt k
      have hst := (hown2.stored k (bv (g k))).1
      rw [part_set g hlt] at hst
      have hx3 : Ext w w2 := HR.out.1.trans hx2
      have HS := Lib.hid (And.intro hx3 hst)
      clear hown2 hst hx3 hx2
      go_wp2_with fail
      go_roundw
      case rel => exact ⟨k + 1, by omega, by go_num, HS.out.1.setCell (Nat.le_refl _) _, HS.out.2⟩
      case measure => simp [intOf]; omega
    · obtain rfl : k = n := by omega
      have hrun := str_u8 (n := k) (c := k) (A := some ⟨w.heap.size, 0, none⟩) (w := wr) (l := (List.range k).map g) (by simp) (by
        have := Rd.of_own (w := wr) (B := w.heap.size) (e := 5) (c := k) (A := some ⟨w.heap.size, 0, none⟩) (xs := part k k g) (by rw [part_length g hk]; exact HR.out.2)
        rw [part_full] at this
        exact this)
      go_wp2_with fail
      go_ret
      exact ⟨rfl, HR.out.1⟩

theorem getD_bl (s : ByteArray) (k : Nat) (h : k < s.size) : (bl s).getD k 0 = s[k] := by
  rw [get_bl s k h, List.getD_eq_getElem?_getD, List.getElem?_eq_getElem (by rw [← size_bl]; exact h)]
  rfl
theorem getD_bl_out (s : ByteArray) (k : Nat) (h : s.size ≤ k) : (bl s).getD k 0 = 0 := by
  rw [List.getD_eq_getElem?_getD, List.getElem?_eq_none (by rw [← size_bl]; exact h)]
  rfl

/-- The sum's closure: the byte at one place. -/
theorem sum1_any (k P1 P2 : Nat) (a b : ByteArray) (w : World) (hk : k < a.size)
    (h1 : w.cell? ⟨P1, 0, none⟩ = some (.string b)) (h2 : w.cell? ⟨P2, 0, none⟩ = some (.string a)) :
    Calls Tryd.prog 107 #[.int .i64 k, .pointer (some ⟨P1, 0, none⟩), .pointer (some ⟨P2, 0, none⟩)] w fun e w' => e = .returned (bv ((bl a).getD k 0 ^^^ (bl b).getD k 0)) ∧ Ext w w' := by
  have eA := getD_bl a k hk
  by_cases hlt : k < b.size
  · have eB := getD_bl b k hlt
    have hx : bits .xor .u8 (((a[k]'hk).toNat : Nat) : Int) (((b[k]'hlt).toNat : Nat) : Int) = (((bl a).getD k 0 ^^^ (bl b).getD k 0).toNat : Int) := by
      rw [u8_xor_nat _ _ (Gf.lt8 _) (Gf.lt8 _), eA, eB, UInt8.toNat_xor]
    have HX := Lib.hid hx
    clear hx eA eB
    go_enter Tryd.func107, Tryd.ntmps107
    go_wp2_with fail
    go_quiet (fail)
    go_wp2_with fail
    go_ret
    exact ⟨ret_int HX.out, (Ext.refl _).drewN _⟩
  · have eB := getD_bl_out b k (by omega)
    have hx : (((a[k]'hk).toNat : Nat) : Int) = (((bl a).getD k 0 ^^^ (bl b).getD k 0).toNat : Int) := by
      rw [eA, eB, UInt8.xor_zero]
    have HX := Lib.hid hx
    clear hx eA eB
    go_enter Tryd.func107, Tryd.ntmps107
    go_wp2_with fail
    go_ret
    exact ⟨ret_int HX.out, Ext.refl _⟩

theorem enters107 : ∀ args w, (callFunc 107 args).run Tryd.prog w = .ok (.enter 107 args) w := enters_of Tryd.func107 (by kernel_rfl) rfl
theorem sum_any (a b : ByteArray) (w : World) (ha : a.size ≤ 140737488351232) (hb : b.size ≤ 140737488351232) :
    Calls Tryd.prog 102 #[.string a, .string b] w fun e w' => e = .returned (.string (sb (Gf.sum (bl a) (bl b)))) ∧ Ext w w' := by
  by_cases hlt : a.size < b.size
  · have hr : (List.range b.size).map (fun k => (bl b).getD k 0 ^^^ (bl a).getD k 0) = Gf.sum (bl a) (bl b) := by
      unfold Gf.sum
      rw [← size_bl, ← size_bl, show max a.size b.size = b.size from by omega]
      exact List.map_congr_left fun k _ => UInt8.xor_comm _ _
    have HR := Lib.hid hr
    clear hr
    go_enter Tryd.func102, Tryd.ntmps102
    go_wp2_with fail
    refine (build_any b.size hb _ _ (fun k => (bl b).getD k 0 ^^^ (bl a).getD k 0) _ enters107 ?_).mono ?_
    · intro k hk w' hx
      exact sum1_any k _ _ b a w' hk (hx.cell (by go_simp)) (hx.cell (by go_simp))
    rintro e w1 ⟨rfl, hx⟩
    go_wp2_with fail
    go_ret
    exact ⟨by rw [← HR.out]; rfl, Ext.trans (((Ext.refl _).alloc _).alloc _) hx⟩
  · have hr : (List.range a.size).map (fun k => (bl a).getD k 0 ^^^ (bl b).getD k 0) = Gf.sum (bl a) (bl b) := by
      unfold Gf.sum
      rw [← size_bl, ← size_bl, show max a.size b.size = a.size from by omega]
    have HR := Lib.hid hr
    clear hr
    go_enter Tryd.func102, Tryd.ntmps102
    go_wp2_with fail
    refine (build_any a.size ha _ _ (fun k => (bl a).getD k 0 ^^^ (bl b).getD k 0) _ enters107 ?_).mono ?_
    · intro k hk w' hx
      exact sum1_any k _ _ a b w' hk (hx.cell (by go_simp)) (hx.cell (by go_simp))
    rintro e w1 ⟨rfl, hx⟩
    go_wp2_with fail
    go_ret
    exact ⟨by rw [← HR.out]; rfl, Ext.trans (((Ext.refl _).alloc _).alloc _) hx⟩

theorem mul_u8 (a b : UInt8) (w : World) (hT : Tab w) : Calls Tryd.prog 82 #[bv a, bv b] w fun e w' => e = .returned (bv (Gf.mul a b)) ∧ w = w' := by
  refine (mul_any _ _ w hT (by omega) (by have := Gf.lt8 a; omega) (by omega) (by have := Gf.lt8 b; omega)).mono ?_
  rintro e w' ⟨rfl, rfl⟩
  exact ⟨by rw [Gf.mulI_toNat], rfl⟩
theorem Tab.drewN {w : World} (h : Tab w) (n : Nat) : Tab (w.drewN n) := h

theorem scale1_any (k P1 P2 : Nat) (c : UInt8) (s : ByteArray) (w : World) (hT : Tab w) (hk : k < s.size)
    (h1 : w.cell? ⟨P1, 0, none⟩ = some (bv c)) (h2 : w.cell? ⟨P2, 0, none⟩ = some (.string s)) :
    Calls Tryd.prog 108 #[.int .i64 k, .pointer (some ⟨P1, 0, none⟩), .pointer (some ⟨P2, 0, none⟩)] w fun e w' => e = .returned (bv (Gf.mul c ((bl s).getD k 0))) ∧ Ext w w' := by
  have HT := Lib.hid hT
  clear hT
  rw [getD_bl s k hk]
  go_enter Tryd.func108, Tryd.ntmps108
  go_wp2_with fail
  go_quiet ((go_at_call 82; first | exact quiet_left (mul_u8 _ _ _ (HT.out.drewN _)) | exact quiet_add_left (mul_u8 _ _ _ (HT.out.drewN _))))
  go_wp2_with fail
  go_ret
  exact ⟨rfl, (Ext.refl _).drewN _⟩
theorem enters108 : ∀ args w, (callFunc 108 args).run Tryd.prog w = .ok (.enter 108 args) w := enters_of Tryd.func108 (by kernel_rfl) rfl
theorem scale_any (c : UInt8) (s : ByteArray) (w : World) (hT : Tab w) (hs : s.size ≤ 140737488351232) :
    Calls Tryd.prog 103 #[bv c, .string s] w fun e w' => e = .returned (.string (sb (Gf.scale c (bl s)))) ∧ Ext w w' := by
  have hr : (List.range s.size).map (fun k => Gf.mul c ((bl s).getD k 0)) = Gf.scale c (bl s) := by
    unfold Gf.scale
    apply List.ext_getElem
    · simp [size_bl]
    · intro k h1 h2
      simp
      congr 1
      simp at h2
      rw [List.getElem?_eq_getElem h2]; rfl
  have HR := Lib.hid hr
  have HT := Lib.hid hT
  clear hr hT
  go_enter Tryd.func103, Tryd.ntmps103
  go_wp2_with fail
  refine (build_any s.size hs _ _ (fun k => Gf.mul c ((bl s).getD k 0)) _ enters108 ?_).mono ?_
  · intro k hk w' hx
    exact scale1_any k _ _ c s w' ((HT.out.ext (((Ext.refl _).alloc _).alloc _)).ext hx) hk (hx.cell (by go_simp)) (hx.cell (by go_simp))
  rintro e w1 ⟨rfl, hx⟩
  go_wp2_with fail
  go_ret
  exact ⟨by rw [← HR.out]; rfl, Ext.trans (((Ext.refl _).alloc _).alloc _) hx⟩

end Go.Proofs.YtdmljilcbndmfaaDoor

/- CODES, in plain terms: what their functions compute. No program in sight. -/
namespace Cd
def bitAt (s i : Nat) : Nat := s / 2 ^ i % 2
/-- A set of small numbers, with those of a list. -/
def setOf (s : Nat) (g : List Int) : Nat := g.foldl (fun s i => s ||| 2 ^ i.toNat) s
def badAt (d : Int) (s : Nat) (g : List Int) (k : Nat) : Bool :=
  decide (g.getD k 0 < 0) || decide (d ≤ g.getD k 0) || (decide (0 < k) && decide (g.getD k 0 ≤ g.getD (k - 1) 0)) || (bitAt s (g.getD k 0).toNat == 1)
def bad (d : Int) (s : Nat) (g : List Int) : Bool := (List.range g.length).any (badAt d s g)
/-- The first error of groups, if the numbers s were met before. -/
def checkG (d : Int) : Nat → List (List Int) → Int
  | _, [] => 0
  | s, g :: r => if g = [] then 8 else if bad d s g then 1 else checkG d (setOf s g) r
def check (d : Int) (gs : List (List Int)) (gl : Int) : Int :=
  if d < 1 ∨ 16 < d ∨ gl < 0 ∨ 4 < gl then 3 else if 24 < gs.length ∨ 24 < d + gs.length + gl then 2 else checkG d 0 gs
theorem check_range {d gl : Int} {gs : List (List Int)} (h : d < 1 ∨ 16 < d ∨ gl < 0 ∨ 4 < gl) : check d gs gl = 3 := if_pos h
theorem check_limit {d gl : Int} {gs : List (List Int)} (h : ¬ (d < 1 ∨ 16 < d ∨ gl < 0 ∨ 4 < gl)) (h2 : 24 < gs.length ∨ 24 < d + gs.length + gl) : check d gs gl = 2 := by rw [check, if_neg h, if_pos h2]
theorem check_groups {d gl : Int} {gs : List (List Int)} (h : ¬ (d < 1 ∨ 16 < d ∨ gl < 0 ∨ 4 < gl)) (h2 : ¬ (24 < gs.length ∨ 24 < d + gs.length + gl)) : check d gs gl = checkG d 0 gs := by rw [check, if_neg h, if_neg h2]
theorem bad_false {d : Int} {s : Nat} {g : List Int} (h : ∀ k, k < g.length → badAt d s g k = false) : bad d s g = false := by
  unfold bad
  rw [List.any_eq_false]
  intro k hk
  rw [h k (by simpa using hk)]
  simp
theorem bad_true {d : Int} {s : Nat} {g : List Int} {k : Nat} (hk : k < g.length) (h : badAt d s g k = true) : bad d s g = true := by
  unfold bad
  rw [List.any_eq_true]
  exact ⟨k, by simpa using hk, h⟩
theorem badAt_of {d : Int} {s : Nat} {g : List Int} (h : bad d s g = false) {k : Nat} (hk : k < g.length) : badAt d s g k = false := by
  unfold bad at h
  rw [List.any_eq_false] at h
  simpa using h k (by simpa using hk)
theorem bad_bounds {d : Int} {s : Nat} {g : List Int} (h : bad d s g = false) {i : Int} (hi : i ∈ g) : 0 ≤ i ∧ i < d := by
  obtain ⟨k, hk, rfl⟩ := List.getElem_of_mem hi
  have := badAt_of h hk
  unfold badAt at this
  rw [List.getD_eq_getElem?_getD, List.getElem?_eq_getElem hk] at this
  simp only [Option.getD_some, Bool.or_eq_false_iff, decide_eq_false_iff_not] at this
  omega
theorem badAt_def (d : Int) (s : Nat) (g : List Int) (k : Nat) : badAt d s g k = (decide (g.getD k 0 < 0) || decide (d ≤ g.getD k 0) || (decide (0 < k) && decide (g.getD k 0 ≤ g.getD (k - 1) 0)) || (bitAt s (g.getD k 0).toNat == 1)) := rfl
theorem setOf_nil (s : Nat) : setOf s [] = s := rfl
theorem checkG_end (d : Int) (s : Nat) : checkG d s [] = 0 := rfl
theorem checkG_nil {d : Int} {s : Nat} {r : List (List Int)} : checkG d s ([] :: r) = 8 := by simp [checkG]
theorem checkG_bad {d : Int} {s : Nat} {g : List Int} {r : List (List Int)} (hg : g ≠ []) (h : bad d s g = true) : checkG d s (g :: r) = 1 := by simp [checkG, hg, h]
theorem checkG_next {d : Int} {s : Nat} {g : List Int} {r : List (List Int)} (hg : g ≠ []) (h : bad d s g = false) : checkG d s (g :: r) = checkG d (setOf s g) r := by simp [checkG, hg, h]
theorem setOf_take {s : Nat} {g : List Int} {k : Nat} (h : k < g.length) : setOf s (g.take (k + 1)) = setOf s (g.take k) ||| 2 ^ (g[k]).toNat := by
  unfold setOf
  rw [List.take_succ_eq_append_getElem h, List.foldl_append]
  rfl
theorem drop_cons {α : Type} {l : List α} {i : Nat} (h : i < l.length) : l.drop i = l[i] :: l.drop (i + 1) := (List.drop_eq_getElem_cons h)
attribute [irreducible] checkG check bad badAt setOf
end Cd

/- THE WALKS over package code: Check, Pieces. -/
namespace Go.Proofs.YtdmljilcbndmfaaDoor
open Go.RowKit

theorem nat_pow_cast (m : Nat) : ((2 : Int) ^ m) = ((2 ^ m : Nat) : Int) := (Int.natCast_pow 2 m).symm
theorem pow_lt62 (m : Nat) (h : m < 62) : ((2 ^ m : Nat) : Int) < 4611686018427387904 := by
  have : 2 ^ m < 2 ^ 62 := Nat.pow_lt_pow_right (by omega) h
  exact Int.ofNat_lt.2 this
theorem wrap_pow (m : Nat) (h : m < 62) : wrap64 (2 ^ m) = ((2 ^ m : Nat) : Int) := by
  rw [nat_pow_cast]
  have h1 := pow_lt62 m h
  have h0 : (0 : Int) ≤ ((2 ^ m : Nat) : Int) := Int.natCast_nonneg _
  generalize ((2 ^ m : Nat) : Int) = z at h1 h0 ⊢
  unfold wrap64
  omega
theorem or_pow (s m : Nat) (hs : s < 65536) (h : m < 16) : bits .or .i64 (s : Int) (wrap64 (2 ^ m)) = ((s ||| 2 ^ m : Nat) : Int) ∧ s ||| 2 ^ m < 65536 := by
  have hpw : 2 ^ m < 2 ^ 16 := Nat.pow_lt_pow_right (by omega) h
  refine ⟨?_, Nat.or_lt_two_pow (n := 16) hs hpw⟩
  rw [wrap_pow m (by omega)]
  exact or64 _ _ (Nat.lt_trans hs (by decide)) (Nat.lt_trans hpw (by decide))
theorem cCheck_range (d gl : Int) (gs : List (List Int)) (G : Value) (w : World) (h : d < 1 ∨ 16 < d ∨ gl < 0 ∨ 4 < gl) :
    Calls Tryd.prog 59 #[.agg #[.int .i64 d, G, .int .i64 gl]] w fun e w' => e = .returned (.int .i64 (Cd.check d gs gl)) ∧ Ext w w' := by
  rw [Cd.check_range h]
  have four : d < 1 ∨ (¬ d < 1 ∧ 16 < d) ∨ (¬ d < 1 ∧ ¬ 16 < d ∧ gl < 0) ∨ (¬ d < 1 ∧ ¬ 16 < d ∧ ¬ gl < 0 ∧ 4 < gl) := by omega
  clear h
  rcases four with g | ⟨g1, g⟩ | ⟨g1, g2, g⟩ | ⟨g1, g2, g3, g⟩
  all_goals
    go_enter Tryd.func59, Tryd.ntmps59
    go_wp2_with fail
    go_step3
    go_wp2_with fail
    try rw [Exit.noGoto_ret]
    go_ret
    exact ⟨rfl, (Ext.refl _).alloc _⟩
theorem cCheck_limit (d gl : Int) (gs : List (List Int)) (G : Value) (w : World) (hG : Rs (Rs RI) w G gs) (h1 : 1 ≤ d) (h2 : d ≤ 16) (h3 : 0 ≤ gl) (h4 : gl ≤ 4) (h : 24 < gs.length ∨ 24 < d + gs.length + gl) :
    Calls Tryd.prog 59 #[.agg #[.int .i64 d, G, .int .i64 gl]] w fun e w' => e = .returned (.int .i64 (Cd.check d gs gl)) ∧ Ext w w' := by
  rw [Cd.check_limit (by omega) h]
  obtain ⟨A, c, rfl, hl⟩ := hG.form
  clear hG
  by_cases hb : 24 < gs.length
  · go_enter Tryd.func59, Tryd.ntmps59
    go_wp2_with fail
    go_step3
    go_wp2_with fail
    try rw [Exit.noGoto_ret]
    go_ret
    exact ⟨rfl, (Ext.refl _).alloc _⟩
  · have hb2 : 24 < d + gs.length + gl := by omega
    clear h
    go_enter Tryd.func59, Tryd.ntmps59
    go_wp2_with fail
    go_step3
    go_wp2_with fail
    try rw [Exit.noGoto_ret]
    go_ret
    exact ⟨rfl, (Ext.refl _).alloc _⟩
set_option maxHeartbeats 8000000 in
theorem cCheck_groups (d gl : Int) (gs : List (List Int)) (G : Value) (w : World) (hG : Rs (Rs RI) w G gs) (h1 : 1 ≤ d) (h2 : d ≤ 16) (h3 : 0 ≤ gl) (h4 : gl ≤ 4) (h5 : gs.length ≤ 24) (h6 : d + gs.length + gl ≤ 24) :
    Calls Tryd.prog 59 #[.agg #[.int .i64 d, G, .int .i64 gl]] w fun e w' => e = .returned (.int .i64 (Cd.check d gs gl)) ∧ Ext w w' := by
  rw [Cd.check_groups (by omega) (by omega)]
  obtain ⟨A, c, rfl, hl⟩ := hG.form
  have HG := Lib.hid hG
  clear hG
  go_enter Tryd.func59, Tryd.ntmps59
  go_wp2_with fail
  go_step3
  go_wp2_with fail
  go_step3
  go_wp2_with fail
  have hx := (Ext.refl w).alloc (.cells #[.int .i64 d, .slice A gs.length c, .int .i64 gl] 24)
  have HX := Lib.hid hx
  clear hx
  go_loop [3, 4, 48] (fun vs ve vi => ∃ i s : Nat, i ≤ gs.length ∧ vi = .int .i64 i ∧ ve = .int .i64 0 ∧ vs = .int .i64 s ∧ s < 65536 ∧ Hid (Cd.checkG d s (gs.drop i) = Cd.checkG d 0 gs)) (fun _ _ vi => gs.length - (intOf vi).toNat)
  case atStart => exact ⟨0, 0, Nat.zero_le _, rfl, rfl, rfl, by omega, rfl⟩
  case round =>
    obtain ⟨i, s, hi, rfl, rfl, rfl, hs, HC⟩ := hrel
    by_cases hlt : i < gs.length
    · obtain ⟨ad, u, rfl, hcell, hu⟩ := HG.out.at hlt
      obtain ⟨B, cB, rfl, hlB⟩ := hu.form
      have hcell' := HX.out.cell hcell
      have HU := Lib.hid hu
      clear hcell hu
      by_cases h0 : gs[i] = []
      · have hc8 : Cd.checkG d 0 gs = 8 := by rw [← HC.out, Cd.drop_cons hlt, h0, Cd.checkG_nil]
        have H8 := Lib.hid hc8
        have hl0 : gs[i].length = 0 := by rw [h0]; rfl
        clear hc8 h0
        go_wp2_with fail
        try rw [Exit.noGoto_ret]
        go_ret
        exact ⟨ret_int H8.out.symm, HX.out⟩
      · have hg0 : gs[i] ≠ [] := h0
        have hgl : gs[i].length ≠ 0 := fun h => h0 (List.length_eq_zero_iff.1 h)
        have e0 : ((gs[i].length : Int) == 0) = false := by rw [beq_eq_false_iff_ne]; omega
        have hgl2 : gs[i].length ≤ 9223372036854775807 := hlB
        have HG0 := Lib.hid h0
        clear h0 hg0 hgl
        obtain ⟨g, hg⟩ : ∃ g, gs[i] = g := ⟨_, rfl⟩
        rw [hg] at hlB hcell' HU e0 HG0
        have HGG := Lib.hid hg
        clear hg hgl2
        go_wp2_with fail
        go_loop [4, 57] (fun ve vk => ∃ k : Nat, k ≤ g.length ∧ vk = .int .i64 k ∧ ve = .int .i64 0 ∧ Hid (∀ j, j < k → Cd.badAt d s g j = false)) (fun _ vk => g.length - (intOf vk).toNat)
        case atStart => exact ⟨0, Nat.zero_le _, rfl, rfl, fun j hj => absurd hj (by omega)⟩
        case round =>
          obtain ⟨k, hk, rfl, rfl, HB⟩ := hrel
          by_cases hkl : k < g.length
          · obtain ⟨bd, u, rfl, hbc, hu⟩ := HU.out.at hkl
            obtain ⟨rfl, hlo, hhi⟩ := hu
            have hbc' := HX.out.cell hbc
            clear hbc
            have hgk : g.getD k 0 = g[k] := by rw [List.getD_eq_getElem?_getD, List.getElem?_eq_getElem hkl]; rfl
            have hbd := Cd.badAt_def d s g k
            rw [hgk] at hbd
            have bad1 : Cd.badAt d s g k = true → Cd.checkG d 0 gs = 1 := fun h => by
              rw [← HC.out, Cd.drop_cons hlt, HGG.out, Cd.checkG_bad HG0.out (Cd.bad_true hkl h)]
            have BD := Lib.hid hbd
            have B1 := Lib.hid bad1
            clear hgk hbd bad1
            by_cases c1 : g[k] < 0
            · have hb : Cd.badAt d s g k = true := by rw [BD.out]; simp [c1]
              have bad1 := B1.out
              have H1 := Lib.hid (bad1 hb)
              clear hb bad1
              go_wp2_with fail
              try rw [Exit.noGoto_ret]
              go_ret
              exact ⟨ret_int H1.out.symm, HX.out⟩
            · by_cases c2 : d ≤ g[k]
              · have hb : Cd.badAt d s g k = true := by rw [BD.out]; simp [c2]
                have bad1 := B1.out
                have H1 := Lib.hid (bad1 hb)
                clear hb bad1
                go_wp2_with fail
                try rw [Exit.noGoto_ret]
                go_ret
                exact ⟨ret_int H1.out.symm, HX.out⟩
              · have hm : bits .and .i64 ((s : Int) / 2 ^ (g[k]).toNat) 1 = ((Cd.bitAt s (g[k]).toNat : Nat) : Int) := by
                  have hle : s / 2 ^ (g[k]).toNat ≤ s := Nat.div_le_self _ _
                  have := odd64 (s / 2 ^ (g[k]).toNat) (by omega)
                  rw [Cd.bitAt, ← this]
                  simp
                have HM := Lib.hid hm
                clear hm
                by_cases ck : 0 < k
                · obtain ⟨bd2, u2, e2, hbc2, hu2⟩ := HU.out.at (i := k - 1) (by omega)
                  injection e2 with e2
                  subst e2
                  obtain ⟨rfl, hlo2, hhi2⟩ := hu2
                  have hbc2' := HX.out.cell hbc2
                  clear hbc2
                  have hgk2 : g.getD (k - 1) 0 = g[k - 1] := by rw [List.getD_eq_getElem?_getD, List.getElem?_eq_getElem (by omega)]; rfl
                  have HK2 := Lib.hid hgk2
                  clear hgk2
                  by_cases c3 : g[k] ≤ g[k - 1]
                  · have hb : Cd.badAt d s g k = true := by rw [BD.out, HK2.out]; simp [c3, ck]
                    have bad1 := B1.out
                    have H1 := Lib.hid (bad1 hb)
                    clear hb bad1
                    go_wp2_with fail
                    try rw [Exit.noGoto_ret]
                    go_ret
                    exact ⟨ret_int H1.out.symm, HX.out⟩
                  · by_cases c4 : Cd.bitAt s (g[k]).toNat = 1
                    · have eb : (bits .and .i64 ((s : Int) / 2 ^ (g[k]).toNat) 1 == 1) = true := by rw [HM.out, c4]; rfl
                      have hb : Cd.badAt d s g k = true := by rw [BD.out]; simp [c4]
                      have bad1 := B1.out
                      have H1 := Lib.hid (bad1 hb)
                      clear hb bad1 c4
                      go_wp2_with fail
                      try rw [Exit.noGoto_ret]
                      go_ret
                      exact ⟨ret_int H1.out.symm, HX.out⟩
                    · have eb : (bits .and .i64 ((s : Int) / 2 ^ (g[k]).toNat) 1 == 1) = false := by rw [HM.out, beq_eq_false_iff_ne]; omega
                      have hb : Cd.badAt d s g k = false := by rw [BD.out, HK2.out]; simp [c4]; omega
                      clear c4
                      have H1 := Lib.hid hb
                      clear hb
                      go_wp2_with fail
                      go_round
                      case rel => exact ⟨k + 1, by omega, by go_num, rfl, fun j hj => by
                        by_cases hjk : j = k
                        · rw [hjk]; exact H1.out
                        · exact HB.out j (by omega)⟩
                      case measure => simp [intOf]; omega
                · by_cases c4 : Cd.bitAt s (g[k]).toNat = 1
                  · have eb : (bits .and .i64 ((s : Int) / 2 ^ (g[k]).toNat) 1 == 1) = true := by rw [HM.out, c4]; rfl
                    have hb : Cd.badAt d s g k = true := by rw [BD.out]; simp [c4]
                    have bad1 := B1.out
                    have H1 := Lib.hid (bad1 hb)
                    clear hb bad1 c4
                    go_wp2_with fail
                    try rw [Exit.noGoto_ret]
                    go_ret
                    exact ⟨ret_int H1.out.symm, HX.out⟩
                  · have eb : (bits .and .i64 ((s : Int) / 2 ^ (g[k]).toNat) 1 == 1) = false := by rw [HM.out, beq_eq_false_iff_ne]; omega
                    have hb : Cd.badAt d s g k = false := by rw [BD.out]; simp [c4, ck]; omega
                    clear c4
                    have H1 := Lib.hid hb
                    clear hb
                    go_wp2_with fail
                    go_round
                    case rel => exact ⟨k + 1, by omega, by go_num, rfl, fun j hj => by
                      by_cases hjk : j = k
                      · rw [hjk]; exact H1.out
                      · exact HB.out j (by omega)⟩
                    case measure => simp [intOf]; omega
          · obtain rfl : k = g.length := by omega
            have hnb : Cd.bad d s g = false := Cd.bad_false HB.out
            have hgb : ∀ i ∈ g, 0 ≤ i ∧ i < 16 := fun i hi => by have := Cd.bad_bounds hnb hi; omega
            have hnx : Cd.checkG d (Cd.setOf s g) (gs.drop (i + 1)) = Cd.checkG d 0 gs := by rw [← HC.out, Cd.drop_cons hlt, HGG.out, Cd.checkG_next HG0.out hnb]
            have HNX := Lib.hid (And.intro hgb hnx)
            clear hnb hgb hnx
            go_wp2_with fail
            go_loop [3, 93] (fun vs vk => ∃ k s' : Nat, k ≤ g.length ∧ vk = .int .i64 k ∧ vs = .int .i64 s' ∧ s' < 65536 ∧ Hid (s' = Cd.setOf s (g.take k))) (fun _ vk => g.length - (intOf vk).toNat)
            case atStart => exact ⟨0, s, Nat.zero_le _, rfl, rfl, hs, by rw [List.take_zero, Cd.setOf_nil]; rfl⟩
            case round =>
              obtain ⟨k, s', hk, rfl, rfl, hs', HS⟩ := hrel
              by_cases hkl : k < g.length
              · obtain ⟨bd, u, rfl, hbc, hu⟩ := HU.out.at hkl
                obtain ⟨rfl, hlo, hhi⟩ := hu
                have hbc' := HX.out.cell hbc
                clear hbc
                have hb2 := HNX.out.1 _ (List.getElem_mem hkl)
                obtain ⟨m, hm⟩ : ∃ m : Nat, g[k] = (m : Int) := ⟨(g[k]).toNat, by omega⟩
                have hst := Cd.setOf_take (s := s) hkl
                rw [hm, Int.toNat_natCast, ← HS.out] at hst
                have hm16 : m < 16 := by omega
                rw [hm] at hbc'
                have hor := or_pow s' m hs' hm16
                have HOR := Lib.hid (And.intro hor.1 (And.intro hst hor.2))
                clear hor hst hb2 hm hlo hhi
                go_wp2_with fail
                go_round
                case rel => exact ⟨k + 1, s' ||| 2 ^ m, by omega, by go_num, by rw [HOR.out.1], HOR.out.2.2, HOR.out.2.1.symm⟩
                case measure => simp [intOf]; omega
              · obtain rfl : k = g.length := by omega
                have hse : s' = Cd.setOf s g := by rw [HS.out, List.take_length]
                have HSE := Lib.hid hse
                clear hse
                go_wp2_with fail
                go_round
                case rel => exact ⟨i + 1, s', by omega, by go_num, rfl, rfl, hs', by rw [HSE.out]; exact HNX.out.2⟩
                case measure => simp [intOf]; omega
    · obtain rfl : i = gs.length := by omega
      have hfin : Cd.checkG d 0 gs = 0 := by rw [← HC.out, List.drop_length, Cd.checkG_end]
      have HF := Lib.hid hfin
      clear hfin
      go_wp2_with fail
      try rw [Exit.noGoto_ret]
      go_ret
      exact ⟨ret_int HF.out.symm, HX.out⟩
/-- `Check` of a code: its first error; nothing that was there is changed. -/
theorem cCheck_any (d gl : Int) (gs : List (List Int)) (G : Value) (w : World) (hG : Rs (Rs RI) w G gs) :
    Calls Tryd.prog 59 #[.agg #[.int .i64 d, G, .int .i64 gl]] w fun e w' => e = .returned (.int .i64 (Cd.check d gs gl)) ∧ Ext w w' := by
  by_cases h : d < 1 ∨ 16 < d ∨ gl < 0 ∨ 4 < gl
  · exact cCheck_range d gl gs G w h
  · by_cases h2 : 24 < gs.length ∨ 24 < d + gs.length + gl
    · exact cCheck_limit d gl gs G w hG (by omega) (by omega) (by omega) (by omega) h2
    · exact cCheck_groups d gl gs G w hG (by omega) (by omega) (by omega) (by omega) (by omega) (by omega)
end Go.Proofs.YtdmljilcbndmfaaDoor

/- THE ROWS THAT A CALL HAS MADE, all in one list: what each holds, that no two share a block, and that nothing older has turned. -/
namespace Go.Proofs.YtdmljilcbndmfaaDoor
open Go.RowKit

/-- A row: the slice value, its element type, cells to an element, the number of elements, the cells. -/
structure LRow where
  v : Value
  e : TypeId
  s : Nat
  n : Nat
  xs : List Value
def LRow.far (a b : LRow) : Prop := a.v.ownBlock = none ∨ a.v.ownBlock ≠ b.v.ownBlock
def LRow.ok (w0 w : World) (r : LRow) : Prop := w.ownsRow w0.heap.size r.e r.s r.v r.n r.xs
/-- No row. -/
def no : LRow := ⟨.slice none 0 0, 0, 1, 0, []⟩
/-- A nil slice. -/
def nilRow (e : TypeId) : LRow := ⟨.slice none 0 0, e, 1, 0, []⟩

structure Owns (w0 w : World) (L : List LRow) : Prop where
  ext : Ext w0 w
  ok : ∀ (i : Nat) (r : LRow), L[i]? = some r → r.ok w0 w
  far : ∀ (i j : Nat) (a b : LRow), i ≠ j → L[i]? = some a → L[j]? = some b → a.far b

section
variable {w0 w w' : World} {L : List LRow} {P : Program}
theorem no_ok (w0 w : World) : no.ok w0 w := World.ownsRow_nil _ _ _ _
theorem nilRow_ok (w0 w : World) (e : TypeId) : (nilRow e).ok w0 w := World.ownsRow_nil _ _ _ _
theorem LRow.far_none {a b : LRow} (h : b.v.ownBlock = none) : a.far b := by
  unfold LRow.far
  cases ha : a.v.ownBlock with
  | none => exact .inl rfl
  | some g => exact .inr (by rw [h]; simp)
theorem LRow.far_symm {a b : LRow} (h : a.far b) : b.far a := by
  unfold LRow.far at h ⊢
  rcases h with h | h
  · exact LRow.far_none h
  · exact .inr (Ne.symm h)

/-- At the call's beginning: rows that own nothing. -/
theorem Owns.start (w : World) (h : ∀ r ∈ L, r.v = .slice none 0 0 ∧ r.n = 0 ∧ r.xs = []) : Owns w w L where
  ext := Ext.refl w
  ok i r hr := by
    obtain ⟨h1, h2, h3⟩ := h r (List.mem_of_getElem? hr)
    unfold LRow.ok
    rw [h1, h2, h3]
    exact World.ownsRow_nil _ _ _ _
  far i j a b _ ha _ := .inl (by rw [(h a (List.mem_of_getElem? ha)).1]; rfl)

theorem Owns.move (h : Owns w0 w L) (hx : Ext w0 w') (hg : ∀ g, w0.heap.size ≤ g → g < w.heap.size → w'.heap[g]? = w.heap[g]?) : Owns w0 w' L where
  ext := hx
  ok i r hr := by
    have h1 := h.ok i r hr
    refine ⟨h1.1, ?_⟩
    rcases h1.2 with h2 | ⟨g, cap, cur, hv, hB, hh, rest⟩
    · exact .inl h2
    · exact .inr ⟨g, cap, cur, hv, hB, (hg g hB (lt_of_block hh)).trans hh, rest⟩
  far := h.far
theorem Owns.next (h : Owns w0 w L) (hx : Ext w w') : Owns w0 w' L := h.move (h.ext.trans hx) fun g _ hlt => Below.block hx g hlt
theorem Owns.alloc (h : Owns w0 w L) (o : Obj) : Owns w0 (w.alloc o) L := h.next ((Ext.refl w).alloc o)
theorem Owns.drew (h : Owns w0 w L) : Owns w0 w.drew L := h.next (Ext.refl w).drew
theorem Owns.drewN (h : Owns w0 w L) (n : Nat) : Owns w0 (w.drewN n) L := h.next ((Ext.refl w).drewN n)

/-- One row anew: of a new block, or of the block that it had; the other rows' blocks are as they were. -/
theorem Owns.put (h : Owns w0 w L) (i : Nat) (r' : LRow) (hx : Ext w0 w') (hr' : r'.ok w0 w')
    (hg : ∀ j r, j ≠ i → L[j]? = some r → ∀ g, r.v.ownBlock = some g → w'.heap[g]? = w.heap[g]?) (hf : ∀ j r, j ≠ i → L[j]? = some r → r'.far r) : Owns w0 w' (L.set i r') where
  ext := hx
  ok j r hr := by
    by_cases hj : j = i
    · subst hj
      rw [List.getElem?_set] at hr
      split at hr
      · split at hr
        · injection hr with hr; subst hr; exact hr'
        · cases hr
      · rename_i hne; exact absurd rfl hne
    · rw [List.getElem?_set_ne (Ne.symm hj)] at hr
      have h1 := h.ok j r hr
      refine ⟨h1.1, ?_⟩
      rcases h1.2 with h2 | ⟨g, cap, cur, hv, hB, hh, rest⟩
      · exact .inl h2
      · exact .inr ⟨g, cap, cur, hv, hB, (hg j r hj hr g (by rw [hv]; rfl)).trans hh, rest⟩
  far j k a b hjk ha hb := by
    by_cases hj : j = i
    · subst hj
      rw [List.getElem?_set_ne hjk] at hb
      rw [List.getElem?_set] at ha
      simp only [↓reduceIte] at ha
      split at ha
      · injection ha with ha; subst ha; exact hf k b (Ne.symm hjk) hb
      · cases ha
    · by_cases hk : k = i
      · subst hk
        rw [List.getElem?_set_ne (Ne.symm hj)] at ha
        rw [List.getElem?_set] at hb
        simp only [↓reduceIte] at hb
        split at hb
        · injection hb with hb; subst hb; exact LRow.far_symm (a := r') (b := a) (hf j a hj ha)
        · cases hb
      · rw [List.getElem?_set_ne (Ne.symm hj)] at ha
        rw [List.getElem?_set_ne (Ne.symm hk)] at hb
        exact h.far j k a b hjk ha hb

/-- A new block of cells, as a row. -/
theorem Owns.new (h : Owns w0 w L) (i : Nat) (cs : Array Value) (e : TypeId) (hm : cs.size ≤ maxLen) : Owns w0 (w.alloc (.cells cs e)) (L.set i ⟨.slice (some ⟨w.heap.size, 0, none⟩) cs.size cs.size, e, 1, cs.size, cs.toList⟩) := by
  have hlt : ∀ r : LRow, r.ok w0 w → ∀ g, r.v.ownBlock = some g → g < w.heap.size := fun r hr g hg => (World.ownsRow.lt hr g hg).2
  refine h.put i _ (h.ext.alloc _) ⟨by simp, .inr ⟨w.heap.size, cs.size, cs, rfl, h.ext.size, heap_new w _, Nat.le_refl _, hm, by simp, List.take_of_length_le (by simp)⟩⟩ ?_ ?_
  · intro j r _ hr g hg
    exact Below.heap_alloc w _ g (hlt r (h.ok j r hr) g hg)
  · intro j r _ hr
    refine .inr ?_
    intro he
    have := hlt r (h.ok j r hr) w.heap.size he.symm
    omega

theorem Owns.wider (h : Owns w0 w L) : Owns w0 w (L ++ [no]) where
  ext := h.ext
  ok i r hr := by
    rw [List.getElem?_append] at hr
    split at hr
    · exact h.ok i r hr
    · have : r = no := by
        cases hk : i - L.length with
        | zero => rw [hk] at hr; simpa using hr.symm
        | succ k => rw [hk] at hr; simp at hr
      subst this
      exact no_ok _ _
  far i j a b hij ha hb := by
    rw [List.getElem?_append] at ha hb
    split at ha
    · split at hb
      · exact h.far i j a b hij ha hb
      · have : b = no := by
          cases hk : j - L.length with
          | zero => rw [hk] at hb; simpa using hb.symm
          | succ k => rw [hk] at hb; simp at hb
        subst this
        exact LRow.far_none rfl
    · have : a = no := by
        cases hk : i - L.length with
        | zero => rw [hk] at ha; simpa using ha.symm
        | succ k => rw [hk] at ha; simp at ha
      subst this
      exact .inl rfl
/-- One, two, three new blocks of one cell each, as rows behind the others. -/
theorem Owns.push1 {u : Value} {e : TypeId} (h : Owns w0 w L) : Owns w0 (w.alloc (.cells #[u] e)) (L ++ [⟨.slice (some ⟨w.heap.size, 0, none⟩) 1 1, e, 1, 1, [u]⟩]) := by
  have := h.wider.new L.length #[u] e (by simp [maxLen])
  simpa using this
theorem Owns.row (h : Owns w0 w L) (i : Nat) {v : Value} {e s n : Nat} {xs : List Value} (hi : L[i]? = some ⟨v, e, s, n, xs⟩) : w.ownsRow w0.heap.size e s v n xs := h.ok i _ hi
/-- A cell of a row. -/
theorem Owns.cell (h : Owns w0 w L) (i : Nat) {g n c e s : Nat} {xs : List Value} (hi : L[i]? = some ⟨.slice (some ⟨g, 0, none⟩) n c, e, s, n, xs⟩) (k : Nat) {u : Value} (hu : xs[k]? = some u) : w.cell? ⟨g, k, none⟩ = some u := by
  have h1 := h.row i hi
  have hk : k < n * s := by
    have := h1.1
    rcases Nat.lt_or_ge k xs.length with h2 | h2
    · omega
    · rw [List.getElem?_eq_none h2] at hu; cases hu
  rw [h1.cellAt k hk]; exact hu
theorem Owns.frozen (h : Owns w0 w L) (i : Nat) {g n c e s : Nat} {xs : List Value} (hi : L[i]? = some ⟨.slice (some ⟨g, 0, none⟩) n c, e, s, n, xs⟩) (k : Nat) : w.frozen? ⟨g, k, none⟩ = false := (h.row i hi).frozenAt k
theorem Owns.rd (h : Owns w0 w L) (i : Nat) {A : Option Addr} {n c e : Nat} {xs : List Value} (hi : L[i]? = some ⟨.slice A n c, e, 1, n, xs⟩) : Rd w A xs := own_rd (h.row i hi)
/-- A store into a row. -/
theorem Owns.store (h : Owns w0 w L) (i : Nat) {g n c e s : Nat} {xs : List Value} (hi : L[i]? = some ⟨.slice (some ⟨g, 0, none⟩) n c, e, s, n, xs⟩) (k : Nat) (u : Value) :
    Owns w0 (w.setCell ⟨g, k, none⟩ u) (L.set i ⟨.slice (some ⟨g, 0, none⟩) n c, e, s, n, xs.set k u⟩) := by
  have h1 := h.row i hi
  have hB := (h1.lt g rfl).1
  refine h.put i _ (h.ext.setCell hB u) (h1.stored k u).1 ?_ ?_
  · intro j r hj hr g' hg'
    refine Below.heap_setCell _ _ _ _ ?_
    rintro rfl
    have := h.far j i _ _ hj hr hi
    rcases this with h2 | h2
    · rw [hg'] at h2; cases h2
    · exact h2 hg'
  · intro j r hj hr
    have := h.far i j _ _ (Ne.symm hj) hi hr
    exact this
/-- A row that is given up. -/
theorem Owns.drop (h : Owns w0 w L) (i : Nat) : Owns w0 w (L.set i no) :=
  h.put i no h.ext (no_ok _ _) (fun _ _ _ _ _ _ => rfl) fun _ _ _ _ => .inl rfl

/-- 'out = append(out, xs...)' onto a row. -/
theorem run_append_owns (t ty e : TypeId) {z : Value} {s bytes : Nat} (ht : P.underlying t = some (.slice e)) (hi : (P.info? e).map (fun i => (i.zero, i.size, i.bytes)) = some (some z, s, bytes)) (hzs : z.cells.size = s) (hs : 0 < s)
    (h : Owns w0 w L) (i : Nat) {v : Value} {n : Nat} {xs : List Value} (hL : L[i]? = some ⟨v, e, s, n, xs⟩)
    (ad : Addr) (m c : Nat) (news : List Value) (hl : news.length = m * s) (hnews : ∀ j u, news[j]? = some u → w.cell? (ad.add j) = some u) (h1 : ∀ u ∈ news, u.oneCell' = true) (hm : 0 < m)
    (h63 : n + m ≤ maxLen) (hb : (n + m) * bytes ≤ 140737488355328) :
    ∃ g cap w', (Builtin.append_ #[t, t] ty #[v, .slice (some ad) m c]).run P w = .ok (.slice (some ⟨g, 0, none⟩) (n + m) cap) w' ∧ Owns w0 w' (L.set i ⟨.slice (some ⟨g, 0, none⟩) (n + m) cap, e, s, n + m, xs ++ news⟩) ∧ Ext w0 w' ∧ w.grownBy w' v.ownBlock := by
  obtain ⟨i0, hi0, hiz, hi1, hi2⟩ := info_parts hi
  have hown := h.row i hL
  obtain ⟨g, cap, w', hr, h2, h3, h4, h5⟩ := run_append_lies (P := P) w t ty w0.heap.size e i0 z s bytes ht hi0 hiz hi1 hi2 hzs hs v n xs hown ad m c news hl hnews h1 hm h63 hb h.ext.size _ rfl
  have hx : Ext w0 w' := h.ext.grown h3 (fun k hk => own_ge hown k hk)
  refine ⟨g, cap, w', hr, h.put i _ hx h2 ?_ ?_, hx, h3⟩
  · intro j r hj hrr g' hg'
    have hok := h.ok j r hrr
    refine h3.block g' (World.ownsRow.lt hok g' hg').2 ?_
    have hf := h.far j i r _ hj hrr hL
    rcases hf with hf | hf
    · rw [hg'] at hf; cases hf
    · rw [← hg']; exact hf
  · intro j r hj hrr
    have hf := h.far i j _ r (Ne.symm hj) hL hrr
    rcases h4 with h4 | h4
    · rcases hf with hf | hf
      · simp only at hf; rw [h4] at hf; cases hf
      · refine .inr ?_
        show some g ≠ _
        rw [← h4]; exact hf
    · refine .inr ?_
      show some g ≠ _
      intro he
      have := (World.ownsRow.lt (h.ok j r hrr) g he.symm).2
      omega
/-- The same at the list of a region's operations, one element. -/
theorem wpl_append_owns {ops : Array Oper} {rest : List Oper} {o : Oper} {a : Act} {Q : Exit → Act → World → Prop} (t e : TypeId) (hgd : o.guard = none) (s x : Operand)
    (ho : o.op = .call { callee := .builtin .append, args := #[s, x], argTypes := #[t, t] })
    {z : Value} {bytes : Nat} (ht : P.underlying t = some (.slice e)) (hi : (P.info? e).map (fun i => (i.zero, i.size, i.bytes)) = some (some z, 1, bytes)) (hzs : z.cells.size = 1)
    (h : Owns w0 w L) (i : Nat) {v : Value} {n : Nat} {xs : List Value} (hL : L[i]? = some ⟨v, e, 1, n, xs⟩) (hs : a.eval s = v) {g0 : Nat} {u : Value}
    (hx : a.eval x = .slice (some ⟨g0, 0, none⟩) 1 1) (hu : w.cell? ⟨g0, 0, none⟩ = some u) (h1 : u.oneCell' = true) (hm : n < 1000000000000) (hb : bytes ≤ 100)
    (hK : ∀ g cap w', Owns w0 w' (L.set i ⟨.slice (some ⟨g, 0, none⟩) (n + 1) cap, e, 1, n + 1, xs ++ [u]⟩) → w.grownBy w' v.ownBlock → wpList P ops Q rest (a.put o.dst (.slice (some ⟨g, 0, none⟩) (n + 1) cap)) w') :
    wpList P ops Q (o :: rest) a w := by
  refine wpList_plain hgd fun K hK' => ?_
  have hbb : (n + 1) * bytes ≤ (n + 1) * 100 := Nat.mul_le_mul_left _ hb
  obtain ⟨g, cap, w', hr, h2, _, h3⟩ := run_append_owns (P := P) t o.type e ht hi hzs (by decide) h i hL ⟨g0, 0, none⟩ 1 1 [u] rfl (fun j y hj => by
    match j, hj with
    | 0, hj => simp at hj; subst hj; exact hu) (fun y hy => by simp at hy; subst hy; exact h1) (by decide) (by unfold maxLen; omega) (by omega)
  unfold Oper.wp execOp
  simp only [ho, resolve, invoke, builtin, Sem.run_bind, Sem.run_pure, Result.andThen_ok, List.map_toArray, List.map_cons, List.map_nil, hs, hx, hr]
  exact hK' _ _ (hK g cap w' h2 h3)
/-- The same at a step of a region that draws its order. -/
theorem step_append_owns {ops : Array Oper} {o : Oper} {a : Act} {K : Act → World → Prop} {Q : Exit → Act → World → Prop} {E : Prop} (t e : TypeId) (hgd : o.guard = none) (s x : Operand)
    (ho : o.op = .call { callee := .builtin .append, args := #[s, x], argTypes := #[t, t] })
    {z : Value} {bytes : Nat} (ht : P.underlying t = some (.slice e)) (hi : (P.info? e).map (fun i => (i.zero, i.size, i.bytes)) = some (some z, 1, bytes)) (hzs : z.cells.size = 1)
    (h : Owns w0 w L) (i : Nat) {v : Value} {n : Nat} {xs : List Value} (hL : L[i]? = some ⟨v, e, 1, n, xs⟩) (hs : a.eval s = v) {g0 : Nat} {u : Value}
    (hx : a.eval x = .slice (some ⟨g0, 0, none⟩) 1 1) (hu : w.cell? ⟨g0, 0, none⟩ = some u) (h1 : u.oneCell' = true) (hm : n < 1000000000000) (hb : bytes ≤ 100)
    (hK : ∀ g cap w', Owns w0 w' (L.set i ⟨.slice (some ⟨g, 0, none⟩) (n + 1) cap, e, 1, n + 1, xs ++ [u]⟩) → w.grownBy w' v.ownBlock → K (a.put o.dst (.slice (some ⟨g, 0, none⟩) (n + 1) cap)) w') :
    if Region.wanted o (yielded ops a.tmps) = true then Oper.wp P o a w K Q else E := by
  have hw : Region.wanted o (yielded ops a.tmps) = true := by simp [Region.wanted, hgd]
  rw [if_pos hw]
  have hbb : (n + 1) * bytes ≤ (n + 1) * 100 := Nat.mul_le_mul_left _ hb
  obtain ⟨g, cap, w', hr, h2, _, h3⟩ := run_append_owns (P := P) t o.type e ht hi hzs (by decide) h i hL ⟨g0, 0, none⟩ 1 1 [u] rfl (fun j y hj => by
    match j, hj with
    | 0, hj => simp at hj; subst hj; exact hu) (fun y hy => by simp at hy; subst hy; exact h1) (by decide) (by unfold maxLen; omega) (by omega)
  unfold Oper.wp execOp
  simp only [ho, resolve, invoke, builtin, Sem.run_bind, Sem.run_pure, Result.andThen_ok, List.map_toArray, List.map_cons, List.map_nil, hs, hx, hr]
  exact hK g cap w' h2 h3
/-- '[]T{x}' laid in a block of its own. -/
theorem run_build_one {t e : TypeId} {z : Value} {bytes : Nat} (ht : P.underlying t = some (.slice e)) (hi : (P.info? e).map (fun i => (i.zero, i.size, i.bytes)) = some (some z, 1, bytes)) (w : World) (u : Value) (hu : u.cells = #[u]) :
    (Instr.buildSlice t 1 #[(0, u)]).run P w = .ok (.slice (some ⟨w.heap.size, 0, none⟩) 1 1) (w.alloc (.cells #[u] e)) := by
  obtain ⟨i0, hi0, hiz, hi1, hi2⟩ := info_parts hi
  simp [Instr.buildSlice, run_underlying ht, sizeOf, typeInfo, hi0, hi1, zeroValue, hiz, Instr.fill, hu]
  rw [show (Array.map (fun x => z.cells[x % z.cells.size]!) (Array.range 1)).setIfInBounds 0 u = #[u] from by apply Array.ext'; simp [Array.toList_range, List.range_succ]]
  rfl
end
end Go.Proofs.YtdmljilcbndmfaaDoor

/- THE WALKS over package code: Pieces, first, the closures of Rows. -/
namespace Cd
/-- The number of pieces. -/
def pieces (d : Int) (gs : List (List Int)) (gl : Int) : Int := if check d gs gl = 0 then d + gs.length + gl else 0
theorem pieces_ok {d gl : Int} {gs : List (List Int)} (h : check d gs gl = 0) : pieces d gs gl = d + gs.length + gl := if_pos h
theorem pieces_no {d gl : Int} {gs : List (List Int)} (h : check d gs gl ≠ 0) : pieces d gs gl = 0 := if_neg h
/-- What a code has that Check accepts. -/
theorem check_ok {d gl : Int} {gs : List (List Int)} (h : check d gs gl = 0) : 1 ≤ d ∧ d ≤ 16 ∧ 0 ≤ gl ∧ gl ≤ 4 ∧ gs.length ≤ 24 ∧ d + gs.length + gl ≤ 24 := by
  by_cases h1 : d < 1 ∨ 16 < d ∨ gl < 0 ∨ 4 < gl
  · rw [check_range h1] at h; cases h
  · by_cases h2 : 24 < gs.length ∨ 24 < d + gs.length + gl
    · rw [check_limit h1 h2] at h; cases h
    · omega
theorem checkG_ok {d : Int} : ∀ {gs : List (List Int)} {s : Nat}, checkG d s gs = 0 → ∀ g ∈ gs, ∀ i ∈ g, 0 ≤ i ∧ i < d
  | [], _, _, g, hg, _, _ => by simp at hg
  | g0 :: r, s, h, g, hg, i, hi => by
    by_cases h0 : g0 = []
    · subst h0; rw [checkG_nil] at h; cases h
    · cases hb : bad d s g0 with
      | true => rw [checkG_bad h0 hb] at h; cases h
      | false =>
        rw [checkG_next h0 hb] at h
        rcases List.mem_cons.1 hg with rfl | hg
        · exact bad_bounds hb hi
        · exact checkG_ok h g hg i hi
theorem check_groups_ok {d gl : Int} {gs : List (List Int)} (h : check d gs gl = 0) : ∀ g ∈ gs, ∀ i ∈ g, 0 ≤ i ∧ i < d := by
  have hk := check_ok h
  rw [check_groups (by omega) (by omega)] at h
  exact checkG_ok h
/-- A row of n coefficients. -/
def rowOf (n : Nat) (g : Nat → UInt8) : List UInt8 := (List.range n).map g
def unitAt (k i : Nat) : UInt8 := if i = k then 1 else 0
def inAt (s i : Nat) : UInt8 := UInt8.ofNat (bitAt s i)
def gloAt (j i : Nat) : UInt8 := UInt8.ofNat (Gf.powN 2 ((i * (j + 1)) % 255))
def rows (d : Nat) (gs : List (List Int)) (gl : Nat) : List (List UInt8) :=
  (List.range d).map (fun k => rowOf d (unitAt k)) ++ gs.map (fun g => rowOf d (inAt (setOf 0 g))) ++ (List.range gl).map (fun j => rowOf d (gloAt j))
/-- The place of the first element that is not 0. -/
def first : List UInt8 → Nat
  | [] => 0
  | x :: r => if x = 0 then first r + 1 else 0
theorem first_at {l : List UInt8} : ∀ {k : Nat} (h : k < l.length), (∀ j, j < k → l[j]? = some 0) → l[k] ≠ 0 → first l = k := by
  induction l with
  | nil => intro k h; simp at h
  | cons x r ih =>
    intro k h hj hk
    cases k with
    | zero => simp at hk; simp [first, hk]
    | succ k =>
      have h0 := hj 0 (by omega)
      simp at h0
      subst h0
      have := ih (k := k) (by simpa using h) (fun j hjk => by have := hj (j + 1) (by omega); simpa using this) (by simpa using hk)
      simp [first, this]
theorem first_none {l : List UInt8} (h : ∀ j, j < l.length → l[j]? = some 0) : first l = l.length := by
  induction l with
  | nil => rfl
  | cons x r ih =>
    have h0 := h 0 (by simp)
    simp at h0
    subst h0
    have := ih (fun j hj => by have := h (j + 1) (by simpa using hj); simpa using this)
    simp [first, this]
theorem unitAt_eq (k : Nat) : unitAt k k = 1 := if_pos rfl
theorem unitAt_ne {k i : Nat} (h : i ≠ k) : unitAt k i = 0 := if_neg h
attribute [irreducible] unitAt inAt gloAt first pieces
end Cd
namespace Go.Proofs.YtdmljilcbndmfaaDoor
open Go.RowKit
theorem cFirst_any (l : List UInt8) (A : Option Addr) (c : Nat) (w : World) (hA : Rd w A (l.map bv)) (hl : l.length ≤ 140737488351232) :
    Calls Tryd.prog 101 #[.slice A l.length c] w fun e w' => e = .returned (.int .i64 (Cd.first l : Nat)) ∧ w = w' := by
  have HA := Lib.hid hA
  clear hA
  go_enter Tryd.func101, Tryd.ntmps101
  go_wp2_with fail
  go_loop [7] (fun vi => ∃ i : Nat, i ≤ l.length ∧ vi = .int .i64 i ∧ Hid (∀ j, j < i → l[j]? = some 0)) (fun vi => l.length - (intOf vi).toNat)
  case atStart => exact ⟨0, Nat.zero_le _, rfl, fun j h => absurd h (by omega)⟩
  case round =>
    obtain ⟨i, hi, rfl, HZ⟩ := hrel
    by_cases hlt : i < l.length
    · obtain ⟨ad, rfl, _, ha⟩ := HA.out.at (k := i) (by simpa using hlt)
      rw [List.getElem_map] at ha
      by_cases h0 : l[i] = 0
      · have hz : ∀ j, j < i + 1 → l[j]? = some 0 := fun j hj => by
          rcases Nat.lt_or_ge j i with h1 | h1
          · exact HZ.out j h1
          · obtain rfl : j = i := by omega
            rw [List.getElem?_eq_getElem hlt, h0]
        rw [h0] at ha
        have HZ2 := Lib.hid hz
        clear hz h0
        go_wp2_with fail
        go_round
        case rel => exact ⟨i + 1, by omega, by go_num, HZ2.out⟩
        case measure => simp [intOf]; omega
      · have hf := Cd.first_at hlt HZ.out h0
        have e1 : (((l[i].toNat : Nat) : Int) != 0) = true := by
          rw [bne_iff_ne]
          intro h
          apply h0
          have h2 : l[i].toNat = 0 := by omega
          exact UInt8.toNat_inj.1 h2
        have HF := Lib.hid hf
        clear hf h0
        go_wp2_with fail
        go_ret
        exact ⟨by rw [HF.out]; rfl, rfl⟩
    · obtain rfl : i = l.length := by omega
      have hf := Cd.first_none HZ.out
      have HF := Lib.hid hf
      clear hf
      go_wp2_with fail
      go_ret
      exact ⟨by rw [HF.out]; rfl, rfl⟩
theorem enters61 : ∀ args w, (callFunc 61 args).run Tryd.prog w = .ok (.enter 61 args) w := enters_of Tryd.func61 (by kernel_rfl) rfl
theorem enters62 : ∀ args w, (callFunc 62 args).run Tryd.prog w = .ok (.enter 62 args) w := enters_of Tryd.func62 (by kernel_rfl) rfl
theorem enters63 : ∀ args w, (callFunc 63 args).run Tryd.prog w = .ok (.enter 63 args) w := enters_of Tryd.func63 (by kernel_rfl) rfl
theorem rows2_any (i k P : Nat) (w : World) (h1 : w.cell? ⟨P, 0, none⟩ = some (.int .i64 k)) :
    Calls Tryd.prog 61 #[.int .i64 i, .pointer (some ⟨P, 0, none⟩)] w fun e w' => e = .returned (bv (Cd.unitAt k i)) ∧ Ext w w' := by
  by_cases h : i = k
  · subst h
    rw [Cd.unitAt_eq]
    go_enter Tryd.func61, Tryd.ntmps61
    go_wp2_with fail
    go_ret
    exact ⟨rfl, Ext.refl _⟩
  · rw [Cd.unitAt_ne h]
    have e1 : ((i : Int) == (k : Int)) = false := by rw [beq_eq_false_iff_ne]; omega
    clear h
    go_enter Tryd.func61, Tryd.ntmps61
    go_wp2_with fail
    go_ret
    exact ⟨rfl, Ext.refl _⟩
theorem rows3_any (i s P : Nat) (w : World) (hs : s < 65536) (hi : i < 16) (h1 : w.cell? ⟨P, 0, none⟩ = some (.int .i64 s)) :
    Calls Tryd.prog 62 #[.int .i64 i, .pointer (some ⟨P, 0, none⟩)] w fun e w' => e = .returned (bv (Cd.inAt s i)) ∧ Ext w w' := by
  have hm : bits .and .i64 ((s : Int) / 2 ^ i) 1 = ((Cd.bitAt s i : Nat) : Int) := by
    have hle : s / 2 ^ i ≤ s := Nat.div_le_self _ _
    have := odd64 (s / 2 ^ i) (by omega)
    rw [Cd.bitAt, ← this]
    simp
  have hb : Cd.bitAt s i < 2 := Nat.mod_lt _ (by decide)
  have hv : (Cd.inAt s i).toNat = Cd.bitAt s i := by
    unfold Cd.inAt
    rw [UInt8.toNat_ofNat']
    omega
  have HM := Lib.hid (And.intro hm hv)
  clear hm hv
  go_enter Tryd.func62, Tryd.ntmps62
  go_wp2_with fail
  go_ret
  exact ⟨ret_int (by rw [HM.out.1, HM.out.2]; omega), Ext.refl _⟩
theorem rows4_any (i j P : Nat) (w : World) (hT : Tab w) (hi : i < 16) (hj : j < 4) (h1 : w.cell? ⟨P, 0, none⟩ = some (.int .i64 j)) :
    Calls Tryd.prog 63 #[.int .i64 i, .pointer (some ⟨P, 0, none⟩)] w fun e w' => e = .returned (bv (Cd.gloAt j i)) ∧ Ext w w' := by
  have hm : i * (j + 1) < 64 := by
    have := Nat.mul_le_mul (show i ≤ 15 by omega) (show j + 1 ≤ 4 by omega)
    omega
  have hc : (i : Int) * ((j : Int) + 1) = ((i * (j + 1) : Nat) : Int) := by rw [Int.natCast_mul, Int.natCast_add]; rfl
  have hlo : 0 ≤ (i : Int) * ((j : Int) + 1) := by rw [hc]; omega
  have hhi : (i : Int) * ((j : Int) + 1) < 64 := by rw [hc]; omega
  have HC := Lib.hid (And.intro hc hm)
  have HT := Lib.hid hT
  clear hT hc hm
  generalize hz : (i : Int) * ((j : Int) + 1) = z at hlo hhi HC
  go_enter Tryd.func63, Tryd.ntmps63
  go_wp2_with fail
  refine (exp_any z _ HT.out (by omega) (by omega)).mono ?_
  rintro e w' ⟨rfl, rfl⟩
  go_wp2_with fail
  go_ret
  refine ⟨ret_int ?_, Ext.refl _⟩
  have h2 : (z % 255).toNat = i * (j + 1) % 255 := by have := HC.out.1; omega
  rw [h2]
  unfold Cd.gloAt
  rw [UInt8.toNat_ofNat', Nat.mod_eq_of_lt (Gf.powN_lt _)]
theorem Owns.front {w0 w : World} {L M : List LRow} (h : Owns w0 w (L ++ M)) : Owns w0 w L where
  ext := h.ext
  ok i r hr := h.ok i r (by rw [List.getElem?_append_left]; exact hr; exact (List.getElem?_eq_some_iff.1 hr).1)
  far i j a b hij ha hb := h.far i j a b hij (by rw [List.getElem?_append_left]; exact ha; exact (List.getElem?_eq_some_iff.1 ha).1) (by rw [List.getElem?_append_left]; exact hb; exact (List.getElem?_eq_some_iff.1 hb).1)
/-- A row that was made behind all others. -/
theorem Owns.behind {w0 w w' : World} {L : List LRow} (h : Owns w0 w L) (hx : Ext w w') {v : Value} {e s n : Nat} {xs : List Value} (ho : w'.ownsRow w.heap.size e s v n xs) : Owns w0 w' (L ++ [⟨v, e, s, n, xs⟩]) where
  ext := h.ext.trans hx
  ok i r hr := by
    rw [List.getElem?_append] at hr
    split at hr
    · exact (h.next hx).ok i r hr
    · have : r = ⟨v, e, s, n, xs⟩ := by
        cases hk : i - L.length with
        | zero => rw [hk] at hr; simpa using hr.symm
        | succ k => rw [hk] at hr; simp at hr
      subst this
      exact ⟨ho.1, ho.2.imp id fun ⟨g, cap, cur, h1, h2, r⟩ => ⟨g, cap, cur, h1, Nat.le_trans h.ext.size h2, r⟩⟩
  far i j a b hij ha hb := by
    have hlt : ∀ r : LRow, r.ok w0 w → r.far ⟨v, e, s, n, xs⟩ := fun r hr => by
      unfold LRow.far
      cases hv : r.v.ownBlock with
      | none => exact .inl rfl
      | some g =>
        refine .inr fun hh => ?_
        have h1 := (World.ownsRow.lt hr g hv).2
        have h2 := (ho.lt g hh.symm).1
        omega
    rw [List.getElem?_append] at ha hb
    split at ha
    · split at hb
      · exact h.far i j a b hij ha hb
      · have : b = ⟨v, e, s, n, xs⟩ := by
          cases hk : j - L.length with
          | zero => rw [hk] at hb; simpa using hb.symm
          | succ k => rw [hk] at hb; simp at hb
        subst this
        exact hlt a (h.ok i a ha)
    · have : a = ⟨v, e, s, n, xs⟩ := by
        cases hk : i - L.length with
        | zero => rw [hk] at ha; simpa using ha.symm
        | succ k => rw [hk] at ha; simp at ha
      subst this
      split at hb
      · exact LRow.far_symm (hlt b (h.ok j b hb))
      · exfalso
        have h1 : j - L.length = 0 := by
          cases hk : j - L.length with
          | zero => rfl
          | succ k => rw [hk] at hb; simp at hb
        have h2 : i - L.length = 0 := by
          cases hk : i - L.length with
          | zero => rfl
          | succ k => rw [hk] at ha; simp at ha
        omega
def inner1 (g : Nat) (r : List UInt8) : LRow := ⟨.slice (some ⟨g, 0, none⟩) r.length r.length, 5, 1, r.length, r.map bv⟩
def inner (hs : List Nat) (rs : List (List UInt8)) : List LRow := List.zipWith inner1 hs rs
/-- The rows of bytes that a call has made, in a variable of its own. -/
def RowsOut (w0 w : World) (P : Nat) (rs : List (List UInt8)) : Prop :=
  ∃ (A : Option Addr) (c : Nat) (hs : List Nat), hs.length = rs.length ∧ Owns w0 w (⟨.slice (some ⟨P, 0, none⟩) 1 1, 65, 1, 1, [.slice A rs.length c]⟩ :: ⟨.slice A rs.length c, 28, 1, rs.length, (inner hs rs).map (·.v)⟩ :: inner hs rs)
theorem RowsOut.next {w0 w w' : World} {P : Nat} {rs : List (List UInt8)} (h : RowsOut w0 w P rs) (hx : Ext w w') : RowsOut w0 w' P rs := by
  obtain ⟨A, c, hs, hl, h⟩ := h
  exact ⟨A, c, hs, hl, h.next hx⟩
theorem RowsOut.ext {w0 w : World} {P : Nat} {rs : List (List UInt8)} (h : RowsOut w0 w P rs) : Ext w0 w := by
  obtain ⟨A, c, hs, hl, h⟩ := h
  exact h.ext
theorem inner_snoc {hs : List Nat} {rs : List (List UInt8)} (h : hs.length = rs.length) (g : Nat) (r : List UInt8) : inner (hs ++ [g]) (rs ++ [r]) = inner hs rs ++ [inner1 g r] := by
  unfold inner
  rw [List.zipWith_append h]
  rfl
theorem info_bytes : (Tryd.prog.info? 28).map (fun i => (i.zero, i.size, i.bytes)) = some (some (.slice none 0 0), 1, 24) := by kernel_rfl
set_option maxRecDepth 100000 in
theorem rows1_any (w0 w : World) (P1 P5 d : Nat) (rs : List (List UInt8)) (F : FuncId) (cap : Array Value) (g : Nat → UInt8) (hd : d ≤ 16) (hr : rs.length < 100)
    (hE : ∀ args w, (callFunc F args).run Tryd.prog w = .ok (.enter F args) w)
    (hF : ∀ k, k < d → ∀ w', Ext w w' → Calls Tryd.prog F (#[.int .i64 k] ++ cap) w' fun e w'' => e = .returned (bv (g k)) ∧ Ext w' w'')
    (hc : w.cell? ⟨P1, 0, none⟩ = some (.int .i64 d)) (hO : RowsOut w0 w P5 rs) :
    Calls Tryd.prog 60 #[.func (.func F) #[] cap, .pointer (some ⟨P1, 0, none⟩), .pointer (some ⟨P5, 0, none⟩)] w fun e w' => e = .returned (.tuple #[]) ∧ RowsOut w0 w' P5 (rs ++ [Cd.rowOf d g]) := by
  have HF := Lib.hid hF
  have HO := Lib.hid hO
  clear hF hO
  obtain ⟨i0, hi, hz0, hz1, hz2⟩ := info_parts info_u8
  have HZ := Lib.hid hz2
  clear hz2
  go_enter Tryd.func60, Tryd.ntmps60
  go_wp2_with (refine wpList_make_full _ rfl (.tmp 7) (.tmp 7) 28 rfl w.heap.size 5 i0 (.int .u8 0) 1 Tryd.underlying28 hi hz0 hz1 _ _ _ _ d rfl rfl rfl rfl (by rw [HZ.out]; omega) (by unfold maxLen; omega) (Nat.le_refl _) ?_; intro w1 hown hgrow)
  have hx : Ext w w1 := (Ext.refl w).grown hgrow (fun k h => by cases h)
  have hown' : w1.ownsRow w.heap.size 5 1 (.slice (some ⟨w.heap.size, 0, none⟩) d d) d (part d 0 g) := by
    rw [part_zero, ← toList_madeCells_one]
    simpa [Value.cells] using hown
  have H0 := Lib.hid (And.intro hx hown')
  clear hown hown' hgrow hx
  go_loopw [5, 11] (fun vj vi wr => ∃ k : Nat, k ≤ d ∧ vi = .int .i64 k ∧ Hid (Ext w wr ∧ wr.ownsRow w.heap.size 5 1 (.slice (some ⟨w.heap.size, 0, none⟩) d d) d (part d k g))) (fun _ vi _ => d - (intOf vi).toNat)
  case atStart => exact ⟨0, Nat.zero_le _, rfl, H0.out⟩
  case round =>
    obtain ⟨k, hk, rfl, HR⟩ := hrel
    by_cases hlt : k < d
    · go_wp2_with fail
      refine (HF.out k hlt wr HR.out.1).mono ?_
      rintro e w2 ⟨rfl, hx2⟩
      have hown2 : w2.ownsRow w.heap.size 5 1 (.slice (some ⟨w.heap.size, 0, none⟩) d d) d (part d k g) := own_ext HR.out.2 hx2
      have hcc := hown2.cellAt k (by omega)
      rw [List.getElem?_eq_getElem (by rw [part_length g hk]; exact hlt)] at hcc
      have hf := hown2.frozenAt k
      have hst := (hown2.stored k (bv (g k))).1
      rw [part_set g hlt] at hst
      have hx3 : Ext w w2 := HR.out.1.trans hx2
      have HS := Lib.hid (And.intro hx3 hst)
      clear hown2 hst hx3 hx2
      go_wp2_with fail
      go_roundw
      case rel => exact ⟨k + 1, by omega, by go_num, HS.out.1.setCell (Nat.le_refl _) _, HS.out.2⟩
      case measure => simp [intOf]; omega
    · obtain rfl : k = d := by omega
      obtain ⟨A, c, hs, hsl, hL⟩ := HO.out
      have hL1 := hL.behind HR.out.1 HR.out.2
      rw [part_full] at hL1
      have hrow : (List.range k).map g = Cd.rowOf k g := rfl
      rw [hrow] at hL1
      have hc0 := hL1.cell 0 rfl 0 rfl
      have HL := Lib.hid hL1
      clear hL hL1
      go_wp2_with (refine wpl_append_owns (u := .slice (some ⟨w.heap.size, 0, none⟩) k k) 65 28 rfl (.tmp 21) (.tmp 23) rfl Tryd.underlying65 info_bytes rfl HL.out.push1 1 rfl rfl rfl (cell_of_row _ _ 0 _ _ (0, 0) (heap_new _ _)) rfl (by omega) (by decide) ?_; intro g1 c1 w3 hO3 _; have hc3 : w3.cell? ⟨P5, 0, none⟩ = some (.slice A rs.length c) := hO3.cell 0 rfl 0 rfl; have hf3 : w3.frozen? ⟨P5, 0, none⟩ = false := hO3.frozen 0 rfl 0)
      have hs3 := hO3.store 0 rfl 0 (.slice (some ⟨g1, 0, none⟩) (rs.length + 1) c1)
      have H3 := Lib.hid hs3
      clear hO3 hs3
      go_end0
      refine ⟨rfl, some ⟨g1, 0, none⟩, c1, hs ++ [w.heap.size], by simp [hsl], ?_⟩
      refine Owns.front (M := [⟨.slice (some ⟨wr.heap.size, 0, none⟩) 1 1, 28, 1, 1, [.slice (some ⟨w.heap.size, 0, none⟩) k k]⟩]) ?_
      rw [inner_snoc hsl]
      have h := H3.out
      simp [inner1, Cd.rowOf] at h ⊢
      exact h
end Go.Proofs.YtdmljilcbndmfaaDoor

/- THE WALK over code.Rows. -/
namespace Cd
/-- The rows of a code; none if Check has an error. -/
def rowsOf (d : Int) (gs : List (List Int)) (gl : Int) : List (List UInt8) := if check d gs gl = 0 then rows d.toNat gs gl.toNat else []
theorem rowsOf_ok {d gl : Int} {gs : List (List Int)} (h : check d gs gl = 0) : rowsOf d gs gl = rows d.toNat gs gl.toNat := if_pos h
theorem rowsOf_no {d gl : Int} {gs : List (List Int)} (h : check d gs gl ≠ 0) : rowsOf d gs gl = [] := if_neg h
def rows1 (d k : Nat) : List (List UInt8) := (List.range k).map fun k => rowOf d (unitAt k)
def rows2 (d : Nat) (gs : List (List Int)) : List (List UInt8) := gs.map fun g => rowOf d (inAt (setOf 0 g))
def rows3 (d k : Nat) : List (List UInt8) := (List.range k).map fun j => rowOf d (gloAt j)
theorem rows_parts (d : Nat) (gs : List (List Int)) (gl : Nat) : rows1 d d ++ rows2 d gs ++ rows3 d gl = rows d gs gl := rfl
theorem rows1_succ (d k : Nat) : rows1 d (k + 1) = rows1 d k ++ [rowOf d (unitAt k)] := by simp [rows1, List.range_succ]
theorem rows3_succ (d k : Nat) : rows3 d (k + 1) = rows3 d k ++ [rowOf d (gloAt k)] := by simp [rows3, List.range_succ]
theorem rows2_take {d k : Nat} {gs : List (List Int)} (h : k < gs.length) : rows2 d (gs.take (k + 1)) = rows2 d (gs.take k) ++ [rowOf d (inAt (setOf 0 gs[k]))] := by
  rw [rows2, List.take_succ_eq_append_getElem h, List.map_append]; rfl
theorem rows1_length (d k : Nat) : (rows1 d k).length = k := by simp [rows1]
theorem rows2_length (d : Nat) (gs : List (List Int)) : (rows2 d gs).length = gs.length := by simp [rows2]
theorem rows3_length (d k : Nat) : (rows3 d k).length = k := by simp [rows3]
theorem rowOf_length (d : Nat) (g : Nat → UInt8) : (rowOf d g).length = d := by simp [rowOf]
theorem rows_len (d : Nat) (gs : List (List Int)) (gl : Nat) : (rows d gs gl).length = d + gs.length + gl := by
  rw [← rows_parts]; simp [rows1_length, rows2_length, rows3_length]; omega
theorem rows_width {d : Nat} {gs : List (List Int)} {gl : Nat} {r : List UInt8} (h : r ∈ rows d gs gl) : r.length = d := by
  simp only [rows, List.mem_append, List.mem_map] at h
  rcases h with (⟨k, _, rfl⟩ | ⟨g, _, rfl⟩) | ⟨k, _, rfl⟩ <;> exact rowOf_length _ _
attribute [irreducible] rowsOf rows1 rows2 rows3
end Cd
namespace Go.Proofs.YtdmljilcbndmfaaDoor
open Go.RowKit

theorem RowsOut.rs {w0 w : World} {P : Nat} {rs : List (List UInt8)} (h : RowsOut w0 w P rs) (hw : ∀ r ∈ rs, r.length ≤ 9223372036854775807) (hn : rs.length ≤ 9223372036854775807) :
    ∃ A c, w.cell? ⟨P, 0, none⟩ = some (.slice A rs.length c) ∧ Rs (Rs RB) w (.slice A rs.length c) rs := by
  obtain ⟨A, c, hs, hl, hO⟩ := h
  refine ⟨A, c, hO.cell 0 rfl 0 rfl, A, c, rfl, hn, fun i r hi => ?_⟩
  have hi' : i < rs.length := (List.getElem?_eq_some_iff.1 hi).1
  have hr := (List.getElem?_eq_some_iff.1 hi).2
  have hin : (inner hs rs)[i]? = some (inner1 (hs[i]'(by omega)) r) := by
    unfold inner
    rw [List.getElem?_eq_getElem (by simp; omega), List.getElem_zipWith, hr]
  have hrd : Rd w A ((inner hs rs).map (·.v)) := hO.rd 1 rfl
  obtain ⟨ad, hA, _, hc⟩ := hrd i _ (by rw [List.getElem?_map, hin]; rfl)
  refine ⟨ad, _, hA, hc, ?_⟩
  refine Rs.of_rd ?_ (hw r (List.mem_of_getElem? hi))
  exact hO.rd (i + 2) (n := r.length) (by simpa [inner1] using hin)

theorem RowsOut.start {wb : World} : RowsOut wb (wb.alloc (.cells #[.slice none 0 0] 65)) wb.heap.size [] := by
  refine ⟨none, 0, [], rfl, ?_⟩
  have h1 := (Owns.start wb (L := [no, nilRow 28]) (by intro r hr; simp [no, nilRow] at hr; rcases hr with rfl | rfl <;> simp)).new 0 #[.slice none 0 0] 65 (by simp [maxLen])
  exact h1

theorem cRows_no (d gl : Int) (gs : List (List Int)) (G : Value) (w : World) (hG : Rs (Rs RI) w G gs) (h0 : Cd.check d gs gl ≠ 0) :
    Calls Tryd.prog 28 #[.agg #[.int .i64 d, G, .int .i64 gl]] w fun e w' => e = .returned (.tuple #[.slice none 0 0, .int .i64 (Cd.check d gs gl)]) ∧ Ext w w' := by
  have hx0 := (Ext.refl w).alloc (.cells #[.int .i64 d, G, .int .i64 gl] 24)
  have HX := Lib.hid (And.intro hx0 (Rs.ext (Rs.ext RI.ext) _ _ _ _ hx0 hG))
  obtain ⟨A, c, rfl, hl⟩ := hG.form
  clear hG hx0
  have e1 : (Cd.check d gs gl != 0) = true := by rw [bne_iff_ne]; exact h0
  clear h0
  go_enter Tryd.func28, Tryd.ntmps28
  go_wp2_with fail
  refine (cCheck_any d gl gs _ _ HX.out.2).mono ?_
  rintro e w1 ⟨rfl, hx1⟩
  have HX1 := Lib.hid (HX.out.1.trans hx1)
  clear hx1
  go_wp2_with fail
  go_ret2
  exact ⟨rfl, HX1.out⟩
set_option maxRecDepth 100000 in
theorem cRows_ok (d gl : Nat) (gs : List (List Int)) (G : Value) (w : World) (hT : Tab w) (hG : Rs (Rs RI) w G gs) (h0 : Cd.check d gs gl = 0) :
    Calls Tryd.prog 28 #[.agg #[.int .i64 d, G, .int .i64 gl]] w fun e w' => ∃ v, e = .returned (.tuple #[v, .int .i64 0]) ∧ Rs (Rs RB) w' v (Cd.rows d gs gl) ∧ Ext w w' := by
  have hx0 := (Ext.refl w).alloc (.cells #[.int .i64 d, G, .int .i64 gl] 24)
  have HX := Lib.hid (And.intro hx0 (Rs.ext (Rs.ext RI.ext) _ _ _ _ hx0 hG))
  have HT := Lib.hid hT
  obtain ⟨A, c, rfl, hl⟩ := hG.form
  have hk := Cd.check_ok h0
  obtain ⟨k1, k2, k3, k4, k5, k6⟩ := hk
  have H0 := Lib.hid h0
  clear hG hx0 hT h0 k1 k3
  have e1 : (Cd.check d gs gl != 0) = false := by rw [H0.out]; rfl
  go_enter Tryd.func28, Tryd.ntmps28
  go_wp2_with fail
  refine (cCheck_any d gl gs _ _ HX.out.2).mono ?_
  rintro e w1 ⟨rfl, hx1⟩
  have HX1 := Lib.hid (HX.out.1.trans hx1)
  have hc0 : w1.cell? ⟨w.heap.size, 0, none⟩ = some (.int .i64 d) := hx1.cell (by go_simp)
  have hc1 : w1.cell? ⟨w.heap.size, 1, none⟩ = some (.slice A gs.length c) := hx1.cell (by go_simp)
  have hc2 : w1.cell? ⟨w.heap.size, 2, none⟩ = some (.int .i64 gl) := hx1.cell (by go_simp)
  have HC := Lib.hid (And.intro hc0 (And.intro hc1 hc2))
  have HG := Lib.hid (Rs.ext (Rs.ext RI.ext) _ _ _ _ hx1 HX.out.2)
  clear hx1
  have HR0 := Lib.hid (RowsOut.start (wb := w1))
  have ha0 := HR0.out.ext.cell hc0
  have Q0 := Lib.hid ha0
  clear hc0 hc1 hc2
  go_wp2_with fail
  clear ha0
  go_loopw [22] (fun vi wr => ∃ k : Nat, k ≤ d ∧ vi = .int .i64 k ∧ Hid (RowsOut w1 wr w1.heap.size (Cd.rows1 d k))) (fun vi _ => d - (intOf vi).toNat)
  case atStart => exact ⟨0, Nat.zero_le _, rfl, by rw [show Cd.rows1 d 0 = [] from by simp [Cd.rows1]]; exact HR0.out⟩
  case round =>
    obtain ⟨k, hk, rfl, HR⟩ := hrel
    by_cases hlt : k < d
    · have hcd := (HR.out.ext.alloc (.cells #[.int .i64 k] 3)).cell HC.out.1
      have HCD := Lib.hid hcd
      clear hcd
      go_wp2_with fail
      refine (rows1_any w1 _ w.heap.size w1.heap.size d (Cd.rows1 d k) _ _ (Cd.unitAt k) (by omega) (by rw [Cd.rows1_length]; omega) enters61 ?_ HCD.out (HR.out.next ((Ext.refl _).alloc _))).mono ?_
      · intro i hi w' hx
        exact rows2_any i k _ w' (hx.cell (by go_simp))
      rintro e w2 ⟨rfl, ho⟩
      rw [← Cd.rows1_succ] at ho
      have HO := Lib.hid ho
      clear ho
      go_wp2_with fail
      go_roundw
      case rel => exact ⟨k + 1, by omega, by go_num, HO.out⟩
      case measure => simp [intOf]; omega
    · obtain rfl : k = d := by omega
      have hc1 := HR.out.ext.cell HC.out.2.1
      go_wp2_with fail
      clear hc1
      go_loopw [32] (fun vi wr => ∃ i : Nat, i ≤ gs.length ∧ vi = .int .i64 i ∧ Hid (RowsOut w1 wr w1.heap.size (Cd.rows1 k k ++ Cd.rows2 k (gs.take i)))) (fun vi _ => gs.length - (intOf vi).toNat)
      case atStart => exact ⟨0, Nat.zero_le _, rfl, by rw [List.take_zero, show Cd.rows2 k [] = [] from by simp [Cd.rows2], List.append_nil]; exact HR.out⟩
      case round =>
        obtain ⟨i, hi, rfl, HI⟩ := hrel
        by_cases hlt2 : i < gs.length
        · obtain ⟨ad, u, rfl, hcell, hu⟩ := HG.out.at hlt2
          obtain ⟨B, cB, rfl, hlB⟩ := hu.form
          have hcell' := HI.out.ext.cell hcell
          have HU := Lib.hid (Rs.ext RI.ext _ _ _ _ HI.out.ext hu)
          have hgb := Cd.check_groups_ok H0.out gs[i] (List.getElem_mem hlt2)
          have hstep := Cd.rows2_take (d := k) hlt2
          obtain ⟨g, hg⟩ : ∃ g, gs[i] = g := ⟨_, rfl⟩
          rw [hg] at hcell' HU hlB hgb hstep
          have HGB := Lib.hid (And.intro hgb hstep)
          clear hcell hu hgb hstep hg
          have hOs := ((Owns.start wr (L := []) (by simp)).push1 (u := .int .i64 0) (e := 3))
          rw [List.nil_append] at hOs
          have HS0 := Lib.hid hOs
          clear hOs
          go_wp2_with fail
          go_loopw [38] (fun vj wj => ∃ j s : Nat, j ≤ g.length ∧ vj = .int .i64 j ∧ s < 65536 ∧ Hid (Owns wr wj [⟨.slice (some ⟨wr.heap.size, 0, none⟩) 1 1, 3, 1, 1, [.int .i64 s]⟩] ∧ s = Cd.setOf 0 (g.take j))) (fun vj _ => g.length - (intOf vj).toNat)
          case atStart => exact ⟨0, 0, Nat.zero_le _, rfl, by omega, HS0.out, by rw [List.take_zero, Cd.setOf_nil]⟩
          case round =>
            obtain ⟨j, s, hj, rfl, hs, HS⟩ := hrel
            by_cases hlt3 : j < g.length
            · obtain ⟨bd, u, rfl, hbc, hu⟩ := HU.out.at hlt3
              obtain ⟨rfl, hlo, hhi⟩ := hu
              have hbc' := HS.out.1.ext.cell hbc
              clear hbc
              have hb2 := HGB.out.1 _ (List.getElem_mem hlt3)
              obtain ⟨m, hm⟩ : ∃ m : Nat, g[j] = (m : Int) := ⟨(g[j]).toNat, by omega⟩
              have hst := Cd.setOf_take (s := 0) hlt3
              rw [hm, Int.toNat_natCast, ← HS.out.2] at hst
              have hm16 : m < 16 := by omega
              rw [hm] at hbc'
              have hor := or_pow s m hs hm16
              have hcs := HS.out.1.cell 0 rfl 0 rfl
              have hfs := HS.out.1.frozen 0 rfl 0
              have HOR := Lib.hid (And.intro hor.1 (And.intro hst hor.2))
              clear hor hst hb2 hm hlo hhi
              go_wp2_with fail
              go_region
              all_goals go_wp2_with fail
              all_goals go_roundw
              case rel => exact ⟨j + 1, s ||| 2 ^ m, by omega, by go_num, HOR.out.2.2, by rw [HOR.out.1]; exact (HS.out.1.store 0 rfl 0 _).drew, HOR.out.2.1.symm⟩
              case measure => simp [intOf]; omega
            · obtain rfl : j = g.length := by omega
              have hse : s = Cd.setOf 0 g := by rw [HS.out.2, List.take_length]
              have hcs := HS.out.1.cell 0 rfl 0 rfl
              have HCS := Lib.hid (And.intro hcs (And.intro hse hs))
              have hro := HI.out.next HS.out.1.ext
              have hcd := hro.ext.cell HC.out.1
              have HRO := Lib.hid (And.intro hro hcd)
              clear hcs hse hro hcd
              go_wp2_with fail
              refine (rows1_any w1 _ w.heap.size w1.heap.size k (Cd.rows1 k k ++ Cd.rows2 k (gs.take i)) _ _ (Cd.inAt s) (by omega) (by rw [List.length_append, Cd.rows1_length, Cd.rows2_length, List.length_take]; omega) enters62 ?_ HRO.out.2 HRO.out.1).mono ?_
              · intro i hi w' hx
                exact rows3_any i s _ w' hs (by omega) (hx.cell HCS.out.1)
              rintro e w2 ⟨rfl, ho⟩
              rw [HCS.out.2.1, List.append_assoc, ← HGB.out.2] at ho
              have HO := Lib.hid ho
              clear ho
              go_wp2_with fail
              go_roundw
              case rel => exact ⟨i + 1, by omega, by go_num, HO.out⟩
              case measure => simp [intOf]; omega
        · obtain rfl : i = gs.length := by omega
          have hro := HI.out
          rw [List.take_length] at hro
          have hc2 := hro.ext.cell HC.out.2.2
          have HRO := Lib.hid hro
          clear hro
          go_wp2_with fail
          clear hc2
          go_loopw [53] (fun vj wr => ∃ j : Nat, j ≤ gl ∧ vj = .int .i64 j ∧ Hid (RowsOut w1 wr w1.heap.size (Cd.rows1 k k ++ Cd.rows2 k gs ++ Cd.rows3 k j))) (fun vj _ => gl - (intOf vj).toNat)
          case atStart => exact ⟨0, Nat.zero_le _, rfl, by rw [show Cd.rows3 k 0 = [] from by simp [Cd.rows3], List.append_nil]; exact HRO.out⟩
          case round =>
            obtain ⟨j, hj, rfl, HJ⟩ := hrel
            by_cases hlt3 : j < gl
            · have hcd := (HJ.out.ext.alloc (.cells #[.int .i64 j] 3)).cell HC.out.1
              have HCD := Lib.hid hcd
              clear hcd
              go_wp2_with fail
              refine (rows1_any w1 _ w.heap.size w1.heap.size k (Cd.rows1 k k ++ Cd.rows2 k gs ++ Cd.rows3 k j) _ _ (Cd.gloAt j) (by omega) (by simp only [List.length_append, Cd.rows1_length, Cd.rows2_length, Cd.rows3_length]; omega) enters63 ?_ HCD.out (HJ.out.next ((Ext.refl _).alloc _))).mono ?_
              · intro i hi w' hx
                exact rows4_any i j _ w' (((HT.out.ext HX1.out).ext HJ.out.ext).ext (((Ext.refl _).alloc _).trans hx)) (by omega) (by omega) (hx.cell (by go_simp))
              rintro e w2 ⟨rfl, ho⟩
              rw [List.append_assoc, ← Cd.rows3_succ] at ho
              have HO := Lib.hid ho
              clear ho
              go_wp2_with fail
              go_roundw
              case rel => exact ⟨j + 1, by omega, by go_num, HO.out⟩
              case measure => simp [intOf]; omega
            · obtain rfl : j = gl := by omega
              have hro := HJ.out
              rw [Cd.rows_parts] at hro
              obtain ⟨A2, c2, hcell, hrs⟩ := hro.rs (fun r hr => by rw [Cd.rows_width hr]; omega) (by rw [Cd.rows_len]; omega)
              have HRO := Lib.hid (And.intro hro hrs)
              clear hro hrs
              go_wp2_with fail
              go_ret2
              exact ⟨_, rfl, HRO.out.2, HX1.out.trans HRO.out.1.ext⟩
/-- `Rows` of a code: a row for each piece, and the first error; nothing that was there is changed. -/
theorem cRows_any (d gl : Int) (gs : List (List Int)) (G : Value) (w : World) (hT : Tab w) (hG : Rs (Rs RI) w G gs) :
    Calls Tryd.prog 28 #[.agg #[.int .i64 d, G, .int .i64 gl]] w fun e w' => ∃ v, e = .returned (.tuple #[v, .int .i64 (Cd.check d gs gl)]) ∧ Rs (Rs RB) w' v (Cd.rowsOf d gs gl) ∧ Ext w w' := by
  by_cases h0 : Cd.check d gs gl = 0
  · have hk := Cd.check_ok h0
    rw [Cd.rowsOf_ok h0, h0]
    obtain ⟨n, rfl⟩ : ∃ n : Nat, d = n := ⟨d.toNat, by omega⟩
    obtain ⟨m, rfl⟩ : ∃ m : Nat, gl = m := ⟨gl.toNat, by omega⟩
    exact cRows_ok n m gs G w hT hG h0
  · refine (cRows_no d gl gs G w hG h0).mono ?_
    rintro e w' ⟨rfl, hx⟩
    rw [Cd.rowsOf_no h0]
    exact ⟨_, rfl, ⟨none, 0, rfl, by simp, fun i x h => by simp at h⟩, hx⟩
end Go.Proofs.YtdmljilcbndmfaaDoor

/- ROWS THAT A CALL HAS MADE: their order, and which are named, is free. A call as a step of a region that draws. -/
namespace Go.Proofs.YtdmljilcbndmfaaDoor
open Go.RowKit
theorem Owns.pairwise {w0 w : World} {L : List LRow} (h : Owns w0 w L) : L.Pairwise LRow.far :=
  List.pairwise_iff_getElem.2 fun i j hi hj hij => h.far i j _ _ (by omega) (List.getElem?_eq_getElem hi) (List.getElem?_eq_getElem hj)
theorem Owns.all {w0 w : World} {L : List LRow} (h : Owns w0 w L) : ∀ r ∈ L, r.ok w0 w := fun r hr => by
  obtain ⟨i, hi, rfl⟩ := List.getElem_of_mem hr
  exact h.ok i _ (List.getElem?_eq_getElem hi)
theorem Owns.of_pairwise {w0 w : World} {L : List LRow} (hx : Ext w0 w) (ho : ∀ r ∈ L, r.ok w0 w) (hp : L.Pairwise LRow.far) : Owns w0 w L where
  ext := hx
  ok i r hr := ho r (List.mem_of_getElem? hr)
  far i j a b hij ha hb := by
    obtain ⟨hi, rfl⟩ := List.getElem?_eq_some_iff.1 ha
    obtain ⟨hj, rfl⟩ := List.getElem?_eq_some_iff.1 hb
    rcases Nat.lt_or_ge i j with h1 | h1
    · exact List.pairwise_iff_getElem.1 hp i j hi hj h1
    · exact LRow.far_symm (List.pairwise_iff_getElem.1 hp j i hj hi (by omega))
theorem Owns.perm {w0 w : World} {L L' : List LRow} (h : Owns w0 w L) (hp : L.Perm L') : Owns w0 w L' :=
  Owns.of_pairwise h.ext (fun r hr => h.all r (hp.mem_iff.2 hr)) ((hp.pairwise_iff (fun h => LRow.far_symm h)).1 h.pairwise)
theorem Owns.sublist {w0 w : World} {L L' : List LRow} (h : Owns w0 w L) (hp : L'.Sublist L) : Owns w0 w L' :=
  Owns.of_pairwise h.ext (fun r hr => h.all r (hp.subset hr)) (h.pairwise.sublist hp)
end Go.Proofs.YtdmljilcbndmfaaDoor

/- THE WALK over (*stairs).add. -/
namespace Cd
theorem first_eq : ∀ l : List UInt8, first l = Gf.firstNZ l
  | [] => by unfold first; rfl
  | x :: r => by
    have := first_eq r
    unfold first Gf.firstNZ
    split
    · rw [this]
    · rfl
end Cd
namespace Go.Proofs.YtdmljilcbndmfaaDoor
open Go.RowKit

/-- 'append(out, xs...)' of a region's list of operations, any number of elements. -/
theorem wpl_append_all {P : Program} {w0 w : World} {L : List LRow} {ops : Array Oper} {rest : List Oper} {o : Oper} {a : Act} {Q : Exit → Act → World → Prop} (t e : TypeId) (hgd : o.guard = none) (s x : Operand)
    (ho : o.op = .call { callee := .builtin .append, args := #[s, x], argTypes := #[t, t] })
    {z : Value} {bytes : Nat} (ht : P.underlying t = some (.slice e)) (hi : (P.info? e).map (fun i => (i.zero, i.size, i.bytes)) = some (some z, 1, bytes)) (hzs : z.cells.size = 1)
    (h : Owns w0 w L) (i : Nat) {v : Value} {n : Nat} {xs : List Value} (hL : L[i]? = some ⟨v, e, 1, n, xs⟩) (hs : a.eval s = v) {ad : Addr} {m c : Nat} {news : List Value}
    (hx : a.eval x = .slice (some ad) m c) (hl : news.length = m) (hnews : ∀ j u, news[j]? = some u → w.cell? (ad.add j) = some u) (h1 : ∀ u ∈ news, u.oneCell' = true) (hm : 0 < m) (hn : n + m < 100000000000) (hb : bytes ≤ 100)
    (hK : ∀ g cap w', Owns w0 w' (L.set i ⟨.slice (some ⟨g, 0, none⟩) (n + m) cap, e, 1, n + m, xs ++ news⟩) → w.grownBy w' v.ownBlock → wpList P ops Q rest (a.put o.dst (.slice (some ⟨g, 0, none⟩) (n + m) cap)) w') :
    wpList P ops Q (o :: rest) a w := by
  refine wpList_plain hgd fun K hK' => ?_
  have hbb : (n + m) * bytes ≤ (n + m) * 100 := Nat.mul_le_mul_left _ hb
  obtain ⟨g, cap, w', hr, h2, _, h3⟩ := run_append_owns (P := P) t o.type e ht hi hzs (by decide) h i hL ad m c news (by omega) hnews h1 hm (by unfold maxLen; omega) (by omega)
  unfold Oper.wp execOp
  simp only [ho, resolve, invoke, builtin, Sem.run_bind, Sem.run_pure, Result.andThen_ok, List.map_toArray, List.map_cons, List.map_nil, hs, hx, hr]
  exact hK' _ _ (hK g cap w' h2 h3)

theorem mul_still (a b : UInt8) (w : World) (hT : Tab w) : Calls Tryd.prog 82 #[bv a, bv b] w fun e w'' => e = .returned (bv (Gf.mul a b)) ∧ w'' = w := (mul_u8 a b w hT).mono fun _ _ h => ⟨h.1, h.2.symm⟩
abbrev sv (p : List UInt8) : Value := .string (sb p)
theorem inv_u8 (a : UInt8) (w : World) (hT : Tab w) : Calls Tryd.prog 100 #[bv a] w fun e w' => e = .returned (.tuple #[bv (Gf.inv a), .int .i64 (Gf.noneI (a.toNat : Int))]) ∧ w = w' := by
  refine (inv_any (a.toNat : Int) w hT (by omega) (by have := Gf.lt8 a; omega)).mono ?_
  rintro e w' ⟨rfl, rfl⟩
  refine ⟨?_, rfl⟩
  rw [Int.toNat_natCast, ← Gf.inv_toNat]
/-- r after k of its elements were multiplied by c. -/
def halfMul (c : UInt8) (r : List UInt8) (k : Nat) : List UInt8 := (List.range r.length).map fun i => if i < k then Gf.mul c (r.getD i 0) else r.getD i 0
theorem halfMul_length (c : UInt8) (r : List UInt8) (k : Nat) : (halfMul c r k).length = r.length := by simp [halfMul]
theorem halfMul_zero (c : UInt8) (r : List UInt8) : halfMul c r 0 = r := by
  apply List.ext_getElem
  · exact halfMul_length c r 0
  · intro i h1 h2
    simp [halfMul, List.getElem?_eq_getElem h2]
theorem halfMul_full (c : UInt8) (r : List UInt8) : halfMul c r r.length = r.map (Gf.mul c) := by
  apply List.ext_getElem
  · simp [halfMul]
  · intro i h1 h2
    have h3 : i < r.length := by simpa using h2
    simp [halfMul, List.getElem?_eq_getElem h3]
    intro h
    omega
theorem halfMul_at {c : UInt8} {r : List UInt8} {i : Nat} (h : i < r.length) : (halfMul c r i)[i]? = some (r.getD i 0) := by
  unfold halfMul
  rw [List.getElem?_map, List.getElem?_eq_getElem (by simpa using h)]
  simp
theorem halfMul_set {c : UInt8} {r : List UInt8} {i : Nat} : (halfMul c r i).set i (Gf.mul c (r.getD i 0)) = halfMul c r (i + 1) := by
  apply List.ext_getElem
  · simp [halfMul]
  · intro j h1 h2
    rw [List.getElem_set]
    split
    · rename_i hij
      subst hij
      simp [halfMul]
    · rename_i hij
      simp only [halfMul, List.getElem_map, List.getElem_range]
      by_cases hj : j < i
      · rw [if_pos hj, if_pos (by omega)]
      · rw [if_neg hj, if_neg (by omega)]
/-- Rows of bytes that a call has made, of whatever room. -/
def innerC1 (h : Nat × Nat) (r : List UInt8) : LRow := ⟨.slice (some ⟨h.1, 0, none⟩) r.length h.2, 5, 1, r.length, r.map bv⟩
def innerC (hs : List (Nat × Nat)) (rs : List (List UInt8)) : List LRow := List.zipWith innerC1 hs rs
theorem innerC_snoc {hs : List (Nat × Nat)} {rs : List (List UInt8)} (h : hs.length = rs.length) (g : Nat × Nat) (r : List UInt8) : innerC (hs ++ [g]) (rs ++ [r]) = innerC hs rs ++ [innerC1 g r] := by
  unfold innerC
  rw [List.zipWith_append h]
  rfl
/-- The stairs that a call has made. -/
def StairsOut (w0 w : World) (P : Nat) (rows parts : List (List UInt8)) (n : Nat) : Prop :=
  ∃ (A B : Option Addr) (cA cB : Nat) (hs : List (Nat × Nat)), hs.length = rows.length ∧ parts.length = rows.length ∧
    Owns w0 w (⟨.slice (some ⟨P, 0, none⟩) 1 1, 133, 3, 1, [.slice A rows.length cA, .slice B rows.length cB, .int .i64 n]⟩ :: ⟨.slice A rows.length cA, 28, 1, rows.length, (innerC hs rows).map (·.v)⟩ :: ⟨.slice B rows.length cB, 9, 1, rows.length, parts.map sv⟩ :: innerC hs rows)
theorem StairsOut.ext {w0 w : World} {P n : Nat} {rs ps : List (List UInt8)} (h : StairsOut w0 w P rs ps n) : Ext w0 w := by
  obtain ⟨A, B, cA, cB, hs, h1, h2, h⟩ := h
  exact h.ext
theorem StairsOut.next {w0 w w' : World} {P n : Nat} {rs ps : List (List UInt8)} (h : StairsOut w0 w P rs ps n) (hx : Ext w w') : StairsOut w0 w' P rs ps n := by
  obtain ⟨A, B, cA, cB, hs, h1, h2, h⟩ := h
  exact ⟨A, B, cA, cB, hs, h1, h2, h.next hx⟩
theorem StairsOut.of {w0 w : World} {P m n g c cA cB : Nat} {A B : Option Addr} {rows parts : List (List UInt8)} {r q : List UInt8} {hs : List (Nat × Nat)} {X Y : LRow} (hl : hs.length = rows.length) (hp : parts.length = rows.length) (hm : r.length = m)
    (h : Owns w0 w (⟨.slice (some ⟨P, 0, none⟩) 1 1, 133, 3, 1, [.slice A (rows.length + 1) cA, .slice B (rows.length + 1) cB, .int .i64 n]⟩ :: ⟨.slice A (rows.length + 1) cA, 28, 1, rows.length + 1, (innerC hs rows).map (·.v) ++ [.slice (some ⟨g, 0, none⟩) m c]⟩ :: ⟨.slice B (rows.length + 1) cB, 9, 1, rows.length + 1, parts.map sv ++ [sv q]⟩ :: X :: Y :: (innerC hs rows ++ [innerC1 (g, c) r]))) :
    StairsOut w0 w P (rows ++ [r]) (parts ++ [q]) n := by
  subst hm
  refine ⟨A, B, cA, cB, hs ++ [(g, c)], by simp [hl], by simp [hp], ?_⟩
  have h2 := h.sublist (L' := _ :: _ :: _ :: (innerC hs rows ++ [innerC1 (g, c) r])) (((List.Sublist.refl _).cons Y |>.cons X).cons_cons _ |>.cons_cons _ |>.cons_cons _)
  rw [innerC_snoc hl]
  simp only [List.length_append, List.length_cons, List.length_nil, List.map_append, List.map_cons, List.map_nil]
  exact h2
theorem Owns.two {w0 w : World} {x y z : LRow} {Y : List LRow} (h : Owns w0 w (x :: y :: z :: Y)) : Owns w0 w (x :: y :: z :: no :: no :: Y) := by
  refine h.wider.wider.perm ?_
  show (x :: y :: z :: (Y ++ [no] ++ [no])).Perm (x :: y :: z :: ([no, no] ++ Y))
  rw [List.append_assoc]
  exact (((List.perm_append_comm).cons _).cons _).cons _
theorem info_str : (Tryd.prog.info? 9).map (fun i => (i.zero, i.size, i.bytes)) = some (some (.string ByteArray.empty), 1, 16) := by kernel_rfl
/-- r less its multiples of rows; the part that belongs to it. -/
def redPart (p : List UInt8) (r x q : List UInt8) : List UInt8 := if r.getD (Gf.firstNZ x) 0 = 0 then p else Gf.sum p (Gf.scale (r.getD (Gf.firstNZ x) 0) q)
def redTo (rows parts : List (List UInt8)) (r p : List UInt8) : Nat → List UInt8 × List UInt8
  | 0 => (r, p)
  | k + 1 => (Gf.redRow (redTo rows parts r p k).1 (rows.getD k []), redPart (redTo rows parts r p k).2 (redTo rows parts r p k).1 (rows.getD k []) (parts.getD k []))
/-- r after k of its elements were turned by x. -/
def halfRow (r x : List UInt8) (k : Nat) : List UInt8 := (List.range r.length).map fun i => if i < k then r.getD i 0 ^^^ Gf.mul (r.getD (Gf.firstNZ x) 0) (x.getD i 0) else r.getD i 0

/-- A row that is read, of a list of rows. -/
theorem StairsOut.look {w0 w : World} {P n : Nat} {rs ps : List (List UInt8)} (h : StairsOut w0 w P rs ps n) :
    ∃ (A B : Option Addr) (cA cB : Nat), w.cell? ⟨P, 0, none⟩ = some (.slice A rs.length cA) ∧ w.cell? ⟨P, 1, none⟩ = some (.slice B rs.length cB) ∧ w.cell? ⟨P, 2, none⟩ = some (.int .i64 n) ∧ ps.length = rs.length ∧
      (∀ k (hk : k < rs.length), ∃ ad g cg, A = some ad ∧ w.cell? (ad.add k) = some (.slice (some ⟨g, 0, none⟩) rs[k].length cg) ∧ Rd w (some ⟨g, 0, none⟩) (rs[k].map bv)) ∧
      (∀ k (hk : k < ps.length), ∃ bd, B = some bd ∧ w.cell? (bd.add k) = some (sv ps[k])) := by
  obtain ⟨A, B, cA, cB, hs, h1, h2, hO⟩ := h
  refine ⟨A, B, cA, cB, hO.cell 0 rfl 0 rfl, hO.cell 0 rfl 1 rfl, hO.cell 0 rfl 2 rfl, h2, fun k hk => ?_, fun k hk => ?_⟩
  · have hin : (innerC hs rs)[k]? = some (innerC1 (hs[k]'(by omega)) rs[k]) := by
      unfold innerC
      rw [List.getElem?_eq_getElem (by simp; omega), List.getElem_zipWith]
    have hrd : Rd w A ((innerC hs rs).map (·.v)) := hO.rd 1 rfl
    obtain ⟨ad, hA, _, hc⟩ := hrd k _ (by rw [List.getElem?_map, hin]; rfl)
    exact ⟨ad, _, _, hA, hc, hO.rd (k + 3) (n := rs[k].length) (by simpa [innerC1] using hin)⟩
  · have hrd : Rd w B (ps.map sv) := hO.rd 2 rfl
    obtain ⟨ad, hA, _, hc⟩ := hrd k (sv ps[k]) (by rw [List.getElem?_map, List.getElem?_eq_getElem hk]; rfl)
    exact ⟨ad, hA, hc⟩
theorem redTo_length (rows parts : List (List UInt8)) (r p : List UInt8) : ∀ k, (redTo rows parts r p k).1.length = r.length
  | 0 => rfl
  | k + 1 => by rw [redTo, Gf.redRow_length, redTo_length]
theorem redPart_zero {p r x q : List UInt8} (h : r.getD (Gf.firstNZ x) 0 = 0) : redPart p r x q = p := if_pos h
theorem redPart_nz {p r x q : List UInt8} (h : r.getD (Gf.firstNZ x) 0 ≠ 0) : redPart p r x q = Gf.sum p (Gf.scale (r.getD (Gf.firstNZ x) 0) q) := if_neg h
theorem redTo_part_le (rows parts : List (List UInt8)) (r p : List UInt8) (M : Nat) (hq : ∀ q ∈ parts, q.length ≤ M) (hp : p.length ≤ M) : ∀ k, (redTo rows parts r p k).2.length ≤ M
  | 0 => hp
  | k + 1 => by
    have ih := redTo_part_le rows parts r p M hq hp k
    have hg : (parts.getD k []).length ≤ M := by
      rw [List.getD_eq_getElem?_getD]
      cases hpk : parts[k]? with
      | none => simp
      | some q => exact hq q (List.mem_of_getElem? hpk)
    rw [redTo]
    show (redPart _ _ _ _).length ≤ M
    unfold redPart
    split
    · exact ih
    · simp only [Gf.sum, Gf.scale, List.length_map, List.length_range]
      omega
theorem halfRow_length (r x : List UInt8) (k : Nat) : (halfRow r x k).length = r.length := by simp [halfRow]
theorem halfRow_zero (r x : List UInt8) : halfRow r x 0 = r := by
  apply List.ext_getElem
  · exact halfRow_length r x 0
  · intro i h1 h2
    simp [halfRow, List.getElem?_eq_getElem h2]
theorem halfRow_full (r x : List UInt8) : halfRow r x r.length = Gf.redRow r x := by
  unfold halfRow Gf.redRow
  apply List.map_congr_left
  intro i hi
  rw [if_pos (by simpa using hi)]
theorem halfRow_at {r x : List UInt8} {i : Nat} (h : i < r.length) : (halfRow r x i)[i]? = some (r.getD i 0) := by
  unfold halfRow
  rw [List.getElem?_map, List.getElem?_eq_getElem (by simpa using h)]
  simp
theorem halfRow_set {r x : List UInt8} {i : Nat} : (halfRow r x i).set i (r.getD i 0 ^^^ Gf.mul (r.getD (Gf.firstNZ x) 0) (x.getD i 0)) = halfRow r x (i + 1) := by
  apply List.ext_getElem
  · simp [halfRow]
  · intro j h1 h2
    rw [List.getElem_set]
    split
    · rename_i hij
      subst hij
      simp [halfRow]
    · rename_i hij
      simp only [halfRow, List.getElem_map, List.getElem_range]
      by_cases hj : j < i
      · rw [if_pos hj, if_pos (by omega)]
      · rw [if_neg hj, if_neg (by omega)]
theorem redTo_take (rows parts : List (List UInt8)) (r p : List UInt8) : ∀ k, k ≤ rows.length → (redTo rows parts r p k).1 = Gf.reduce (rows.take k) r
  | 0, _ => rfl
  | k + 1, h => by
    have hk : k < rows.length := by omega
    rw [redTo]
    show Gf.redRow _ _ = _
    rw [redTo_take rows parts r p k (by omega), List.take_succ_eq_append_getElem hk, Gf.reduce, Gf.reduce, List.foldl_append, List.getD_eq_getElem?_getD, List.getElem?_eq_getElem hk]
    rfl
theorem redTo_full (rows parts : List (List UInt8)) (r p : List UInt8) : (redTo rows parts r p rows.length).1 = Gf.reduce rows r := by
  rw [redTo_take rows parts r p _ (Nat.le_refl _), List.take_length]
/-- What belongs to the row that is added. -/
def newPart (rows parts : List (List UInt8)) (l p : List UInt8) : List UInt8 := Gf.scale (Gf.inv ((Gf.reduce rows l).getD (Gf.firstNZ (Gf.reduce rows l)) 0)) (redTo rows parts l p rows.length).2
/-- The stairs with a row more, if it is no combination of them. -/
def addTo (rows parts : List (List UInt8)) (l p : List UInt8) : List (List UInt8) × List (List UInt8) :=
  match Gf.addRow rows l with
  | none => (rows, parts)
  | some t => (rows ++ [t], parts ++ [newPart rows parts l p])
theorem addTo_none {rows parts : List (List UInt8)} {l p : List UInt8} (h : Gf.addRow rows l = none) : addTo rows parts l p = (rows, parts) := by unfold addTo; rw [h]
theorem addTo_some {rows parts : List (List UInt8)} {l p t : List UInt8} (h : Gf.addRow rows l = some t) : addTo rows parts l p = (rows ++ [t], parts ++ [newPart rows parts l p]) := by unfold addTo; rw [h]
attribute [irreducible] redPart halfRow addTo

set_option maxRecDepth 100000 in
set_option maxHeartbeats 8000000 in
theorem cAdd_any (w0 w : World) (P : Nat) (rows parts : List (List UInt8)) (l p : List UInt8) (A : Addr) (c : Nat) (hT0 : Tab w0) (hA : Rd w (some A) (l.map bv)) (hn : 0 < l.length) (hn2 : l.length ≤ 16)
    (hS : StairsOut w0 w P rows parts l.length) (hw : Gf.Stairs l.length rows) (hr : rows.length < 100) (hq : ∀ q ∈ parts, q.length ≤ 140737488351232) (hp : p.length ≤ 140737488351232) :
    Calls Tryd.prog 91 #[.pointer (some ⟨P, 0, none⟩), .slice (some A) l.length c, .string (sb p)] w fun e w' => e = .returned (.bool (Gf.addRow rows l).isSome) ∧ StairsOut w0 w' P (addTo rows parts l p).1 (addTo rows parts l p).2 l.length := by
  have hT := hT0.ext hS.ext
  have HT := Lib.hid hT
  have HT0 := Lib.hid hT0
  have HA := Lib.hid hA
  have HS := Lib.hid hS
  have HW := Lib.hid hw
  obtain ⟨X, B, cX, cB, b0, b1, b2, hpl, hX, hB⟩ := hS.look
  have HB := Lib.hid (And.intro b0 (And.intro b1 b2))
  have HL := Lib.hid (And.intro hX hB)
  have HPL := Lib.hid hpl
  have HQ := Lib.hid (redTo_part_le rows parts l p _ hq hp)
  have HQ2 := Lib.hid hq
  clear hT hT0 hA hS hw b0 b1 b2 hX hB hpl hq hp
  have hO0 : Owns w (w.alloc (.cells #[] 5)) [⟨.slice (some ⟨w.heap.size, 0, none⟩) 0 0, 5, 1, 0, []⟩] := (Owns.start w (L := [no]) (by intro r hr; simp at hr; subst hr; exact ⟨rfl, rfl, rfl⟩)).new 0 #[] 5 (by simp [maxLen])
  have HO0 := Lib.hid hO0
  clear hO0
  have hnews : ∀ (j : Nat) (u : Value), (l.map bv)[j]? = some u → (w.alloc (.cells #[] 5)).cell? (A.add j) = some u := fun j u hj =>
    (((Ext.refl w).alloc _).cell (HA.out.all (List.getElem?_eq_some_iff.1 hj).1)).trans (by rw [(List.getElem?_eq_some_iff.1 hj).2])
  have hone : ∀ u ∈ l.map bv, u.oneCell' = true := by intro u hu; simp at hu; obtain ⟨b, _, rfl⟩ := hu; rfl
  have HN := Lib.hid (And.intro hnews hone)
  clear hnews hone
  go_enter Tryd.func91, Tryd.ntmps91
  go_wp2_with (refine wpl_append_all 28 5 rfl (.tmp 17) (.tmp 18) rfl Tryd.underlying28 info_u8 rfl HO0.out 0 rfl rfl rfl (List.length_map _) HN.out.1 HN.out.2 hn (by omega) (by decide) ?_; intro g1 c1 w3 hO3 _; have hb0 : w3.cell? ⟨P, 0, none⟩ = some (.slice X rows.length cX) := hO3.ext.cell HB.out.1)
  have hO3' : Owns w w3 [⟨.slice (some ⟨g1, 0, none⟩) l.length c1, 5, 1, l.length, (redTo rows parts l p 0).1.map bv⟩] := by simpa [redTo] using hO3
  have HO3 := Lib.hid hO3'
  clear hO3 hO3' hb0
  go_loopw [2, 25] (fun vp vk wr => ∃ k : Nat, k ≤ rows.length ∧ vk = .int .i64 k ∧ vp = sv (redTo rows parts l p k).2 ∧ Hid (Owns w wr [⟨.slice (some ⟨g1, 0, none⟩) l.length c1, 5, 1, l.length, (redTo rows parts l p k).1.map bv⟩])) (fun _ vk _ => rows.length - (intOf vk).toNat)
  case atStart => exact ⟨0, Nat.zero_le _, rfl, rfl, HO3.out⟩
  case round =>
    obtain ⟨k, hk, rfl, rfl, HR⟩ := hrel
    by_cases hlt : k < rows.length
    · obtain ⟨ad, g, cg, rfl, hx1, hx2⟩ := HL.out.1 k hlt
      have hxl := HW.out.len _ (List.getElem_mem hlt)
      have hxn := HW.out.nz _ (List.getElem_mem hlt)
      have hrl := redTo_length rows parts l p k
      have hstep : redTo rows parts l p (k + 1) = (Gf.redRow (redTo rows parts l p k).1 rows[k], redPart (redTo rows parts l p k).2 (redTo rows parts l p k).1 rows[k] (parts.getD k [])) := by
        rw [redTo, List.getD_eq_getElem?_getD, List.getElem?_eq_getElem hlt]; rfl
      obtain ⟨x, hx⟩ : ∃ x, rows[k] = x := ⟨_, rfl⟩
      obtain ⟨r, hr'⟩ : ∃ r, (redTo rows parts l p k).1 = r := ⟨_, rfl⟩
      obtain ⟨q, hq⟩ : ∃ q, (redTo rows parts l p k).2 = q := ⟨_, rfl⟩
      rw [hx] at hx1 hx2 hxl hxn hstep
      rw [hr'] at hstep hrl
      rw [hq] at hstep
      have hO := HR.out
      rw [hr'] at hO
      rw [hxl] at hx1
      have hx1' := hO.ext.cell hx1
      have HX2 := Lib.hid (Rd.ext hx2 hO.ext)
      have HX3 := Lib.hid hx2
      obtain ⟨f, hf⟩ : ∃ f, Gf.firstNZ x = f := ⟨_, rfl⟩
      rw [hf] at hxn
      have hcf := hO.cell 0 rfl f (u := bv (r.getD f 0)) (by rw [List.getElem?_map, List.getElem?_eq_getElem (by omega), List.getD_eq_getElem?_getD, List.getElem?_eq_getElem (by omega)]; rfl)
      have HST := Lib.hid (And.intro hstep (And.intro hf (And.intro hxl hrl)))
      have HO := Lib.hid hO
      clear hstep hx1 hx2 hO hx hr' hf hrl
      go_wp2_with fail
      rw [← hxl]
      refine (cFirst_any x _ _ _ HX2.out (by omega)).mono ?_
      rintro e w' ⟨rfl, rfl⟩
      rw [Cd.first_eq, HST.out.2.1, hxl]
      by_cases h0 : r.getD f 0 = 0
      · rw [h0] at hcf
        go_wp2_with fail
        go_roundw
        case rel => exact ⟨k + 1, by omega, by go_num, by rw [HST.out.1]; dsimp only; rw [redPart_zero (by rw [HST.out.2.1]; exact h0)], by rw [HST.out.1]; dsimp only; rw [Gf.redRow_same (by rw [HST.out.2.1]; exact h0)]; exact HO.out⟩
        case measure => simp [intOf]; omega
      · have ef : (((r.getD f 0).toNat : Int) != 0) = true := by
          rw [bne_iff_ne]
          intro h
          exact h0 (UInt8.toNat_inj.1 (by have : (r.getD f 0).toNat = 0 := by omega
                                          exact this))
        have H0 := Lib.hid h0
        obtain ⟨fv, hfv⟩ : ∃ fv, r.getD f 0 = fv := ⟨_, rfl⟩
        rw [hfv] at hcf ef
        have HF := Lib.hid hfv
        have HQQ := Lib.hid hq
        clear hfv h0 hq
        go_wp2_with fail
        go_loopw [40] (fun vi wi => ∃ i : Nat, i ≤ l.length ∧ vi = .int .i64 i ∧ Hid (Owns w wi [⟨.slice (some ⟨g1, 0, none⟩) l.length c1, 5, 1, l.length, (halfRow r x i).map bv⟩])) (fun vi _ => l.length - (intOf vi).toNat)
        case atStart => exact ⟨0, Nat.zero_le _, rfl, by rw [halfRow_zero]; exact HO.out⟩
        case round =>
          obtain ⟨i, hi, rfl, HI⟩ := hrel
          by_cases hli : i < l.length
          · have hri : i < r.length := by rw [HST.out.2.2.2]; exact hli
            have hca := HI.out.cell 0 rfl i (u := bv (r.getD i 0)) (by rw [List.getElem?_map, halfRow_at hri]; rfl)
            have hfa := HI.out.frozen 0 rfl i
            have hst := HI.out.store 0 rfl i (bv (r.getD i 0 ^^^ Gf.mul fv (x.getD i 0)))
            have hmap : ((halfRow r x i).map bv).set i (bv (r.getD i 0 ^^^ Gf.mul fv (x.getD i 0))) = (halfRow r x (i + 1)).map bv := by
              rw [← List.map_set, ← halfRow_set, HST.out.2.1, HF.out]
            have hxx := (Rd.ext HX3.out HI.out.ext).all (k := i) (by simpa using (by omega : i < x.length))
            have hxi : i < x.length := by omega
            have hxe : (x.map bv)[i]'(by simpa using hxi) = bv (x.getD i 0) := by
              rw [List.getElem_map, List.getD_eq_getElem?_getD, List.getElem?_eq_getElem hxi]; rfl
            rw [hxe] at hxx
            have hxr : bits .xor .u8 ((r.getD i 0).toNat : Int) ((Gf.mul fv (x.getD i 0)).toNat : Int) = ((r.getD i 0 ^^^ Gf.mul fv (x.getD i 0)).toNat : Int) := by
              rw [u8_xor_nat _ _ (Gf.lt8 _) (Gf.lt8 _), UInt8.toNat_xor]
            obtain ⟨ri, hre⟩ : ∃ ri, r.getD i 0 = ri := ⟨_, rfl⟩
            obtain ⟨xi, hxie⟩ : ∃ xi, x.getD i 0 = xi := ⟨_, rfl⟩
            rw [hre] at hca hst hmap hxr
            rw [hxie] at hst hmap hxr hxx
            have hTr := HT.out.ext HI.out.ext
            have HTR := Lib.hid hTr
            have HSM := Lib.hid (And.intro hst hmap)
            have HXR := Lib.hid hxr
            have hca' : wr.cell? ⟨g1, i, none⟩ = some (bv ri) := hca
            have hfa' : wr.frozen? ⟨g1, i, none⟩ = false := hfa
            have hxx' : wr.cell? ⟨g, i, none⟩ = some (bv xi) := by
              have ea : (⟨g, 0, none⟩ : Addr).add i = ⟨g, i, none⟩ := by unfold Addr.add; split <;> simp_all
              rw [← ea]; exact hxx
            clear hst hmap hxr hTr hre hxie hca hfa hxx hxi hxe
            go_wp2_with fail
            go_still_tail 12, (by kernel_rfl)
            still_call (mul_still fv xi wr.drew HTR.out)
            repeat still_step
            refine wpStill_nil ?_
            go_wp2_with fail
            go_roundw
            case rel => exact ⟨i + 1, by omega, by go_num, by rw [HXR.out, ← HSM.out.2]; exact HSM.out.1.drew⟩
            case measure => simp [intOf]; omega
          · obtain rfl : i = l.length := by omega
            have hfull := HI.out
            rw [← HST.out.2.2.2, halfRow_full, HST.out.2.2.2] at hfull
            have hkp : k < parts.length := by rw [HPL.out]; exact hlt
            obtain ⟨bd, rfl, hq1⟩ := HL.out.2 k hkp
            have hb1 := hfull.ext.cell HB.out.2.1
            have hq1' := hfull.ext.cell hq1
            have hql := HQ2.out _ (List.getElem_mem hkp)
            have hpe : parts.getD k [] = parts[k] := by rw [List.getD_eq_getElem?_getD, List.getElem?_eq_getElem hkp]; rfl
            obtain ⟨y, hy⟩ : ∃ y, parts[k] = y := ⟨_, rfl⟩
            rw [hy] at hq1' hql hpe
            have hT4 := HT.out.ext hfull.ext
            have HT4 := Lib.hid hT4
            have hqq := HQ.out k
            rw [HQQ.out] at hqq
            have HFU := Lib.hid hfull
            have HPE := Lib.hid hpe
            clear hfull hq1 hpe hy hT4
            go_wp2_with fail
            refine (scale_any fv (sb y) _ HT4.out (by rw [size_sb]; exact hql)).mono ?_
            rintro e w4 ⟨rfl, hx4⟩
            have HX4 := Lib.hid hx4
            clear hx4
            go_wp2_with fail
            try rw [HQQ.out]
            refine (sum_any _ _ _ ?_ ?_).mono ?_
            · rw [size_sb]; exact hqq
            · rw [size_sb]; simpa [Gf.scale] using hql
            rintro e w5 ⟨rfl, hx5⟩
            have HX5 := Lib.hid (HX4.out.trans hx5)
            clear hx5
            go_wp2_with fail
            go_roundw
            case rel =>
              have e2 : (redTo rows parts l p (k + 1)).1 = Gf.redRow r x := by rw [HST.out.1]
              have e1 : (redTo rows parts l p (k + 1)).2 = Gf.sum q (Gf.scale fv y) := by
                rw [HST.out.1]
                dsimp only
                rw [redPart_nz (by rw [HST.out.2.1]; exact H0.out), HST.out.2.1, HF.out, HPE.out]
              refine ⟨k + 1, by omega, by go_num, ?_, ?_⟩
              · rw [e1]
              · rw [e2]; exact HFU.out.next HX5.out
            case measure => simp [intOf]; omega
    · obtain rfl : k = rows.length := by omega
      have hO := HR.out
      rw [redTo_full] at hO
      have hlen := Gf.reduce_length rows l
      have hadd : Gf.addRow rows l = if Gf.firstNZ (Gf.reduce rows l) = l.length then none else some ((Gf.reduce rows l).map (Gf.mul (Gf.inv ((Gf.reduce rows l).getD (Gf.firstNZ (Gf.reduce rows l)) 0)))) := rfl
      obtain ⟨r, hr'⟩ : ∃ r, Gf.reduce rows l = r := ⟨_, rfl⟩
      rw [hr'] at hO hlen hadd
      have hle := Gf.firstNZ_le r
      have hrd : Rd wr (some ⟨g1, 0, none⟩) (r.map bv) := hO.rd 0 rfl
      have HO := Lib.hid hO
      have HRD := Lib.hid hrd
      have HADD := Lib.hid hadd
      have HRR := Lib.hid hr'
      clear hO hrd hadd hr'
      go_wp2_with fail
      rw [← hlen]
      refine (cFirst_any r _ _ _ HRD.out (by omega)).mono ?_
      rintro e w' ⟨rfl, rfl⟩
      rw [Cd.first_eq, hlen]
      by_cases h0 : Gf.firstNZ r = l.length
      · have hno : Gf.addRow rows l = none := by rw [HADD.out, if_pos h0]
        have HNO := Lib.hid hno
        clear hno
        rw [h0]
        go_wp2_with fail
        go_ret
        exact ⟨by rw [HNO.out]; rfl, by rw [addTo_none HNO.out]; exact HS.out.next HO.out.ext⟩
      · obtain ⟨f, hf⟩ : ∃ f, Gf.firstNZ r = f := ⟨_, rfl⟩
        rw [hf] at hle h0
        have hfl : f < l.length := by omega
        have hcf : wr.cell? ⟨g1, f, none⟩ = some (bv (r.getD f 0)) := HO.out.cell 0 rfl f (u := bv (r.getD f 0)) (by rw [List.getElem?_map, List.getElem?_eq_getElem (by omega), List.getD_eq_getElem?_getD, List.getElem?_eq_getElem (by omega)]; rfl)
        have e1 : ((f : Int) == (l.length : Int)) = false := by rw [beq_eq_false_iff_ne]; omega
        have hyes : Gf.addRow rows l = some (r.map (Gf.mul (Gf.inv (r.getD f 0)))) := by rw [HADD.out, if_neg (by rw [hf]; exact h0), hf]
        have HYES := Lib.hid hyes
        have HF := Lib.hid hf
        have HLEN := Lib.hid hlen
        have hT2 := HT.out.ext HO.out.ext
        have HT2 := Lib.hid hT2
        rw [hf]
        clear hyes hf hle h0 hlen hT2
        obtain ⟨fv, hfv⟩ : ∃ fv, r.getD f 0 = fv := ⟨_, rfl⟩
        rw [hfv] at hcf
        have HFV := Lib.hid hfv
        clear hfv
        go_wp2_with fail
        refine (inv_u8 fv _ HT2.out).mono ?_
        rintro e w' ⟨rfl, rfl⟩
        go_wp2_with fail
        go_loopw [84] (fun vi wi => ∃ i : Nat, i ≤ l.length ∧ vi = .int .i64 i ∧ Hid (Owns w wi [⟨.slice (some ⟨g1, 0, none⟩) l.length c1, 5, 1, l.length, (halfMul (Gf.inv fv) r i).map bv⟩])) (fun vi _ => l.length - (intOf vi).toNat)
        case atStart => exact ⟨0, Nat.zero_le _, rfl, by rw [halfMul_zero]; exact HO.out⟩
        case round =>
          obtain ⟨i, hi, rfl, HI⟩ := hrel
          by_cases hli : i < l.length
          · have hri : i < r.length := by rw [HLEN.out]; exact hli
            have hca : wr.cell? ⟨g1, i, none⟩ = some (bv (r.getD i 0)) := HI.out.cell 0 rfl i (u := bv (r.getD i 0)) (by rw [List.getElem?_map, halfMul_at hri]; rfl)
            have hfa : wr.frozen? ⟨g1, i, none⟩ = false := HI.out.frozen 0 rfl i
            have hst := HI.out.store 0 rfl i (bv (Gf.mul (Gf.inv fv) (r.getD i 0)))
            have hmap : ((halfMul (Gf.inv fv) r i).map bv).set i (bv (Gf.mul (Gf.inv fv) (r.getD i 0))) = (halfMul (Gf.inv fv) r (i + 1)).map bv := by
              rw [← List.map_set, ← halfMul_set]
            obtain ⟨ri, hre⟩ : ∃ ri, r.getD i 0 = ri := ⟨_, rfl⟩
            rw [hre] at hca hst hmap
            have HSM := Lib.hid (And.intro hst hmap)
            have hTr := HT.out.ext HI.out.ext
            have HTR := Lib.hid hTr
            clear hst hmap hTr hre
            go_wp2_with fail
            refine (mul_u8 _ _ _ HTR.out).mono ?_
            rintro e w' ⟨rfl, rfl⟩
            go_wp2_with fail
            go_roundw
            case rel => exact ⟨i + 1, by omega, by go_num, by rw [← HSM.out.2]; exact HSM.out.1⟩
            case measure => simp [intOf]; omega
          · obtain rfl : i = l.length := by omega
            have hnew : addTo rows parts l p = (rows ++ [r.map (Gf.mul (Gf.inv fv))], parts ++ [Gf.scale (Gf.inv fv) (redTo rows parts l p rows.length).2]) := by
              rw [addTo_some HYES.out]
              unfold newPart
              rw [HRR.out, HF.out, HFV.out]
            have HNEW := Lib.hid hnew
            have HQR := Lib.hid (HQ.out rows.length)
            have hsome : (Gf.addRow rows l).isSome = true := by rw [HYES.out]; rfl
            have HSOME := Lib.hid hsome
            have hrl : (r.map (Gf.mul (Gf.inv fv))).length = l.length := by rw [List.length_map]; exact HLEN.out
            obtain ⟨A', B', cA', cB', hs, hl1, hl2, hO⟩ := HS.out
            have hrow := HI.out.row 0 rfl
            rw [← HLEN.out, halfMul_full, HLEN.out] at hrow
            have h2 := hO.behind HI.out.ext hrow
            obtain ⟨r', hr'⟩ : ∃ r', r.map (Gf.mul (Gf.inv fv)) = r' := ⟨_, rfl⟩
            rw [hr'] at h2 hrl hnew
            have hin : (⟨.slice (some ⟨g1, 0, none⟩) l.length c1, 5, 1, l.length, r'.map bv⟩ : LRow) = innerC1 (g1, c1) r' := by unfold innerC1; rw [hrl]
            rw [hin] at h2
            have hO5 : Owns w0 wr.drew (⟨.slice (some ⟨P, 0, none⟩) 1 1, 133, 3, 1, [.slice A' rows.length cA', .slice B' rows.length cB', .int .i64 l.length]⟩ :: ⟨.slice A' rows.length cA', 28, 1, rows.length, (innerC hs rows).map (·.v)⟩ :: ⟨.slice B' rows.length cB', 9, 1, rows.length, parts.map sv⟩ :: no :: no :: (innerC hs rows ++ [innerC1 (g1, c1) r'])) := (Owns.two h2).drew
            have P0 : wr.cell? ⟨P, 0, none⟩ = some (.slice A' rows.length cA') := hO5.cell 0 rfl 0 rfl
            have P1 : wr.cell? ⟨P, 1, none⟩ = some (.slice B' rows.length cB') := hO5.cell 0 rfl 1 rfl
            have PA0 : (wr.alloc (.cells #[.slice (some ⟨g1, 0, none⟩) l.length c1] 28)).cell? ⟨P, 0, none⟩ = some (.slice A' rows.length cA') := ((Ext.refl wr).alloc _).cell P0
            have PA1 : (wr.alloc (.cells #[.slice (some ⟨g1, 0, none⟩) l.length c1] 28)).cell? ⟨P, 1, none⟩ = some (.slice B' rows.length cB') := ((Ext.refl wr).alloc _).cell P1
            have HO5 := Lib.hid hO5
            have HL5 := Lib.hid (And.intro hl1 (And.intro hl2 (And.intro hrl hnew)))
            clear hnew hsome hrl hO hrow h2 hin hO5 hl1 hl2 hr'
            go_wp2_with fail
            have HO := HO5
            go_region_law (first
              | (have hB : Owns w0 (World.drew (World.alloc wr (.cells #[.slice (some ⟨g1, 0, none⟩) l.length c1] 28))) _ := HO.out.new 3 #[.slice (some ⟨g1, 0, none⟩) l.length c1] 28 (by simp [maxLen]); refine step_append_owns 65 28 rfl (.tmp 102) (.tmp 104) rfl Tryd.underlying65 info_bytes rfl hB 1 rfl rfl rfl (hB.cell 3 rfl 0 rfl) rfl (by omega) (by decide) ?_; clear hB; intro g8 c8 w8 hO8 hx8; have HO := Lib.hid hO8; have P0 : w8.cell? ⟨P, 0, none⟩ = some (.slice A' rows.length cA') := hO8.cell 0 rfl 0 rfl; have P1 : w8.cell? ⟨P, 1, none⟩ = some (.slice B' rows.length cB') := hO8.cell 0 rfl 1 rfl; clear hO8 hx8)
              | (have hB := HO.out.new 4 #[sv (Gf.scale (Gf.inv fv) (redTo rows parts l p rows.length).2)] 9 (by simp [maxLen]); refine step_append_owns 54 9 rfl (.tmp 109) (.tmp 113) rfl Tryd.underlying54 info_str rfl hB 2 rfl rfl rfl (hB.cell 4 rfl 0 rfl) rfl (by omega) (by decide) ?_; clear hB; intro g17 c17 w17 hO17 hx17; have HO := Lib.hid hO17; have P0 : w17.cell? ⟨P, 0, none⟩ = some (.slice A' rows.length cA') := hO17.cell 0 rfl 0 rfl; have P1 : w17.cell? ⟨P, 1, none⟩ = some (.slice B' rows.length cB') := hO17.cell 0 rfl 1 rfl; have F0 : w17.frozen? ⟨P, 0, none⟩ = false := hO17.frozen 0 rfl 0; have F1 : w17.frozen? ⟨P, 1, none⟩ = false := hO17.frozen 0 rfl 1; clear hO17 hx17)
              | (go_simp; refine (scale_any (Gf.inv fv) (sb (redTo rows parts l p rows.length).2) _ (HT0.out.ext HO.out.ext) (by rw [size_sb]; exact HQR.out)).mono ?_; rintro e w15 ⟨rfl, hx15⟩; dsimp only; have hO15 := HO.out.next hx15; have HO := Lib.hid hO15; have P0 : w15.cell? ⟨P, 0, none⟩ = some (.slice A' rows.length cA') := hO15.cell 0 rfl 0 rfl; have P1 : w15.cell? ⟨P, 1, none⟩ = some (.slice B' rows.length cB') := hO15.cell 0 rfl 1 rfl; have P1' : (w15.alloc (.cells #[sv (Gf.scale (Gf.inv fv) (redTo rows parts l p rows.length).2)] 9)).cell? ⟨P, 1, none⟩ = some (.slice B' rows.length cB') := ((Ext.refl w15).alloc _).cell P1; clear hO15 hx15))
            all_goals go_wp2_with fail
            all_goals go_ret
            all_goals refine ⟨by rw [HSOME.out]; rfl, ?_⟩
            all_goals rw [HL5.out.2.2.2]
            all_goals first
              | exact StairsOut.of HL5.out.1 HL5.out.2.1 HL5.out.2.2.1 ((HO.out.store 0 rfl 0 _).store 0 rfl 1 _)
              | exact StairsOut.of HL5.out.1 HL5.out.2.1 HL5.out.2.2.1 ((HO.out.store 0 rfl 1 _).store 0 rfl 0 _)
end Go.Proofs.YtdmljilcbndmfaaDoor

/- THE WALKS over collect (without pieces) and Recoverable. -/
namespace Cd
/-- The first k rows that are in a set. -/
def pickTo (rows : List (List UInt8)) (m k : Nat) : List (List UInt8) := (List.range k).filterMap fun i => if bitAt m i = 1 then rows[i]? else none
def pick (rows : List (List UInt8)) (m : Nat) : List (List UInt8) := pickTo rows m rows.length
theorem pickTo_yes {rows : List (List UInt8)} {m k : Nat} (hk : k < rows.length) (h : bitAt m k = 1) : pickTo rows m (k + 1) = pickTo rows m k ++ [rows[k]] := by
  simp [pickTo, List.range_succ, List.filterMap_append, h, List.getElem?_eq_getElem hk]
theorem pickTo_no {rows : List (List UInt8)} {m k : Nat} (h : bitAt m k ≠ 1) : pickTo rows m (k + 1) = pickTo rows m k := by
  simp [pickTo, List.range_succ, List.filterMap_append, h]
theorem stairs_snoc (n : Nat) (L : List (List UInt8)) (r : List UInt8) : Gf.stairs n (L ++ [r]) = Gf.step n (Gf.stairs n L) r := by
  simp [Gf.stairs, List.foldl_append]
theorem pickTo_mem {rows : List (List UInt8)} {m k : Nat} {r : List UInt8} (h : r ∈ pickTo rows m k) : r ∈ rows := by
  simp only [pickTo, List.mem_filterMap] at h
  obtain ⟨i, _, h⟩ := h
  split at h
  · exact List.mem_of_getElem? h
  · cases h
theorem stairs_good {n : Nat} {L : List (List UInt8)} (hl : ∀ r ∈ L, r.length = n) : Gf.Stairs n (Gf.stairs n L) ∧ (Gf.stairs n L).length ≤ n := by
  have := Gf.stairs_inv L [] [] (by simpa using hl) ⟨by simp, by simp, by simp, by simp⟩ (by simp) (by simp) (fun _ r hr => by cases hr)
  exact ⟨this.1, this.2.1⟩
/-- Can a chunk be made again from a set of pieces? -/
def can (d gl : Int) (gs : List (List Int)) (m : Int) : Bool :=
  decide (check d gs gl = 0 ∧ 0 ≤ m ∧ m < 2 ^ (rowsOf d gs gl).length ∧ (Gf.stairs d.toNat (pick (rowsOf d gs gl) m.toNat)).length = d.toNat)
end Cd
namespace Go.Proofs.YtdmljilcbndmfaaDoor
open Go.RowKit
theorem addTo_step {n : Nat} {S Ps : List (List UInt8)} {r p : List UInt8} (h : S.length < n) : (addTo S Ps r p).1 = Gf.step n S r := by
  unfold Gf.step
  rw [if_pos h]
  cases ha : Gf.addRow S r with
  | none => rw [addTo_none ha]
  | some t => rw [addTo_some ha]
theorem addTo_parts {S Ps : List (List UInt8)} {r p : List UInt8} {M : Nat} (hq : ∀ q ∈ Ps, q.length ≤ M) (hp : p.length ≤ M) : ∀ q ∈ (addTo S Ps r p).2, q.length ≤ M := by
  cases ha : Gf.addRow S r with
  | none => rw [addTo_none ha]; exact hq
  | some t =>
    rw [addTo_some ha]
    intro q h
    rcases List.mem_append.1 h with h | h
    · exact hq q h
    · simp only [List.mem_singleton] at h
      subst h
      have := redTo_part_le S Ps r p M hq hp S.length
      unfold newPart Gf.scale
      rw [List.length_map]
      exact this
/-- A block of three cells, as one element of three cells. -/
theorem Owns.one3 {w0 w : World} {g e : Nat} {xs : List Value} {L : List LRow} (h : Owns w0 w (⟨.slice (some ⟨g, 0, none⟩) 3 3, e, 1, 3, xs⟩ :: L)) : Owns w0 w (⟨.slice (some ⟨g, 0, none⟩) 1 1, e, 3, 1, xs⟩ :: L) where
  ext := h.ext
  ok i r hr := by
    cases i with
    | zero =>
      simp at hr
      subst hr
      have h0 := h.ok 0 _ rfl
      refine ⟨h0.1, ?_⟩
      rcases h0.2 with ⟨h2, h3⟩ | ⟨g', cap, cur, hv, hB, hh, h1, h2, h3, h4⟩
      · cases h2
      · injection hv with e1 e2 e3
        injection e1 with e1
        injection e1 with e1
        subst e1 e3
        exact .inr ⟨g, 1, cur, rfl, hB, hh, Nat.le_refl 1, by unfold maxLen; omega, by simpa using h3, by simpa using h4⟩
    | succ i => exact h.ok (i + 1) r hr
  far i j a b hij ha hb := by
    cases i with
    | zero =>
      cases j with
      | zero => exact absurd rfl hij
      | succ j =>
        simp at ha
        subst ha
        exact h.far 0 (j + 1) ⟨.slice (some ⟨g, 0, none⟩) 3 3, e, 1, 3, xs⟩ b (by omega) rfl hb
    | succ i =>
      cases j with
      | zero =>
        simp at hb
        subst hb
        exact h.far (i + 1) 0 a ⟨.slice (some ⟨g, 0, none⟩) 3 3, e, 1, 3, xs⟩ (by omega) ha rfl
      | succ j => exact h.far (i + 1) (j + 1) a b hij ha hb
theorem StairsOut.start {w : World} {n : Nat} : StairsOut w (w.alloc (.cells #[.slice none 0 0, .slice none 0 0, .int .i64 n] 133)) w.heap.size [] [] n := by
  refine ⟨none, none, 0, 0, [], rfl, rfl, ?_⟩
  have h1 := (Owns.start w (L := [no, nilRow 28, nilRow 9]) (by intro r hr; simp [no, nilRow] at hr; rcases hr with rfl | rfl | rfl <;> simp)).new 0 #[.slice none 0 0, .slice none 0 0, .int .i64 n] 133 (by simp [maxLen])
  exact h1.one3
/-- `collect` without pieces, in a good case: some rows, and a set of them. -/
theorem cCollect_in (d m : Nat) (rows : List (List UInt8)) (V : Value) (w : World) (hT : Tab w) (hR : Rs (Rs RB) w V rows) (hl : ∀ r ∈ rows, r.length = d) (hd : 0 < d) (hd2 : d ≤ 16) (hn : 0 < rows.length) (hn2 : rows.length ≤ 24) (hm : m < 2 ^ rows.length) :
    Calls Tryd.prog 73 #[V, .int .i64 m, .slice none 0 0] w fun e w' => ∃ p, e = .returned (.pointer p) ∧ (p = none ↔ (Gf.stairs d (Cd.pick rows m)).length ≠ d) ∧ Ext w w' := by
  have HT := Lib.hid hT
  have HR := Lib.hid hR
  have HL := Lib.hid hl
  obtain ⟨A, c, rfl, hl63⟩ := hR.form
  obtain ⟨ad0, u0, rfl, hcell0, hu0⟩ := hR.at hn
  obtain ⟨B0, c0, rfl, _⟩ := hu0.form
  have hd0 := hl _ (List.getElem_mem hn)
  rw [hd0] at hcell0
  have hm24 : m < 16777216 := Nat.lt_of_lt_of_le hm (Nat.pow_le_pow_right (by omega) hn2)
  have hcell0' : w.cell? ad0 = some (.slice B0 d c0) := by rw [← hcell0]; simp [Addr.add]
  have e1 : ((rows.length : Int) == 0) = false := by rw [beq_eq_false_iff_ne]; omega
  have e2 : (wrap64 (2 ^ rows.length) ≤ (m : Int)) = False := by
    rw [wrap_pow _ (by omega)]
    exact eq_false (by omega)
  have e3 : ¬ rows = [] := by intro h; rw [h] at hn; simp at hn
  have hS0 := Lib.hid (StairsOut.start (w := w) (n := d))
  clear hT hR hl hu0 hd0 hcell0
  go_enter Tryd.func73, Tryd.ntmps73
  go_wp2_with fail
  clear hcell0'
  go_loopw [36] (fun vi wr => ∃ (k : Nat) (Ps : List (List UInt8)), k ≤ rows.length ∧ vi = .int .i64 k ∧ Hid (StairsOut w wr w.heap.size (Gf.stairs d (Cd.pickTo rows m k)) Ps d ∧ ∀ q ∈ Ps, q.length ≤ 0)) (fun vi _ => rows.length - (intOf vi).toNat)
  case atStart => exact ⟨0, [], Nat.zero_le _, rfl, hS0.out, by simp⟩
  case round =>
    obtain ⟨k, Ps, hk, rfl, HI⟩ := hrel
    by_cases hlt : k < rows.length
    · have hx := HI.out.1.ext
      obtain ⟨ad, u, ead, hcell, hu⟩ := HR.out.at hlt
      injection ead with ead
      subst ead
      have hrl := HL.out _ (List.getElem_mem hlt)
      obtain ⟨B, cB, rfl, hlB⟩ := hu.form
      have hbd := hu.rd
      rw [hrl] at hcell
      have hgood := Cd.stairs_good (n := d) (L := Cd.pickTo rows m k) (fun r hr => HL.out r (Cd.pickTo_mem hr))
      have hcell' := hx.cell hcell
      have hmm : bits .and .i64 ((m : Int) / 2 ^ k) 1 = ((Cd.bitAt m k : Nat) : Int) := by
        have hle : m / 2 ^ k ≤ m := Nat.div_le_self _ _
        have := odd64 (m / 2 ^ k) (by omega)
        rw [Cd.bitAt, ← this]
        simp
      have hyes := Cd.pickTo_yes (m := m) hlt
      obtain ⟨r, hr⟩ : ∃ r, rows[k] = r := ⟨_, rfl⟩
      rw [hr] at hyes hrl hbd
      obtain ⟨S, hS⟩ : ∃ S, Gf.stairs d (Cd.pickTo rows m k) = S := ⟨_, rfl⟩
      have HSS := Lib.hid hS
      have hO := HI.out.1
      rw [hS] at hO hgood
      obtain ⟨X, Y, cX, cY, b0, b1, b2, _, _, _⟩ := hO.look
      have HO := Lib.hid hO
      have HGG := Lib.hid hgood
      have hsl : S.length ≤ d := hgood.2
      have HY := Lib.hid hyes
      have HB := Lib.hid hbd
      clear hgood hO hyes hcell hu hbd hr hS
      by_cases hb : Cd.bitAt m k = 1
      · rw [hb] at hmm
        by_cases hlS : S.length < d
        · go_wp2_with fail
          go_quiet (fail)
          go_wp2_with fail
          obtain ⟨bd, rfl, _, _⟩ := HB.out.at (k := 0) (by simp; omega)
          rw [← hrl]
          refine (cAdd_any w _ w.heap.size S Ps r [] bd cB HT.out (HB.out.ext (HO.out.ext.drewN nq)) (by omega) (by omega) (by rw [hrl]; exact HO.out.next ((Ext.refl wr).drewN nq)) (by rw [hrl]; exact HGG.out.1) (by omega) (fun q hq => Nat.le_trans (HI.out.2 q hq) (by omega)) (by simp)).mono ?_
          rintro e w2 ⟨rfl, ho⟩
          rw [hrl]
          rw [hrl, addTo_step hlS, ← HSS.out, ← Cd.stairs_snoc, ← HY.out hb] at ho
          have HO2 := Lib.hid ho
          clear ho
          go_wp2_with fail
          go_roundw
          case rel => exact ⟨k + 1, _, by omega, by go_num, HO2.out, addTo_parts HI.out.2 (by simp)⟩
          case measure => simp [intOf]; omega
        · have hst : Gf.stairs d (Cd.pickTo rows m (k + 1)) = S := by
            rw [HY.out hb, Cd.stairs_snoc, HSS.out, Gf.step, if_neg hlS]
          have HST := Lib.hid hst
          clear hst
          go_wp2_with fail
          go_quiet (fail)
          go_wp2_with fail
          go_roundw
          case rel => exact ⟨k + 1, Ps, by omega, by go_num, by rw [HST.out]; exact HO.out.next ((Ext.refl wr).drewN nq), HI.out.2⟩
          case measure => simp [intOf]; omega
      · have hst : Gf.stairs d (Cd.pickTo rows m (k + 1)) = S := by
          rw [Cd.pickTo_no hb, HSS.out]
        have HST := Lib.hid hst
        have eb : (((Cd.bitAt m k : Nat) : Int) == 1) = false := by rw [beq_eq_false_iff_ne]; omega
        clear hst
        go_wp2_with fail
        go_quiet (fail)
        go_wp2_with fail
        go_roundw
        case rel => exact ⟨k + 1, Ps, by omega, by go_num, by rw [HST.out]; exact HO.out.next ((Ext.refl wr).drewN nq), HI.out.2⟩
        case measure => simp [intOf]; omega
    · obtain rfl : k = rows.length := by omega
      have hO := HI.out.1
      have hpk : Cd.pickTo rows m rows.length = Cd.pick rows m := rfl
      rw [hpk] at hO
      obtain ⟨S, hS⟩ : ∃ S, Gf.stairs d (Cd.pick rows m) = S := ⟨_, rfl⟩
      rw [hS] at hO
      have hgood := Cd.stairs_good (n := d) (L := Cd.pick rows m) (fun r hr => HL.out r (Cd.pickTo_mem hr))
      rw [hS] at hgood
      have hsl : S.length ≤ d := hgood.2
      obtain ⟨X, Y, cX, cY, b0, b1, b2, _, _, _⟩ := hO.look
      have HO := Lib.hid hO
      have HS := Lib.hid hS
      clear hO hS hgood hpk
      by_cases hlS : S.length < d
      · go_wp2_with fail
        go_quiet (fail)
        go_wp2_with fail
        go_ret
        exact ⟨none, rfl, by rw [HS.out]; simp; omega, HO.out.ext.drewN nq⟩
      · go_wp2_with fail
        go_quiet (fail)
        go_wp2_with fail
        go_ret
        exact ⟨_, rfl, by rw [HS.out]; simp; omega, HO.out.ext.drewN nq⟩
/-- No rows: nothing can be made again. -/
theorem cCollect_no (m : Int) (w : World) (B : Option Addr) (c : Nat) : Calls Tryd.prog 73 #[.slice B 0 c, .int .i64 m, .slice none 0 0] w fun e w' => e = .returned (.pointer none) ∧ Ext w w' := by
  go_enter Tryd.func73, Tryd.ntmps73
  go_wp2_with fail
  go_ret
  exact ⟨rfl, Ext.refl _⟩
theorem cCollect_neg (m : Int) (n : Nat) (w : World) (B : Option Addr) (c : Nat) (hn : 0 < n) (hm : m < 0) : Calls Tryd.prog 73 #[.slice B n c, .int .i64 m, .slice none 0 0] w fun e w' => e = .returned (.pointer none) ∧ Ext w w' := by
  have e1 : ((n : Int) == 0) = false := by rw [beq_eq_false_iff_ne]; omega
  go_enter Tryd.func73, Tryd.ntmps73
  go_wp2_with fail
  go_ret
  exact ⟨rfl, Ext.refl _⟩
theorem cCollect_big (m : Int) (n : Nat) (w : World) (B : Option Addr) (c : Nat) (hn : 0 < n) (hn2 : n < 62) (h0 : 0 ≤ m) (hm : ((2 ^ n : Nat) : Int) ≤ m) : Calls Tryd.prog 73 #[.slice B n c, .int .i64 m, .slice none 0 0] w fun e w' => e = .returned (.pointer none) ∧ Ext w w' := by
  have e1 : ((n : Int) == 0) = false := by rw [beq_eq_false_iff_ne]; omega
  have e2 : (wrap64 (2 ^ n) ≤ m) = True := by
    rw [wrap_pow _ hn2]
    exact eq_true hm
  clear hm
  go_enter Tryd.func73, Tryd.ntmps73
  go_wp2_with fail
  go_ret
  exact ⟨rfl, Ext.refl _⟩
/-- `Recoverable`: true exactly if the rows of the set make stairs as wide as the code has data pieces. -/
theorem cRec_any (d gl m : Int) (gs : List (List Int)) (G : Value) (w : World) (hT : Tab w) (hG : Rs (Rs RI) w G gs) :
    Calls Tryd.prog 34 #[.agg #[.int .i64 d, G, .int .i64 gl], .int .i64 m] w fun e w' => e = .returned (.bool (Cd.can d gl gs m)) ∧ Ext w w' := by
  have hx0 := (Ext.refl w).alloc (.cells #[.int .i64 d, G, .int .i64 gl] 24)
  have HX := Lib.hid (And.intro hx0 (Rs.ext (Rs.ext RI.ext) _ _ _ _ hx0 hG))
  have HT := Lib.hid (hT.ext hx0)
  obtain ⟨A, c, rfl, hl⟩ := hG.form
  clear hG hx0 hT
  go_enter Tryd.func34, Tryd.ntmps34
  go_wp2_with fail
  refine (cRows_any d gl gs _ _ HT.out HX.out.2).mono ?_
  rintro e w1 ⟨v, rfl, hv, hx1⟩
  have HX1 := Lib.hid (HX.out.1.trans hx1)
  have HT1 := Lib.hid (HT.out.ext hx1)
  have HV := Lib.hid hv
  obtain ⟨B, cB, rfl, _⟩ := hv.form
  clear hx1 hv
  go_wp2_with fail
  by_cases h0 : Cd.check d gs gl = 0
  · have hk := Cd.check_ok h0
    have hr := Cd.rowsOf_ok h0
    have hlen := Cd.rows_len d.toNat gs gl.toNat
    have hwd : ∀ r ∈ Cd.rowsOf d gs gl, r.length = d.toNat := fun r h => Cd.rows_width (by rw [← hr]; exact h)
    rw [← hr] at hlen
    clear hr
    obtain ⟨R, hR⟩ : ∃ R, Cd.rowsOf d gs gl = R := ⟨_, rfl⟩
    have hcan : Cd.can d gl gs m = decide (0 ≤ m ∧ m < 2 ^ R.length ∧ (Gf.stairs d.toNat (Cd.pick R m.toNat)).length = d.toNat) := by
      unfold Cd.can
      rw [hR]
      simp only [h0, true_and]
    have HC := Lib.hid hcan
    rw [hR] at hlen hwd
    rw [hR]
    have hv := HV.out
    rw [hR] at hv
    have HV2 := Lib.hid hv
    have HWD := Lib.hid hwd
    clear hcan hwd hv
    by_cases hm0 : m < 0
    · refine (cCollect_neg m _ _ _ _ (by omega) hm0).mono ?_
      rintro e w2 ⟨rfl, hx2⟩
      go_wp2_with fail
      go_ret
      exact ⟨ret_bool (by rw [HC.out]; simp; omega), HX1.out.trans hx2⟩
    · obtain ⟨k, rfl⟩ : ∃ k : Nat, m = k := ⟨m.toNat, by omega⟩
      by_cases hm : k < 2 ^ R.length
      · refine (cCollect_in d.toNat k R _ _ HT1.out HV2.out HWD.out (by omega) (by omega) (by omega) (by omega) hm).mono ?_
        rintro e w2 ⟨p, rfl, hp, hx2⟩
        have hpb : Cd.can d gl gs (k : Int) = p.isSome := by
          rw [HC.out, Int.toNat_natCast]
          have hk2 : (k : Int) < 2 ^ R.length := by rw [nat_pow_cast]; omega
          cases p with
          | none =>
            have h1 := hp.1 rfl
            simp only [Option.isSome_none, decide_eq_false_iff_not]
            rintro ⟨_, _, h2⟩
            exact h1 h2
          | some q =>
            have h1 : (Gf.stairs d.toNat (Cd.pick R k)).length = d.toNat := Classical.byContradiction fun h => by cases hp.2 h
            simp only [Option.isSome_some, decide_eq_true_eq]
            exact ⟨by omega, hk2, h1⟩
        have HPB := Lib.hid hpb
        clear hpb hp
        go_wp2_with fail
        go_ret
        refine ⟨ret_bool ?_, HX1.out.trans hx2⟩
        rw [HPB.out]
        try (cases p <;> rfl)
      · refine (cCollect_big (k : Int) _ _ _ _ (by omega) (by omega) (by omega) (by omega)).mono ?_
        rintro e w2 ⟨rfl, hx2⟩
        go_wp2_with fail
        go_ret
        refine ⟨ret_bool ?_, HX1.out.trans hx2⟩
        rw [HC.out, nat_pow_cast]
        symm
        rw [decide_eq_false_iff_not]
        try omega
  · have hr := Cd.rowsOf_no h0
    rw [hr]
    have hcan : Cd.can d gl gs m = false := by
      unfold Cd.can
      simp [h0]
    have HC := Lib.hid hcan
    clear hcan hr h0
    refine (cCollect_no m _ _ _).mono ?_
    rintro e w2 ⟨rfl, hx2⟩
    go_wp2_with fail
    go_ret
    exact ⟨ret_bool HC.out.symm, HX1.out.trans hx2⟩
end Go.Proofs.YtdmljilcbndmfaaDoor
