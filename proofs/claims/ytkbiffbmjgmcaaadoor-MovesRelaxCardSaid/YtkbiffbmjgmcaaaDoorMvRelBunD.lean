/- What the program's functions do, step by step: part D of the texts for this claim; no condition beyond what each theorem states. -/
import Derived.StillTailTactics
import Derived.Deep.Matrix
import Derived.Lib.SmallJoins
import Derived.Deep.Slices
import Derived.Test.YtkbiffbmjgmcaaaDoorMvRelBunA
import Derived.Test.YtkbiffbmjgmcaaaDoorMvRelBunB
import Derived.Test.YtkbiffbmjgmcaaaDoorMvRelBunC
/- THE STATE OF THE SEARCH of package moves: what its closure reads and writes, and how it turns. -/
namespace Go.Proofs.YtkbiffbmjgmcaaaDoor
open Go.RowKit
open Go.Maps (Keyed)
open Go.WideMaps Go.ChangeMaps Go.MapKept Go.WideShapes
theorem ownsMap_obj {w : World} {H : Type} {P : Program} {k : TypeId} {R : Value → Option (DataW H × List MemPlace)} {b n : Nat} {D : DataW H} (h : w.ownsMap P k R b n D) : ∃ es clock, w.heap[b]? = some (.map es clock) := by
  obtain ⟨es, clock, hb, _⟩ := h
  exact ⟨es, clock, hb⟩
theorem row_not_map {w0 w : World} {r : LRow} (h : r.ok w0 w) {b : Nat} (hm : ∃ es clock, w.heap[b]? = some (.map es clock)) : r.v.ownBlock ≠ some b := by
  obtain ⟨es, clock, hb⟩ := hm
  rcases h.2 with ⟨h2, _⟩ | ⟨g, cap, cur, hv, _, hg, _⟩
  · rw [h2]; intro e; cases e
  · rw [hv]
    intro e
    injection e with e
    have e2 : g = b := e
    subst e2
    rw [hb] at hg
    cases hg
/-- A map that turns leaves all rows. -/
theorem Owns.keepMap {w0 w w' : World} {L : List LRow} (h : Owns w0 w L) {b : Nat} (hm : ∃ es clock, w.heap[b]? = some (.map es clock)) (hg : w.grownBy w' (some b)) (hb : w0.heap.size ≤ b) : Owns w0 w' L where
  ext := h.ext.grown hg (fun k e => by injection e with e; omega)
  ok i r hr := by
    have h1 := h.ok i r hr
    have hn := row_not_map h1 hm
    refine ⟨h1.1, ?_⟩
    rcases h1.2 with h2 | ⟨g, cap, cur, hv, hB, hh, rest⟩
    · exact .inl h2
    · refine .inr ⟨g, cap, cur, hv, hB, ?_, rest⟩
      refine (hg.block g (lt_of_block hh) ?_).trans hh
      intro e
      rw [hv] at hn
      exact hn (by rw [← e]; rfl)
  far := h.far
theorem map_setCell {w : World} {b : Nat} {p : Addr} {u : Value} (h : p.block ≠ b) : (w.setCell p u).heap[b]? = w.heap[b]? := Below.heap_setCell _ _ _ _ (Ne.symm h)
/-- The rows of a search: the phases, the variables that hold them, the steps so far, both maps, the closure. -/
def psRows (n gN cN g9 g10 g11 g12 g13 bK bL : Nat) (fv : Value) (now : List Int) (out : List Nat) (A : Option Addr) (c : Nat) : List LRow :=
  [⟨.slice (some ⟨gN, 0, none⟩) n cN, 3, 1, n, now.map (.int .i64)⟩, ⟨.slice (some ⟨g10, 0, none⟩) 1 1, 22, 1, 1, [.slice (some ⟨gN, 0, none⟩) n cN]⟩, ⟨.slice (some ⟨g12, 0, none⟩) 1 1, 22, 1, 1, [.slice A out.length c]⟩, lrow A c out,
   ⟨.slice (some ⟨g11, 0, none⟩) 1 1, 61, 1, 1, [.map (some bL)]⟩, ⟨.slice (some ⟨g9, 0, none⟩) 1 1, 58, 1, 1, [.map (some bK)]⟩, ⟨.slice (some ⟨g13, 0, none⟩) 1 1, 32, 1, 1, [fv]⟩]
structure PS (W0 : World) (P : List Int → Prop) (s : Mv.Sh) (n gN cN g9 g10 g11 g12 g13 bK bL : Nat) (fv : Value) (X : List LRow) (w : World) (now : List Int) (out : List Nat) (U : List (List Int)) (A : Option Addr) (c : Nat) : Prop where
  own : Owns W0 w (psRows n gN cN g9 g10 g11 g12 g13 bK bL fv now out A c ++ X)
  known : Known s w bK
  lost : Lost n P w bL U
  bk : W0.heap.size ≤ bK
  bl : W0.heap.size ≤ bL
  ne : bK ≠ bL
section
variable {W0 w w' : World} {P : List Int → Prop} {s : Mv.Sh} {n gN cN g9 g10 g11 g12 g13 bK bL : Nat} {fv : Value} {X : List LRow} {now : List Int} {out : List Nat} {U : List (List Int)} {A : Option Addr} {c : Nat}
theorem Known.obj {b : Nat} (h : Known s w b) : ∃ es clock, w.heap[b]? = some (.map es clock) := by
  obtain ⟨nx, D, h1, _⟩ := h
  exact ownsMap_obj h1
theorem Lost.obj {b : Nat} (h : Lost n P w b U) : ∃ es clock, w.heap[b]? = some (.map es clock) := by
  obtain ⟨⟨D, h1, _⟩, _⟩ := h
  exact ownsMap_obj h1
theorem PS.next (h : PS W0 P s n gN cN g9 g10 g11 g12 g13 bK bL fv X w now out U A c) (hx : Ext w w') : PS W0 P s n gN cN g9 g10 g11 g12 g13 bK bL fv X w' now out U A c :=
  ⟨h.own.next hx, h.known.ext hx, h.lost.same (Below.block hx _ h.lost.lt), h.bk, h.bl, h.ne⟩
/-- What is known has grown. -/
theorem PS.safe (h : PS W0 P s n gN cN g9 g10 g11 g12 g13 bK bL fv X w now out U A c) (hg : w.grownBy w' (some bK)) (hk : Known s w' bK) : PS W0 P s n gN cN g9 g10 g11 g12 g13 bK bL fv X w' now out U A c :=
  ⟨h.own.keepMap h.known.obj hg h.bk, hk, h.lost.same (hg.block _ h.lost.lt (fun e => by injection e with e; exact h.ne e.symm)), h.bk, h.bl, h.ne⟩
/-- More is lost. -/
theorem PS.lose (h : PS W0 P s n gN cN g9 g10 g11 g12 g13 bK bL fv X w now out U A c) (hg : w.grownBy w' (some bL)) {U' : List (List Int)} (hk : Lost n P w' bL U') : PS W0 P s n gN cN g9 g10 g11 g12 g13 bK bL fv X w' now out U' A c :=
  ⟨h.own.keepMap h.lost.obj hg h.bl, h.known.same (hg.block _ h.known.lt (fun e => by injection e with e; exact h.ne e)), hk, h.bk, h.bl, h.ne⟩
theorem PS.apart (h : PS W0 P s n gN cN g9 g10 g11 g12 g13 bK bL fv X w now out U A c) (i : Nat) {g m e cc : Nat} {xs : List Value} (hi : (psRows n gN cN g9 g10 g11 g12 g13 bK bL fv now out A c ++ X)[i]? = some ⟨.slice (some ⟨g, 0, none⟩) m cc, e, 1, m, xs⟩) : g ≠ bK ∧ g ≠ bL := by
  have h1 := row_not_map (h.own.ok i _ hi) h.known.obj
  have h2 := row_not_map (h.own.ok i _ hi) h.lost.obj
  exact ⟨fun e => h1 (by rw [← e]; rfl), fun e => h2 (by rw [← e]; rfl)⟩
/-- One of the phases turns. -/
theorem PS.setNow (h : PS W0 P s n gN cN g9 g10 g11 g12 g13 bK bL fv X w now out U A c) (k : Nat) (x : Int) : PS W0 P s n gN cN g9 g10 g11 g12 g13 bK bL fv X (w.setCell ⟨gN, k, none⟩ (.int .i64 x)) (now.set k x) out U A c := by
  obtain ⟨h1, h2⟩ := h.apart 0 rfl
  refine ⟨?_, h.known.same (map_setCell h1), h.lost.same (map_setCell h2), h.bk, h.bl, h.ne⟩
  have := h.own.store 0 rfl k (.int .i64 x)
  unfold psRows
  rw [List.map_set]
  exact this
theorem PS.cellNow (h : PS W0 P s n gN cN g9 g10 g11 g12 g13 bK bL fv X w now out U A c) {k : Nat} {p : Int} (hk : now[k]? = some p) : w.cell? ⟨gN, k, none⟩ = some (.int .i64 p) := h.own.cell 0 rfl k (by rw [List.getElem?_map, hk]; rfl)
theorem PS.frozenNow (h : PS W0 P s n gN cN g9 g10 g11 g12 g13 bK bL fv X w now out U A c) (k : Nat) : w.frozen? ⟨gN, k, none⟩ = false := h.own.frozen 0 rfl k
theorem PS.c10 (h : PS W0 P s n gN cN g9 g10 g11 g12 g13 bK bL fv X w now out U A c) : w.cell? ⟨g10, 0, none⟩ = some (.slice (some ⟨gN, 0, none⟩) n cN) := h.own.cell 1 rfl 0 rfl
theorem PS.c12 (h : PS W0 P s n gN cN g9 g10 g11 g12 g13 bK bL fv X w now out U A c) : w.cell? ⟨g12, 0, none⟩ = some (.slice A out.length c) := h.own.cell 2 rfl 0 rfl
theorem PS.f12 (h : PS W0 P s n gN cN g9 g10 g11 g12 g13 bK bL fv X w now out U A c) : w.frozen? ⟨g12, 0, none⟩ = false := h.own.frozen 2 rfl 0
theorem PS.c11 (h : PS W0 P s n gN cN g9 g10 g11 g12 g13 bK bL fv X w now out U A c) : w.cell? ⟨g11, 0, none⟩ = some (.map (some bL)) := h.own.cell 4 rfl 0 rfl
theorem PS.c9 (h : PS W0 P s n gN cN g9 g10 g11 g12 g13 bK bL fv X w now out U A c) : w.cell? ⟨g9, 0, none⟩ = some (.map (some bK)) := h.own.cell 5 rfl 0 rfl
theorem PS.c13 (h : PS W0 P s n gN cN g9 g10 g11 g12 g13 bK bL fv X w now out U A c) : w.cell? ⟨g13, 0, none⟩ = some fv := h.own.cell 6 rfl 0 rfl
/-- The phases, read. -/
theorem PS.rdNow (h : PS W0 P s n gN cN g9 g10 g11 g12 g13 bK bL fv X w now out U A c) (hn : now.length = n) (hl : n ≤ 1000) (hb : small now) : Rs RI w (.slice (some ⟨gN, 0, none⟩) n cN) now := Rs.small (h.own.rd 0 rfl) hn.symm (by omega) hb
/-- A step more. -/
theorem PS.more {w1 w2 : World} (h : PS W0 P s n gN cN g9 g10 g11 g12 g13 bK bL fv X w1 now out U A c) {g cap k : Nat} {T : List LRow}
    (hO : Owns W0 w2 ((psRows n gN cN g9 g10 g11 g12 g13 bK bL fv now out A c ++ X ++ T).set 3 ⟨.slice (some ⟨g, 0, none⟩) (out.length + 1) cap, 3, 1, out.length + 1, (Mv.ints out).map (.int .i64) ++ [.int .i64 (k : Nat)]⟩)) (hg : w1.grownBy w2 (Value.slice A out.length c).ownBlock) :
    PS W0 P s n gN cN g9 g10 g11 g12 g13 bK bL fv X (w2.setCell ⟨g12, 0, none⟩ (.slice (some ⟨g, 0, none⟩) (out.length + 1) cap)) now (out ++ [k]) U (some ⟨g, 0, none⟩) cap := by
  have hn1 := row_not_map (h.own.ok 3 (lrow A c out) rfl) h.known.obj
  have hn2 := row_not_map (h.own.ok 3 (lrow A c out) rfl) h.lost.obj
  obtain ⟨h1, h2⟩ := h.apart 2 rfl
  have hK := h.known.same (hg.block _ h.known.lt (Ne.symm hn1))
  have hL := h.lost.same (hg.block _ h.lost.lt (Ne.symm hn2))
  refine ⟨?_, hK.same (map_setCell h1), hL.same (map_setCell h2), h.bk, h.bl, h.ne⟩
  have h3 := hO.store 2 rfl 0 (.slice (some ⟨g, 0, none⟩) (out.length + 1) cap)
  unfold psRows lrow
  rw [Mv.ints_snoc, List.map_append, List.length_append]
  exact Owns.front (M := T) h3
theorem row_shrink {w : World} {B e g m c : Nat} {xs : List Value} {x : Value} (h : w.ownsRow B e 1 (.slice (some ⟨g, 0, none⟩) (m + 1) c) (m + 1) (xs ++ [x])) : w.ownsRow B e 1 (.slice (some ⟨g, 0, none⟩) m c) m xs := by
  have hl := h.1
  rcases h.2 with ⟨h2, _⟩ | ⟨g', cap, cur, hv, hB, hh, h3, h4, h5, h6⟩
  · cases h2
  · injection hv with e1 e2 e3
    injection e1 with e1
    injection e1 with e1 _ _
    subst e1
    subst e3
    have hxl : xs.length = m := by rw [List.length_append] at hl; simp at hl; omega
    refine ⟨by omega, .inr ⟨g, c, cur, rfl, hB, hh, by omega, h4, h5, ?_⟩⟩
    have h7 : (cur.toList.take ((m + 1) * 1)).take m = (xs ++ [x]).take m := by rw [h6]
    rw [List.take_take, show min m ((m + 1) * 1) = m by omega] at h7
    rw [Nat.mul_one, h7, List.take_append_of_le_length (by omega), List.take_of_length_le (by omega)]
/-- The steps so far lie in a block, if there are any. -/
theorem PS.form {k : Nat} (h : PS W0 P s n gN cN g9 g10 g11 g12 g13 bK bL fv X w now (out ++ [k]) U A c) : ∃ g, A = some ⟨g, 0, none⟩ ∧ out.length + 1 ≤ c ∧ c ≤ maxLen := by
  have h1 := (h.own.ok 3 (lrow A c (out ++ [k])) rfl).2
  rcases h1 with ⟨_, h2⟩ | ⟨g, cap, cur, hv, _, _, h3, h4, _⟩
  · exfalso
    have h2' : (out ++ [k]).length = 0 := h2
    simp at h2'
  · have hv' : Value.slice A (out ++ [k]).length c = .slice (some ⟨g, 0, none⟩) (out ++ [k]).length cap := hv
    injection hv' with e1 e2 e3
    have h3' : (out ++ [k]).length ≤ cap := h3
    rw [List.length_append] at h3'
    simp at h3'
    exact ⟨g, e1, by omega, by omega⟩
/-- A step less. -/
theorem PS.less {g k : Nat} (h : PS W0 P s n gN cN g9 g10 g11 g12 g13 bK bL fv X w now (out ++ [k]) U (some ⟨g, 0, none⟩) c) : PS W0 P s n gN cN g9 g10 g11 g12 g13 bK bL fv X (w.setCell ⟨g12, 0, none⟩ (.slice (some ⟨g, 0, none⟩) out.length c)) now out U (some ⟨g, 0, none⟩) c := by
  obtain ⟨h1, h2⟩ := h.apart 2 rfl
  refine ⟨?_, h.known.same (map_setCell h1), h.lost.same (map_setCell h2), h.bk, h.bl, h.ne⟩
  have h3 := h.own.ok 3 (lrow (some ⟨g, 0, none⟩) c (out ++ [k])) rfl
  have h4 : w.ownsRow W0.heap.size 3 1 (.slice (some ⟨g, 0, none⟩) (out.length + 1) c) (out.length + 1) ((Mv.ints out).map (.int .i64) ++ [.int .i64 (k : Nat)]) := by
    unfold LRow.ok lrow at h3
    rw [Mv.ints_snoc, List.map_append, List.length_append] at h3
    exact h3
  have h5 := h.own.put 3 (lrow (some ⟨g, 0, none⟩) c out) h.own.ext (row_shrink h4) (fun _ _ _ _ _ _ => rfl) (fun j r hj hr => by
    have := h.own.far 3 j (lrow (some ⟨g, 0, none⟩) c (out ++ [k])) r (Ne.symm hj) rfl hr
    exact this)
  exact h5.store 2 rfl 0 (.slice (some ⟨g, 0, none⟩) out.length c)
/-- A key. -/
def keyRow (gk : Nat) (l : List Int) : LRow := ⟨.slice (some ⟨gk, 0, none⟩) 24 24, 63, 1, 24, l.map (.int .i8)⟩
theorem PS.push (h : PS W0 P s n gN cN g9 g10 g11 g12 g13 bK bL fv X w now out U A c) {cs : Array Value} {l : List Int} (hc : cs.toList = l.map (.int .i8)) (hl : cs.size = 24) : PS W0 P s n gN cN g9 g10 g11 g12 g13 bK bL fv (keyRow w.heap.size l :: X) (w.alloc (.cells cs 63)) now out U A c := by
  have hn := h.next ((Ext.refl w).alloc (.cells cs 63))
  refine ⟨?_, hn.known, hn.lost, h.bk, h.bl, h.ne⟩
  have h1 := h.own.wider.new (psRows n gN cN g9 g10 g11 g12 g13 bK bL fv now out A c ++ X).length cs 63 (by rw [hl]; decide)
  rw [hl, hc] at h1
  have e : ∀ (L : List LRow) (r : LRow), (L ++ [no]).set L.length r = L ++ [r] := fun L r => by
    rw [List.set_append_right _ _ (Nat.le_refl _)]; simp
  rw [e] at h1
  refine h1.perm ?_
  rw [List.append_assoc]
  exact (List.perm_append_comm).append_left _
theorem PS.pop {r : LRow} (h : PS W0 P s n gN cN g9 g10 g11 g12 g13 bK bL fv (r :: X) w now out U A c) : PS W0 P s n gN cN g9 g10 g11 g12 g13 bK bL fv X w now out U A c :=
  ⟨h.own.sublist (List.Sublist.append_left (List.sublist_cons_self _ _) _), h.known, h.lost, h.bk, h.bl, h.ne⟩
theorem PS.setKey {gk : Nat} {l : List Int} (h : PS W0 P s n gN cN g9 g10 g11 g12 g13 bK bL fv (keyRow gk l :: X) w now out U A c) (k : Nat) (x : Int) : PS W0 P s n gN cN g9 g10 g11 g12 g13 bK bL fv (keyRow gk (l.set k x) :: X) (w.setCell ⟨gk, k, none⟩ (.int .i8 x)) now out U A c := by
  obtain ⟨h1, h2⟩ := h.apart 7 rfl
  refine ⟨?_, h.known.same (map_setCell h1), h.lost.same (map_setCell h2), h.bk, h.bl, h.ne⟩
  have := h.own.store 7 rfl k (.int .i8 x)
  unfold keyRow
  rw [List.map_set]
  exact this
theorem PS.key {gk : Nat} {l : List Int} (h : PS W0 P s n gN cN g9 g10 g11 g12 g13 bK bL fv (keyRow gk l :: X) w now out U A c) {k : Nat} {x : Int} (hk : l[k]? = some x) : w.cell? ⟨gk, k, none⟩ = some (.int .i8 x) := h.own.cell 7 rfl k (by rw [List.getElem?_map, hk]; rfl)
theorem PS.keyFrozen {gk : Nat} {l : List Int} (h : PS W0 P s n gN cN g9 g10 g11 g12 g13 bK bL fv (keyRow gk l :: X) w now out U A c) (k : Nat) : w.frozen? ⟨gk, k, none⟩ = false := h.own.frozen 7 rfl k
set_option maxRecDepth 100000 in
theorem aggK_of {cur : Array Value} {l : List Int} {K : Nat → Int} (hc : cur.toList = l.map (.int .i8)) (hl : l = (List.range 24).map K) : Value.agg cur = aggK K := by
  unfold aggK
  congr 1
  apply Array.ext'
  rw [hc, hl]
  rfl
/-- The key is read whole. -/
theorem PS.loadKey {gk : Nat} {l : List Int} {K : Nat → Int} (h : PS W0 P s n gN cN g9 g10 g11 g12 g13 bK bL fv (keyRow gk l :: X) w now out U A c) (hl : l = (List.range 24).map K)
    {ops : Array Oper} {rest : List Oper} {o : Oper} {a : Act} {Q : Exit → Act → World → Prop} (hgd : o.guard = none) (x : Operand) (ho : o.op = .load 63 x) (hx : a.eval x = .pointer (some ⟨gk, 0, none⟩))
    (hK : wpList Tryd.prog ops Q rest (a.put o.dst (aggK K)) w) : wpList Tryd.prog ops Q (o :: rest) a w := by
  have h1 := (h.own.ok 7 (keyRow gk l) rfl).2
  rcases h1 with ⟨h2, _⟩ | ⟨g, cap, cur, hv, _, hg, h3, h4, h5, h6⟩
  · cases h2
  · injection hv with e1 e2 e3
    injection e1 with e1
    injection e1 with e1 _ _
    subst e1
    subst e3
    have hc : cur.toList = l.map (.int .i8) := by
      rw [List.take_of_length_le (by rw [Array.length_toList, h5]; exact Nat.le_refl _)] at h6
      exact h6
    refine wpList_load_row hgd 63 x ho gk hx _ cur (0, 0) _ hg Tryd.underlying63 rfl ?_ ?_
    · rw [h5]; kernel_rfl
    · rw [aggK_of hc hl]; exact hK
end
end Go.Proofs.YtkbiffbmjgmcaaaDoor

/- THE WALK over the closure of Plan of package moves. -/
namespace Mv
/-- The first k of some phases, as a key. -/
def keyTo (now : List Int) (k : Nat) : List Int := (List.range 24).map fun i => if i < k then now.getD i 0 else 0
theorem keyTo_len (now : List Int) (k : Nat) : (keyTo now k).length = 24 := by simp [keyTo]
theorem keyTo_zero (now : List Int) : keyTo now 0 = List.replicate 24 0 := rfl
theorem keyTo_at {now : List Int} {k i : Nat} (hi : i < 24) : (keyTo now k)[i]? = some (if i < k then now.getD i 0 else 0) := by
  unfold keyTo
  rw [List.getElem?_map, List.getElem?_range hi]; rfl
theorem keyTo_succ {now : List Int} {k : Nat} : keyTo now (k + 1) = (keyTo now k).set k (now.getD k 0) := by
  apply List.ext_getElem?
  intro i
  by_cases hi : i < 24
  · rw [keyTo_at hi, List.getElem?_set]
    by_cases e : k = i
    · subst e
      rw [if_pos (by omega), if_pos rfl, if_pos (by rw [keyTo_len]; exact hi)]
    · rw [if_neg e, keyTo_at hi]
      by_cases h : i < k
      · rw [if_pos h, if_pos (by omega)]
      · rw [if_neg h, if_neg (by omega)]
  · rw [List.getElem?_eq_none (by rw [keyTo_len]; omega), List.getElem?_eq_none (by rw [List.length_set, keyTo_len]; omega)]
theorem keyTo_all {now : List Int} {n : Nat} (hn : now.length = n) : keyTo now n = (List.range 24).map (pad now) := by
  unfold keyTo
  apply List.map_congr_left
  intro i _
  split
  · rfl
  · unfold pad
    rw [List.getD_eq_getElem?_getD, List.getElem?_eq_none (by omega)]
    rfl
theorem keyTo_get {now : List Int} {k i : Nat} (hi : i < 24) : ∃ x, (keyTo now k)[i]? = some x := ⟨_, List.getElem?_eq_getElem (by rw [keyTo_len]; exact hi)⟩
theorem step_back {now : List Int} {k : Nat} (hk : k < now.length) {p : Int} (hp : now.getD k 0 = p) : (step now k).set k p = now := by
  unfold step
  rw [List.set_set]
  apply List.ext_getElem
  · simp
  · intro i h1 h2
    rw [List.getElem_set]
    by_cases e : k = i
    · subst e
      rw [if_pos rfl, ← hp, List.getD_eq_getElem?_getD, List.getElem?_eq_getElem hk]; rfl
    · rw [if_neg e]
end Mv
namespace Go.Proofs.YtkbiffbmjgmcaaaDoor
open Go.RowKit
open Go.Maps (Keyed)
open Go.WideMaps Go.ChangeMaps Go.MapKept Go.WideShapes
theorem enters43 : ∀ args w, (callFunc 43 args).run Tryd.prog w = .ok (.enter 43 args) w := enters_of Tryd.func43 (by kernel_rfl) rfl
theorem add0 (g k : Nat) : (⟨g, 0, none⟩ : Addr).add k = ⟨g, k, none⟩ := by unfold Addr.add; split <;> simp_all
/-- What stood before the search, and stays. -/
structure PE (W0 : World) (s : Mv.Sh) (n B g7 gE cE : Nat) (DA KA HA GA RA FA TA : Option Addr) (cD cK cH cG cR cF cT : Nat) : Prop where
  tab : Tab W0
  ok : Mv.Ok s
  len : s.src.length = n
  box : BoxAt W0 B s DA KA HA GA RA FA TA cD cK cH cG cR cF cT
  sh : ShAt W0 s DA KA HA GA RA FA TA cD cK cH cG cR cF cT
  c7 : W0.cell? ⟨g7, 0, none⟩ = some (.slice (some ⟨gE, 0, none⟩) n cE)
  rdE : Rs RI W0 (.slice (some ⟨gE, 0, none⟩) n cE) (Mv.theEnd s)
/-- What the closure returns. -/
def PlOut (W0 : World) (P : List Int → Prop) (s : Mv.Sh) (n gN cN g9 g10 g11 g12 g13 bK bL : Nat) (fv : Value) (X : List LRow) (now : List Int) (out : List Nat) (U : List (List Int)) (pl : Option (List Nat)) (e : Ending) (w' : World) : Prop :=
  ∃ U' A' c', (∀ x ∈ U', x ∈ U ∨ Mv.rest (Mv.theEnd s) x ≤ Mv.rest (Mv.theEnd s) now) ∧
    ((∃ l, pl = some l ∧ e = .returned (.bool true) ∧ PS W0 P s n gN cN g9 g10 g11 g12 g13 bK bL fv X w' (Mv.theEnd s) (out ++ l) U' A' c') ∨ (pl = none ∧ e = .returned (.bool false) ∧ PS W0 P s n gN cN g9 g10 g11 g12 g13 bK bL fv X w' now out U' A' c'))
set_option maxHeartbeats 16000000 in
set_option maxRecDepth 100000 in
theorem plan1_any (W0 : World) (s : Mv.Sh) (n B g7 gE cE gN cN g9 g10 g11 g12 g13 bK bL : Nat) (DA KA HA GA RA FA TA : Option Addr) (cD cK cH cG cR cF cT : Nat) (hE : PE W0 s n B g7 gE cE DA KA HA GA RA FA TA cD cK cH cG cR cF cT) :
    ∀ (r : Nat) (now : List Int) (out : List Nat) (U : List (List Int)) (X : List LRow) (A : Option Addr) (c : Nat) (w : World), Mv.rest (Mv.theEnd s) now = r → out.length + r ≤ 100 → Mv.right s now = true → PS W0 (fun x => Mv.plan (Mv.fine (fun m => Cd.can s.d s.gl s.gs m) s) (Mv.theEnd s) x = none) s n gN cN g9 g10 g11 g12 g13 bK bL (.func (.func 43) #[] #[.pointer (some ⟨g10, 0, none⟩), .pointer (some ⟨g7, 0, none⟩), .pointer (some ⟨g11, 0, none⟩), .pointer (some ⟨g12, 0, none⟩), .pointer (some ⟨B, 0, none⟩), .pointer (some ⟨g9, 0, none⟩), .pointer (some ⟨g13, 0, none⟩)]) X w now out U A c →
    Calls Tryd.prog 43 #[.pointer (some ⟨g10, 0, none⟩), .pointer (some ⟨g7, 0, none⟩), .pointer (some ⟨g11, 0, none⟩), .pointer (some ⟨g12, 0, none⟩), .pointer (some ⟨B, 0, none⟩), .pointer (some ⟨g9, 0, none⟩), .pointer (some ⟨g13, 0, none⟩)] w fun e w' => PlOut W0 (fun x => Mv.plan (Mv.fine (fun m => Cd.can s.d s.gl s.gs m) s) (Mv.theEnd s) x = none) s n gN cN g9 g10 g11 g12 g13 bK bL (.func (.func 43) #[] #[.pointer (some ⟨g10, 0, none⟩), .pointer (some ⟨g7, 0, none⟩), .pointer (some ⟨g11, 0, none⟩), .pointer (some ⟨g12, 0, none⟩), .pointer (some ⟨B, 0, none⟩), .pointer (some ⟨g9, 0, none⟩), .pointer (some ⟨g13, 0, none⟩)]) X now out U (Mv.plan (Mv.fine (fun m => Cd.can s.d s.gl s.gs m) s) (Mv.theEnd s) now) e w' := by
  intro r
  induction r with
  | zero =>
    intro now out U X A c w hr hro hrt hps
    have he := Mv.rest_zero (Mv.right_under hrt) hr
    have hnl : now.length = n := by rw [(Mv.right_iff.1 hrt).2.1]; exact hE.len
    have hn24 : n ≤ 24 := by rw [← hE.len]; exact hE.ok.few
    have hrd := hps.rdNow hnl (by omega) (fun x hx => by have := (Mv.right_ph hrt).2 x hx; omega)
    have q10 := hps.c10
    have q7 := hps.own.ext.cell hE.c7
    have hre := Rs.ext RI.ext _ _ _ _ hps.own.ext hE.rdE
    have HPS := Lib.hid hps
    have HE := Lib.hid he
    have HRD := Lib.hid (And.intro hrd hre)
    clear hr hrt hps he hnl hrd hre hE
    go_enter Tryd.func43, Tryd.ntmps43
    go_wp2_with fail
    refine (sEqual_any now (Mv.theEnd s) _ _ w HRD.out.1 HRD.out.2).mono ?_
    rintro e w1 ⟨rfl, hx1⟩
    rw [decide_eq_true HE.out]
    have HP1 := Lib.hid (HPS.out.next hx1)
    clear hx1 q10 q7
    go_wp2_with fail
    go_ret
    refine ⟨U, A, c, fun x hx => .inl hx, .inl ⟨[], by rw [HE.out]; exact Mv.plan_end _ _, rfl, ?_⟩⟩
    have h := HP1.out
    rw [HE.out] at h
    rw [List.append_nil]
    exact h
  | succ r ih =>
    intro now out U X A c w hr hro hrt hps
    have hne : now ≠ Mv.theEnd s := fun e => by
      rw [e] at hr
      unfold Mv.rest at hr
      rw [Mv.restTo_self] at hr
      cases hr
    have hun := Mv.right_under hrt
    have hpl := Mv.plan_more (ok := (Mv.fine (fun m => Cd.can s.d s.gl s.gs m) s)) hun hne
    have hnl : now.length = n := by rw [(Mv.right_iff.1 hrt).2.1]; exact hE.len
    have hn24 : n ≤ 24 := by rw [← hE.len]; exact hE.ok.few
    have hph : Mv.Ph n now := by rw [← hE.len]; exact Mv.right_ph hrt
    have hrd := hps.rdNow hnl (by omega) (fun x hx => by have := hph.2 x hx; omega)
    have q10 := hps.c10
    have q7 := hps.own.ext.cell hE.c7
    have hre := Rs.ext RI.ext _ _ _ _ hps.own.ext hE.rdE
    have HPS := Lib.hid hps
    have HNE := Lib.hid hne
    have HRD := Lib.hid (And.intro hrd hre)
    have HE0 := Lib.hid hE
    have HUN := Lib.hid hun
    have HPL := Lib.hid hpl
    have HNL := Lib.hid hnl
    have HPH := Lib.hid hph
    have HRT := Lib.hid hrt
    have HR := Lib.hid hr
    have IH := Lib.hid ih
    have hkz : ([.int .i8 0, .int .i8 0, .int .i8 0, .int .i8 0, .int .i8 0, .int .i8 0, .int .i8 0, .int .i8 0, .int .i8 0, .int .i8 0, .int .i8 0, .int .i8 0, .int .i8 0, .int .i8 0, .int .i8 0, .int .i8 0, .int .i8 0, .int .i8 0, .int .i8 0, .int .i8 0, .int .i8 0, .int .i8 0, .int .i8 0, .int .i8 0] : List Value) = (Mv.keyTo now 0).map (.int .i8) := by rw [Mv.keyTo_zero]; rfl
    have HKZ := Lib.hid hkz
    clear hr hrt hps hne hun hpl hnl hph hrd hre hE ih hkz
    go_enter Tryd.func43, Tryd.ntmps43
    go_wp2_with fail
    refine (sEqual_any now (Mv.theEnd s) _ _ w HRD.out.1 HRD.out.2).mono ?_
    rintro e w1 ⟨rfl, hx1⟩
    rw [decide_eq_false HNE.out]
    have HP1 := Lib.hid (HPS.out.next hx1)
    have hp2 := HP1.out.push (cs := #[.int .i8 0, .int .i8 0, .int .i8 0, .int .i8 0, .int .i8 0, .int .i8 0, .int .i8 0, .int .i8 0, .int .i8 0, .int .i8 0, .int .i8 0, .int .i8 0, .int .i8 0, .int .i8 0, .int .i8 0, .int .i8 0, .int .i8 0, .int .i8 0, .int .i8 0, .int .i8 0, .int .i8 0, .int .i8 0, .int .i8 0, .int .i8 0]) (l := Mv.keyTo now 0) HKZ.out rfl
    have HP2 := Lib.hid hp2
    have p10 := hp2.c10
    obtain ⟨gk, hgk⟩ : ∃ gk, w1.heap.size = gk := ⟨_, rfl⟩
    clear hx1 q10 q7 hp2
    rw [hgk] at HP2
    go_wp2_with fail
    have HGK := Lib.hid hgk
    clear hgk p10
    go_loopw [17] (fun vk wr => ∃ k : Nat, k ≤ n ∧ vk = .int .i64 k ∧ Hid (PS W0 (fun x => Mv.plan (Mv.fine (fun m => Cd.can s.d s.gl s.gs m) s) (Mv.theEnd s) x = none) s n gN cN g9 g10 g11 g12 g13 bK bL (.func (.func 43) #[] #[.pointer (some ⟨g10, 0, none⟩), .pointer (some ⟨g7, 0, none⟩), .pointer (some ⟨g11, 0, none⟩), .pointer (some ⟨g12, 0, none⟩), .pointer (some ⟨B, 0, none⟩), .pointer (some ⟨g9, 0, none⟩), .pointer (some ⟨g13, 0, none⟩)]) (keyRow gk (Mv.keyTo now k) :: X) wr now out U A c)) (fun vk _ => n - (intOf vk).toNat)
    case atStart => exact ⟨0, Nat.zero_le _, rfl, HP2⟩
    case round =>
      obtain ⟨k, hk, rfl, HI⟩ := hrel
      by_cases hlt : k < n
      · have hkl : k < now.length := by rw [HNL.out]; exact hlt
        have hpb := HPH.out.2 _ (List.getElem_mem hkl)
        have hcn := HI.out.cellNow (List.getElem?_eq_getElem hkl)
        have hst := Mv.keyTo_succ (now := now) (k := k)
        rw [getD_get hkl] at hst
        obtain ⟨p, hp⟩ : ∃ p, now[k] = p := ⟨_, rfl⟩
        rw [hp] at hpb hcn hst
        obtain ⟨y, hy⟩ := Mv.keyTo_get (now := now) (k := k) (i := k) (by omega)
        have hck := HI.out.key hy
        have hfk := HI.out.keyFrozen k
        have hwp : IntKind.i8.wrap p = p := by
          rcases hpb with ⟨h1, h2⟩
          have : p = 0 ∨ p = 1 ∨ p = 2 := by omega
          rcases this with rfl | rfl | rfl <;> rfl
        have HST := Lib.hid hst
        have hki : (k : Int) < (n : Int) := by omega
        have hk24 : (k : Int) < 24 := by omega
        obtain ⟨hpb1, hpb2⟩ := hpb
        clear hst hy hp
        go_wp2_with fail
        have HN := Lib.hid (HI.out.setKey k p)
        clear hcn hck hfk hwp hki hk24
        go_roundw
        case rel => exact ⟨k + 1, by omega, by go_num, Lib.hid (by rw [HST.out]; exact HN.out)⟩
        case measure => simp [intOf]; omega
      · obtain rfl : n = k := by omega
        have hkk := Mv.keyTo_all HNL.out
        have HKK := Lib.hid hkk
        have q11 := HI.out.c11
        have q10 := HI.out.c10
        obtain ⟨⟨D, hD, hS⟩, hnd, hal⟩ := HI.out.lost
        have HD := Lib.hid (And.intro hD hS)
        clear hD hS hnd hal hkk
        cases hin : decide (now ∈ U) with
        | true =>
          have HIN := Lib.hid hin
          clear hin q10
          go_wp2_with (first | refine HI.out.loadKey HKK.out rfl (.tmp 8) rfl rfl ?_ | refine wpl_lost rfl _ _ rfl bL _ _ rfl HD.out.1 HD.out.2 rfl HPH.out HIN.out ?_)
          clear q11
          go_ret
          exact ⟨U, A, c, fun x hx => .inl hx, .inr ⟨(HI.out.lost.2.2 now (of_decide_eq_true HIN.out)).2, rfl, HI.out.pop⟩⟩
        | false =>
        have HIN := Lib.hid hin
        clear hin
        go_wp2_with (first | refine HI.out.loadKey HKK.out rfl (.tmp 8) rfl rfl ?_ | refine wpl_lost rfl _ _ rfl bL _ _ rfl HD.out.1 HD.out.2 rfl HPH.out HIN.out ?_)
        clear q11 q10
        go_loopw [32] (fun vk wr => ∃ (k : Nat) (U' : List (List Int)) (A' : Option Addr) (c' : Nat), k ≤ n ∧ vk = .int .i64 k ∧ Hid (PS W0 (fun x => Mv.plan (Mv.fine (fun m => Cd.can s.d s.gl s.gs m) s) (Mv.theEnd s) x = none) s n gN cN g9 g10 g11 g12 g13 bK bL (.func (.func 43) #[] #[.pointer (some ⟨g10, 0, none⟩), .pointer (some ⟨g7, 0, none⟩), .pointer (some ⟨g11, 0, none⟩), .pointer (some ⟨g12, 0, none⟩), .pointer (some ⟨B, 0, none⟩), .pointer (some ⟨g9, 0, none⟩), .pointer (some ⟨g13, 0, none⟩)]) (keyRow gk (Mv.keyTo now n) :: X) wr now out U' A' c' ∧ Mv.tryTo (Mv.tryAt (Mv.fine (fun m => Cd.can s.d s.gl s.gs m) s) (Mv.theEnd s) now) k = none ∧ ∀ x ∈ U', x ∈ U ∨ Mv.rest (Mv.theEnd s) x ≤ r)) (fun vk _ => n - (intOf vk).toNat)
        case atStart => exact ⟨0, U, A, c, Nat.zero_le _, rfl, Lib.hid ⟨HI.out, rfl, fun x hx => .inl hx⟩⟩
        case round =>
          obtain ⟨k, U', A', c', hk, rfl, HJ⟩ := hrel
          have q10 := HJ.out.1.c10
          by_cases hlt : k < n
          · have hkl : k < now.length := by rw [HNL.out]; exact hlt
            have hpb := HPH.out.2 _ (List.getElem_mem hkl)
            have hcn := HJ.out.1.cellNow (List.getElem?_eq_getElem hkl)
            have hfn := HJ.out.1.frozenNow k
            have q7 := HJ.out.1.own.ext.cell HE0.out.c7
            have hkE : k < (Mv.theEnd s).length := by rw [Mv.theEnd_len, HE0.out.len]; exact hlt
            obtain ⟨ae, ue, e1, hce, hue⟩ := (Rs.ext RI.ext _ _ _ _ HJ.out.1.own.ext HE0.out.rdE).at hkE
            injection e1 with e1
            subst e1
            obtain ⟨rfl, hze1, hze2⟩ := hue
            rw [add0] at hce
            have g1 := getD_get (x := (0 : Int)) hkl
            have g2 := getD_get (x := (0 : Int)) hkE
            obtain ⟨p, hp⟩ : ∃ p, now[k] = p := ⟨_, rfl⟩
            obtain ⟨z, hz⟩ : ∃ z, (Mv.theEnd s)[k] = z := ⟨_, rfl⟩
            rw [hp] at hpb hcn g1
            rw [hz] at hce g2 hze1 hze2
            have HG := Lib.hid (And.intro g1 g2)
            have hki : (k : Int) < (n : Int) := by omega
            obtain ⟨hpb1, hpb2⟩ := hpb
            clear hp hz g1 g2
            by_cases hpz : p = z
            · have hsame : now.getD k 0 = (Mv.theEnd s).getD k 0 := by rw [HG.out.1, HG.out.2]; exact hpz
              have HN : Hid (Mv.tryTo (Mv.tryAt (Mv.fine (fun m => Cd.can s.d s.gl s.gs m) s) (Mv.theEnd s) now) (k + 1) = none) := Lib.hid ((Mv.tryTo_none HJ.out.2.1).trans (Mv.tryAt_same hsame))
              have e1 : (p == z) = true := by rw [hpz]; simp
              clear hsame hpz
              go_wp2_with fail
              go_quiet (fail)
              go_wp2_with fail
              clear hcn hfn q7 hce e1 hki q10
              go_roundw
              case rel => exact ⟨k + 1, U', A', c', by omega, by go_num, Lib.hid ⟨HJ.out.1.next ((Ext.refl _).drewN _), HN.out, HJ.out.2.2⟩⟩
              case measure => simp [intOf]; omega
            · have hdiff : now.getD k 0 ≠ (Mv.theEnd s).getD k 0 := by rw [HG.out.1, HG.out.2]; exact hpz
              have hrs := Mv.right_step HRT.out hkl hdiff
              have hst := Mv.rest_step HUN.out hkl hdiff
              have HD2 := Lib.hid (And.intro hdiff (And.intro hrs hst))
              have e1 : (p == z) = false := by rw [beq_eq_false_iff_ne]; exact hpz
              have hw1 : wrap64 (p + 1) = p + 1 := by unfold wrap64; omega
              have q12 := HJ.out.1.c12
              have f12 := HJ.out.1.f12
              clear hdiff hrs hst hpz
              go_wp2_with fail
              go_quiet (fail)
              rename_i nq
              have hs1 := (HJ.out.1.next ((Ext.refl wr).drewN nq)).setNow k (p + 1)
              rw [show now.set k (p + 1) = Mv.step now k from by unfold Mv.step; rw [HG.out.1]] at hs1
              go_upto_region 16 with fail
              obtain ⟨w4, hw4⟩ : ∃ w4, (wr.drewN nq).setCell ⟨gN, k, none⟩ (.int .i64 (p + 1)) = w4 := ⟨_, rfl⟩
              rw [hw4] at hs1 ⊢
              clear hw4 hcn hfn q7 hce e1 q10 q12 f12
              have q10 := hs1.c10
              have q12 := hs1.c12
              have f12 := hs1.f12
              have HS1 := Lib.hid hs1
              have HS2 := Lib.hid (hs1.next ((Ext.refl w4).alloc (.cells #[.int .i64 (k : Nat)] 3)))
              obtain ⟨y, hy⟩ : ∃ y, p + 1 = y := ⟨_, rfl⟩
              have hy1 : (Mv.step now k)[k]? = some y := by
                unfold Mv.step
                rw [List.getElem?_set_self hkl, HG.out.1, hy]
              have hy2 : (Mv.step now k).set k (y - 1) = now := Mv.step_back hkl (by rw [HG.out.1]; omega)
              have HY := Lib.hid (And.intro hy (And.intro hy1 hy2))
              have hyb1 : 1 ≤ y := by omega
              have hyb2 : y ≤ 3 := by omega
              have hpl2 : (Mv.step now k).length = n := by rw [Mv.step_len, HNL.out]
              have hph2 : Mv.Ph n (Mv.step now k) := by rw [← HE0.out.len]; exact Mv.right_ph HD2.out.2.1
              have HPL2 := Lib.hid (And.intro hpl2 hph2)
              have hol : out.length < 1000000000000 := by omega
              clear hs1 hy hy1 hy2 hpl2 hph2
              go_upto_region 17 with (refine wpl_append_owns (u := .int .i64 (k : Nat)) 22 3 rfl (.tmp 50) (.tmp 52) rfl Tryd.underlying22 info_int rfl (HS1.out.own.push1 (u := .int .i64 (k : Nat)) (e := 3)) 3 rfl rfl rfl (cell_of_row _ _ 0 _ _ (0, 0) (heap_new _ _)) rfl hol (by decide) ?_; intro g5 c5 w5 hO5 hg5; have z12 := hO5.cell 2 rfl 0 rfl; have zf := hO5.frozen 2 rfl 0; have hs5 := HS2.out.more hO5 hg5; have HS5 := Lib.hid hs5; clear hO5 hg5 hs5)
              obtain ⟨w6, hw6⟩ : ∃ w6, w5.setCell ⟨g12, 0, none⟩ (.slice (some ⟨g5, 0, none⟩) (out.length + 1) c5) = w6 := ⟨_, rfl⟩
              rw [hw6] at HS5 ⊢
              clear hw6 z12 zf q10 q12 f12
              have a0 := (HE0.out.box.ext HS5.out.own.ext).b0
              have a1 := (HE0.out.box.ext HS5.out.own.ext).b1
              have a2 := (HE0.out.box.ext HS5.out.own.ext).b2
              have a3 := (HE0.out.box.ext HS5.out.own.ext).b3
              have a4 := (HE0.out.box.ext HS5.out.own.ext).b4
              have a5 := (HE0.out.box.ext HS5.out.own.ext).b5
              have a6 := (HE0.out.box.ext HS5.out.own.ext).b6
              have a7 := (HE0.out.box.ext HS5.out.own.ext).b7
              have a8 := (HE0.out.box.ext HS5.out.own.ext).b8
              have a9 := (HE0.out.box.ext HS5.out.own.ext).b9
              have a10 := (HE0.out.box.ext HS5.out.own.ext).b10
              have q10 := HS5.out.c10
              go_wp2_with fail
              clear a0 a1 a2 a3 a4 a5 a6 a7 a8 a9 a10 q10
              refine (mFits1_any s (Mv.step now k) HE0.out.ok (by rw [HPL2.out.1, HE0.out.len]) _ _ w6 (HE0.out.sh.ext HS5.out.own.ext).sh (HS5.out.rdNow HPL2.out.1 (by omega) (fun x hx => by have := HPL2.out.2.2 x hx; omega))).mono ?_
              rintro e w7 ⟨rfl, hx7⟩
              have HS7 := Lib.hid (HS5.out.next hx7)
              obtain ⟨ft, hft⟩ : ∃ ft, Mv.fits s (Mv.step now k) = ft := ⟨_, rfl⟩
              rw [hft]
              have HFT := Lib.hid hft
              clear hx7 hft
              cases ft with
              | false =>
                have hok : (Mv.fine (fun m => Cd.can s.d s.gl s.gs m) s) (Mv.step now k) = false := by unfold Mv.fine; rw [HFT.out]; rfl
                have HOKK := Lib.hid hok
                have HUU := Lib.hid HJ.out.2.2
                clear hok
                have HN : Hid (Mv.tryTo (Mv.tryAt (Mv.fine (fun m => Cd.can s.d s.gl s.gs m) s) (Mv.theEnd s) now) (k + 1) = none) := Lib.hid ((Mv.tryTo_none HJ.out.2.1).trans (Mv.tryAt_no HOKK.out))
                obtain ⟨g, e9, hc1, hc2⟩ := HS7.out.form
                have e10 : g5 = g := by injection e9 with e9; injection e9
                subst e10
                clear e9
                have q10 := HS7.out.c10
                have hcn := HS7.out.cellNow (k := k) (p := y) HY.out.2.1
                have hfn := HS7.out.frozenNow k
                have hs0 := HS7.out.setNow k (y - 1)
                rw [HY.out.2.2] at hs0
                go_upto_region 20 with fail
                obtain ⟨wb, hwb⟩ : ∃ wb, w7.setCell ⟨gN, k, none⟩ (.int .i64 (y - 1)) = wb := ⟨_, rfl⟩
                rw [hwb] at hs0 ⊢
                clear hwb q10 hcn hfn
                have q10 := hs0.c10
                have q12 := hs0.c12
                have f12 := hs0.f12
                have hci : (out.length : Int) ≤ (c5 : Int) := by omega
                have hci2 : (out.length : Int) + 1 ≤ (c5 : Int) := by omega
                rw [List.length_append] at q12
                have HS0 := Lib.hid hs0.less
                clear hs0
                go_wp2_with fail
                clear q10 q12 f12 hci hci2
                go_roundw
                case rel => exact ⟨k + 1, U', some ⟨g5, 0, none⟩, c5, by omega, by go_num, Lib.hid ⟨HS0.out, HN.out, HUU.out⟩⟩
                case measure => simp [intOf]; omega
              | true =>
              have a0 := (HE0.out.box.ext HS7.out.own.ext).b0
              have a1 := (HE0.out.box.ext HS7.out.own.ext).b1
              have a2 := (HE0.out.box.ext HS7.out.own.ext).b2
              have a3 := (HE0.out.box.ext HS7.out.own.ext).b3
              have a4 := (HE0.out.box.ext HS7.out.own.ext).b4
              have a5 := (HE0.out.box.ext HS7.out.own.ext).b5
              have a6 := (HE0.out.box.ext HS7.out.own.ext).b6
              have a7 := (HE0.out.box.ext HS7.out.own.ext).b7
              have a8 := (HE0.out.box.ext HS7.out.own.ext).b8
              have a9 := (HE0.out.box.ext HS7.out.own.ext).b9
              have a10 := (HE0.out.box.ext HS7.out.own.ext).b10
              have q10 := HS7.out.c10
              have q9 := HS7.out.c9
              go_wp2_with fail
              clear a0 a1 a2 a3 a4 a5 a6 a7 a8 a9 a10 q10 q9
              refine (mSafe_any s (Mv.step now k) bK HE0.out.ok (by rw [HPL2.out.1, HE0.out.len]) _ _ w7 (HE0.out.tab.ext HS7.out.own.ext) (HE0.out.sh.ext HS7.out.own.ext).sh (HS7.out.rdNow HPL2.out.1 (by omega) (fun x hx => by have := HPL2.out.2.2 x hx; omega)) HS7.out.known).mono ?_
              rintro e w8 ⟨rfl, hg8, hk8⟩
              have HS8 := Lib.hid (HS7.out.safe hg8 hk8)
              obtain ⟨sf, hsf⟩ : ∃ sf, Mv.safe (fun m => Cd.can s.d s.gl s.gs m) s (Mv.step now k) = sf := ⟨_, rfl⟩
              rw [hsf]
              have HSF := Lib.hid hsf
              have hok : (Mv.fine (fun m => Cd.can s.d s.gl s.gs m) s) (Mv.step now k) = sf := by unfold Mv.fine; rw [HFT.out, HSF.out]; rfl
              have HOKK := Lib.hid hok
              clear hg8 hk8 hsf hok
              cases sf with
              | false =>
                have HUU := Lib.hid HJ.out.2.2
                have HN : Hid (Mv.tryTo (Mv.tryAt (Mv.fine (fun m => Cd.can s.d s.gl s.gs m) s) (Mv.theEnd s) now) (k + 1) = none) := Lib.hid ((Mv.tryTo_none HJ.out.2.1).trans (Mv.tryAt_no HOKK.out))
                obtain ⟨g, e9, hc1, hc2⟩ := HS8.out.form
                have e10 : g5 = g := by injection e9 with e9; injection e9
                subst e10
                clear e9
                have q10 := HS8.out.c10
                have hcn := HS8.out.cellNow (k := k) (p := y) HY.out.2.1
                have hfn := HS8.out.frozenNow k
                have hs0 := HS8.out.setNow k (y - 1)
                rw [HY.out.2.2] at hs0
                go_upto_region 20 with fail
                obtain ⟨wb, hwb⟩ : ∃ wb, w8.setCell ⟨gN, k, none⟩ (.int .i64 (y - 1)) = wb := ⟨_, rfl⟩
                rw [hwb] at hs0 ⊢
                clear hwb q10 hcn hfn
                have q10 := hs0.c10
                have q12 := hs0.c12
                have f12 := hs0.f12
                have hci : (out.length : Int) ≤ (c5 : Int) := by omega
                have hci2 : (out.length : Int) + 1 ≤ (c5 : Int) := by omega
                rw [List.length_append] at q12
                have HS0 := Lib.hid hs0.less
                clear hs0
                go_wp2_with fail
                clear q10 q12 f12 hci hci2
                go_roundw
                case rel => exact ⟨k + 1, U', some ⟨g5, 0, none⟩, c5, by omega, by go_num, Lib.hid ⟨HS0.out, HN.out, HUU.out⟩⟩
                case measure => simp [intOf]; omega
              | true =>
              have q13 := HS8.out.c13
              have hent := enters43
              go_wp2_with fail
              clear q13
              refine (IH.out (Mv.step now k) (out ++ [k]) U' (keyRow gk (Mv.keyTo now n) :: X) _ _ w8 (by have := HR.out; have := HD2.out.2.2.1; omega) (by rw [List.length_append]; simp; omega) HD2.out.2.1 HS8.out).mono ?_
              rintro e w9 ⟨U9, A9, c9, hU9, hor⟩
              have htry := Mv.tryAt_go (ok := (Mv.fine (fun m => Cd.can s.d s.gl s.gs m) s)) (E := Mv.theEnd s) (now := now) HD2.out.1 HOKK.out
              have huu : ∀ x ∈ U9, x ∈ U ∨ Mv.rest (Mv.theEnd s) x ≤ r := fun x hx => by
                rcases hU9 x hx with h | h
                · exact HJ.out.2.2 x h
                · have := HR.out
                  have := HD2.out.2.2.1
                  exact .inr (by omega)
              have HUU := Lib.hid huu
              have HTRY := Lib.hid htry
              clear huu htry hU9
              rcases hor with ⟨l, hpl9, rfl, hs9⟩ | ⟨hpl9, rfl, hs9⟩
              · have hres : Mv.plan (Mv.fine (fun m => Cd.can s.d s.gl s.gs m) s) (Mv.theEnd s) now = some (k :: l) := by
                  rw [HPL.out]
                  refine Mv.tryTo_mono (k := k + 1) ?_ hkl
                  rw [Mv.tryTo_none HJ.out.2.1, HTRY.out, hpl9]
                  rfl
                have HRES := Lib.hid hres
                have HS9 := Lib.hid hs9
                clear hres hs9 hpl9
                go_wp2_with fail
                go_ret
                refine ⟨U9, A9, c9, fun x hx => (HUU.out x hx).imp id fun h => by have := HR.out; omega, .inl ⟨k :: l, HRES.out, rfl, ?_⟩⟩
                have h := HS9.out.pop
                rw [List.append_assoc] at h
                exact h
              · have hnone : Mv.tryAt (Mv.fine (fun m => Cd.can s.d s.gl s.gs m) s) (Mv.theEnd s) now k = none := by rw [HTRY.out, hpl9]; rfl
                have HNO := Lib.hid hnone
                have HS9 := Lib.hid hs9
                clear hnone hs9 hpl9
                have HN : Hid (Mv.tryTo (Mv.tryAt (Mv.fine (fun m => Cd.can s.d s.gl s.gs m) s) (Mv.theEnd s) now) (k + 1) = none) := Lib.hid ((Mv.tryTo_none HJ.out.2.1).trans (HNO.out))
                obtain ⟨g, e9, hc1, hc2⟩ := HS9.out.form
                subst e9
                have q10 := HS9.out.c10
                have hcn := HS9.out.cellNow (k := k) (p := y) HY.out.2.1
                have hfn := HS9.out.frozenNow k
                have hs0 := HS9.out.setNow k (y - 1)
                rw [HY.out.2.2] at hs0
                go_upto_region 20 with fail
                obtain ⟨wb, hwb⟩ : ∃ wb, w9.setCell ⟨gN, k, none⟩ (.int .i64 (y - 1)) = wb := ⟨_, rfl⟩
                rw [hwb] at hs0 ⊢
                clear hwb q10 hcn hfn
                have q10 := hs0.c10
                have q12 := hs0.c12
                have f12 := hs0.f12
                have hci : (out.length : Int) ≤ (c9 : Int) := by omega
                have hci2 : (out.length : Int) + 1 ≤ (c9 : Int) := by omega
                rw [List.length_append] at q12
                have HS0 := Lib.hid hs0.less
                clear hs0
                go_wp2_with fail
                clear q10 q12 f12 hci hci2
                go_roundw
                case rel => exact ⟨k + 1, U9, some ⟨g, 0, none⟩, c9, by omega, by go_num, Lib.hid ⟨HS0.out, HN.out, HUU.out⟩⟩
                case measure => simp [intOf]; omega
          · obtain rfl : n = k := by omega
            obtain ⟨⟨D2, hD2, hS2⟩, hnd2, hal2⟩ := HJ.out.1.lost
            have hnin : now ∉ U' := fun h => by
              rcases HJ.out.2.2 now h with h | h
              · exact of_decide_eq_false HIN.out h
              · have := HR.out; omega
            have hlen : U'.length < maxLen := by
              have := Mv.ph_len hn24 hnd2 (fun x hx => (hal2 x hx).1)
              unfold maxLen
              omega
            have hnone : Mv.plan (Mv.fine (fun m => Cd.can s.d s.gl s.gs m) s) (Mv.theEnd s) now = none := by
              rw [HPL.out, HNL.out]
              exact HJ.out.2.1
            have HF := Lib.hid (And.intro hD2 (And.intro hS2 (And.intro hnd2 (And.intro hal2 (And.intro hnin hnone)))))
            have q11 := HJ.out.1.c11
            clear hD2 hS2 hnd2 hal2 hnin hnone
            go_wp2_with (first | refine HJ.out.1.loadKey HKK.out rfl (.tmp 8) rfl rfl ?_ | (at_mapUpdate; refine wpList_mapUpdate_own _ rfl _ _ _ 61 rfl 63 4 keyLawP Tryd.underlying61 _ bL U'.length D2 rfl HF.out.1 hlen _ _ _ rfl rfl (keyK_of (pad_byte HPH.out)) (.lit (.bool true)) [] (plainElem_bool Tryd.underlying4 true) ?_; intro w5 hown5 hgrow5; have H5 := Lib.hid (And.intro hown5 hgrow5); clear hown5 hgrow5))
            clear q11 q10
            go_ret
            have hl5 : Lost n (fun x => Mv.plan (Mv.fine (fun m => Cd.can s.d s.gl s.gs m) s) (Mv.theEnd s) x = none) w5 bL (now :: U') := ⟨⟨_, H5.out.1, HF.out.2.1.put hn24 HF.out.1.isMap HPH.out⟩, List.nodup_cons.2 ⟨HF.out.2.2.2.2.1, HF.out.2.2.1⟩, fun x hx => by
              rcases List.mem_cons.1 hx with rfl | hx
              · exact ⟨HPH.out, HF.out.2.2.2.2.2⟩
              · exact HF.out.2.2.2.1 x hx⟩
            refine ⟨now :: U', A', c', fun x hx => ?_, .inr ⟨HF.out.2.2.2.2.2, rfl, (HJ.out.1.lose H5.out.2 hl5).pop⟩⟩
            rcases List.mem_cons.1 hx with rfl | hx
            · exact .inr (Nat.le_refl _)
            · exact (HJ.out.2.2 x hx).imp id fun h => by have := HR.out; omega
end Go.Proofs.YtkbiffbmjgmcaaaDoor

/- THE WALK over Plan of package moves. -/
namespace Mv
/-- The first k of a list, and noughts. -/
def fillTo (l : List Int) (n k : Nat) : List Int := (List.range n).map fun i => if i < k then l.getD i 0 else 0
theorem fillTo_len (l : List Int) (n k : Nat) : (fillTo l n k).length = n := by simp [fillTo]
theorem fillTo_at {l : List Int} {n k i : Nat} (hi : i < n) : (fillTo l n k)[i]? = some (if i < k then l.getD i 0 else 0) := by
  unfold fillTo
  rw [List.getElem?_map, List.getElem?_range hi]; rfl
theorem fillTo_zero (l : List Int) (n : Nat) : fillTo l n 0 = List.replicate n 0 := by
  apply List.ext_getElem?
  intro i
  by_cases hi : i < n
  · rw [fillTo_at hi, List.getElem?_replicate, if_pos hi]; rfl
  · rw [List.getElem?_eq_none (by rw [fillTo_len]; omega), List.getElem?_eq_none (by simp; omega)]
theorem fillTo_succ {l : List Int} {n k : Nat} : fillTo l n (k + 1) = (fillTo l n k).set k (l.getD k 0) := by
  apply List.ext_getElem?
  intro i
  by_cases hi : i < n
  · rw [fillTo_at hi, List.getElem?_set]
    by_cases e : k = i
    · subst e
      rw [if_pos (by omega), if_pos rfl, if_pos (by rw [fillTo_len]; exact hi)]
    · rw [if_neg e, fillTo_at hi]
      by_cases h : i < k
      · rw [if_pos h, if_pos (by omega)]
      · rw [if_neg h, if_neg (by omega)]
  · rw [List.getElem?_eq_none (by rw [fillTo_len]; omega), List.getElem?_eq_none (by rw [List.length_set, fillTo_len]; omega)]
theorem fillTo_same {l : List Int} {n k : Nat} (h : l.getD k 0 = 0) : fillTo l n (k + 1) = fillTo l n k := by
  apply List.ext_getElem?
  intro i
  by_cases hi : i < n
  · rw [fillTo_at hi, fillTo_at hi]
    by_cases e : k = i
    · subst e
      rw [if_pos (by omega), if_neg (by omega), h]
    · by_cases h : i < k
      · rw [if_pos h, if_pos (by omega)]
      · rw [if_neg h, if_neg (by omega)]
  · rw [List.getElem?_eq_none (by rw [fillTo_len]; omega), List.getElem?_eq_none (by rw [fillTo_len]; omega)]
theorem fillTo_all {l : List Int} {n : Nat} (hn : l.length = n) : fillTo l n n = l := by
  apply List.ext_getElem?
  intro i
  by_cases hi : i < n
  · rw [fillTo_at hi, if_pos hi, List.getD_eq_getElem?_getD, List.getElem?_eq_getElem (by omega)]; rfl
  · rw [List.getElem?_eq_none (by rw [fillTo_len]; omega), List.getElem?_eq_none (by omega)]
end Mv
namespace Go.Proofs.YtkbiffbmjgmcaaaDoor
open Go.RowKit
open Go.Maps (Keyed)
open Go.WideMaps Go.ChangeMaps Go.MapKept Go.WideShapes
/-- What Plan returns. -/
def MPlanOut (r : List Nat × Int) (w : World) (e : Ending) (w' : World) : Prop := ∃ A c, e = .returned (.tuple #[.slice A r.1.length c, .int .i64 r.2]) ∧ Owns w w' [lrow A c r.1]
theorem MPlanOut.none {w w' : World} {c : Int} {r : List Nat × Int} (hr : r = ([], c)) (h : Ext w w') : MPlanOut r w (.returned (.tuple #[.slice Option.none 0 0, .int .i64 c])) w' := by
  subst hr
  exact ⟨_, _, rfl, lrow_nil h⟩
theorem MPlanOut.some {w w' : World} {l : List Nat} {A : Option Addr} {c : Nat} {d : Int} {r : List Nat × Int} (hr : r = (l, d)) (h : Owns w w' [lrow A c l]) : MPlanOut r w (.returned (.tuple #[.slice A l.length c, .int .i64 d])) w' := by
  subst hr
  exact ⟨A, c, rfl, h⟩
theorem Owns.one {w0 w : World} {r : LRow} (hx : Ext w0 w) (h : r.ok w0 w) : Owns w0 w [r] :=
  Owns.of_pairwise hx (fun q hq => by rw [List.mem_singleton.1 hq]; exact h) (List.pairwise_singleton _ _)
theorem enters_p1 : ∀ args w, (callFunc 43 args).run Tryd.prog w = .ok (.enter 43 args) w := enters_of Tryd.func43 (by kernel_rfl) rfl
theorem perm7 {α : Type} (a b c d e f g : α) : [a, b, c, d, e, f, g].Perm [b, c, e, g, d, a, f] := by
  have h : [0, 1, 2, 3, 4, 5, 6].Perm [1, 2, 4, 6, 3, 0, 5] := by decide
  exact h.map fun i => [a, b, c, d, e, f, g].getD i a
set_option maxRecDepth 100000 in
/-- The search's beginning. -/
theorem ps_start {W0 w9 : World} {P : List Int → Prop} {s : Mv.Sh} {n gN cN g9 bK z : Nat} {fv : Value} {now : List Int} (hz : w9.heap.size = z)
    (h9 : Owns W0 w9 [⟨.slice (some ⟨g9, 0, none⟩) 1 1, 58, 1, 1, [.map (some bK)]⟩, ⟨.slice (some ⟨gN, 0, none⟩) n cN, 3, 1, n, now.map (.int .i64)⟩]) (hk : Known s w9 bK) (hb : W0.heap.size ≤ bK) :
    PS W0 P s n gN cN g9 z (z + 1 + 1) (z + 1 + 1 + 1) (z + 1 + 1 + 1 + 1) bK (z + 1) fv [] (((((w9.alloc (.cells #[.slice (some ⟨gN, 0, none⟩) n cN] 22)).alloc (.map #[] 0)).alloc (.cells #[.map (some (z + 1))] 61)).alloc (.cells #[.slice none 0 0] 22)).alloc (.cells #[fv] 32)) now [] [] none 0 := by
  subst hz
  have h1 := h9.push1 (u := .slice (some ⟨gN, 0, none⟩) n cN) (e := 22)
  have h2 := (h1.alloc (.map #[] 0)).push1 (u := .map (some (w9.heap.size + 1))) (e := 61)
  have h3 := (h2.push1 (u := .slice none 0 0) (e := 22)).push1 (u := fv) (e := 32)
  simp only [World.size_alloc, List.cons_append, List.nil_append] at h3
  have h6 := h3.behind (Ext.refl _) (World.ownsRow_nil _ _ 3 1)
  have hxa : Ext w9 (w9.alloc (.cells #[.slice (some ⟨gN, 0, none⟩) n cN] 22)) := (Ext.refl w9).alloc _
  have hxb := fun a b c : Obj => (((Ext.refl ((w9.alloc (.cells #[.slice (some ⟨gN, 0, none⟩) n cN] 22)).alloc (.map #[] 0))).alloc a).alloc b).alloc c
  have hm := World.ownsMap_made (H := Unit) (w9.alloc (.cells #[.slice (some ⟨gN, 0, none⟩) n cN] 22)) Tryd.prog 63 (plainElem Tryd.prog 4)
  rw [World.size_alloc] at hm
  have hlt := hk.lt
  refine ⟨?_, ?_, ⟨⟨.map [], ?_, LSays.start n⟩, List.nodup_nil, fun x hx => by cases hx⟩, hb, ?_, by omega⟩
  · rw [List.append_nil]
    refine h6.perm ?_
    unfold psRows lrow
    exact perm7 _ _ _ _ _ _ _
  · exact ((hk.ext hxa).ext ((Ext.refl _).alloc _)).ext (hxb _ _ _)
  · exact ownsMap_ext hm (hxb _ _ _)
  · have := h9.ext.size
    omega
set_option maxHeartbeats 16000000 in
set_option maxRecDepth 100000 in
theorem mPlan_any (s : Mv.Sh) (ph : List Int) (v u : Value) (w : World) (hT : Tab w) (hv : RSh w v s) (hu : Rs RI w u ph) :
    Calls Tryd.prog 18 #[v, u] w fun e w' => MPlanOut (Mv.planned (fun m => Cd.can s.d s.gl s.gs m) s ph) w e w' := by
  obtain ⟨DA, KA, HA, GA, RA, FA, TA, cD, cK, cH, cG, cR, cF, cT, rfl, hS⟩ := hv.open
  obtain ⟨PA, cP, rfl, hp64⟩ := hu.form
  have hx0 := (Ext.refl w).alloc (.cells #[.slice DA s.disks.length cD, .slice KA s.racks.length cK, .slice HA s.houses.length cH, .int .i64 s.owners, .int .i64 s.d, .slice GA s.gs.length cG, .int .i64 s.gl, .int .i64 s.floor, .slice RA s.room.length cR, .slice FA s.src.length cF, .slice TA s.dst.length cT] 30)
  have HX0 := Lib.hid hx0
  have HS := Lib.hid (hS.ext hx0)
  have HP := Lib.hid (Rs.ext RI.ext _ _ _ _ hx0 hu)
  have HT := Lib.hid (hT.ext hx0)
  have hB := BoxAt.new w s DA KA HA GA RA FA TA cD cK cH cG cR cF cT
  have HB := Lib.hid hB
  have a0 := hB.b0
  have a1 := hB.b1
  have a2 := hB.b2
  have a3 := hB.b3
  have a4 := hB.b4
  have a5 := hB.b5
  have a6 := hB.b6
  have a7 := hB.b7
  have a8 := hB.b8
  have a9 := hB.b9
  have a10 := hB.b10
  obtain ⟨i0, hi0, hz0, hz1, hz2⟩ := info_parts info_int
  have HZ := Lib.hid hz2
  have HI0 := Lib.hid (And.intro hi0 (And.intro hz0 hz1))
  clear hv hu hT hS hx0 hB hz2 hi0 hz0 hz1
  have hmm := @run_makeMap Tryd.prog
  have HMM := Lib.hid hmm
  clear hmm
  go_enter Tryd.func18, Tryd.ntmps18
  go_wp2_with fail
  clear a0 a1 a2 a3 a4 a5 a6 a7 a8 a9 a10
  refine (mCheck_any s _ _ HS.out.sh).mono ?_
  rintro e w1 ⟨rfl, hx1⟩
  have HX1 := Lib.hid hx1
  clear hx1
  by_cases hc : Mv.check s = 0
  case neg =>
    have hp := Mv.planned_check (can := (fun m => Cd.can s.d s.gl s.gs m)) (ph := ph) hc
    have HPN := Lib.hid hp
    have e1 : (Mv.check s != 0) = true := by rw [bne_iff_ne]; exact hc
    clear hp hc
    go_wp2_with fail
    go_ret2
    exact MPlanOut.none HPN.out (HX0.out.trans HX1.out)
  case pos =>
  have HC := Lib.hid hc
  have HOK := Lib.hid (Mv.ok_of hc)
  rw [hc]
  clear hc
  have a0 := (HB.out.ext HX1.out).b0
  have a1 := (HB.out.ext HX1.out).b1
  have a2 := (HB.out.ext HX1.out).b2
  have a3 := (HB.out.ext HX1.out).b3
  have a4 := (HB.out.ext HX1.out).b4
  have a5 := (HB.out.ext HX1.out).b5
  have a6 := (HB.out.ext HX1.out).b6
  have a7 := (HB.out.ext HX1.out).b7
  have a8 := (HB.out.ext HX1.out).b8
  have a9 := (HB.out.ext HX1.out).b9
  have a10 := (HB.out.ext HX1.out).b10
  go_wp2_with fail
  clear a0 a1 a2 a3 a4 a5 a6 a7 a8 a9 a10
  refine (mRight_any s ph _ _ w1 (HS.out.ext HX1.out).sh (Rs.ext RI.ext _ _ _ _ HX1.out HP.out)).mono ?_
  rintro e w2 ⟨rfl, hx2⟩
  have HX2 := Lib.hid (HX1.out.trans hx2)
  clear hx2
  cases hrt : Mv.right s ph with
  | false =>
    have HPN := Lib.hid (Mv.planned_right (can := (fun m => Cd.can s.d s.gl s.gs m)) HC.out hrt)
    clear hrt
    go_wp2_with fail
    go_ret2
    exact MPlanOut.none HPN.out (HX0.out.trans HX2.out)
  | true =>
  have HRT := Lib.hid hrt
  have hpl := (Mv.right_iff.1 hrt).2.1
  have HPL := Lib.hid hpl
  have a0 := (HB.out.ext HX2.out).b0
  have a1 := (HB.out.ext HX2.out).b1
  have a2 := (HB.out.ext HX2.out).b2
  have a3 := (HB.out.ext HX2.out).b3
  have a4 := (HB.out.ext HX2.out).b4
  have a5 := (HB.out.ext HX2.out).b5
  have a6 := (HB.out.ext HX2.out).b6
  have a7 := (HB.out.ext HX2.out).b7
  have a8 := (HB.out.ext HX2.out).b8
  have a9 := (HB.out.ext HX2.out).b9
  have a10 := (HB.out.ext HX2.out).b10
  clear hrt hpl
  go_wp2_with fail
  clear a0 a1 a2 a3 a4 a5 a6 a7 a8 a9 a10
  refine (mFits1_any s ph HOK.out HPL.out _ _ w2 (HS.out.ext HX2.out).sh (Rs.ext RI.ext _ _ _ _ HX2.out HP.out)).mono ?_
  rintro e w3 ⟨rfl, hx3⟩
  have HX3 := Lib.hid (HX2.out.trans hx3)
  clear hx3
  cases hft : Mv.fits s ph with
  | false =>
    have HPN := Lib.hid (Mv.planned_fits (can := (fun m => Cd.can s.d s.gl s.gs m)) HC.out HRT.out hft)
    clear hft
    go_wp2_with fail
    go_ret2
    exact MPlanOut.none HPN.out (HX0.out.trans HX3.out)
  | true =>
  have HFT := Lib.hid hft
  obtain ⟨n, hn⟩ : ∃ n, ph.length = n := ⟨_, rfl⟩
  have hsn : s.src.length = n := by rw [← hn]; exact HPL.out.symm
  have hn24 : n ≤ 24 := by rw [← hsn]; exact HOK.out.few
  rw [hn] at HP ⊢
  have HN := Lib.hid (And.intro hn hsn)
  clear hft hn hsn
  go_upto_region 9 with (refine wpList_make_full _ rfl (.tmp 28) (.tmp 28) 22 rfl w3.heap.size 3 i0 (.int .i64 0) 1 Tryd.underlying22 HI0.out.1 HI0.out.2.1 HI0.out.2.2 _ _ _ _ n rfl rfl rfl rfl (by rw [HZ.out]; omega) (by unfold maxLen; omega) (Nat.le_refl _) ?_; intro w4 hown hgrow)
  have hx4 : Ext w3 w4 := (Ext.refl w3).grown hgrow (fun k h => by cases h)
  have hown' : w4.ownsRow w3.heap.size 3 1 (.slice (some ⟨w3.heap.size, 0, none⟩) n n) n ((Mv.fillTo (Mv.theEnd s) n 0).map (.int .i64)) := by
    rw [Mv.fillTo_zero, List.map_replicate, ← toList_madeCells_one]
    simpa [Value.cells] using hown
  have hO5 := (Owns.one (w0 := w3) (r := ⟨.slice (some ⟨w3.heap.size, 0, none⟩) n n, 3, 1, n, (Mv.fillTo (Mv.theEnd s) n 0).map (.int .i64)⟩) hx4 hown').push1 (u := .slice (some ⟨w3.heap.size, 0, none⟩) n n) (e := 22)
  obtain ⟨g7, hg7⟩ : ∃ g7, w4.heap.size = g7 := ⟨_, rfl⟩
  rw [hg7] at hO5 ⊢
  obtain ⟨w5, hw5⟩ : ∃ w5, w4.alloc (.cells #[.slice (some ⟨w3.heap.size, 0, none⟩) n n] 22) = w5 := ⟨_, rfl⟩
  rw [hw5] at hO5 ⊢
  have HO5 := Lib.hid hO5
  have q7 := hO5.cell 1 rfl 0 rfl
  clear hown hown' hgrow hx4 hO5 hg7 hw5
  go_wp2_with fail
  clear q7
  go_loopw [32] (fun vk wr => ∃ k : Nat, k ≤ n ∧ vk = .int .i64 k ∧ Hid (Owns w3 wr [⟨.slice (some ⟨w3.heap.size, 0, none⟩) n n, 3, 1, n, (Mv.fillTo (Mv.theEnd s) n k).map (.int .i64)⟩, ⟨.slice (some ⟨g7, 0, none⟩) 1 1, 22, 1, 1, [.slice (some ⟨w3.heap.size, 0, none⟩) n n]⟩])) (fun vk _ => n - (intOf vk).toNat)
  case atStart => exact ⟨0, Nat.zero_le _, rfl, HO5⟩
  case round =>
    obtain ⟨k, hk, rfl, HI⟩ := hrel
    have q7 := HI.out.cell 1 rfl 0 rfl
    by_cases hlt : k < n
    · have hks : k < s.src.length := by have := HN.out.2; omega
      have hkd : k < s.dst.length := by have := HOK.out.dstLen; omega
      have hxx := HX3.out.trans HI.out.ext
      obtain ⟨af, u1, rfl, hcf, hu1⟩ := (Rs.ext RI.ext _ _ _ _ hxx HS.out.src).at hks
      obtain ⟨rfl, _, _⟩ := hu1
      obtain ⟨at_, u2, rfl, hct, hu2⟩ := (Rs.ext RI.ext _ _ _ _ hxx HS.out.dst).at hkd
      obtain ⟨rfl, _, _⟩ := hu2
      have hte := Mv.theEnd_get (s := s) hks
      rw [getD_get hks, getD_get hkd] at hte
      obtain ⟨y, hy⟩ : ∃ y, s.src[k] = y := ⟨_, rfl⟩
      obtain ⟨z, hz⟩ : ∃ z, s.dst[k] = z := ⟨_, rfl⟩
      rw [hy] at hcf hte
      rw [hz] at hct hte
      have a9 := (HB.out.ext hxx).b9
      have a10 := (HB.out.ext hxx).b10
      have hki : (k : Int) < (n : Int) := by omega
      have hksi : (k : Int) < (s.src.length : Int) := by omega
      have hkdi : (k : Int) < (s.dst.length : Int) := by omega
      have HXX := Lib.hid hxx
      clear hy hz hxx
      by_cases hyz : y = z
      · have hst : Mv.fillTo (Mv.theEnd s) n (k + 1) = Mv.fillTo (Mv.theEnd s) n k := Mv.fillTo_same (by rw [hte, if_neg (fun e => e hyz)])
        have HST := Lib.hid hst
        have e1 : (y != z) = false := by rw [hyz]; simp
        clear hst hte hyz
        go_wp2_with fail
        go_quiet (fail)
        go_wp2_with fail
        clear hcf hct a9 a10 e1 q7 hki hksi hkdi
        go_roundw
        case rel => exact ⟨k + 1, by omega, by go_num, Lib.hid (by rw [HST.out]; exact HI.out.drewN _)⟩
        case measure => simp [intOf]; omega
      · have hst : Mv.fillTo (Mv.theEnd s) n (k + 1) = (Mv.fillTo (Mv.theEnd s) n k).set k 2 := by rw [Mv.fillTo_succ, hte, if_pos hyz]
        have HST := Lib.hid hst
        have e1 : (y != z) = true := by rw [bne_iff_ne]; exact hyz
        have hck := HI.out.cell 0 rfl k (u := .int .i64 0) (by rw [List.getElem?_map, Mv.fillTo_at hlt, if_neg (Nat.lt_irrefl k)]; rfl)
        have hfk := HI.out.frozen 0 rfl k
        clear hst hte hyz
        go_wp2_with fail
        go_quiet (fail)
        rename_i nq
        go_wp2_with fail
        have HS2 := Lib.hid ((HI.out.drewN nq).store 0 rfl k (.int .i64 2))
        clear hcf hct a9 a10 e1 q7 hki hksi hkdi hck hfk
        go_roundw
        case rel => exact ⟨k + 1, by omega, by go_num, Lib.hid (by rw [HST.out, List.map_set]; exact HS2.out)⟩
        case measure => simp [intOf]; omega
    · obtain rfl : n = k := by omega
      have hrow := HI.out
      rw [Mv.fillTo_all (by rw [Mv.theEnd_len, HN.out.2])] at hrow
      have hxr := HX3.out.trans hrow.ext
      have hrdE : Rs RI wr (.slice (some ⟨w3.heap.size, 0, none⟩) n n) (Mv.theEnd s) := Rs.small (hrow.rd 0 rfl) (by rw [Mv.theEnd_len, HN.out.2]) (by rw [Mv.theEnd_len, HN.out.2]; omega) (fun x hx => by have := Mv.endTo_small s _ x hx; omega)
      have q7 := hrow.cell 1 rfl 0 rfl
      have hphl : ph.length = n := HN.out.1
      have hn0 : 0 < n := by
        have h1 := Cd.check_ok HOK.out.code
        have h2 := HOK.out.srcLen
        have h3 := HN.out.2
        omega
      have hph := Rs.ext RI.ext _ _ _ _ hxr HP.out
      obtain ⟨ap, e9⟩ : ∃ ap, PA = some ap := by
        obtain ⟨ap, _, e9, _, _⟩ := hph.at (i := 0) (by omega)
        exact ⟨ap, e9⟩
      subst e9
      have HR := Lib.hid (And.intro hxr hrow)
      have HRE := Lib.hid (And.intro hrdE (And.intro hph q7))
      have hmm := HMM.out
      clear hrow hxr hrdE hphl hph
      go_upto_region 16 with fail
      obtain ⟨bK, hbK⟩ : ∃ bK, wr.heap.size = bK := ⟨_, rfl⟩
      have hxm : Ext wr (wr.alloc (.map #[] 0)) := (Ext.refl wr).alloc _
      have hO6 := ((Owns.start wr (L := []) (by intro r hr; cases hr)).alloc (.map #[] 0)).push1 (u := .map (some bK)) (e := 58)
      rw [World.size_alloc, hbK, List.nil_append] at hO6
      have hk6 := (Known.new s wr).ext ((Ext.refl (wr.alloc (.map #[] 0))).alloc (.cells #[.map (some bK)] 58))
      rw [hbK] at hk6 ⊢
      obtain ⟨w6, hw6⟩ : ∃ w6, (wr.alloc (.map #[] 0)).alloc (.cells #[.map (some bK)] 58) = w6 := ⟨_, rfl⟩
      rw [hw6] at hO6 hk6 ⊢
      have q9 := hO6.cell 0 rfl 0 rfl
      have HO6 := Lib.hid hO6
      have HK6 := Lib.hid hk6
      have HBK := Lib.hid hbK
      clear hxm hO6 hk6 hbK hw6 q7
      have a0 := (HB.out.ext (HR.out.1.trans HO6.out.ext)).b0
      have a1 := (HB.out.ext (HR.out.1.trans HO6.out.ext)).b1
      have a2 := (HB.out.ext (HR.out.1.trans HO6.out.ext)).b2
      have a3 := (HB.out.ext (HR.out.1.trans HO6.out.ext)).b3
      have a4 := (HB.out.ext (HR.out.1.trans HO6.out.ext)).b4
      have a5 := (HB.out.ext (HR.out.1.trans HO6.out.ext)).b5
      have a6 := (HB.out.ext (HR.out.1.trans HO6.out.ext)).b6
      have a7 := (HB.out.ext (HR.out.1.trans HO6.out.ext)).b7
      have a8 := (HB.out.ext (HR.out.1.trans HO6.out.ext)).b8
      have a9 := (HB.out.ext (HR.out.1.trans HO6.out.ext)).b9
      have a10 := (HB.out.ext (HR.out.1.trans HO6.out.ext)).b10
      go_wp2_with fail
      clear a0 a1 a2 a3 a4 a5 a6 a7 a8 a9 a10 q9
      refine (mSafe_any s ph bK HOK.out HPL.out _ _ w6 (HT.out.ext (HR.out.1.trans HO6.out.ext)) (HS.out.ext (HR.out.1.trans HO6.out.ext)).sh (Rs.ext RI.ext _ _ _ _ HO6.out.ext HRE.out.2.1) HK6.out).mono ?_
      rintro e w7 ⟨rfl, hg7, hk7⟩
      have HO7 := Lib.hid (HO6.out.keepMap HK6.out.obj hg7 (Nat.le_of_eq HBK.out))
      have HK7 := Lib.hid hk7
      obtain ⟨s1, hs1⟩ : ∃ s1, Mv.safe (fun m => Cd.can s.d s.gl s.gs m) s ph = s1 := ⟨_, rfl⟩
      rw [hs1]
      have HS1 := Lib.hid hs1
      clear hg7 hk7 hs1
      cases s1 with
      | false =>
        have HPN := Lib.hid (Mv.planned_safe (can := (fun m => Cd.can s.d s.gl s.gs m)) HC.out HRT.out HFT.out (.inl HS1.out))
        go_wp2_with fail
        go_ret2
        exact MPlanOut.none HPN.out (HX0.out.trans (HR.out.1.trans HO7.out.ext))
      | true =>
      have a0 := (HB.out.ext (HR.out.1.trans HO7.out.ext)).b0
      have a1 := (HB.out.ext (HR.out.1.trans HO7.out.ext)).b1
      have a2 := (HB.out.ext (HR.out.1.trans HO7.out.ext)).b2
      have a3 := (HB.out.ext (HR.out.1.trans HO7.out.ext)).b3
      have a4 := (HB.out.ext (HR.out.1.trans HO7.out.ext)).b4
      have a5 := (HB.out.ext (HR.out.1.trans HO7.out.ext)).b5
      have a6 := (HB.out.ext (HR.out.1.trans HO7.out.ext)).b6
      have a7 := (HB.out.ext (HR.out.1.trans HO7.out.ext)).b7
      have a8 := (HB.out.ext (HR.out.1.trans HO7.out.ext)).b8
      have a9 := (HB.out.ext (HR.out.1.trans HO7.out.ext)).b9
      have a10 := (HB.out.ext (HR.out.1.trans HO7.out.ext)).b10
      have q7 := HO7.out.ext.cell HRE.out.2.2
      have q9 := HO7.out.cell 0 rfl 0 rfl
      go_wp2_with fail
      clear a0 a1 a2 a3 a4 a5 a6 a7 a8 a9 a10 q7 q9
      refine (mSafe_any s (Mv.theEnd s) bK HOK.out (Mv.theEnd_len s) _ _ w7 (HT.out.ext (HR.out.1.trans HO7.out.ext)) (HS.out.ext (HR.out.1.trans HO7.out.ext)).sh (Rs.ext RI.ext _ _ _ _ HO7.out.ext HRE.out.1) HK7.out).mono ?_
      rintro e w8 ⟨rfl, hg8, hk8⟩
      have HO8 := Lib.hid (HO7.out.keepMap HK7.out.obj hg8 (Nat.le_of_eq HBK.out))
      have HK8 := Lib.hid hk8
      obtain ⟨s2, hs2⟩ : ∃ s2, Mv.safe (fun m => Cd.can s.d s.gl s.gs m) s (Mv.theEnd s) = s2 := ⟨_, rfl⟩
      rw [hs2]
      have HS2 := Lib.hid hs2
      clear hg8 hk8 hs2
      cases s2 with
      | false =>
        have HPN := Lib.hid (Mv.planned_safe (can := (fun m => Cd.can s.d s.gl s.gs m)) HC.out HRT.out HFT.out (.inr HS2.out))
        go_wp2_with fail
        go_ret2
        exact MPlanOut.none HPN.out (HX0.out.trans (HR.out.1.trans HO8.out.ext))
      | true =>
      go_wp2_with fail
      have hrdp : Rs RI w8 (.slice (some ap) n cP) ph := Rs.ext RI.ext _ _ _ _ HO8.out.ext HRE.out.2.1
      have hcl := clone_any ph ap cP w8 (rs_rdI hrdp) (by rw [HN.out.1]; exact hn0) (by rw [HN.out.1]; omega)
      rw [HN.out.1] at hcl
      refine hcl.mono ?_
      clear hcl hrdp
      rintro e w9 ⟨gN, cN, rfl, hO9⟩
      have HO9 := Lib.hid (HO8.out.behind hO9.ext (hO9.row 0 rfl))
      have HK9 := Lib.hid (HK8.out.ext hO9.ext)
      clear hO9
      have hsf : ∀ (w : World) (a : Addr) (f : Fn) (cap : Array Value), (store a (.func f #[] cap)).run Tryd.prog w = stored Tryd.prog w a (.func f #[] cap) .plain := fun w a f cap => run_store _ w a _ _ rfl
      obtain ⟨z, hz⟩ : ∃ z, w9.heap.size = z := ⟨_, rfl⟩
      have hps := fun fv => ps_start (P := (fun x => Mv.plan (Mv.fine (fun m => Cd.can s.d s.gl s.gs m) s) (Mv.theEnd s) x = none)) (fv := fv) hz HO9.out HK9.out (Nat.le_of_eq HBK.out)
      have HPS := Lib.hid hps
      clear hps
      go_upto_region 23 with fail
      clear hsf
      have hs10 := HPS.out (.func (.func 43) #[] #[.pointer (some ⟨z, 0, none⟩), .pointer (some ⟨g7, 0, none⟩), .pointer (some ⟨z + 1 + 1, 0, none⟩), .pointer (some ⟨z + 1 + 1 + 1, 0, none⟩), .pointer (some ⟨w.heap.size, 0, none⟩), .pointer (some ⟨bK + 1, 0, none⟩), .pointer (some ⟨z + 1 + 1 + 1 + 1, 0, none⟩)])
      obtain ⟨w10, hw10⟩ : ∃ w10, ((((w9.alloc (.cells #[.slice (some ⟨gN, 0, none⟩) n cN] 22)).alloc (.map #[] 0)).alloc (.cells #[.map (some (z + 1))] 61)).alloc (.cells #[.slice none 0 0] 22)).alloc (.cells #[.func (.func 43) #[] #[.pointer (some ⟨z, 0, none⟩), .pointer (some ⟨g7, 0, none⟩), .pointer (some ⟨z + 1 + 1, 0, none⟩), .pointer (some ⟨z + 1 + 1 + 1, 0, none⟩), .pointer (some ⟨w.heap.size, 0, none⟩), .pointer (some ⟨bK + 1, 0, none⟩), .pointer (some ⟨z + 1 + 1 + 1 + 1, 0, none⟩)]] 32) = w10 := ⟨_, rfl⟩
      rw [hw10] at hs10 ⊢
      have q13 := hs10.c13
      have HS10 := Lib.hid hs10
      have hent := enters_p1
      clear hs10 hw10 hz
      go_wp2_with fail
      clear q13
      have hE : PE wr s n w.heap.size g7 w3.heap.size n DA KA HA GA RA FA TA cD cK cH cG cR cF cT := ⟨HT.out.ext HR.out.1, HOK.out, HN.out.2, HB.out.ext HR.out.1, HS.out.ext HR.out.1, HRE.out.2.2, HRE.out.1⟩
      refine (plan1_any wr s n w.heap.size g7 w3.heap.size n gN cN (bK + 1) z (z + 1 + 1) (z + 1 + 1 + 1) (z + 1 + 1 + 1 + 1) bK (z + 1) DA KA HA GA RA FA TA cD cK cH cG cR cF cT hE _ ph [] [] [] none 0 w10 rfl (by have := Mv.rest_le HRT.out; simp; omega) HRT.out HS10.out).mono ?_
      rintro e w11 ⟨U9, A9, c9, _, hor⟩
      rcases hor with ⟨l, hpl9, rfl, hs9⟩ | ⟨hpl9, rfl, hs9⟩
      · have HPN := Lib.hid (Mv.planned_some (can := (fun m => Cd.can s.d s.gl s.gs m)) HC.out HRT.out HFT.out HS1.out HS2.out hpl9)
        rw [List.nil_append] at hs9
        have q12 := hs9.c12
        have HS9 := Lib.hid hs9
        clear hs9 hpl9 hE
        go_wp2_with fail
        go_ret2
        refine MPlanOut.some HPN.out ((HS9.out.own.sublist ?_).elder (HX0.out.trans HR.out.1))
        unfold psRows
        rw [List.append_nil]
        exact (List.Sublist.cons_cons _ (List.nil_sublist _)).cons _ |>.cons _ |>.cons _
      · have HPN := Lib.hid (Mv.planned_none (can := (fun m => Cd.can s.d s.gl s.gs m)) HC.out HRT.out HFT.out HS1.out HS2.out hpl9)
        have HS9 := Lib.hid hs9
        clear hs9 hpl9 hE
        go_wp2_with fail
        go_ret2
        exact MPlanOut.none HPN.out (HX0.out.trans (HR.out.1.trans HS9.out.own.ext))
end Go.Proofs.YtkbiffbmjgmcaaaDoor

/- THE EXAMPLE of the documentation of law 13. -/
namespace Mv
def exSh (floor room : Int) : Sh := ⟨[0, 1, 2, 3, 4], [0, 0, 0, 0, 0], [0], 1, 2, [], 1, floor, [0, 0, 0, room, 0], [0, 1, 2], [3, 1, 0]⟩
theorem ex_check {s : Sh} (h : exSh (2 : Nat) (1 : Nat) = s) : check s = 0 := by
  subst h
  kernel_rfl
theorem ex_p1 {s : Sh} (h : exSh (2 : Nat) (1 : Nat) = s) : planned (fun m => Cd.can s.d s.gl s.gs m) s [0, 0, 0] = ([0, 0, 2, 2], 0) := by
  subst h
  kernel_rfl
theorem ex_p2 {s : Sh} (h : exSh (2 : Nat) (1 : Nat) = s) : planned (fun m => Cd.can s.d s.gl s.gs m) s [1, 0, 0] = ([0, 2, 2], 0) := by
  subst h
  kernel_rfl
theorem ex_p3 {s : Sh} (h : exSh (2 : Nat) (1 : Nat) = s) : planned (fun m => Cd.can s.d s.gl s.gs m) s [2, 0, 2] = ([], 0) := by
  subst h
  kernel_rfl
theorem ex_p4 {s : Sh} (h : exSh (2 : Nat) (1 : Nat) = s) : planned (fun m => Cd.can s.d s.gl s.gs m) s [0, 1, 0] = ([], 1) := by
  subst h
  kernel_rfl
theorem ex_p5 {s : Sh} (h : exSh (2 : Nat) (0 : Nat) = s) : planned (fun m => Cd.can s.d s.gl s.gs m) s [0, 0, 0] = ([], 8) := by
  subst h
  kernel_rfl
theorem ex_p6 {s : Sh} (h : exSh (3 : Nat) (1 : Nat) = s) : planned (fun m => Cd.can s.d s.gl s.gs m) s [0, 0, 0] = ([], 20) := by
  subst h
  kernel_rfl
theorem ex_s1 {s : Sh} (h : exSh (2 : Nat) (1 : Nat) = s) : (right s [0, 0, 0] && safe (fun m => Cd.can s.d s.gl s.gs m) s [0, 0, 0]) = true := by
  subst h
  kernel_rfl
theorem ex_s2 {s : Sh} (h : exSh (2 : Nat) (1 : Nat) = s) : (right s [2, 0, 2] && safe (fun m => Cd.can s.d s.gl s.gs m) s [2, 0, 2]) = true := by
  subst h
  kernel_rfl
theorem ex_f1 {s : Sh} (h : exSh (2 : Nat) (1 : Nat) = s) : (right s [1, 0, 0] && fits s [1, 0, 0]) = true := by
  subst h
  kernel_rfl
theorem ex_f2 {s : Sh} (h : exSh (2 : Nat) (1 : Nat) = s) : (right s [0, 0, 1] && fits s [0, 0, 1]) = false := by
  subst h
  kernel_rfl
theorem ex_l {s : Sh} (h : exSh (2 : Nat) (1 : Nat) = s) : leftL s [2, 0, 0] [0, 3] = 6 := by
  subst h
  kernel_rfl
end Mv
namespace Go.Proofs.YtkbiffbmjgmcaaaDoor
open Go.RowKit
theorem results_cell1 {P : Program} {fn : Func} {a : Tmp} {t : TypeId} (h : fn.results = #[.cell a t]) {tmps : Array Value} {ad : Addr} {v : Value} {w : World} (ha : tmps.getD a undef = .pointer (some ad)) (hl : (loadVar t ad).run P w = .ok v w) :
    (results fn tmps).run P w = .ok v w := by
  rw [Array.getD_eq_getD_getElem?] at ha
  simp [results, h, asAddr, ha, hl]
theorem heap_new2 (w : World) (o o' : Obj) : ((w.alloc o).alloc o').heap[w.heap.size + 1]? = some o' := by
  have := heap_new (w.alloc o) o'
  rwa [World.size_alloc] at this
/-- A list that is laid in a block of its own reads so in each later world. -/
theorem rs_block {w w' : World} {g : Nat} {cs : Array Value} {t : TypeId} {fz : Nat × Nat} {l : List Int} {n c : Nat} (h : w.heap[g]? = some (.cells cs t fz)) (hx : Ext w w') (hc : cs.toList = l.map (.int .i64)) (hn : n = l.length) (hl : l.length ≤ 1000) (hs : small l) : Rs RI w' (.slice (some ⟨g, 0, none⟩) n c) l :=
  Rs.ext RI.ext _ _ _ _ hx (Rs.small (by rw [← hc]; exact Rd.of_block h) hn (by omega) hs)
theorem small_of {l : List Int} (h : (l.all fun x => decide (-1000 ≤ x) && decide (x ≤ 1000)) = true) : small l := fun x hx => by
  have := List.all_eq_true.1 h x hx
  simp only [Bool.and_eq_true, decide_eq_true_eq] at this
  exact this
theorem rk_zero {w w' : World} {g : Nat} {t : TypeId} {fz : Nat × Nat} (h : w.heap[g]? = some (.cells #[.int .i64 0, .bool false, .int .i64 0, .bool false, .int .i64 0, .bool false, .int .i64 0, .bool false, .int .i64 0, .bool false] t fz)) (hx : Ext w w') : RK w' (.slice (some ⟨g, 0, none⟩) 5 5) [0, 0, 0, 0, 0] := by
  refine RK.ext _ _ _ _ hx ⟨some ⟨g, 0, none⟩, 5, rfl, by decide, fun i x hi => ?_⟩
  have hc : ∀ j, w.cell? ⟨g, j, none⟩ = (#[.int .i64 0, .bool false, .int .i64 0, .bool false, .int .i64 0, .bool false, .int .i64 0, .bool false, .int .i64 0, .bool false] : Array Value)[j]? := fun j => by simp [World.cell?, h]
  match i, hi with
  | 0, hi => simp at hi; subst hi; exact ⟨_, false, rfl, (by rw [add0]; exact (hc 0).trans rfl), (by rw [add0]; exact (hc 1).trans rfl), by decide, by decide⟩
  | 1, hi => simp at hi; subst hi; exact ⟨_, false, rfl, (by rw [add0]; exact (hc 2).trans rfl), (by rw [add0]; exact (hc 3).trans rfl), by decide, by decide⟩
  | 2, hi => simp at hi; subst hi; exact ⟨_, false, rfl, (by rw [add0]; exact (hc 4).trans rfl), (by rw [add0]; exact (hc 5).trans rfl), by decide, by decide⟩
  | 3, hi => simp at hi; subst hi; exact ⟨_, false, rfl, (by rw [add0]; exact (hc 6).trans rfl), (by rw [add0]; exact (hc 7).trans rfl), by decide, by decide⟩
  | 4, hi => simp at hi; subst hi; exact ⟨_, false, rfl, (by rw [add0]; exact (hc 8).trans rfl), (by rw [add0]; exact (hc 9).trans rfl), by decide, by decide⟩
  | i + 5, hi => simp at hi
set_option maxRecDepth 100000 in
set_option maxHeartbeats 8000000 in
theorem example_any (a b : Nat) (ha : a ≤ 100) (hb : b ≤ 100) (w : World) :
    Calls Tryd.prog 25 #[.int .i64 (a : Nat), .int .i64 (b : Nat)] w fun e w' => ∃ v, e = .returned v ∧ RSh w' v (Mv.exSh a b) ∧ Ext w w' := by
  have hmk : ∀ w : World, (Instr.makeSlice 23 (.int .i64 5) (.int .i64 5)).run Tryd.prog w = .ok (.slice (some ⟨w.heap.size, 0, none⟩) 5 5) (w.alloc (.cells #[.int .i64 0, .bool false, .int .i64 0, .bool false, .int .i64 0, .bool false, .int .i64 0, .bool false, .int .i64 0, .bool false] 74)) := fun _ => by kernel_rfl
  go_enter Tryd.func25, Tryd.ntmps25
  go_wp2_with fail
  refine bodyPost_ret (results_cell1 (v := .agg #[.slice (some ⟨w.heap.size + 1, 0, none⟩) 5 5, .slice (some ⟨w.heap.size + 1 + 1, 0, none⟩) 5 5, .slice (some ⟨w.heap.size + 1 + 1 + 1, 0, none⟩) 1 1, .int .i64 1, .int .i64 2, .slice none 0 0, .int .i64 1, .int .i64 (a : Nat), .slice (some ⟨w.heap.size + 1 + 1 + 1 + 1 + 1, 0, none⟩) 5 5, .slice (some ⟨w.heap.size + 1 + 1 + 1 + 1 + 1 + 1, 0, none⟩) 3 3, .slice (some ⟨w.heap.size + 1 + 1 + 1 + 1 + 1 + 1 + 1, 0, none⟩) 3 3]) rfl rfl ?_) rfl ?_
  · go_simp
  obtain ⟨v0, hv0⟩ : ∃ v0, w.alloc (.cells #[.slice (some ⟨w.heap.size + 1, 0, none⟩) 5 5, .slice (some ⟨w.heap.size + 1 + 1, 0, none⟩) 5 5, .slice (some ⟨w.heap.size + 1 + 1 + 1, 0, none⟩) 1 1, .int .i64 1, .int .i64 2, .slice none 0 0, .int .i64 1, .int .i64 (a : Nat), .slice (some ⟨w.heap.size + 1 + 1 + 1 + 1 + 1, 0, none⟩) 5 5, .slice (some ⟨w.heap.size + 1 + 1 + 1 + 1 + 1 + 1, 0, none⟩) 3 3, .slice (some ⟨w.heap.size + 1 + 1 + 1 + 1 + 1 + 1 + 1, 0, none⟩) 3 3] 30) = v0 := ⟨_, rfl⟩
  have s0 : v0.heap.size = w.heap.size + 1 := by rw [← hv0, World.size_alloc]
  have h0 : v0.heap[w.heap.size]? = some (.cells #[.slice (some ⟨w.heap.size + 1, 0, none⟩) 5 5, .slice (some ⟨w.heap.size + 1 + 1, 0, none⟩) 5 5, .slice (some ⟨w.heap.size + 1 + 1 + 1, 0, none⟩) 1 1, .int .i64 1, .int .i64 2, .slice none 0 0, .int .i64 1, .int .i64 (a : Nat), .slice (some ⟨w.heap.size + 1 + 1 + 1 + 1 + 1, 0, none⟩) 5 5, .slice (some ⟨w.heap.size + 1 + 1 + 1 + 1 + 1 + 1, 0, none⟩) 3 3, .slice (some ⟨w.heap.size + 1 + 1 + 1 + 1 + 1 + 1 + 1, 0, none⟩) 3 3] 30) := by rw [← hv0]; exact heap_new _ _
  have x0 : Ext w v0 := by rw [← hv0]; exact (Ext.refl _).alloc _
  obtain ⟨v1, hv1⟩ : ∃ v1, v0.alloc (.cells #[.int .i64 0, .int .i64 1, .int .i64 2, .int .i64 3, .int .i64 4] 3) = v1 := ⟨_, rfl⟩
  have s1 : v1.heap.size = w.heap.size + 1 + 1 := by rw [← hv1, World.size_alloc]; rw [s0]
  have h1 : v1.heap[w.heap.size + 1]? = some (.cells #[.int .i64 0, .int .i64 1, .int .i64 2, .int .i64 3, .int .i64 4] 3) := by rw [← hv1, ← s0]; exact heap_new _ _
  have x1 : Ext v0 v1 := by rw [← hv1]; exact (Ext.refl _).alloc _
  obtain ⟨v2, hv2⟩ : ∃ v2, v1.alloc (.cells #[.int .i64 0, .bool false, .int .i64 0, .bool false, .int .i64 0, .bool false, .int .i64 0, .bool false, .int .i64 0, .bool false] 74) = v2 := ⟨_, rfl⟩
  have s2 : v2.heap.size = w.heap.size + 1 + 1 + 1 := by rw [← hv2, World.size_alloc]; rw [s1]
  have h2 : v2.heap[w.heap.size + 1 + 1]? = some (.cells #[.int .i64 0, .bool false, .int .i64 0, .bool false, .int .i64 0, .bool false, .int .i64 0, .bool false, .int .i64 0, .bool false] 74) := by rw [← hv2, ← s1]; exact heap_new _ _
  have x2 : Ext v1 v2 := by rw [← hv2]; exact (Ext.refl _).alloc _
  obtain ⟨v3, hv3⟩ : ∃ v3, v2.alloc (.cells #[.int .i64 0] 3) = v3 := ⟨_, rfl⟩
  have s3 : v3.heap.size = w.heap.size + 1 + 1 + 1 + 1 := by rw [← hv3, World.size_alloc]; rw [s2]
  have h3 : v3.heap[w.heap.size + 1 + 1 + 1]? = some (.cells #[.int .i64 0] 3) := by rw [← hv3, ← s2]; exact heap_new _ _
  have x3 : Ext v2 v3 := by rw [← hv3]; exact (Ext.refl _).alloc _
  obtain ⟨v4, hv4⟩ : ∃ v4, v3.alloc (.cells #[.slice (some ⟨w.heap.size + 1, 0, none⟩) 5 5, .slice (some ⟨w.heap.size + 1 + 1, 0, none⟩) 5 5, .slice (some ⟨w.heap.size + 1 + 1 + 1, 0, none⟩) 1 1, .int .i64 1] 25) = v4 := ⟨_, rfl⟩
  have s4 : v4.heap.size = w.heap.size + 1 + 1 + 1 + 1 + 1 := by rw [← hv4, World.size_alloc]; rw [s3]
  have h4 : v4.heap[w.heap.size + 1 + 1 + 1 + 1]? = some (.cells #[.slice (some ⟨w.heap.size + 1, 0, none⟩) 5 5, .slice (some ⟨w.heap.size + 1 + 1, 0, none⟩) 5 5, .slice (some ⟨w.heap.size + 1 + 1 + 1, 0, none⟩) 1 1, .int .i64 1] 25) := by rw [← hv4, ← s3]; exact heap_new _ _
  have x4 : Ext v3 v4 := by rw [← hv4]; exact (Ext.refl _).alloc _
  obtain ⟨v5, hv5⟩ : ∃ v5, v4.alloc (.cells #[.int .i64 0, .int .i64 0, .int .i64 0, .int .i64 (b : Nat), .int .i64 0] 3) = v5 := ⟨_, rfl⟩
  have s5 : v5.heap.size = w.heap.size + 1 + 1 + 1 + 1 + 1 + 1 := by rw [← hv5, World.size_alloc]; rw [s4]
  have h5 : v5.heap[w.heap.size + 1 + 1 + 1 + 1 + 1]? = some (.cells #[.int .i64 0, .int .i64 0, .int .i64 0, .int .i64 (b : Nat), .int .i64 0] 3) := by rw [← hv5, ← s4]; exact heap_new _ _
  have x5 : Ext v4 v5 := by rw [← hv5]; exact (Ext.refl _).alloc _
  obtain ⟨v6, hv6⟩ : ∃ v6, v5.alloc (.cells #[.int .i64 0, .int .i64 1, .int .i64 2] 3) = v6 := ⟨_, rfl⟩
  have s6 : v6.heap.size = w.heap.size + 1 + 1 + 1 + 1 + 1 + 1 + 1 := by rw [← hv6, World.size_alloc]; rw [s5]
  have h6 : v6.heap[w.heap.size + 1 + 1 + 1 + 1 + 1 + 1]? = some (.cells #[.int .i64 0, .int .i64 1, .int .i64 2] 3) := by rw [← hv6, ← s5]; exact heap_new _ _
  have x6 : Ext v5 v6 := by rw [← hv6]; exact (Ext.refl _).alloc _
  obtain ⟨v7, hv7⟩ : ∃ v7, v6.alloc (.cells #[.int .i64 3, .int .i64 1, .int .i64 0] 3) = v7 := ⟨_, rfl⟩
  have s7 : v7.heap.size = w.heap.size + 1 + 1 + 1 + 1 + 1 + 1 + 1 + 1 := by rw [← hv7, World.size_alloc]; rw [s6]
  have h7 : v7.heap[w.heap.size + 1 + 1 + 1 + 1 + 1 + 1 + 1]? = some (.cells #[.int .i64 3, .int .i64 1, .int .i64 0] 3) := by rw [← hv7, ← s6]; exact heap_new _ _
  have x7 : Ext v6 v7 := by rw [← hv7]; exact (Ext.refl _).alloc _
  simp only [hv0, hv1, hv2, hv3, hv4, hv5, hv6, hv7]
  refine ⟨_, rfl, ⟨_, _, _, _, _, _, _, rfl, rs_block h1 (((((x2.trans x3).trans x4).trans x5).trans x6).trans x7) rfl rfl (Nat.le_of_ble_eq_true rfl) (small_of rfl), rk_zero h2 ((((x3.trans x4).trans x5).trans x6).trans x7), rs_block h3 (((x4.trans x5).trans x6).trans x7) rfl rfl (Nat.le_of_ble_eq_true rfl) (small_of rfl), ⟨none, 0, rfl, Nat.zero_le _, fun i x hi => by simp [Mv.exSh] at hi⟩, rs_block h5 (x6.trans x7) rfl rfl (Nat.le_of_ble_eq_true rfl) ?_, rs_block h6 x7 rfl rfl (Nat.le_of_ble_eq_true rfl) (small_of rfl), rs_block h7 (Ext.refl v7) rfl rfl (Nat.le_of_ble_eq_true rfl) (small_of rfl), ?_, ?_, ?_, ?_⟩, x0.trans ((((((x1.trans x2).trans x3).trans x4).trans x5).trans x6).trans x7)⟩
  · intro x hx
    simp [Mv.exSh] at hx
    omega
  all_goals
    unfold w64 Mv.exSh
    dsimp only
    omega
end Go.Proofs.YtkbiffbmjgmcaaaDoor

/- THE WALK over sanity of law 13. -/
namespace Go.Proofs.YtkbiffbmjgmcaaaDoor
open Go.RowKit
set_option maxRecDepth 100000 in
set_option maxHeartbeats 16000000 in
theorem sanity_any (w : World) (hT : Tab w) :
    Calls Tryd.prog 9 #[] w fun e w' => e = .returned (.bool true) ∧ Ext w w' := by
  have HT := Lib.hid hT
  clear hT
  go_enter Tryd.func9, Tryd.ntmps9
  go_wp2_with fail
  refine (example_any 2 1 (by omega) (by omega) w).mono ?_
  rintro e w0 ⟨v, rfl, hv, hx0⟩
  obtain ⟨s, hs⟩ : ∃ s, Mv.exSh (2 : Nat) (1 : Nat) = s := ⟨_, rfl⟩
  rw [hs] at hv
  have HSE := Lib.hid hs
  clear hs
  obtain ⟨DA, KA, HA, GA, RA, FA, TA, cD, cK, cH, cG, cR, cF, cT, rfl, hS⟩ := hv.open
  have hx1 := (Ext.refl w0).alloc (.cells #[.slice DA s.disks.length cD, .slice KA s.racks.length cK, .slice HA s.houses.length cH, .int .i64 s.owners, .int .i64 s.d, .slice GA s.gs.length cG, .int .i64 s.gl, .int .i64 s.floor, .slice RA s.room.length cR, .slice FA s.src.length cF, .slice TA s.dst.length cT] 30)
  have HS := Lib.hid (hS.ext hx1)
  have hB := BoxAt.new w0 s DA KA HA GA RA FA TA cD cK cH cG cR cF cT
  have HB := Lib.hid hB
  have HW := Lib.hid (hx0.trans hx1)
  clear hv hS hB hx0 hx1
  obtain ⟨B, hBB⟩ : ∃ B, w0.heap.size = B := ⟨_, rfl⟩
  rw [hBB] at HB
  go_upto_region 2 with fail
  obtain ⟨w1, hw1⟩ : ∃ w1, w0.alloc (.cells #[.slice DA s.disks.length cD, .slice KA s.racks.length cK, .slice HA s.houses.length cH, .int .i64 s.owners, .int .i64 s.d, .slice GA s.gs.length cG, .int .i64 s.gl, .int .i64 s.floor, .slice RA s.room.length cR, .slice FA s.src.length cF, .slice TA s.dst.length cT] 30) = w1 := ⟨_, rfl⟩
  rw [hw1] at HS HB HW ⊢
  clear hBB hw1
  have a0 := HB.out.b0
  have a1 := HB.out.b1
  have a2 := HB.out.b2
  have a3 := HB.out.b3
  have a4 := HB.out.b4
  have a5 := HB.out.b5
  have a6 := HB.out.b6
  have a7 := HB.out.b7
  have a8 := HB.out.b8
  have a9 := HB.out.b9
  have a10 := HB.out.b10
  go_wp2_with fail
  clear a0 a1 a2 a3 a4 a5 a6 a7 a8 a9 a10
  have hc := mPlan_any s [0, 0, 0] _ _ (w1.alloc (.cells #[.int .i64 0, .int .i64 0, .int .i64 0] 3)) (HT.out.ext (HW.out.trans ((Ext.refl _).alloc _))) (HS.out.ext ((Ext.refl _).alloc _)).sh (rs_block (n := 3) (c := 3) (l := [0, 0, 0]) (heap_new w1 (.cells #[.int .i64 0, .int .i64 0, .int .i64 0] 3)) (Ext.refl _) rfl rfl (Nat.le_of_ble_eq_true rfl) (small_of rfl))
  rw [show Mv.planned (fun m => Cd.can s.d s.gl s.gs m) s [0, 0, 0] = ([0, 0, 2, 2], 0) from Mv.ex_p1 HSE.out] at hc
  refine hc.mono ?_
  clear hc
  rintro e w2 ⟨A2, c2, rfl, hO⟩
  have hx : Ext w1 w2 := ((Ext.refl _).alloc _).trans hO.ext
  have HB := Lib.hid (HB.out.ext hx)
  have HS := Lib.hid (HS.out.ext hx)
  have HW := Lib.hid (HW.out.trans hx)
  have HL2 : Hid (Rs RI w2 (.slice A2 4 c2) [0, 0, 2, 2]) := Lib.hid (Rs.small (hO.rd 0 rfl) rfl (Nat.le_of_ble_eq_true rfl) (small_of rfl))
  clear hO hx
  dsimp only [List.length_cons, List.length_nil, Nat.reduceAdd, Nat.zero_add]
  have a0 := HB.out.b0
  have a1 := HB.out.b1
  have a2 := HB.out.b2
  have a3 := HB.out.b3
  have a4 := HB.out.b4
  have a5 := HB.out.b5
  have a6 := HB.out.b6
  have a7 := HB.out.b7
  have a8 := HB.out.b8
  have a9 := HB.out.b9
  have a10 := HB.out.b10
  go_wp2_with fail
  clear a0 a1 a2 a3 a4 a5 a6 a7 a8 a9 a10
  have hc := mPlan_any s [1, 0, 0] _ _ (w2.alloc (.cells #[.int .i64 1, .int .i64 0, .int .i64 0] 3)) (HT.out.ext (HW.out.trans ((Ext.refl _).alloc _))) (HS.out.ext ((Ext.refl _).alloc _)).sh (rs_block (n := 3) (c := 3) (l := [1, 0, 0]) (heap_new w2 (.cells #[.int .i64 1, .int .i64 0, .int .i64 0] 3)) (Ext.refl _) rfl rfl (Nat.le_of_ble_eq_true rfl) (small_of rfl))
  rw [show Mv.planned (fun m => Cd.can s.d s.gl s.gs m) s [1, 0, 0] = ([0, 2, 2], 0) from Mv.ex_p2 HSE.out] at hc
  refine hc.mono ?_
  clear hc
  rintro e w3 ⟨A3, c3, rfl, hO⟩
  have hx : Ext w2 w3 := ((Ext.refl _).alloc _).trans hO.ext
  have HB := Lib.hid (HB.out.ext hx)
  have HS := Lib.hid (HS.out.ext hx)
  have HW := Lib.hid (HW.out.trans hx)
  have HL2 := Lib.hid (Rs.ext RI.ext _ _ _ _ hx HL2.out)
  have HL3 : Hid (Rs RI w3 (.slice A3 3 c3) [0, 2, 2]) := Lib.hid (Rs.small (hO.rd 0 rfl) rfl (Nat.le_of_ble_eq_true rfl) (small_of rfl))
  clear hO hx
  dsimp only [List.length_cons, List.length_nil, Nat.reduceAdd, Nat.zero_add]
  have a0 := HB.out.b0
  have a1 := HB.out.b1
  have a2 := HB.out.b2
  have a3 := HB.out.b3
  have a4 := HB.out.b4
  have a5 := HB.out.b5
  have a6 := HB.out.b6
  have a7 := HB.out.b7
  have a8 := HB.out.b8
  have a9 := HB.out.b9
  have a10 := HB.out.b10
  go_wp2_with fail
  clear a0 a1 a2 a3 a4 a5 a6 a7 a8 a9 a10
  have hc := mPlan_any s [2, 0, 2] _ _ (w3.alloc (.cells #[.int .i64 2, .int .i64 0, .int .i64 2] 3)) (HT.out.ext (HW.out.trans ((Ext.refl _).alloc _))) (HS.out.ext ((Ext.refl _).alloc _)).sh (rs_block (n := 3) (c := 3) (l := [2, 0, 2]) (heap_new w3 (.cells #[.int .i64 2, .int .i64 0, .int .i64 2] 3)) (Ext.refl _) rfl rfl (Nat.le_of_ble_eq_true rfl) (small_of rfl))
  rw [show Mv.planned (fun m => Cd.can s.d s.gl s.gs m) s [2, 0, 2] = ([], 0) from Mv.ex_p3 HSE.out] at hc
  refine hc.mono ?_
  clear hc
  rintro e w4 ⟨A4, c4, rfl, hO⟩
  have hx : Ext w3 w4 := ((Ext.refl _).alloc _).trans hO.ext
  have HB := Lib.hid (HB.out.ext hx)
  have HS := Lib.hid (HS.out.ext hx)
  have HW := Lib.hid (HW.out.trans hx)
  have HL2 := Lib.hid (Rs.ext RI.ext _ _ _ _ hx HL2.out)
  have HL3 := Lib.hid (Rs.ext RI.ext _ _ _ _ hx HL3.out)
  have HL4 : Hid (Rs RI w4 (.slice A4 0 c4) []) := Lib.hid (Rs.small (hO.rd 0 rfl) rfl (Nat.le_of_ble_eq_true rfl) (small_of rfl))
  clear hO hx
  dsimp only [List.length_cons, List.length_nil, Nat.reduceAdd, Nat.zero_add]
  have a0 := HB.out.b0
  have a1 := HB.out.b1
  have a2 := HB.out.b2
  have a3 := HB.out.b3
  have a4 := HB.out.b4
  have a5 := HB.out.b5
  have a6 := HB.out.b6
  have a7 := HB.out.b7
  have a8 := HB.out.b8
  have a9 := HB.out.b9
  have a10 := HB.out.b10
  go_wp2_with fail
  clear a0 a1 a2 a3 a4 a5 a6 a7 a8 a9 a10
  have hc := mPlan_any s [0, 1, 0] _ _ (w4.alloc (.cells #[.int .i64 0, .int .i64 1, .int .i64 0] 3)) (HT.out.ext (HW.out.trans ((Ext.refl _).alloc _))) (HS.out.ext ((Ext.refl _).alloc _)).sh (rs_block (n := 3) (c := 3) (l := [0, 1, 0]) (heap_new w4 (.cells #[.int .i64 0, .int .i64 1, .int .i64 0] 3)) (Ext.refl _) rfl rfl (Nat.le_of_ble_eq_true rfl) (small_of rfl))
  rw [show Mv.planned (fun m => Cd.can s.d s.gl s.gs m) s [0, 1, 0] = ([], 1) from Mv.ex_p4 HSE.out] at hc
  refine hc.mono ?_
  clear hc
  rintro e w5 ⟨A5, c5, rfl, hO⟩
  have hx : Ext w4 w5 := ((Ext.refl _).alloc _).trans hO.ext
  have HB := Lib.hid (HB.out.ext hx)
  have HS := Lib.hid (HS.out.ext hx)
  have HW := Lib.hid (HW.out.trans hx)
  have HL2 := Lib.hid (Rs.ext RI.ext _ _ _ _ hx HL2.out)
  have HL3 := Lib.hid (Rs.ext RI.ext _ _ _ _ hx HL3.out)
  have HL5 : Hid (Rs RI w5 (.slice A5 0 c5) []) := Lib.hid (Rs.small (hO.rd 0 rfl) rfl (Nat.le_of_ble_eq_true rfl) (small_of rfl))
  clear hO hx
  dsimp only [List.length_cons, List.length_nil, Nat.reduceAdd, Nat.zero_add]
  go_wp2_with fail
  refine (example_any 2 0 (by omega) (by omega) w5).mono ?_
  rintro e w6 ⟨v, rfl, hv, hx0⟩
  obtain ⟨s6, hs⟩ : ∃ s6, Mv.exSh (2 : Nat) (0 : Nat) = s6 := ⟨_, rfl⟩
  rw [hs] at hv
  have HSF := Lib.hid hs
  clear hs
  have hc := mPlan_any s6 [0, 0, 0] v _ (w6.alloc (.cells #[.int .i64 0, .int .i64 0, .int .i64 0] 3)) (HT.out.ext (HW.out.trans (hx0.trans ((Ext.refl _).alloc _)))) (RSh.ext _ _ _ _ ((Ext.refl _).alloc _) hv) (rs_block (n := 3) (c := 3) (l := [0, 0, 0]) (heap_new w6 (.cells #[.int .i64 0, .int .i64 0, .int .i64 0] 3)) (Ext.refl _) rfl rfl (Nat.le_of_ble_eq_true rfl) (small_of rfl))
  rw [show Mv.planned (fun m => Cd.can s6.d s6.gl s6.gs m) s6 [0, 0, 0] = ([], 8) from Mv.ex_p5 HSF.out] at hc
  have HC := Lib.hid hc
  have HX0 := Lib.hid hx0
  clear hc hv hx0
  go_wp2_with fail
  refine HC.out.mono ?_
  clear HC HSF
  rintro e w7 ⟨A7, c7, rfl, hO⟩
  have hx : Ext w5 w7 := (HX0.out.trans ((Ext.refl _).alloc _)).trans hO.ext
  have HB := Lib.hid (HB.out.ext hx)
  have HS := Lib.hid (HS.out.ext hx)
  have HW := Lib.hid (HW.out.trans hx)
  have HL2 := Lib.hid (Rs.ext RI.ext _ _ _ _ hx HL2.out)
  have HL3 := Lib.hid (Rs.ext RI.ext _ _ _ _ hx HL3.out)
  clear hO hx HX0
  dsimp only [List.length_cons, List.length_nil, Nat.reduceAdd, Nat.zero_add]
  go_wp2_with fail
  refine (example_any 3 1 (by omega) (by omega) w7).mono ?_
  rintro e w8 ⟨v, rfl, hv, hx0⟩
  obtain ⟨s8, hs⟩ : ∃ s8, Mv.exSh (3 : Nat) (1 : Nat) = s8 := ⟨_, rfl⟩
  rw [hs] at hv
  have HSF := Lib.hid hs
  clear hs
  have hc := mPlan_any s8 [0, 0, 0] v _ (w8.alloc (.cells #[.int .i64 0, .int .i64 0, .int .i64 0] 3)) (HT.out.ext (HW.out.trans (hx0.trans ((Ext.refl _).alloc _)))) (RSh.ext _ _ _ _ ((Ext.refl _).alloc _) hv) (rs_block (n := 3) (c := 3) (l := [0, 0, 0]) (heap_new w8 (.cells #[.int .i64 0, .int .i64 0, .int .i64 0] 3)) (Ext.refl _) rfl rfl (Nat.le_of_ble_eq_true rfl) (small_of rfl))
  rw [show Mv.planned (fun m => Cd.can s8.d s8.gl s8.gs m) s8 [0, 0, 0] = ([], 20) from Mv.ex_p6 HSF.out] at hc
  have HC := Lib.hid hc
  have HX0 := Lib.hid hx0
  clear hc hv hx0
  go_wp2_with fail
  refine HC.out.mono ?_
  clear HC HSF
  rintro e w9 ⟨A9, c9, rfl, hO⟩
  have hx : Ext w7 w9 := (HX0.out.trans ((Ext.refl _).alloc _)).trans hO.ext
  have HB := Lib.hid (HB.out.ext hx)
  have HS := Lib.hid (HS.out.ext hx)
  have HW := Lib.hid (HW.out.trans hx)
  have HL2 := Lib.hid (Rs.ext RI.ext _ _ _ _ hx HL2.out)
  have HL3 := Lib.hid (Rs.ext RI.ext _ _ _ _ hx HL3.out)
  clear hO hx HX0
  dsimp only [List.length_cons, List.length_nil, Nat.reduceAdd, Nat.zero_add]
  have a0 := HB.out.b0
  have a1 := HB.out.b1
  have a2 := HB.out.b2
  have a3 := HB.out.b3
  have a4 := HB.out.b4
  have a5 := HB.out.b5
  have a6 := HB.out.b6
  have a7 := HB.out.b7
  have a8 := HB.out.b8
  have a9 := HB.out.b9
  have a10 := HB.out.b10
  go_wp2_with fail
  clear a0 a1 a2 a3 a4 a5 a6 a7 a8 a9 a10
  have hc := mCheck_any s _ w9 HS.out.sh
  rw [show Mv.check s = 0 from Mv.ex_check HSE.out] at hc
  refine hc.mono ?_
  clear hc
  rintro e w10 ⟨rfl, hxx⟩
  have hx : Ext w9 w10 := (Ext.refl _).trans hxx
  have HB := Lib.hid (HB.out.ext hx)
  have HS := Lib.hid (HS.out.ext hx)
  have HW := Lib.hid (HW.out.trans hx)
  have HL2 := Lib.hid (Rs.ext RI.ext _ _ _ _ hx HL2.out)
  have HL3 := Lib.hid (Rs.ext RI.ext _ _ _ _ hx HL3.out)
  clear hxx hx
  have a0 := HB.out.b0
  have a1 := HB.out.b1
  have a2 := HB.out.b2
  have a3 := HB.out.b3
  have a4 := HB.out.b4
  have a5 := HB.out.b5
  have a6 := HB.out.b6
  have a7 := HB.out.b7
  have a8 := HB.out.b8
  have a9 := HB.out.b9
  have a10 := HB.out.b10
  go_wp2_with fail
  clear a0 a1 a2 a3 a4 a5 a6 a7 a8 a9 a10
  have hc := mSafeX_any s [0, 0, 0] _ _ (w10.alloc (.cells #[.int .i64 0, .int .i64 0, .int .i64 0] 3)) (HT.out.ext (HW.out.trans ((Ext.refl _).alloc _))) (HS.out.ext ((Ext.refl _).alloc _)).sh (rs_block (n := 3) (c := 3) (l := [0, 0, 0]) (heap_new w10 (.cells #[.int .i64 0, .int .i64 0, .int .i64 0] 3)) (Ext.refl _) rfl rfl (Nat.le_of_ble_eq_true rfl) (small_of rfl))
  rw [show (Mv.right s [0, 0, 0] && Mv.safe (fun m => Cd.can s.d s.gl s.gs m) s [0, 0, 0]) = true from Mv.ex_s1 HSE.out] at hc
  refine hc.mono ?_
  clear hc
  rintro e w11 ⟨rfl, hxx⟩
  have hx : Ext w10 w11 := ((Ext.refl _).alloc _).trans hxx
  have HB := Lib.hid (HB.out.ext hx)
  have HS := Lib.hid (HS.out.ext hx)
  have HW := Lib.hid (HW.out.trans hx)
  have HL2 := Lib.hid (Rs.ext RI.ext _ _ _ _ hx HL2.out)
  have HL3 := Lib.hid (Rs.ext RI.ext _ _ _ _ hx HL3.out)
  clear hxx hx
  have a0 := HB.out.b0
  have a1 := HB.out.b1
  have a2 := HB.out.b2
  have a3 := HB.out.b3
  have a4 := HB.out.b4
  have a5 := HB.out.b5
  have a6 := HB.out.b6
  have a7 := HB.out.b7
  have a8 := HB.out.b8
  have a9 := HB.out.b9
  have a10 := HB.out.b10
  go_wp2_with fail
  clear a0 a1 a2 a3 a4 a5 a6 a7 a8 a9 a10
  have hc := mSafeX_any s [2, 0, 2] _ _ (w11.alloc (.cells #[.int .i64 2, .int .i64 0, .int .i64 2] 3)) (HT.out.ext (HW.out.trans ((Ext.refl _).alloc _))) (HS.out.ext ((Ext.refl _).alloc _)).sh (rs_block (n := 3) (c := 3) (l := [2, 0, 2]) (heap_new w11 (.cells #[.int .i64 2, .int .i64 0, .int .i64 2] 3)) (Ext.refl _) rfl rfl (Nat.le_of_ble_eq_true rfl) (small_of rfl))
  rw [show (Mv.right s [2, 0, 2] && Mv.safe (fun m => Cd.can s.d s.gl s.gs m) s [2, 0, 2]) = true from Mv.ex_s2 HSE.out] at hc
  refine hc.mono ?_
  clear hc
  rintro e w12 ⟨rfl, hxx⟩
  have hx : Ext w11 w12 := ((Ext.refl _).alloc _).trans hxx
  have HB := Lib.hid (HB.out.ext hx)
  have HS := Lib.hid (HS.out.ext hx)
  have HW := Lib.hid (HW.out.trans hx)
  have HL2 := Lib.hid (Rs.ext RI.ext _ _ _ _ hx HL2.out)
  have HL3 := Lib.hid (Rs.ext RI.ext _ _ _ _ hx HL3.out)
  clear hxx hx
  have a0 := HB.out.b0
  have a1 := HB.out.b1
  have a2 := HB.out.b2
  have a3 := HB.out.b3
  have a4 := HB.out.b4
  have a5 := HB.out.b5
  have a6 := HB.out.b6
  have a7 := HB.out.b7
  have a8 := HB.out.b8
  have a9 := HB.out.b9
  have a10 := HB.out.b10
  go_wp2_with fail
  clear a0 a1 a2 a3 a4 a5 a6 a7 a8 a9 a10
  have hc := mFits_any s [1, 0, 0] _ _ (w12.alloc (.cells #[.int .i64 1, .int .i64 0, .int .i64 0] 3)) (HS.out.ext ((Ext.refl _).alloc _)).sh (rs_block (n := 3) (c := 3) (l := [1, 0, 0]) (heap_new w12 (.cells #[.int .i64 1, .int .i64 0, .int .i64 0] 3)) (Ext.refl _) rfl rfl (Nat.le_of_ble_eq_true rfl) (small_of rfl))
  rw [show (Mv.right s [1, 0, 0] && Mv.fits s [1, 0, 0]) = true from Mv.ex_f1 HSE.out] at hc
  refine hc.mono ?_
  clear hc
  rintro e w13 ⟨rfl, hxx⟩
  have hx : Ext w12 w13 := ((Ext.refl _).alloc _).trans hxx
  have HB := Lib.hid (HB.out.ext hx)
  have HS := Lib.hid (HS.out.ext hx)
  have HW := Lib.hid (HW.out.trans hx)
  have HL2 := Lib.hid (Rs.ext RI.ext _ _ _ _ hx HL2.out)
  have HL3 := Lib.hid (Rs.ext RI.ext _ _ _ _ hx HL3.out)
  clear hxx hx
  have a0 := HB.out.b0
  have a1 := HB.out.b1
  have a2 := HB.out.b2
  have a3 := HB.out.b3
  have a4 := HB.out.b4
  have a5 := HB.out.b5
  have a6 := HB.out.b6
  have a7 := HB.out.b7
  have a8 := HB.out.b8
  have a9 := HB.out.b9
  have a10 := HB.out.b10
  go_wp2_with fail
  clear a0 a1 a2 a3 a4 a5 a6 a7 a8 a9 a10
  have hc := mFits_any s [0, 0, 1] _ _ (w13.alloc (.cells #[.int .i64 0, .int .i64 0, .int .i64 1] 3)) (HS.out.ext ((Ext.refl _).alloc _)).sh (rs_block (n := 3) (c := 3) (l := [0, 0, 1]) (heap_new w13 (.cells #[.int .i64 0, .int .i64 0, .int .i64 1] 3)) (Ext.refl _) rfl rfl (Nat.le_of_ble_eq_true rfl) (small_of rfl))
  rw [show (Mv.right s [0, 0, 1] && Mv.fits s [0, 0, 1]) = false from Mv.ex_f2 HSE.out] at hc
  refine hc.mono ?_
  clear hc
  rintro e w14 ⟨rfl, hxx⟩
  have hx : Ext w13 w14 := ((Ext.refl _).alloc _).trans hxx
  have HB := Lib.hid (HB.out.ext hx)
  have HS := Lib.hid (HS.out.ext hx)
  have HW := Lib.hid (HW.out.trans hx)
  have HL2 := Lib.hid (Rs.ext RI.ext _ _ _ _ hx HL2.out)
  have HL3 := Lib.hid (Rs.ext RI.ext _ _ _ _ hx HL3.out)
  clear hxx hx
  have a0 := HB.out.b0
  have a1 := HB.out.b1
  have a2 := HB.out.b2
  have a3 := HB.out.b3
  have a4 := HB.out.b4
  have a5 := HB.out.b5
  have a6 := HB.out.b6
  have a7 := HB.out.b7
  have a8 := HB.out.b8
  have a9 := HB.out.b9
  have a10 := HB.out.b10
  go_wp2_with fail
  clear a0 a1 a2 a3 a4 a5 a6 a7 a8 a9 a10
  have hc := mLeft_any s [2, 0, 0] [0, 3] _ _ _ ((w14.alloc (.cells #[.int .i64 2, .int .i64 0, .int .i64 0] 3)).alloc (.cells #[.int .i64 0, .int .i64 3] 3)) (HS.out.ext (((Ext.refl _).alloc _).alloc _)).sh (Rs.ext RI.ext _ _ _ _ ((Ext.refl _).alloc _) (rs_block (n := 3) (c := 3) (l := [2, 0, 0]) (heap_new w14 (.cells #[.int .i64 2, .int .i64 0, .int .i64 0] 3)) (Ext.refl _) rfl rfl (Nat.le_of_ble_eq_true rfl) (small_of rfl))) (rs_block (n := 2) (c := 2) (l := [0, 3]) (heap_new2 w14 (.cells #[.int .i64 2, .int .i64 0, .int .i64 0] 3) (.cells #[.int .i64 0, .int .i64 3] 3)) (Ext.refl _) rfl rfl (Nat.le_of_ble_eq_true rfl) (small_of rfl))
  rw [show Mv.leftL s [2, 0, 0] [0, 3] = 6 from Mv.ex_l HSE.out] at hc
  refine hc.mono ?_
  clear hc
  rintro e w15 ⟨rfl, hxx⟩
  have hx : Ext w14 w15 := (((Ext.refl _).alloc _).alloc _).trans hxx
  have HB := Lib.hid (HB.out.ext hx)
  have HS := Lib.hid (HS.out.ext hx)
  have HW := Lib.hid (HW.out.trans hx)
  have HL2 := Lib.hid (Rs.ext RI.ext _ _ _ _ hx HL2.out)
  have HL3 := Lib.hid (Rs.ext RI.ext _ _ _ _ hx HL3.out)
  clear hxx hx
  go_wp2_with fail
  have hc := kSame_any [0, 0, 2, 2] [0, 0, 2, 2] _ _ (w15.alloc (.cells #[.int .i64 0, .int .i64 0, .int .i64 2, .int .i64 2] 3)) (Rs.ext RI.ext _ _ _ _ ((Ext.refl _).alloc _) HL2.out) (rs_block (n := 4) (c := 4) (l := [0, 0, 2, 2]) (heap_new w15 (.cells #[.int .i64 0, .int .i64 0, .int .i64 2, .int .i64 2] 3)) (Ext.refl _) rfl rfl (Nat.le_of_ble_eq_true rfl) (small_of rfl))
  rw [decide_eq_true rfl] at hc
  refine hc.mono ?_
  clear hc
  rintro e w16 ⟨rfl, hxx⟩
  have hx : Ext w15 w16 := ((Ext.refl _).alloc _).trans hxx
  have HB := Lib.hid (HB.out.ext hx)
  have HS := Lib.hid (HS.out.ext hx)
  have HW := Lib.hid (HW.out.trans hx)
  have HL2 := Lib.hid (Rs.ext RI.ext _ _ _ _ hx HL2.out)
  have HL3 := Lib.hid (Rs.ext RI.ext _ _ _ _ hx HL3.out)
  clear hxx hx
  go_wp2_with fail
  have hc := kSame_any [0, 2, 2] [0, 2, 2] _ _ (w16.alloc (.cells #[.int .i64 0, .int .i64 2, .int .i64 2] 3)) (Rs.ext RI.ext _ _ _ _ ((Ext.refl _).alloc _) HL3.out) (rs_block (n := 3) (c := 3) (l := [0, 2, 2]) (heap_new w16 (.cells #[.int .i64 0, .int .i64 2, .int .i64 2] 3)) (Ext.refl _) rfl rfl (Nat.le_of_ble_eq_true rfl) (small_of rfl))
  rw [decide_eq_true rfl] at hc
  refine hc.mono ?_
  clear hc
  rintro e w17 ⟨rfl, hxx⟩
  have hx : Ext w16 w17 := ((Ext.refl _).alloc _).trans hxx
  have HB := Lib.hid (HB.out.ext hx)
  have HS := Lib.hid (HS.out.ext hx)
  have HW := Lib.hid (HW.out.trans hx)
  have HL2 := Lib.hid (Rs.ext RI.ext _ _ _ _ hx HL2.out)
  have HL3 := Lib.hid (Rs.ext RI.ext _ _ _ _ hx HL3.out)
  clear hxx hx
  go_wp2_with fail
  go_ret
  exact ⟨rfl, HW.out⟩
end Go.Proofs.YtkbiffbmjgmcaaaDoor

/- THE WALK over Plan of the specification of moves. -/
namespace Go.Proofs.YtkbiffbmjgmcaaaDoor
open Go.RowKit
/-- What Plan returns. -/
def PlannedOut (r : List Nat × Int) (w : World) (e : Ending) (w' : World) : Prop := ∃ A c, e = .returned (.agg #[.slice A r.1.length c, .int .i64 r.2]) ∧ Owns w w' [lrow A c r.1]
theorem PlannedOut.none {w w' : World} {c : Int} (h : Ext w w') : PlannedOut ([], c) w (.returned (.agg #[.slice Option.none 0 0, .int .i64 c])) w' := ⟨_, _, rfl, lrow_nil h⟩
theorem PlannedOut.some {w w' : World} {l : List Nat} {A : Option Addr} {c : Nat} {d : Int} (h : Owns w w' [lrow A c l]) : PlannedOut (l, d) w (.returned (.agg #[.slice A l.length c, .int .i64 d])) w' := ⟨A, c, rfl, h⟩
end Go.Proofs.YtkbiffbmjgmcaaaDoor

/- MOVES: with more room, or a lesser floor. -/
namespace Mv
/-- The room of the first k disks widened. -/
def wideTo (room : List Int) (more : List UInt8) : Nat → List Int
  | 0 => room
  | k + 1 => if k < more.length then (wideTo room more k).set k (min 24 (room.getD k 0 + ((more.getD k 0).toNat : Int))) else wideTo room more k
theorem wideTo_len (room : List Int) (more : List UInt8) : ∀ k, (wideTo room more k).length = room.length
  | 0 => rfl
  | k + 1 => by
    rw [wideTo]
    split
    · rw [List.length_set, wideTo_len room more k]
    · exact wideTo_len room more k
theorem wideTo_yes {room : List Int} {more : List UInt8} {k : Nat} (h : k < more.length) : wideTo room more (k + 1) = (wideTo room more k).set k (min 24 (room.getD k 0 + ((more.getD k 0).toNat : Int))) := if_pos h
theorem wideTo_no {room : List Int} {more : List UInt8} {k : Nat} (h : ¬ k < more.length) : wideTo room more (k + 1) = wideTo room more k := if_neg h
theorem wideTo_get (room : List Int) (more : List UInt8) (j : Nat) (hj : j < room.length) : ∀ k, (wideTo room more k).getD j 0 = if j < k ∧ j < more.length then min 24 (room.getD j 0 + ((more.getD j 0).toNat : Int)) else room.getD j 0
  | 0 => by simp [wideTo]
  | k + 1 => by
    have ih := wideTo_get room more j hj k
    by_cases h : k < more.length
    · rw [wideTo_yes h]
      by_cases e : k = j
      · subst e
        rw [getD_set_self (by rw [wideTo_len]; exact hj), if_pos ⟨by omega, h⟩]
      · rw [getD_set_other e, ih]
        by_cases h2 : j < k ∧ j < more.length
        · rw [if_pos h2, if_pos ⟨by omega, h2.2⟩]
        · rw [if_neg h2, if_neg (by omega)]
    · rw [wideTo_no h, ih]
      by_cases h2 : j < k ∧ j < more.length
      · rw [if_pos h2, if_pos ⟨by omega, h2.2⟩]
      · rw [if_neg h2, if_neg (by omega)]
theorem wide_ok {room : List Int} (h : ∀ x ∈ room, 0 ≤ x ∧ x ≤ 24) (more : List UInt8) (k : Nat) : (∀ x ∈ wideTo room more k, 0 ≤ x ∧ x ≤ 24) ∧ ∀ d, d < (wideTo room more k).length → room.getD d 0 ≤ (wideTo room more k).getD d 0 := by
  have hg : ∀ d, d < room.length → 0 ≤ room.getD d 0 ∧ room.getD d 0 ≤ 24 := fun d hd => by
    have := h _ (List.getElem_mem hd)
    rw [List.getD_eq_getElem?_getD, List.getElem?_eq_getElem hd]
    exact this
  have hh : ∀ d, d < room.length → 0 ≤ (wideTo room more k).getD d 0 ∧ (wideTo room more k).getD d 0 ≤ 24 ∧ room.getD d 0 ≤ (wideTo room more k).getD d 0 := fun d hd => by
    rw [wideTo_get room more d hd k]
    have := hg d hd
    split <;> omega
  refine ⟨fun x hx => ?_, fun d hd => (hh d (by rw [wideTo_len] at hd; exact hd)).2.2⟩
  obtain ⟨d, hd, rfl⟩ := List.getElem_of_mem hx
  rw [wideTo_len] at hd
  have := hh d hd
  rw [List.getD_eq_getElem?_getD, List.getElem?_eq_getElem (by rw [wideTo_len]; exact hd)] at this
  exact ⟨this.1, this.2.1⟩
end Mv
namespace Go.Proofs.YtkbiffbmjgmcaaaDoor
open Go.RowKit
noncomputable def rx_two_code : Code := ((Tryd.f6.body.bind (regionOf 7)).getD .skip)
set_option maxRecDepth 1000000 in
set_option maxHeartbeats 16000000 in
theorem rx_two (wr : World) (B : Nat) (s : Mv.Sh) (DA KA HA GA RA FA TA : Option Addr) (cD cK cH cG cR cF cT : Nat) (hB : BoxAt wr B s DA KA HA GA RA FA TA cD cK cH cG cR cF cT) (c0 c1 c2 c4 c5 c6 c7 c8 c9 c10 c11 c12 c13 c14 c15 c16 c17 c18 c19 c20 c21 c22 c23 c24 c25 c26 c27 c28 c29 c30 c31 c32 c33 c34 c35 c36 c37 c38 c39 c40 c41 c42 c43 c44 c45 c46 c47 c48 c49 c50 c51 c52 c53 c54 c55 c56 c57 c58 c59 c60 c61 c62 c63 c64 c65 c66 c67 c68 c69 c70 c71 c72 c73 c74 c75 c76 c77 c78 c79 c80 c81 c82 c83 c84 c85 c86 c87 c88 c89 c90 c91 c92 c93 c94 c95 : Value) (df : List Deferred) (K : Act → World → Prop)
    (hK : ∀ (g10 g11 : Nat) (u36 u37 : Value) (wx : World), Owns wr wx [⟨.slice (some ⟨g10, 0, none⟩) 11 11, 30, 1, 11, [.slice DA s.disks.length cD, .slice KA s.racks.length cK, .slice HA s.houses.length cH, .int .i64 s.owners, .int .i64 s.d, .slice GA s.gs.length cG, .int .i64 s.gl, .int .i64 s.floor, .slice RA s.room.length cR, .slice FA s.src.length cF, .slice TA s.dst.length cT]⟩, ⟨.slice (some ⟨g11, 0, none⟩) 11 11, 30, 1, 11, [.slice DA s.disks.length cD, .slice KA s.racks.length cK, .slice HA s.houses.length cH, .int .i64 s.owners, .int .i64 s.d, .slice GA s.gs.length cG, .int .i64 s.gl, .int .i64 s.floor, .slice RA s.room.length cR, .slice FA s.src.length cF, .slice TA s.dst.length cT]⟩] → K ⟨#[c0, c1, c2, .pointer (some ⟨B, 0, none⟩), c4, c5, c6, c7, c8, c9, .pointer (some ⟨g10, 0, none⟩), .pointer (some ⟨g11, 0, none⟩), c12, c13, c14, c15, c16, c17, c18, c19, c20, c21, c22, c23, c24, c25, c26, c27, c28, c29, c30, c31, c32, c33, c34, c35, u36, u37, c38, c39, c40, c41, c42, c43, c44, c45, c46, c47, c48, c49, c50, c51, c52, c53, c54, c55, c56, c57, c58, c59, c60, c61, c62, c63, c64, c65, c66, c67, c68, c69, c70, c71, c72, c73, c74, c75, c76, c77, c78, c79, c80, c81, c82, c83, c84, c85, c86, c87, c88, c89, c90, c91, c92, c93, c94, c95], df⟩ wx) :
    Code.wp Tryd.prog rx_two_code (AtEnd K) ⟨#[c0, c1, c2, .pointer (some ⟨B, 0, none⟩), c4, c5, c6, c7, c8, c9, c10, c11, c12, c13, c14, c15, c16, c17, c18, c19, c20, c21, c22, c23, c24, c25, c26, c27, c28, c29, c30, c31, c32, c33, c34, c35, c36, c37, c38, c39, c40, c41, c42, c43, c44, c45, c46, c47, c48, c49, c50, c51, c52, c53, c54, c55, c56, c57, c58, c59, c60, c61, c62, c63, c64, c65, c66, c67, c68, c69, c70, c71, c72, c73, c74, c75, c76, c77, c78, c79, c80, c81, c82, c83, c84, c85, c86, c87, c88, c89, c90, c91, c92, c93, c94, c95], df⟩ wr := by
  have hlt : B < wr.heap.size := lt_of_cell hB.b0
  obtain ⟨a0, a1, a2, a3, a4, a5, a6, a7, a8, a9, a10⟩ := hB
  conv => arg 2; whnf
  have h1 := (((Owns.start wr (L := []) (by intro r hr; cases hr)).wider.new 0 #[.slice DA s.disks.length cD, .slice KA s.racks.length cK, .slice HA s.houses.length cH, .int .i64 s.owners, .int .i64 s.d, .slice GA s.gs.length cG, .int .i64 s.gl, .int .i64 s.floor, .slice RA s.room.length cR, .slice FA s.src.length cF, .slice TA s.dst.length cT] 30 (by simp [maxLen])).wider.new 1 #[.slice DA s.disks.length cD, .slice KA s.racks.length cK, .slice HA s.houses.length cH, .int .i64 s.owners, .int .i64 s.d, .slice GA s.gs.length cG, .int .i64 s.gl, .int .i64 s.floor, .slice RA s.room.length cR, .slice FA s.src.length cF, .slice TA s.dst.length cT] 30 (by simp [maxLen])).drew
  simp only [List.nil_append, List.set_cons_zero, List.set_cons_succ, List.cons_append, World.size_alloc] at h1
  have H1 : Hid (Owns wr ((wr.alloc (.cells #[.slice DA s.disks.length cD, .slice KA s.racks.length cK, .slice HA s.houses.length cH, .int .i64 s.owners, .int .i64 s.d, .slice GA s.gs.length cG, .int .i64 s.gl, .int .i64 s.floor, .slice RA s.room.length cR, .slice FA s.src.length cF, .slice TA s.dst.length cT] 30)).alloc (.cells #[.slice DA s.disks.length cD, .slice KA s.racks.length cK, .slice HA s.houses.length cH, .int .i64 s.owners, .int .i64 s.d, .slice GA s.gs.length cG, .int .i64 s.gl, .int .i64 s.floor, .slice RA s.room.length cR, .slice FA s.src.length cF, .slice TA s.dst.length cT] 30)).drew [⟨.slice (some ⟨wr.heap.size, 0, none⟩) 11 11, 30, 1, 11, [.slice DA s.disks.length cD, .slice KA s.racks.length cK, .slice HA s.houses.length cH, .int .i64 s.owners, .int .i64 s.d, .slice GA s.gs.length cG, .int .i64 s.gl, .int .i64 s.floor, .slice RA s.room.length cR, .slice FA s.src.length cF, .slice TA s.dst.length cT]⟩, ⟨.slice (some ⟨wr.heap.size + 1, 0, none⟩) 11 11, 30, 1, 11, [.slice DA s.disks.length cD, .slice KA s.racks.length cK, .slice HA s.houses.length cH, .int .i64 s.owners, .int .i64 s.d, .slice GA s.gs.length cG, .int .i64 s.gl, .int .i64 s.floor, .slice RA s.room.length cR, .slice FA s.src.length cF, .slice TA s.dst.length cT]⟩]) := Lib.hid h1
  have H2 := Lib.hid (H1.out.perm (List.Perm.swap _ _ _))
  clear h1
  go_region
  all_goals first | exact hK _ _ _ _ _ H1.out | exact hK _ _ _ _ _ H2.out
end Go.Proofs.YtkbiffbmjgmcaaaDoor

/- MOVES: with more room, or a lesser floor: the walk. -/
namespace Go.Proofs.YtkbiffbmjgmcaaaDoor
open Go.RowKit
theorem wrap_little (z : Int) (h0 : 0 ≤ z) (h1 : z < 9223372036854775808) : IntKind.i64.wrap z = z := by
  rw [IntKind.wrap_i64]; omega
set_option maxHeartbeats 8000000 in
set_option maxRecDepth 100000 in
theorem law_relax (s : Mv.Sh) (ph : List Int) (more : List UInt8) (v u q : Value) (w : World) (hT : Tab w) (hv : RSh w v s) (hu : Rs RI w u ph) (hq : Rs RB w q more) :
    Calls Tryd.prog 6 #[v, u, q] w fun e w' => e = .returned (.bool true) ∧ Ext w w' := by
  obtain ⟨DA, KA, HA, GA, RA, FA, TA, cD, cK, cH, cG, cR, cF, cT, rfl, hS⟩ := hv.open
  obtain ⟨PA, cP, rfl, hp64⟩ := hu.form
  obtain ⟨QA, cQ, rfl, hq64⟩ := hq.form
  have hx0 := (Ext.refl w).alloc (.cells #[.slice DA s.disks.length cD, .slice KA s.racks.length cK, .slice HA s.houses.length cH, .int .i64 s.owners, .int .i64 s.d, .slice GA s.gs.length cG, .int .i64 s.gl, .int .i64 s.floor, .slice RA s.room.length cR, .slice FA s.src.length cF, .slice TA s.dst.length cT] 30)
  have HX0 := Lib.hid hx0
  have HT := Lib.hid (hT.ext hx0)
  have HS := Lib.hid (hS.ext hx0)
  have HP := Lib.hid (Rs.ext RI.ext _ _ _ _ hx0 hu)
  have HQ := Lib.hid (Rs.ext RB.ext _ _ _ _ hx0 hq)
  have hB := BoxAt.new w s DA KA HA GA RA FA TA cD cK cH cG cR cF cT
  have HB := Lib.hid hB
  have a0 := hB.b0
  have a1 := hB.b1
  have a2 := hB.b2
  have a3 := hB.b3
  have a4 := hB.b4
  have a5 := hB.b5
  have a6 := hB.b6
  have a7 := hB.b7
  have a8 := hB.b8
  have a9 := hB.b9
  have a10 := hB.b10
  clear hT hv hu hS hx0 hB hq
  go_enter Tryd.func6, Tryd.ntmps6
  go_wp2_with fail
  clear a0 a1 a2 a3 a4 a5 a6 a7 a8 a9 a10
  refine (kFew_any s 10 6 _ _ HS.out.sh).mono ?_
  rintro e w1 ⟨rfl, hx1⟩
  have HX1 := Lib.hid hx1
  clear hx1
  by_cases hf : Mv.few s 10 6
  case neg =>
    rw [decide_eq_false hf]
    clear hf
    go_wp2_with fail
    refine (sanity_any w1 (HT.out.ext HX1.out)).mono ?_
    rintro e w2 ⟨rfl, hx2⟩
    have HX2 := Lib.hid (HX1.out.trans hx2)
    clear hx2
    go_wp2_with fail
    go_ret
    exact ⟨rfl, HX0.out.trans HX2.out⟩
  case pos =>
  rw [decide_eq_true hf]
  have HF := Lib.hid hf
  clear hf
  by_cases h30 : 30 < ph.length
  · skip
    go_wp2_with fail
    refine (sanity_any w1 (HT.out.ext HX1.out)).mono ?_
    rintro e w2 ⟨rfl, hx2⟩
    have HX2 := Lib.hid (HX1.out.trans hx2)
    clear hx2
    go_wp2_with fail
    go_ret
    exact ⟨rfl, HX0.out.trans HX2.out⟩
  have hz0 := fun h => Mv.planned_zero (can := (fun m => Cd.can s.d s.gl s.gs m)) (s := s) (ph := ph) h
  have hrm := fun h r hl h24 hr => Mv.planned_room (can := (fun m => Cd.can s.d s.gl s.gs m)) (s := s) (ph := ph) h (r := r) hl h24 hr
  have hfm := fun h f hf hf2 => Mv.planned_floor (can := (fun m => Cd.can s.d s.gl s.gs m)) (s := s) (ph := ph) h (f := f) hf hf2
  obtain ⟨r, hr⟩ : ∃ r, Mv.planned (fun m => Cd.can s.d s.gl s.gs m) s ph = r := ⟨_, rfl⟩
  have hm := mPlan_any s ph _ _ w1 (HT.out.ext HX1.out) (HS.out.ext HX1.out).sh (Rs.ext RI.ext _ _ _ _ HX1.out HP.out)
  rw [hr] at hm
  simp only [hr] at hz0 hrm hfm
  obtain ⟨l, E⟩ := r
  dsimp only at hz0 hrm hfm
  have HM := Lib.hid hm
  have HZ := Lib.hid (And.intro hz0 (And.intro hrm hfm))
  have a0 := (HB.out.ext HX1.out).b0
  have a1 := (HB.out.ext HX1.out).b1
  have a2 := (HB.out.ext HX1.out).b2
  have a3 := (HB.out.ext HX1.out).b3
  have a4 := (HB.out.ext HX1.out).b4
  have a5 := (HB.out.ext HX1.out).b5
  have a6 := (HB.out.ext HX1.out).b6
  have a7 := (HB.out.ext HX1.out).b7
  have a8 := (HB.out.ext HX1.out).b8
  have a9 := (HB.out.ext HX1.out).b9
  have a10 := (HB.out.ext HX1.out).b10
  clear hr hm hz0 hrm hfm
  go_wp2_with fail
  clear a0 a1 a2 a3 a4 a5 a6 a7 a8 a9 a10
  refine HM.out.mono ?_
  rintro e w2 ⟨LA, cL, rfl, hO⟩
  have HX2 := Lib.hid hO.ext
  clear hO
  dsimp only
  by_cases hE : E = 0
  case neg =>
    have e1 : (E != 0) = true := by rw [bne_iff_ne]; exact hE
    clear hE
    go_wp2_with fail
    refine (sanity_any w2 (HT.out.ext (HX1.out.trans HX2.out))).mono ?_
    rintro e w3 ⟨rfl, hx3⟩
    have HX3 := Lib.hid (HX1.out.trans (HX2.out.trans hx3))
    clear hx3
    go_wp2_with fail
    go_ret
    exact ⟨rfl, HX0.out.trans HX3.out⟩
  case pos =>
  have hzz := HZ.out.1 hE
  have hok := Mv.ok_of hzz.1
  have HE := Lib.hid hE
  have HOK := Lib.hid hok
  have hfl := hok.floor
  have hrl : s.room.length ≤ 64 := by rw [hok.roomLen]; exact hok.disks
  rw [hE]
  have HXX := Lib.hid (HX1.out.trans HX2.out)
  clear hE hzz hok
  go_wp2_with fail
  refine wp_atEnd' (rx_two w2 w.heap.size s DA KA HA GA RA FA TA cD cK cH cG cR cF cT (HB.out.ext HXX.out) _ _ _ _ _ _ _ _ _ _ _ _ _ _ _ _ _ _ _ _ _ _ _ _ _ _ _ _ _ _ _ _ _ _ _ _ _ _ _ _ _ _ _ _ _ _ _ _ _ _ _ _ _ _ _ _ _ _ _ _ _ _ _ _ _ _ _ _ _ _ _ _ _ _ _ _ _ _ _ _ _ _ _ _ _ _ _ _ _ _ _ _ _ _ _ _ _ ?_)
  intro g10 g11 u36 u37 w3 hO3
  have a8 := ((HB.out.ext (HXX.out.trans hO3.ext)).ext ((Ext.refl w3).alloc (.cells #[] 3))).b8
  have hO4 := hO3.wider.new 2 #[] 3 (by simp [maxLen])
  have hrd : Rd (w3.alloc (.cells #[] 3)) RA (s.room.map (Value.int .i64)) := (rs_rdI (Rs.ext RI.ext _ _ _ _ (HXX.out.trans hO3.ext) HS.out.room)).ext ((Ext.refl w3).alloc _)
  have hone : ∀ u ∈ s.room.map (Value.int .i64), u.oneCell' = true := by intro u hu; simp at hu; obtain ⟨b, _, rfl⟩ := hu; rfl
  have HN := Lib.hid (And.intro hO4 (And.intro hrd hone))
  have hm1 : s.room.length < 100000000000 := by omega
  clear hO3 hO4 hrd hone
  go_upto_region 9 with (refine wpl_append_copy 22 3 rfl (.tmp 38) (.tmp 40) rfl Tryd.underlying22 info_int rfl HN.out.1 2 rfl rfl rfl (List.length_map _) HN.out.2.1 HN.out.2.2 hm1 (by decide) ?_; intro gR cN w4 hO5; have z8 := hO5.cell 0 rfl 8 rfl; have f8 := hO5.frozen 0 rfl 8; have HO5 := Lib.hid hO5; clear hO5)
  have hO6 := HO5.out.store 0 rfl 8 (.slice (some ⟨gR, 0, none⟩) s.room.length cN)
  obtain ⟨w5, hw5⟩ : ∃ w5, w4.setCell ⟨g10, 8, none⟩ (.slice (some ⟨gR, 0, none⟩) s.room.length cN) = w5 := ⟨_, rfl⟩
  rw [hw5] at hO6 ⊢
  have HO6 : Hid (Owns w2 w5 [⟨.slice (some ⟨g10, 0, none⟩) 11 11, 30, 1, 11, [.slice DA s.disks.length cD, .slice KA s.racks.length cK, .slice HA s.houses.length cH, .int .i64 s.owners, .int .i64 s.d, .slice GA s.gs.length cG, .int .i64 s.gl, .int .i64 s.floor, .slice (some ⟨gR, 0, none⟩) s.room.length cN, .slice FA s.src.length cF, .slice TA s.dst.length cT]⟩, ⟨.slice (some ⟨g11, 0, none⟩) 11 11, 30, 1, 11, [.slice DA s.disks.length cD, .slice KA s.racks.length cK, .slice HA s.houses.length cH, .int .i64 s.owners, .int .i64 s.d, .slice GA s.gs.length cG, .int .i64 s.gl, .int .i64 s.floor, .slice RA s.room.length cR, .slice FA s.src.length cF, .slice TA s.dst.length cT]⟩, ⟨.slice (some ⟨gR, 0, none⟩) s.room.length cN, 3, 1, s.room.length, (Mv.wideTo s.room more 0).map (.int .i64)⟩]) := Lib.hid hO6
  have q8 := hO6.cell 0 rfl 8 rfl
  clear hw5 z8 f8 a8 hO6
  go_wp2_with fail
  clear q8
  go_loopw [46] (fun vk wr => ∃ k : Nat, k ≤ s.room.length ∧ vk = .int .i64 k ∧ Hid (Owns w2 wr [⟨.slice (some ⟨g10, 0, none⟩) 11 11, 30, 1, 11, [.slice DA s.disks.length cD, .slice KA s.racks.length cK, .slice HA s.houses.length cH, .int .i64 s.owners, .int .i64 s.d, .slice GA s.gs.length cG, .int .i64 s.gl, .int .i64 s.floor, .slice (some ⟨gR, 0, none⟩) s.room.length cN, .slice FA s.src.length cF, .slice TA s.dst.length cT]⟩, ⟨.slice (some ⟨g11, 0, none⟩) 11 11, 30, 1, 11, [.slice DA s.disks.length cD, .slice KA s.racks.length cK, .slice HA s.houses.length cH, .int .i64 s.owners, .int .i64 s.d, .slice GA s.gs.length cG, .int .i64 s.gl, .int .i64 s.floor, .slice RA s.room.length cR, .slice FA s.src.length cF, .slice TA s.dst.length cT]⟩, ⟨.slice (some ⟨gR, 0, none⟩) s.room.length cN, 3, 1, s.room.length, (Mv.wideTo s.room more k).map (.int .i64)⟩])) (fun vk _ => s.room.length - (intOf vk).toNat)
  case atStart => exact ⟨0, Nat.zero_le _, rfl, HO6⟩
  case round =>
    obtain ⟨k, hk, rfl, HI⟩ := hrel
    by_cases hlt : k < s.room.length
    · by_cases hkm : k < more.length
      · have hkmi : (k : Int) < (more.length : Int) := by omega
        obtain ⟨aq, u, rfl, hcq, hu⟩ := (Rs.ext RB.ext _ _ _ _ (HXX.out.trans HI.out.ext) HQ.out).at hkm
        obtain rfl := hu
        have hgm : more.getD k 0 = more[k] := by rw [List.getD_eq_getElem?_getD, List.getElem?_eq_getElem hkm]; rfl
        have hst := Mv.wideTo_yes (room := s.room) (more := more) hkm
        have hgk := Mv.wideTo_get s.room more k hlt k
        rw [if_neg (by omega)] at hgk
        have hrb := HOK.out.room _ (List.getElem_mem hlt)
        have hgr := getD_get (x := (0 : Int)) hlt
        rw [hgm, hgr] at hst
        rw [hgr] at hgk
        have hbb : more[k].toNat < 256 := more[k].toNat_lt
        obtain ⟨b, hb⟩ : ∃ b, more[k].toNat = b := ⟨_, rfl⟩
        obtain ⟨x, hx⟩ : ∃ x, s.room[k] = x := ⟨_, rfl⟩
        replace hcq : wr.cell? (aq.add k) = some (.int .u8 ((more[k].toNat : Nat) : Int)) := hcq
        rw [hb] at hcq hst hbb
        rw [hx] at hst hgk hrb
        have hxc : ((Mv.wideTo s.room more k).map (Value.int .i64))[k]? = some (.int .i64 x) := by
          have hl : k < (Mv.wideTo s.room more k).length := by rw [Mv.wideTo_len]; exact hlt
          rw [List.getElem?_map, List.getElem?_eq_getElem hl, ← hgk, getD_get hl]; rfl
        have q8 := HI.out.cell 0 rfl 8 rfl
        have ck := HI.out.cell 2 rfl k hxc
        have fk := HI.out.frozen 2 rfl k
        have hki : (k : Int) < (s.room.length : Int) := by omega
        obtain ⟨hrb1, hrb2⟩ := hrb
        have u3 : IntKind.i64.wrap (b : Int) = (b : Int) := wrap_little _ (by omega) (by omega)
        have u5 : IntKind.i64.wrap (x + b) = x + b := wrap_little _ (by omega) (by omega)
        by_cases hmn : x + b < 24
        · have HST : Hid (Mv.wideTo s.room more (k + 1) = (Mv.wideTo s.room more k).set k (x + b)) := Lib.hid (by rw [hst]; congr 1; omega)
          clear hst hgm hgk hgr hb hx hxc
          go_wp2_with fail
          go_still_tail 15, (by kernel_rfl)
          go_wp2_with fail
          have HS2 := Lib.hid ((HI.out.store 2 rfl k (.int .i64 (x + b))).drew)
          clear hcq q8 ck fk hki hkmi u3 u5
          go_roundw
          case rel => exact ⟨k + 1, by omega, by go_num, Lib.hid (by rw [HST.out, List.map_set]; exact HS2.out)⟩
          case measure => simp [intOf]; omega
        · have HST : Hid (Mv.wideTo s.room more (k + 1) = (Mv.wideTo s.room more k).set k 24) := Lib.hid (by rw [hst]; congr 1; omega)
          clear hst hgm hgk hgr hb hx hxc
          go_wp2_with fail
          go_still_tail 15, (by kernel_rfl)
          go_wp2_with fail
          have HS2 := Lib.hid ((HI.out.store 2 rfl k (.int .i64 (24))).drew)
          clear hcq q8 ck fk hki hkmi u3 u5
          go_roundw
          case rel => exact ⟨k + 1, by omega, by go_num, Lib.hid (by rw [HST.out, List.map_set]; exact HS2.out)⟩
          case measure => simp [intOf]; omega
      · have hkmi : ¬ (k : Int) < (more.length : Int) := by omega
        have HST := Lib.hid (Mv.wideTo_no (room := s.room) (more := more) hkm)
        clear hkm
        go_wp2_with fail
        go_roundw
        case rel => exact ⟨k + 1, by omega, by go_num, Lib.hid (by rw [HST.out]; exact HI.out)⟩
        case measure => simp [intOf]; omega
    · obtain rfl : s.room.length = k := by omega
      have a7 := (HB.out.ext (HXX.out.trans HI.out.ext)).b7
      have l7 := HI.out.cell 1 rfl 7 rfl
      have f7 := HI.out.frozen 1 rfl 7
      by_cases hf1 : s.floor = 1
      · have e7 : (wr.cell? ⟨w.heap.size, 7, none⟩) = some (.int .i64 1) := by rw [a7, hf1]
        clear a7
        have a7 := e7
        have HF1 := Lib.hid hf1
        clear e7 hf1
        go_upto_region 16 with fail
        have hO7 : Owns w2 (wr.setCell ⟨g11, 7, none⟩ (.int .i64 (1))) [⟨.slice (some ⟨g10, 0, none⟩) 11 11, 30, 1, 11, [.slice DA s.disks.length cD, .slice KA s.racks.length cK, .slice HA s.houses.length cH, .int .i64 s.owners, .int .i64 s.d, .slice GA s.gs.length cG, .int .i64 s.gl, .int .i64 s.floor, .slice (some ⟨gR, 0, none⟩) s.room.length cN, .slice FA s.src.length cF, .slice TA s.dst.length cT]⟩, ⟨.slice (some ⟨g11, 0, none⟩) 11 11, 30, 1, 11, [.slice DA s.disks.length cD, .slice KA s.racks.length cK, .slice HA s.houses.length cH, .int .i64 s.owners, .int .i64 s.d, .slice GA s.gs.length cG, .int .i64 s.gl, .int .i64 (1), .slice RA s.room.length cR, .slice FA s.src.length cF, .slice TA s.dst.length cT]⟩, ⟨.slice (some ⟨gR, 0, none⟩) s.room.length cN, 3, 1, s.room.length, (Mv.wideTo s.room more s.room.length).map (.int .i64)⟩] := HI.out.store 1 rfl 7 (.int .i64 (1))
        obtain ⟨w6, hw6⟩ : ∃ w6, wr.setCell ⟨g11, 7, none⟩ (.int .i64 (1)) = w6 := ⟨_, rfl⟩
        rw [hw6] at hO7 ⊢
        clear hw6 a7 l7 f7
        have hx6 := HXX.out.trans hO7.ext
        have HX6 := Lib.hid hx6
        have HO7 := Lib.hid hO7
        have hsh := HS.out.ext hx6
        have hwide : RSh w6 (.agg #[.slice DA s.disks.length cD, .slice KA s.racks.length cK, .slice HA s.houses.length cH, .int .i64 s.owners, .int .i64 s.d, .slice GA s.gs.length cG, .int .i64 s.gl, .int .i64 s.floor, .slice (some ⟨gR, 0, none⟩) s.room.length cN, .slice FA s.src.length cF, .slice TA s.dst.length cT]) (Mv.withRoom s (Mv.wideTo s.room more s.room.length)) := ⟨_, _, _, _, _, _, _, rfl, hsh.disks, hsh.racks, hsh.houses, hsh.gs, Rs.small (hO7.rd 2 rfl) (Mv.wideTo_len _ _ _).symm (by show (Mv.wideTo s.room more s.room.length).length ≤ _; rw [Mv.wideTo_len]; omega) (fun x hx => by have := (Mv.wide_ok HOK.out.room more s.room.length).1 x hx; omega), hsh.src, hsh.dst, hsh.owners, hsh.d, hsh.gl, hsh.floor⟩
        have hpr := HZ.out.2.1 HE.out (Mv.wideTo s.room more s.room.length) (Mv.wideTo_len _ _ _) (Mv.wide_ok HOK.out.room more s.room.length).1 (Mv.wide_ok HOK.out.room more s.room.length).2
        have hpf := HZ.out.2.2 HE.out (1) (by omega) (by omega)
        have hm6 := mPlan_any _ ph _ _ w6 (HT.out.ext hx6) hwide (Rs.ext RI.ext _ _ _ _ hx6 HP.out)
        obtain ⟨pw, hpw⟩ : ∃ pw, Mv.planned (fun m => Cd.can s.d s.gl s.gs m) (Mv.withRoom s (Mv.wideTo s.room more s.room.length)) ph = pw := ⟨_, rfl⟩
        rw [hpw] at hpr
        change Calls _ _ _ _ (fun e w' => MPlanOut (Mv.planned (fun m => Cd.can s.d s.gl s.gs m) (Mv.withRoom s (Mv.wideTo s.room more s.room.length)) ph) w6 e w') at hm6
        rw [hpw] at hm6
        obtain ⟨l7, E7⟩ := pw
        obtain rfl : E7 = 0 := hpr
        have HM6 := Lib.hid hm6
        have HPF := Lib.hid hpf
        have x0 : w6.cell? ⟨g10, 0, none⟩ = some (.slice DA s.disks.length cD) := hO7.cell 0 rfl 0 rfl
        have x1 : w6.cell? ⟨g10, 1, none⟩ = some (.slice KA s.racks.length cK) := hO7.cell 0 rfl 1 rfl
        have x2 : w6.cell? ⟨g10, 2, none⟩ = some (.slice HA s.houses.length cH) := hO7.cell 0 rfl 2 rfl
        have x3 : w6.cell? ⟨g10, 3, none⟩ = some (.int .i64 s.owners) := hO7.cell 0 rfl 3 rfl
        have x4 : w6.cell? ⟨g10, 4, none⟩ = some (.int .i64 s.d) := hO7.cell 0 rfl 4 rfl
        have x5 : w6.cell? ⟨g10, 5, none⟩ = some (.slice GA s.gs.length cG) := hO7.cell 0 rfl 5 rfl
        have x6 : w6.cell? ⟨g10, 6, none⟩ = some (.int .i64 s.gl) := hO7.cell 0 rfl 6 rfl
        have x7 : w6.cell? ⟨g10, 7, none⟩ = some (.int .i64 s.floor) := hO7.cell 0 rfl 7 rfl
        have x8 : w6.cell? ⟨g10, 8, none⟩ = some (.slice (some ⟨gR, 0, none⟩) s.room.length cN) := hO7.cell 0 rfl 8 rfl
        have x9 : w6.cell? ⟨g10, 9, none⟩ = some (.slice FA s.src.length cF) := hO7.cell 0 rfl 9 rfl
        have x10 : w6.cell? ⟨g10, 10, none⟩ = some (.slice TA s.dst.length cT) := hO7.cell 0 rfl 10 rfl
        clear hpw hm6 hpf hwide hsh hO7 hx6
        go_wp2_with fail
        clear x0 x1 x2 x3 x4 x5 x6 x7 x8 x9 x10
        refine HM6.out.mono ?_
        rintro e w7 ⟨A7, c7, rfl, hO⟩
        have hx7 := HX6.out.trans hO.ext
        have HX7 := Lib.hid hx7
        have hsh := HS.out.ext hx7
        have hlow : RSh w7 (.agg #[.slice DA s.disks.length cD, .slice KA s.racks.length cK, .slice HA s.houses.length cH, .int .i64 s.owners, .int .i64 s.d, .slice GA s.gs.length cG, .int .i64 s.gl, .int .i64 (1), .slice RA s.room.length cR, .slice FA s.src.length cF, .slice TA s.dst.length cT]) (Mv.withFloor s (1)) := ⟨_, _, _, _, _, _, _, rfl, hsh.disks, hsh.racks, hsh.houses, hsh.gs, hsh.room, hsh.src, hsh.dst, hsh.owners, hsh.d, hsh.gl, by unfold w64; show _ ∧ _; constructor <;> show _ ≤ _ <;> dsimp only [Mv.withFloor] <;> omega⟩
        have hO8 := HO7.out.next hO.ext
        have x0 : w7.cell? ⟨g11, 0, none⟩ = some (.slice DA s.disks.length cD) := hO8.cell 1 rfl 0 rfl
        have x1 : w7.cell? ⟨g11, 1, none⟩ = some (.slice KA s.racks.length cK) := hO8.cell 1 rfl 1 rfl
        have x2 : w7.cell? ⟨g11, 2, none⟩ = some (.slice HA s.houses.length cH) := hO8.cell 1 rfl 2 rfl
        have x3 : w7.cell? ⟨g11, 3, none⟩ = some (.int .i64 s.owners) := hO8.cell 1 rfl 3 rfl
        have x4 : w7.cell? ⟨g11, 4, none⟩ = some (.int .i64 s.d) := hO8.cell 1 rfl 4 rfl
        have x5 : w7.cell? ⟨g11, 5, none⟩ = some (.slice GA s.gs.length cG) := hO8.cell 1 rfl 5 rfl
        have x6 : w7.cell? ⟨g11, 6, none⟩ = some (.int .i64 s.gl) := hO8.cell 1 rfl 6 rfl
        have x7 : w7.cell? ⟨g11, 7, none⟩ = some (.int .i64 (1)) := hO8.cell 1 rfl 7 rfl
        have x8 : w7.cell? ⟨g11, 8, none⟩ = some (.slice RA s.room.length cR) := hO8.cell 1 rfl 8 rfl
        have x9 : w7.cell? ⟨g11, 9, none⟩ = some (.slice FA s.src.length cF) := hO8.cell 1 rfl 9 rfl
        have x10 : w7.cell? ⟨g11, 10, none⟩ = some (.slice TA s.dst.length cT) := hO8.cell 1 rfl 10 rfl
        have hm7 := mPlan_any _ ph _ _ w7 (HT.out.ext hx7) hlow (Rs.ext RI.ext _ _ _ _ hx7 HP.out)
        obtain ⟨pf, hpw⟩ : ∃ pf, Mv.planned (fun m => Cd.can s.d s.gl s.gs m) (Mv.withFloor s (1)) ph = pf := ⟨_, rfl⟩
        have hpf := HPF.out
        rw [hpw] at hpf
        change Calls _ _ _ _ (fun e w' => MPlanOut (Mv.planned (fun m => Cd.can s.d s.gl s.gs m) (Mv.withFloor s (1)) ph) w7 e w') at hm7
        rw [hpw] at hm7
        obtain ⟨l8, E8⟩ := pf
        obtain rfl : E8 = 0 := hpf
        have HM7 := Lib.hid hm7
        clear hpw hm7 hlow hsh hO8 hO hx7
        dsimp only
        go_wp2_with fail
        clear x0 x1 x2 x3 x4 x5 x6 x7 x8 x9 x10
        refine HM7.out.mono ?_
        rintro e w8 ⟨A8, c8, rfl, hO⟩
        have HX8 := Lib.hid (HX7.out.trans hO.ext)
        clear hO
        dsimp only
        go_wp2_with fail
        refine (sanity_any w8 (HT.out.ext HX8.out)).mono ?_
        rintro e w9 ⟨rfl, hx9⟩
        have HX9 := Lib.hid (HX8.out.trans hx9)
        clear hx9
        go_wp2_with fail
        go_ret
        exact ⟨rfl, HX0.out.trans HX9.out⟩
      · have hf2 : 1 ≤ s.floor - 1 := by omega
        go_upto_region 16 with fail
        rw [show (if 1 < s.floor - 1 then s.floor - 1 else 1) = s.floor - 1 from by split <;> omega]
        have hO7 : Owns w2 (wr.setCell ⟨g11, 7, none⟩ (.int .i64 (s.floor - 1))) [⟨.slice (some ⟨g10, 0, none⟩) 11 11, 30, 1, 11, [.slice DA s.disks.length cD, .slice KA s.racks.length cK, .slice HA s.houses.length cH, .int .i64 s.owners, .int .i64 s.d, .slice GA s.gs.length cG, .int .i64 s.gl, .int .i64 s.floor, .slice (some ⟨gR, 0, none⟩) s.room.length cN, .slice FA s.src.length cF, .slice TA s.dst.length cT]⟩, ⟨.slice (some ⟨g11, 0, none⟩) 11 11, 30, 1, 11, [.slice DA s.disks.length cD, .slice KA s.racks.length cK, .slice HA s.houses.length cH, .int .i64 s.owners, .int .i64 s.d, .slice GA s.gs.length cG, .int .i64 s.gl, .int .i64 (s.floor - 1), .slice RA s.room.length cR, .slice FA s.src.length cF, .slice TA s.dst.length cT]⟩, ⟨.slice (some ⟨gR, 0, none⟩) s.room.length cN, 3, 1, s.room.length, (Mv.wideTo s.room more s.room.length).map (.int .i64)⟩] := HI.out.store 1 rfl 7 (.int .i64 (s.floor - 1))
        obtain ⟨w6, hw6⟩ : ∃ w6, wr.setCell ⟨g11, 7, none⟩ (.int .i64 (s.floor - 1)) = w6 := ⟨_, rfl⟩
        rw [hw6] at hO7 ⊢
        clear hw6 a7 l7 f7
        have hx6 := HXX.out.trans hO7.ext
        have HX6 := Lib.hid hx6
        have HO7 := Lib.hid hO7
        have hsh := HS.out.ext hx6
        have hwide : RSh w6 (.agg #[.slice DA s.disks.length cD, .slice KA s.racks.length cK, .slice HA s.houses.length cH, .int .i64 s.owners, .int .i64 s.d, .slice GA s.gs.length cG, .int .i64 s.gl, .int .i64 s.floor, .slice (some ⟨gR, 0, none⟩) s.room.length cN, .slice FA s.src.length cF, .slice TA s.dst.length cT]) (Mv.withRoom s (Mv.wideTo s.room more s.room.length)) := ⟨_, _, _, _, _, _, _, rfl, hsh.disks, hsh.racks, hsh.houses, hsh.gs, Rs.small (hO7.rd 2 rfl) (Mv.wideTo_len _ _ _).symm (by show (Mv.wideTo s.room more s.room.length).length ≤ _; rw [Mv.wideTo_len]; omega) (fun x hx => by have := (Mv.wide_ok HOK.out.room more s.room.length).1 x hx; omega), hsh.src, hsh.dst, hsh.owners, hsh.d, hsh.gl, hsh.floor⟩
        have hpr := HZ.out.2.1 HE.out (Mv.wideTo s.room more s.room.length) (Mv.wideTo_len _ _ _) (Mv.wide_ok HOK.out.room more s.room.length).1 (Mv.wide_ok HOK.out.room more s.room.length).2
        have hpf := HZ.out.2.2 HE.out (s.floor - 1) (by omega) (by omega)
        have hm6 := mPlan_any _ ph _ _ w6 (HT.out.ext hx6) hwide (Rs.ext RI.ext _ _ _ _ hx6 HP.out)
        obtain ⟨pw, hpw⟩ : ∃ pw, Mv.planned (fun m => Cd.can s.d s.gl s.gs m) (Mv.withRoom s (Mv.wideTo s.room more s.room.length)) ph = pw := ⟨_, rfl⟩
        rw [hpw] at hpr
        change Calls _ _ _ _ (fun e w' => MPlanOut (Mv.planned (fun m => Cd.can s.d s.gl s.gs m) (Mv.withRoom s (Mv.wideTo s.room more s.room.length)) ph) w6 e w') at hm6
        rw [hpw] at hm6
        obtain ⟨l7, E7⟩ := pw
        obtain rfl : E7 = 0 := hpr
        have HM6 := Lib.hid hm6
        have HPF := Lib.hid hpf
        have x0 : w6.cell? ⟨g10, 0, none⟩ = some (.slice DA s.disks.length cD) := hO7.cell 0 rfl 0 rfl
        have x1 : w6.cell? ⟨g10, 1, none⟩ = some (.slice KA s.racks.length cK) := hO7.cell 0 rfl 1 rfl
        have x2 : w6.cell? ⟨g10, 2, none⟩ = some (.slice HA s.houses.length cH) := hO7.cell 0 rfl 2 rfl
        have x3 : w6.cell? ⟨g10, 3, none⟩ = some (.int .i64 s.owners) := hO7.cell 0 rfl 3 rfl
        have x4 : w6.cell? ⟨g10, 4, none⟩ = some (.int .i64 s.d) := hO7.cell 0 rfl 4 rfl
        have x5 : w6.cell? ⟨g10, 5, none⟩ = some (.slice GA s.gs.length cG) := hO7.cell 0 rfl 5 rfl
        have x6 : w6.cell? ⟨g10, 6, none⟩ = some (.int .i64 s.gl) := hO7.cell 0 rfl 6 rfl
        have x7 : w6.cell? ⟨g10, 7, none⟩ = some (.int .i64 s.floor) := hO7.cell 0 rfl 7 rfl
        have x8 : w6.cell? ⟨g10, 8, none⟩ = some (.slice (some ⟨gR, 0, none⟩) s.room.length cN) := hO7.cell 0 rfl 8 rfl
        have x9 : w6.cell? ⟨g10, 9, none⟩ = some (.slice FA s.src.length cF) := hO7.cell 0 rfl 9 rfl
        have x10 : w6.cell? ⟨g10, 10, none⟩ = some (.slice TA s.dst.length cT) := hO7.cell 0 rfl 10 rfl
        clear hpw hm6 hpf hwide hsh hO7 hx6
        go_wp2_with fail
        clear x0 x1 x2 x3 x4 x5 x6 x7 x8 x9 x10
        refine HM6.out.mono ?_
        rintro e w7 ⟨A7, c7, rfl, hO⟩
        have hx7 := HX6.out.trans hO.ext
        have HX7 := Lib.hid hx7
        have hsh := HS.out.ext hx7
        have hlow : RSh w7 (.agg #[.slice DA s.disks.length cD, .slice KA s.racks.length cK, .slice HA s.houses.length cH, .int .i64 s.owners, .int .i64 s.d, .slice GA s.gs.length cG, .int .i64 s.gl, .int .i64 (s.floor - 1), .slice RA s.room.length cR, .slice FA s.src.length cF, .slice TA s.dst.length cT]) (Mv.withFloor s (s.floor - 1)) := ⟨_, _, _, _, _, _, _, rfl, hsh.disks, hsh.racks, hsh.houses, hsh.gs, hsh.room, hsh.src, hsh.dst, hsh.owners, hsh.d, hsh.gl, by unfold w64; show _ ∧ _; constructor <;> show _ ≤ _ <;> dsimp only [Mv.withFloor] <;> omega⟩
        have hO8 := HO7.out.next hO.ext
        have x0 : w7.cell? ⟨g11, 0, none⟩ = some (.slice DA s.disks.length cD) := hO8.cell 1 rfl 0 rfl
        have x1 : w7.cell? ⟨g11, 1, none⟩ = some (.slice KA s.racks.length cK) := hO8.cell 1 rfl 1 rfl
        have x2 : w7.cell? ⟨g11, 2, none⟩ = some (.slice HA s.houses.length cH) := hO8.cell 1 rfl 2 rfl
        have x3 : w7.cell? ⟨g11, 3, none⟩ = some (.int .i64 s.owners) := hO8.cell 1 rfl 3 rfl
        have x4 : w7.cell? ⟨g11, 4, none⟩ = some (.int .i64 s.d) := hO8.cell 1 rfl 4 rfl
        have x5 : w7.cell? ⟨g11, 5, none⟩ = some (.slice GA s.gs.length cG) := hO8.cell 1 rfl 5 rfl
        have x6 : w7.cell? ⟨g11, 6, none⟩ = some (.int .i64 s.gl) := hO8.cell 1 rfl 6 rfl
        have x7 : w7.cell? ⟨g11, 7, none⟩ = some (.int .i64 (s.floor - 1)) := hO8.cell 1 rfl 7 rfl
        have x8 : w7.cell? ⟨g11, 8, none⟩ = some (.slice RA s.room.length cR) := hO8.cell 1 rfl 8 rfl
        have x9 : w7.cell? ⟨g11, 9, none⟩ = some (.slice FA s.src.length cF) := hO8.cell 1 rfl 9 rfl
        have x10 : w7.cell? ⟨g11, 10, none⟩ = some (.slice TA s.dst.length cT) := hO8.cell 1 rfl 10 rfl
        have hm7 := mPlan_any _ ph _ _ w7 (HT.out.ext hx7) hlow (Rs.ext RI.ext _ _ _ _ hx7 HP.out)
        obtain ⟨pf, hpw⟩ : ∃ pf, Mv.planned (fun m => Cd.can s.d s.gl s.gs m) (Mv.withFloor s (s.floor - 1)) ph = pf := ⟨_, rfl⟩
        have hpf := HPF.out
        rw [hpw] at hpf
        change Calls _ _ _ _ (fun e w' => MPlanOut (Mv.planned (fun m => Cd.can s.d s.gl s.gs m) (Mv.withFloor s (s.floor - 1)) ph) w7 e w') at hm7
        rw [hpw] at hm7
        obtain ⟨l8, E8⟩ := pf
        obtain rfl : E8 = 0 := hpf
        have HM7 := Lib.hid hm7
        clear hpw hm7 hlow hsh hO8 hO hx7
        dsimp only
        go_wp2_with fail
        clear x0 x1 x2 x3 x4 x5 x6 x7 x8 x9 x10
        refine HM7.out.mono ?_
        rintro e w8 ⟨A8, c8, rfl, hO⟩
        have HX8 := Lib.hid (HX7.out.trans hO.ext)
        clear hO
        dsimp only
        go_wp2_with fail
        refine (sanity_any w8 (HT.out.ext HX8.out)).mono ?_
        rintro e w9 ⟨rfl, hx9⟩
        have HX9 := Lib.hid (HX8.out.trans hx9)
        clear hx9
        go_wp2_with fail
        go_ret
        exact ⟨rfl, HX0.out.trans HX9.out⟩
end Go.Proofs.YtkbiffbmjgmcaaaDoor

/- ARGUMENTS that are codes read as such. -/
namespace Go.Proofs.YtkbiffbmjgmcaaaDoor
open Go.ChangeShapes Go.WideShapes Go.ChangeAt Go.RowKit Go.ChangeMaps Go.Deep
variable {H : Type} {enc : TypeId × Value → H} {W : World} {base : Nat}
theorem list_getD {l : List Int} {k : Nat} (h : k < l.length) : l.getD k 0 = l[k] := by rw [List.getD_eq_getElem?_getD, List.getElem?_eq_getElem h]; rfl
theorem read_ints {fuel : Nat} {v : Value} {x : DataW H × List MemPlace} (h : DataW.trod enc Tryd.prog W base (fun _ => true) true fuel 22 [v] = some x) : ∃ l, Rs RI W v l := by
  rcases open_ints Tryd.underlying22 Tryd.underlying3 (by kernel_rfl) h with ⟨hcs, _⟩ | ⟨a, len, cap, zs, hcs, _, hl, hm, hz, _, hcell, hwz⟩
  · injection hcs with hcs _
    subst hcs
    exact ⟨[], none, 0, rfl, by simp, fun i x h => by simp at h⟩
  · injection hcs with hcs _
    subst hcs
    rw [if_pos rfl] at hz
    have hll : (zs.take len).length = len := by rw [List.length_take]; omega
    refine ⟨zs.take len, some a, cap, by rw [hll], by rw [hll]; unfold maxLen at hm; omega, fun i y hi => ?_⟩
    have hi1 : i < (zs.take len).length := (List.getElem?_eq_some_iff.1 hi).1
    have hi2 : i < zs.length := by rw [List.length_take] at hi1; omega
    have h1 := hcell i (by omega)
    rw [list_getD hi2] at h1
    have e : y = zs[i] := by
      have := (List.getElem?_eq_some_iff.1 hi).2
      rw [← this, List.getElem_take]
    subst e
    have hb := bounds_i64 (hwz _ (List.getElem_mem hi2))
    exact ⟨a, _, rfl, h1, rfl, by omega, by omega⟩
theorem read_rows {fuel : Nat} {v : Value} {x : DataW H × List MemPlace} (h : DataW.trod enc Tryd.prog W base (fun _ => true) true fuel 26 [v] = some x) : ∃ l, Rs (Rs RI) W v l := by
  rcases open_int_rows Tryd.underlying26 Tryd.underlying22 Tryd.underlying3 (by kernel_rfl) (by kernel_rfl) h with ⟨hcs, _⟩ | ⟨a, len, cap, A, L, C, Z, hcs, _, hl, hm, _, hx⟩
  · injection hcs with hcs _
    subst hcs
    exact ⟨[], none, 0, rfl, by simp, fun i x h => by simp at h⟩
  · injection hcs with hcs _
    subst hcs
    refine ⟨(List.range len).map fun r => (Z r).take (L r), some a, cap, by simp, by simp; unfold maxLen at hm; omega, fun i y hi => ?_⟩
    have hi1 : i < len := by have := (List.getElem?_eq_some_iff.1 hi).1; simpa using this
    have e : y = (Z i).take (L i) := by
      have := (List.getElem?_eq_some_iff.1 hi).2
      rw [← this]; simp
    subst e
    obtain ⟨h1, h2, h3, h4, h5, h6, h7⟩ := hx i (by omega)
    refine ⟨a, _, rfl, h1, A i, C i, ?_, ?_, fun k z hk => ?_⟩
    · rw [List.length_take]; congr 1; omega
    · rw [List.length_take]; unfold maxLen at h3; omega
    · have hk1 : k < ((Z i).take (L i)).length := (List.getElem?_eq_some_iff.1 hk).1
      have hk2 : k < (Z i).length := by rw [List.length_take] at hk1; omega
      have hk3 : k < C i := by omega
      have e : z = (Z i)[k] := by
        have := (List.getElem?_eq_some_iff.1 hk).2
        rw [← this, List.getElem_take]
      subst e
      have hb := bounds_i64 (h5 _ (List.getElem_mem hk2))
      cases hA : A i with
      | none => have := h6 hA; omega
      | some b =>
        have h8 := (h7 b hA).2 k hk3
        rw [list_getD hk2] at h8
        exact ⟨b, _, rfl, h8, rfl, by omega, by omega⟩
theorem cellsCode : Tryd.prog.cellsOf 28 = 3 := by kernel_rfl
theorem cellsInts : Tryd.prog.cellsOf 22 = 1 := by kernel_rfl
theorem cellsRows : Tryd.prog.cellsOf 26 = 1 := by kernel_rfl
theorem cellsInt : Tryd.prog.cellsOf 3 = 1 := by kernel_rfl
end Go.Proofs.YtkbiffbmjgmcaaaDoor

/- ARGUMENTS of law 13: shifts. -/
namespace Go.Proofs.YtkbiffbmjgmcaaaDoor
open Go.ChangeShapes Go.WideShapes Go.ChangeAt Go.RowKit Go.ChangeMaps Go.Deep
variable {H : Type} {enc : TypeId × Value → H} {W : World} {base : Nat}
theorem spot_free {a : Addr} {v : Value} (h : W.cell? a = some v) : a.spot = none := by
  unfold World.cell? at h
  split at h
  · split at h
    · cases h
    · rename_i hs; simpa using hs
  · cases h
set_option maxRecDepth 100000 in
theorem read_racks {fuel : Nat} {v : Value} {x : DataW H × List MemPlace} (h : DataW.trod enc Tryd.prog W base (fun _ => true) true fuel 23 [v] = some x) : ∃ l, RK W v l := by
  have ce : Tryd.prog.cellsOf 74 = 2 := by kernel_rfl
  rcases open_slice Tryd.underlying23 h with ⟨hcs, _⟩ | ⟨a, len, cap, m, n, D, Pl, hcs, _, hl, hm, hmm, _, hx⟩
  · injection hcs with hcs _
    subst hcs
    exact ⟨[], none, 0, rfl, by simp, fun i x hi => by simp at hi⟩
  · injection hcs with hcs _
    subst hcs
    rw [if_pos rfl] at hmm
    have each : ∀ i, i < len → ∃ x : Int, ∃ b : Bool, W.cell? (a.add (i * 2)) = some (.int .i64 x) ∧ W.cell? ((a.add (i * 2)).add 1) = some (.bool b) ∧ -9223372036854775808 ≤ x ∧ x ≤ 9223372036854775807 := by
      intro i hi
      obtain ⟨cs', h1, h2⟩ := hx i (by omega)
      rw [ce] at h1
      obtain ⟨_, hlen, hcell⟩ := World.cells?_some h1
      obtain ⟨xs, k, _, _, _, hxl, hg⟩ := DataW.trod_struct Tryd.underlying74 h2
      obtain ⟨c0, c1, rfl⟩ : ∃ c0 c1, cs' = [c0, c1] := by
        match cs', hlen with
        | [c0, c1], _ => exact ⟨c0, c1, rfl⟩
      obtain ⟨y0, y1, rfl⟩ : ∃ y0 y1, xs = [y0, y1] := by
        match xs, hxl with
        | [y0, y1], _ => exact ⟨y0, y1, rfl⟩
      have cb : Tryd.prog.cellsOf 4 = 1 := by kernel_rfl
      have f0 : DataW.trod enc Tryd.prog W base (fun _ => true) true k 3 [c0] = some y0 := by
        have := hg 0 _ rfl
        simpa [cellsInt] using this
      have f1 : DataW.trod enc Tryd.prog W base (fun _ => true) true k 4 [c1] = some y1 := by
        have := hg 1 _ rfl
        simpa [cb] using this
      obtain ⟨z0, e0, _, w0⟩ := DataW.trod_int Tryd.underlying3 f0
      obtain ⟨z1, e1, _⟩ := DataW.trod_bool Tryd.underlying4 f1
      injection e0 with e0 _
      injection e1 with e1 _
      subst e0 e1
      have b0 := bounds_i64 w0
      exact ⟨z0, z1, hcell 0 (by decide), hcell 1 (by decide), by omega, by omega⟩
    refine ⟨(List.range len).map fun k => if h : k < len then (each k h).choose else 0, some a, cap, by simp, by simp; unfold maxLen at hm; omega, fun i x hi => ?_⟩
    have hil : i < len := by
      have := (List.getElem?_eq_some_iff.1 hi).1
      simpa using this
    have hxe : x = (each i hil).choose := by
      have := (List.getElem?_eq_some_iff.1 hi).2
      rw [← this]
      simp [hil]
    obtain ⟨b, h1, h2, h3, h4⟩ := (each i hil).choose_spec
    rw [← hxe] at h1 h3 h4
    refine ⟨a, b, rfl, h1, ?_, h3, h4⟩
    have hs := spot_free h1
    have e : (a.add (i * 2)).add 1 = ⟨(a.add (i * 2)).block, (a.add (i * 2)).off + 1, none⟩ := by
      generalize a.add (i * 2) = p at hs
      obtain ⟨b, o, s⟩ := p
      simp only at hs
      subst hs
      unfold Addr.add
      rfl
    rw [← e]
    exact h2
theorem array11 {α : Type} {cs : Array α} (h : cs.size = 11) : ∃ c0 c1 c2 c3 c4 c5 c6 c7 c8 c9 c10, cs = #[c0, c1, c2, c3, c4, c5, c6, c7, c8, c9, c10] := by
  obtain ⟨l⟩ := cs
  match l, h with
  | [c0, c1, c2, c3, c4, c5, c6, c7, c8, c9, c10], _ => exact ⟨c0, c1, c2, c3, c4, c5, c6, c7, c8, c9, c10, rfl⟩
theorem cellsDom : Tryd.prog.cellsOf 25 = 4 := by kernel_rfl
theorem cellsRacks : Tryd.prog.cellsOf 23 = 1 := by kernel_rfl
set_option maxRecDepth 100000 in
theorem open_shift {b0 : Nat} {v : Value} {d : DataW H} {ps : List MemPlace} (hval : Value.okWide Tryd.prog W .any b0 30 v) (hd : DataW.Trod enc Tryd.prog W base (fun _ => true) true 30 v d ps) :
    ∃ s : Mv.Sh, RSh W v s := by
  obtain ⟨cs, rfl, hsz⟩ := okWide_struct Tryd.underlying30 hval
  obtain ⟨c0, c1, c2, c3, c4, c5, c6, c7, c8, c9, c10, rfl⟩ := array11 (hsz.trans (by kernel_rfl))
  obtain ⟨fuel, hf⟩ := hd
  obtain ⟨xs, n, _, _, hl, hlen, hx⟩ := DataW.trod_struct Tryd.underlying30 hf
  obtain ⟨y0, y1, y2, y3, y4, y5, rfl⟩ : ∃ y0 y1 y2 y3 y4 y5, xs = [y0, y1, y2, y3, y4, y5] := by
    match xs, hlen with
    | [y0, y1, y2, y3, y4, y5], _ => exact ⟨y0, y1, y2, y3, y4, y5, rfl⟩
  have f0 : DataW.trod enc Tryd.prog W base (fun _ => true) true n 25 [c0, c1, c2, c3] = some y0 := by
    have := hx 0 _ rfl
    simpa [Value.cells, cellsDom] using this
  have f1 : DataW.trod enc Tryd.prog W base (fun _ => true) true n 28 [c4, c5, c6] = some y1 := by
    have := hx 1 _ rfl
    simpa [Value.cells, cellsCode] using this
  have f2 : DataW.trod enc Tryd.prog W base (fun _ => true) true n 3 [c7] = some y2 := by
    have := hx 2 _ rfl
    simpa [Value.cells, cellsInt] using this
  have f3 : DataW.trod enc Tryd.prog W base (fun _ => true) true n 22 [c8] = some y3 := by
    have := hx 3 _ rfl
    simpa [Value.cells, cellsInts] using this
  have f4 : DataW.trod enc Tryd.prog W base (fun _ => true) true n 22 [c9] = some y4 := by
    have := hx 4 _ rfl
    simpa [Value.cells, cellsInts] using this
  have f5 : DataW.trod enc Tryd.prog W base (fun _ => true) true n 22 [c10] = some y5 := by
    have := hx 5 _ rfl
    simpa [Value.cells, cellsInts] using this
  obtain ⟨zs, m, _, _, _, hlen2, hz⟩ := DataW.trod_struct Tryd.underlying25 f0
  obtain ⟨z0, z1, z2, z3, rfl⟩ : ∃ z0 z1 z2 z3, zs = [z0, z1, z2, z3] := by
    match zs, hlen2 with
    | [z0, z1, z2, z3], _ => exact ⟨z0, z1, z2, z3, rfl⟩
  have g0 : DataW.trod enc Tryd.prog W base (fun _ => true) true m 22 [c0] = some z0 := by
    have := hz 0 _ rfl
    simpa [cellsInts] using this
  have g1 : DataW.trod enc Tryd.prog W base (fun _ => true) true m 23 [c1] = some z1 := by
    have := hz 1 _ rfl
    simpa [cellsRacks] using this
  have g2 : DataW.trod enc Tryd.prog W base (fun _ => true) true m 22 [c2] = some z2 := by
    have := hz 2 _ rfl
    simpa [cellsInts] using this
  have g3 : DataW.trod enc Tryd.prog W base (fun _ => true) true m 3 [c3] = some z3 := by
    have := hz 3 _ rfl
    simpa [cellsInt] using this
  obtain ⟨us, m2, _, _, _, hlen3, hu⟩ := DataW.trod_struct Tryd.underlying28 f1
  obtain ⟨u0, u1, u2, rfl⟩ : ∃ u0 u1 u2, us = [u0, u1, u2] := by
    match us, hlen3 with
    | [u0, u1, u2], _ => exact ⟨u0, u1, u2, rfl⟩
  have e0 : DataW.trod enc Tryd.prog W base (fun _ => true) true m2 3 [c4] = some u0 := by
    have := hu 0 _ rfl
    simpa [cellsInt] using this
  have e1 : DataW.trod enc Tryd.prog W base (fun _ => true) true m2 26 [c5] = some u1 := by
    have := hu 1 _ rfl
    simpa [cellsRows] using this
  have e2 : DataW.trod enc Tryd.prog W base (fun _ => true) true m2 3 [c6] = some u2 := by
    have := hu 2 _ rfl
    simpa [cellsInt] using this
  obtain ⟨disks, h0⟩ := read_ints g0
  obtain ⟨racks, h1⟩ := read_racks g1
  obtain ⟨houses, h2⟩ := read_ints g2
  obtain ⟨gs, h3⟩ := read_rows e1
  obtain ⟨room, h4⟩ := read_ints f3
  obtain ⟨src, h5⟩ := read_ints f4
  obtain ⟨dst, h6⟩ := read_ints f5
  obtain ⟨a0, ha0, _, wa0⟩ := DataW.trod_int Tryd.underlying3 g3
  obtain ⟨a1, ha1, _, wa1⟩ := DataW.trod_int Tryd.underlying3 e0
  obtain ⟨a2, ha2, _, wa2⟩ := DataW.trod_int Tryd.underlying3 e2
  obtain ⟨a3, ha3, _, wa3⟩ := DataW.trod_int Tryd.underlying3 f2
  injection ha0 with ha0 _
  injection ha1 with ha1 _
  injection ha2 with ha2 _
  injection ha3 with ha3 _
  subst ha0 ha1 ha2 ha3
  have b0 := bounds_i64 wa0
  have b1 := bounds_i64 wa1
  have b2 := bounds_i64 wa2
  have b3 := bounds_i64 wa3
  exact ⟨⟨disks, racks, houses, a0, a1, gs, a2, a3, room, src, dst⟩, _, _, _, _, _, _, _, rfl, h0, h1, h2, h3, h4, h5, h6, by unfold w64; dsimp only; omega, by unfold w64; dsimp only; omega, by unfold w64; dsimp only; omega, by unfold w64; dsimp only; omega⟩
set_option maxRecDepth 100000 in
theorem open_intl {b0 : Nat} {v : Value} {d : DataW H} {ps : List MemPlace} (hval : Value.okWide Tryd.prog W .any b0 22 v) (hd : DataW.Trod enc Tryd.prog W base (fun _ => true) true 22 v d ps) : ∃ l, Rs RI W v l := by
  obtain ⟨a0, len, cap, rfl⟩ := okWide_slice Tryd.underlying22 hval
  obtain ⟨fuel, hf⟩ := hd
  exact read_ints hf
end Go.Proofs.YtkbiffbmjgmcaaaDoor
