/- What the program's functions do, step by step: part D of the texts for this claim; no condition beyond what each theorem states. -/
import Derived.Test.YtkbiffbmjgmcaaaDoorMvKeepBunA
import Derived.Test.YtkbiffbmjgmcaaaDoorMvKeepBunB
import Derived.Test.YtkbiffbmjgmcaaaDoorMvKeepBunC
/- THE STATE OF THE SEARCH of package moves: what its closure reads and writes, and how it turns. -/
namespace Go.Proofs.YtkbiffbmjgmcaaaDoor
open Go.RowKit
open Go.Maps (Keyed)
open Go.WideMaps Go.ChangeMaps Go.MapKept Go.WideShapes
theorem ownsMap_obj {w : World} {H : Type} {P : Program} {k : TypeId} {R : Value → Option (DataW H × List MemPlace)} {b n : Nat} {D : DataW H} (h : w.ownsMap P k R b n D) : ∃ es clock, w.heap[b]? = some (.map es clock) := by
  obtain ⟨es, clock, hb, _⟩ := h
  exact ⟨es, clock, hb⟩
theorem row_not_map {w0 w : World} {r : LRow} (h : r.ok w0 w) {b : Nat} (hm : ∃ es clock, w.heap[b]? = some (.map es clock)) : r.v.ownBlock ≠ some b := by
  obtain ⟨es, clock, hb⟩ := hm
  rcases h.2 with ⟨h2, _⟩ | ⟨g, cap, cur, hv, _, hg, _⟩
  · rw [h2]; intro e; cases e
  · rw [hv]
    intro e
    injection e with e
    have e2 : g = b := e
    subst e2
    rw [hb] at hg
    cases hg
/-- A map that turns leaves all rows. -/
theorem Owns.keepMap {w0 w w' : World} {L : List LRow} (h : Owns w0 w L) {b : Nat} (hm : ∃ es clock, w.heap[b]? = some (.map es clock)) (hg : w.grownBy w' (some b)) (hb : w0.heap.size ≤ b) : Owns w0 w' L where
  ext := h.ext.grown hg (fun k e => by injection e with e; omega)
  ok i r hr := by
    have h1 := h.ok i r hr
    have hn := row_not_map h1 hm
    refine ⟨h1.1, ?_⟩
    rcases h1.2 with h2 | ⟨g, cap, cur, hv, hB, hh, rest⟩
    · exact .inl h2
    · refine .inr ⟨g, cap, cur, hv, hB, ?_, rest⟩
      refine (hg.block g (lt_of_block hh) ?_).trans hh
      intro e
      rw [hv] at hn
      exact hn (by rw [← e]; rfl)
  far := h.far
theorem map_setCell {w : World} {b : Nat} {p : Addr} {u : Value} (h : p.block ≠ b) : (w.setCell p u).heap[b]? = w.heap[b]? := Below.heap_setCell _ _ _ _ (Ne.symm h)
/-- The rows of a search: the phases, the variables that hold them, the steps so far, both maps, the closure. -/
def psRows (n gN cN g9 g10 g11 g12 g13 bK bL : Nat) (fv : Value) (now : List Int) (out : List Nat) (A : Option Addr) (c : Nat) : List LRow :=
  [⟨.slice (some ⟨gN, 0, none⟩) n cN, 3, 1, n, now.map (.int .i64)⟩, ⟨.slice (some ⟨g10, 0, none⟩) 1 1, 22, 1, 1, [.slice (some ⟨gN, 0, none⟩) n cN]⟩, ⟨.slice (some ⟨g12, 0, none⟩) 1 1, 22, 1, 1, [.slice A out.length c]⟩, lrow A c out,
   ⟨.slice (some ⟨g11, 0, none⟩) 1 1, 61, 1, 1, [.map (some bL)]⟩, ⟨.slice (some ⟨g9, 0, none⟩) 1 1, 58, 1, 1, [.map (some bK)]⟩, ⟨.slice (some ⟨g13, 0, none⟩) 1 1, 32, 1, 1, [fv]⟩]
structure PS (W0 : World) (P : List Int → Prop) (s : Mv.Sh) (n gN cN g9 g10 g11 g12 g13 bK bL : Nat) (fv : Value) (X : List LRow) (w : World) (now : List Int) (out : List Nat) (U : List (List Int)) (A : Option Addr) (c : Nat) : Prop where
  own : Owns W0 w (psRows n gN cN g9 g10 g11 g12 g13 bK bL fv now out A c ++ X)
  known : Known s w bK
  lost : Lost n P w bL U
  bk : W0.heap.size ≤ bK
  bl : W0.heap.size ≤ bL
  ne : bK ≠ bL
section
variable {W0 w w' : World} {P : List Int → Prop} {s : Mv.Sh} {n gN cN g9 g10 g11 g12 g13 bK bL : Nat} {fv : Value} {X : List LRow} {now : List Int} {out : List Nat} {U : List (List Int)} {A : Option Addr} {c : Nat}
theorem Known.obj {b : Nat} (h : Known s w b) : ∃ es clock, w.heap[b]? = some (.map es clock) := by
  obtain ⟨nx, D, h1, _⟩ := h
  exact ownsMap_obj h1
theorem Lost.obj {b : Nat} (h : Lost n P w b U) : ∃ es clock, w.heap[b]? = some (.map es clock) := by
  obtain ⟨⟨D, h1, _⟩, _⟩ := h
  exact ownsMap_obj h1
theorem PS.next (h : PS W0 P s n gN cN g9 g10 g11 g12 g13 bK bL fv X w now out U A c) (hx : Ext w w') : PS W0 P s n gN cN g9 g10 g11 g12 g13 bK bL fv X w' now out U A c :=
  ⟨h.own.next hx, h.known.ext hx, h.lost.same (Below.block hx _ h.lost.lt), h.bk, h.bl, h.ne⟩
/-- What is known has grown. -/
theorem PS.safe (h : PS W0 P s n gN cN g9 g10 g11 g12 g13 bK bL fv X w now out U A c) (hg : w.grownBy w' (some bK)) (hk : Known s w' bK) : PS W0 P s n gN cN g9 g10 g11 g12 g13 bK bL fv X w' now out U A c :=
  ⟨h.own.keepMap h.known.obj hg h.bk, hk, h.lost.same (hg.block _ h.lost.lt (fun e => by injection e with e; exact h.ne e.symm)), h.bk, h.bl, h.ne⟩
/-- More is lost. -/
theorem PS.lose (h : PS W0 P s n gN cN g9 g10 g11 g12 g13 bK bL fv X w now out U A c) (hg : w.grownBy w' (some bL)) {U' : List (List Int)} (hk : Lost n P w' bL U') : PS W0 P s n gN cN g9 g10 g11 g12 g13 bK bL fv X w' now out U' A c :=
  ⟨h.own.keepMap h.lost.obj hg h.bl, h.known.same (hg.block _ h.known.lt (fun e => by injection e with e; exact h.ne e)), hk, h.bk, h.bl, h.ne⟩
theorem PS.apart (h : PS W0 P s n gN cN g9 g10 g11 g12 g13 bK bL fv X w now out U A c) (i : Nat) {g m e cc : Nat} {xs : List Value} (hi : (psRows n gN cN g9 g10 g11 g12 g13 bK bL fv now out A c ++ X)[i]? = some ⟨.slice (some ⟨g, 0, none⟩) m cc, e, 1, m, xs⟩) : g ≠ bK ∧ g ≠ bL := by
  have h1 := row_not_map (h.own.ok i _ hi) h.known.obj
  have h2 := row_not_map (h.own.ok i _ hi) h.lost.obj
  exact ⟨fun e => h1 (by rw [← e]; rfl), fun e => h2 (by rw [← e]; rfl)⟩
/-- One of the phases turns. -/
theorem PS.setNow (h : PS W0 P s n gN cN g9 g10 g11 g12 g13 bK bL fv X w now out U A c) (k : Nat) (x : Int) : PS W0 P s n gN cN g9 g10 g11 g12 g13 bK bL fv X (w.setCell ⟨gN, k, none⟩ (.int .i64 x)) (now.set k x) out U A c := by
  obtain ⟨h1, h2⟩ := h.apart 0 rfl
  refine ⟨?_, h.known.same (map_setCell h1), h.lost.same (map_setCell h2), h.bk, h.bl, h.ne⟩
  have := h.own.store 0 rfl k (.int .i64 x)
  unfold psRows
  rw [List.map_set]
  exact this
theorem PS.cellNow (h : PS W0 P s n gN cN g9 g10 g11 g12 g13 bK bL fv X w now out U A c) {k : Nat} {p : Int} (hk : now[k]? = some p) : w.cell? ⟨gN, k, none⟩ = some (.int .i64 p) := h.own.cell 0 rfl k (by rw [List.getElem?_map, hk]; rfl)
theorem PS.frozenNow (h : PS W0 P s n gN cN g9 g10 g11 g12 g13 bK bL fv X w now out U A c) (k : Nat) : w.frozen? ⟨gN, k, none⟩ = false := h.own.frozen 0 rfl k
theorem PS.c10 (h : PS W0 P s n gN cN g9 g10 g11 g12 g13 bK bL fv X w now out U A c) : w.cell? ⟨g10, 0, none⟩ = some (.slice (some ⟨gN, 0, none⟩) n cN) := h.own.cell 1 rfl 0 rfl
theorem PS.c12 (h : PS W0 P s n gN cN g9 g10 g11 g12 g13 bK bL fv X w now out U A c) : w.cell? ⟨g12, 0, none⟩ = some (.slice A out.length c) := h.own.cell 2 rfl 0 rfl
theorem PS.f12 (h : PS W0 P s n gN cN g9 g10 g11 g12 g13 bK bL fv X w now out U A c) : w.frozen? ⟨g12, 0, none⟩ = false := h.own.frozen 2 rfl 0
theorem PS.c11 (h : PS W0 P s n gN cN g9 g10 g11 g12 g13 bK bL fv X w now out U A c) : w.cell? ⟨g11, 0, none⟩ = some (.map (some bL)) := h.own.cell 4 rfl 0 rfl
theorem PS.c9 (h : PS W0 P s n gN cN g9 g10 g11 g12 g13 bK bL fv X w now out U A c) : w.cell? ⟨g9, 0, none⟩ = some (.map (some bK)) := h.own.cell 5 rfl 0 rfl
theorem PS.c13 (h : PS W0 P s n gN cN g9 g10 g11 g12 g13 bK bL fv X w now out U A c) : w.cell? ⟨g13, 0, none⟩ = some fv := h.own.cell 6 rfl 0 rfl
/-- The phases, read. -/
theorem PS.rdNow (h : PS W0 P s n gN cN g9 g10 g11 g12 g13 bK bL fv X w now out U A c) (hn : now.length = n) (hl : n ≤ 1000) (hb : small now) : Rs RI w (.slice (some ⟨gN, 0, none⟩) n cN) now := Rs.small (h.own.rd 0 rfl) hn.symm (by omega) hb
/-- A step more. -/
theorem PS.more {w1 w2 : World} (h : PS W0 P s n gN cN g9 g10 g11 g12 g13 bK bL fv X w1 now out U A c) {g cap k : Nat} {T : List LRow}
    (hO : Owns W0 w2 ((psRows n gN cN g9 g10 g11 g12 g13 bK bL fv now out A c ++ X ++ T).set 3 ⟨.slice (some ⟨g, 0, none⟩) (out.length + 1) cap, 3, 1, out.length + 1, (Mv.ints out).map (.int .i64) ++ [.int .i64 (k : Nat)]⟩)) (hg : w1.grownBy w2 (Value.slice A out.length c).ownBlock) :
    PS W0 P s n gN cN g9 g10 g11 g12 g13 bK bL fv X (w2.setCell ⟨g12, 0, none⟩ (.slice (some ⟨g, 0, none⟩) (out.length + 1) cap)) now (out ++ [k]) U (some ⟨g, 0, none⟩) cap := by
  have hn1 := row_not_map (h.own.ok 3 (lrow A c out) rfl) h.known.obj
  have hn2 := row_not_map (h.own.ok 3 (lrow A c out) rfl) h.lost.obj
  obtain ⟨h1, h2⟩ := h.apart 2 rfl
  have hK := h.known.same (hg.block _ h.known.lt (Ne.symm hn1))
  have hL := h.lost.same (hg.block _ h.lost.lt (Ne.symm hn2))
  refine ⟨?_, hK.same (map_setCell h1), hL.same (map_setCell h2), h.bk, h.bl, h.ne⟩
  have h3 := hO.store 2 rfl 0 (.slice (some ⟨g, 0, none⟩) (out.length + 1) cap)
  unfold psRows lrow
  rw [Mv.ints_snoc, List.map_append, List.length_append]
  exact Owns.front (M := T) h3
theorem row_shrink {w : World} {B e g m c : Nat} {xs : List Value} {x : Value} (h : w.ownsRow B e 1 (.slice (some ⟨g, 0, none⟩) (m + 1) c) (m + 1) (xs ++ [x])) : w.ownsRow B e 1 (.slice (some ⟨g, 0, none⟩) m c) m xs := by
  have hl := h.1
  rcases h.2 with ⟨h2, _⟩ | ⟨g', cap, cur, hv, hB, hh, h3, h4, h5, h6⟩
  · cases h2
  · injection hv with e1 e2 e3
    injection e1 with e1
    injection e1 with e1 _ _
    subst e1
    subst e3
    have hxl : xs.length = m := by rw [List.length_append] at hl; simp at hl; omega
    refine ⟨by omega, .inr ⟨g, c, cur, rfl, hB, hh, by omega, h4, h5, ?_⟩⟩
    have h7 : (cur.toList.take ((m + 1) * 1)).take m = (xs ++ [x]).take m := by rw [h6]
    rw [List.take_take, show min m ((m + 1) * 1) = m by omega] at h7
    rw [Nat.mul_one, h7, List.take_append_of_le_length (by omega), List.take_of_length_le (by omega)]
/-- The steps so far lie in a block, if there are any. -/
theorem PS.form {k : Nat} (h : PS W0 P s n gN cN g9 g10 g11 g12 g13 bK bL fv X w now (out ++ [k]) U A c) : ∃ g, A = some ⟨g, 0, none⟩ ∧ out.length + 1 ≤ c ∧ c ≤ maxLen := by
  have h1 := (h.own.ok 3 (lrow A c (out ++ [k])) rfl).2
  rcases h1 with ⟨_, h2⟩ | ⟨g, cap, cur, hv, _, _, h3, h4, _⟩
  · exfalso
    have h2' : (out ++ [k]).length = 0 := h2
    simp at h2'
  · have hv' : Value.slice A (out ++ [k]).length c = .slice (some ⟨g, 0, none⟩) (out ++ [k]).length cap := hv
    injection hv' with e1 e2 e3
    have h3' : (out ++ [k]).length ≤ cap := h3
    rw [List.length_append] at h3'
    simp at h3'
    exact ⟨g, e1, by omega, by omega⟩
/-- A step less. -/
theorem PS.less {g k : Nat} (h : PS W0 P s n gN cN g9 g10 g11 g12 g13 bK bL fv X w now (out ++ [k]) U (some ⟨g, 0, none⟩) c) : PS W0 P s n gN cN g9 g10 g11 g12 g13 bK bL fv X (w.setCell ⟨g12, 0, none⟩ (.slice (some ⟨g, 0, none⟩) out.length c)) now out U (some ⟨g, 0, none⟩) c := by
  obtain ⟨h1, h2⟩ := h.apart 2 rfl
  refine ⟨?_, h.known.same (map_setCell h1), h.lost.same (map_setCell h2), h.bk, h.bl, h.ne⟩
  have h3 := h.own.ok 3 (lrow (some ⟨g, 0, none⟩) c (out ++ [k])) rfl
  have h4 : w.ownsRow W0.heap.size 3 1 (.slice (some ⟨g, 0, none⟩) (out.length + 1) c) (out.length + 1) ((Mv.ints out).map (.int .i64) ++ [.int .i64 (k : Nat)]) := by
    unfold LRow.ok lrow at h3
    rw [Mv.ints_snoc, List.map_append, List.length_append] at h3
    exact h3
  have h5 := h.own.put 3 (lrow (some ⟨g, 0, none⟩) c out) h.own.ext (row_shrink h4) (fun _ _ _ _ _ _ => rfl) (fun j r hj hr => by
    have := h.own.far 3 j (lrow (some ⟨g, 0, none⟩) c (out ++ [k])) r (Ne.symm hj) rfl hr
    exact this)
  exact h5.store 2 rfl 0 (.slice (some ⟨g, 0, none⟩) out.length c)
/-- A key. -/
def keyRow (gk : Nat) (l : List Int) : LRow := ⟨.slice (some ⟨gk, 0, none⟩) 24 24, 63, 1, 24, l.map (.int .i8)⟩
theorem PS.push (h : PS W0 P s n gN cN g9 g10 g11 g12 g13 bK bL fv X w now out U A c) {cs : Array Value} {l : List Int} (hc : cs.toList = l.map (.int .i8)) (hl : cs.size = 24) : PS W0 P s n gN cN g9 g10 g11 g12 g13 bK bL fv (keyRow w.heap.size l :: X) (w.alloc (.cells cs 63)) now out U A c := by
  have hn := h.next ((Ext.refl w).alloc (.cells cs 63))
  refine ⟨?_, hn.known, hn.lost, h.bk, h.bl, h.ne⟩
  have h1 := h.own.wider.new (psRows n gN cN g9 g10 g11 g12 g13 bK bL fv now out A c ++ X).length cs 63 (by rw [hl]; decide)
  rw [hl, hc] at h1
  have e : ∀ (L : List LRow) (r : LRow), (L ++ [no]).set L.length r = L ++ [r] := fun L r => by
    rw [List.set_append_right _ _ (Nat.le_refl _)]; simp
  rw [e] at h1
  refine h1.perm ?_
  rw [List.append_assoc]
  exact (List.perm_append_comm).append_left _
theorem PS.pop {r : LRow} (h : PS W0 P s n gN cN g9 g10 g11 g12 g13 bK bL fv (r :: X) w now out U A c) : PS W0 P s n gN cN g9 g10 g11 g12 g13 bK bL fv X w now out U A c :=
  ⟨h.own.sublist (List.Sublist.append_left (List.sublist_cons_self _ _) _), h.known, h.lost, h.bk, h.bl, h.ne⟩
theorem PS.setKey {gk : Nat} {l : List Int} (h : PS W0 P s n gN cN g9 g10 g11 g12 g13 bK bL fv (keyRow gk l :: X) w now out U A c) (k : Nat) (x : Int) : PS W0 P s n gN cN g9 g10 g11 g12 g13 bK bL fv (keyRow gk (l.set k x) :: X) (w.setCell ⟨gk, k, none⟩ (.int .i8 x)) now out U A c := by
  obtain ⟨h1, h2⟩ := h.apart 7 rfl
  refine ⟨?_, h.known.same (map_setCell h1), h.lost.same (map_setCell h2), h.bk, h.bl, h.ne⟩
  have := h.own.store 7 rfl k (.int .i8 x)
  unfold keyRow
  rw [List.map_set]
  exact this
theorem PS.key {gk : Nat} {l : List Int} (h : PS W0 P s n gN cN g9 g10 g11 g12 g13 bK bL fv (keyRow gk l :: X) w now out U A c) {k : Nat} {x : Int} (hk : l[k]? = some x) : w.cell? ⟨gk, k, none⟩ = some (.int .i8 x) := h.own.cell 7 rfl k (by rw [List.getElem?_map, hk]; rfl)
theorem PS.keyFrozen {gk : Nat} {l : List Int} (h : PS W0 P s n gN cN g9 g10 g11 g12 g13 bK bL fv (keyRow gk l :: X) w now out U A c) (k : Nat) : w.frozen? ⟨gk, k, none⟩ = false := h.own.frozen 7 rfl k
set_option maxRecDepth 100000 in
theorem aggK_of {cur : Array Value} {l : List Int} {K : Nat → Int} (hc : cur.toList = l.map (.int .i8)) (hl : l = (List.range 24).map K) : Value.agg cur = aggK K := by
  unfold aggK
  congr 1
  apply Array.ext'
  rw [hc, hl]
  rfl
/-- The key is read whole. -/
theorem PS.loadKey {gk : Nat} {l : List Int} {K : Nat → Int} (h : PS W0 P s n gN cN g9 g10 g11 g12 g13 bK bL fv (keyRow gk l :: X) w now out U A c) (hl : l = (List.range 24).map K)
    {ops : Array Oper} {rest : List Oper} {o : Oper} {a : Act} {Q : Exit → Act → World → Prop} (hgd : o.guard = none) (x : Operand) (ho : o.op = .load 63 x) (hx : a.eval x = .pointer (some ⟨gk, 0, none⟩))
    (hK : wpList Tryd.prog ops Q rest (a.put o.dst (aggK K)) w) : wpList Tryd.prog ops Q (o :: rest) a w := by
  have h1 := (h.own.ok 7 (keyRow gk l) rfl).2
  rcases h1 with ⟨h2, _⟩ | ⟨g, cap, cur, hv, _, hg, h3, h4, h5, h6⟩
  · cases h2
  · injection hv with e1 e2 e3
    injection e1 with e1
    injection e1 with e1 _ _
    subst e1
    subst e3
    have hc : cur.toList = l.map (.int .i8) := by
      rw [List.take_of_length_le (by rw [Array.length_toList, h5]; exact Nat.le_refl _)] at h6
      exact h6
    refine wpList_load_row hgd 63 x ho gk hx _ cur (0, 0) _ hg Tryd.underlying63 rfl ?_ ?_
    · rw [h5]; kernel_rfl
    · rw [aggK_of hc hl]; exact hK
end
end Go.Proofs.YtkbiffbmjgmcaaaDoor

/- THE WALK over the closure of Plan of package moves. -/
namespace Mv
/-- The first k of some phases, as a key. -/
def keyTo (now : List Int) (k : Nat) : List Int := (List.range 24).map fun i => if i < k then now.getD i 0 else 0
theorem keyTo_len (now : List Int) (k : Nat) : (keyTo now k).length = 24 := by simp [keyTo]
theorem keyTo_zero (now : List Int) : keyTo now 0 = List.replicate 24 0 := rfl
theorem keyTo_at {now : List Int} {k i : Nat} (hi : i < 24) : (keyTo now k)[i]? = some (if i < k then now.getD i 0 else 0) := by
  unfold keyTo
  rw [List.getElem?_map, List.getElem?_range hi]; rfl
theorem keyTo_succ {now : List Int} {k : Nat} : keyTo now (k + 1) = (keyTo now k).set k (now.getD k 0) := by
  apply List.ext_getElem?
  intro i
  by_cases hi : i < 24
  · rw [keyTo_at hi, List.getElem?_set]
    by_cases e : k = i
    · subst e
      rw [if_pos (by omega), if_pos rfl, if_pos (by rw [keyTo_len]; exact hi)]
    · rw [if_neg e, keyTo_at hi]
      by_cases h : i < k
      · rw [if_pos h, if_pos (by omega)]
      · rw [if_neg h, if_neg (by omega)]
  · rw [List.getElem?_eq_none (by rw [keyTo_len]; omega), List.getElem?_eq_none (by rw [List.length_set, keyTo_len]; omega)]
theorem keyTo_all {now : List Int} {n : Nat} (hn : now.length = n) : keyTo now n = (List.range 24).map (pad now) := by
  unfold keyTo
  apply List.map_congr_left
  intro i _
  split
  · rfl
  · unfold pad
    rw [List.getD_eq_getElem?_getD, List.getElem?_eq_none (by omega)]
    rfl
theorem keyTo_get {now : List Int} {k i : Nat} (hi : i < 24) : ∃ x, (keyTo now k)[i]? = some x := ⟨_, List.getElem?_eq_getElem (by rw [keyTo_len]; exact hi)⟩
theorem step_back {now : List Int} {k : Nat} (hk : k < now.length) {p : Int} (hp : now.getD k 0 = p) : (step now k).set k p = now := by
  unfold step
  rw [List.set_set]
  apply List.ext_getElem
  · simp
  · intro i h1 h2
    rw [List.getElem_set]
    by_cases e : k = i
    · subst e
      rw [if_pos rfl, ← hp, List.getD_eq_getElem?_getD, List.getElem?_eq_getElem hk]; rfl
    · rw [if_neg e]
end Mv
namespace Go.Proofs.YtkbiffbmjgmcaaaDoor
open Go.RowKit
open Go.Maps (Keyed)
open Go.WideMaps Go.ChangeMaps Go.MapKept Go.WideShapes
theorem enters43 : ∀ args w, (callFunc 43 args).run Tryd.prog w = .ok (.enter 43 args) w := enters_of Tryd.func43 (by kernel_rfl) rfl
theorem add0 (g k : Nat) : (⟨g, 0, none⟩ : Addr).add k = ⟨g, k, none⟩ := by unfold Addr.add; split <;> simp_all
/-- What stood before the search, and stays. -/
structure PE (W0 : World) (s : Mv.Sh) (n B g7 gE cE : Nat) (DA KA HA GA RA FA TA : Option Addr) (cD cK cH cG cR cF cT : Nat) : Prop where
  tab : Tab W0
  ok : Mv.Ok s
  len : s.src.length = n
  box : BoxAt W0 B s DA KA HA GA RA FA TA cD cK cH cG cR cF cT
  sh : ShAt W0 s DA KA HA GA RA FA TA cD cK cH cG cR cF cT
  c7 : W0.cell? ⟨g7, 0, none⟩ = some (.slice (some ⟨gE, 0, none⟩) n cE)
  rdE : Rs RI W0 (.slice (some ⟨gE, 0, none⟩) n cE) (Mv.theEnd s)
/-- What the closure returns. -/
def PlOut (W0 : World) (P : List Int → Prop) (s : Mv.Sh) (n gN cN g9 g10 g11 g12 g13 bK bL : Nat) (fv : Value) (X : List LRow) (now : List Int) (out : List Nat) (U : List (List Int)) (pl : Option (List Nat)) (e : Ending) (w' : World) : Prop :=
  ∃ U' A' c', (∀ x ∈ U', x ∈ U ∨ Mv.rest (Mv.theEnd s) x ≤ Mv.rest (Mv.theEnd s) now) ∧
    ((∃ l, pl = some l ∧ e = .returned (.bool true) ∧ PS W0 P s n gN cN g9 g10 g11 g12 g13 bK bL fv X w' (Mv.theEnd s) (out ++ l) U' A' c') ∨ (pl = none ∧ e = .returned (.bool false) ∧ PS W0 P s n gN cN g9 g10 g11 g12 g13 bK bL fv X w' now out U' A' c'))
set_option maxHeartbeats 16000000 in
set_option maxRecDepth 100000 in
theorem plan1_any (W0 : World) (s : Mv.Sh) (n B g7 gE cE gN cN g9 g10 g11 g12 g13 bK bL : Nat) (DA KA HA GA RA FA TA : Option Addr) (cD cK cH cG cR cF cT : Nat) (hE : PE W0 s n B g7 gE cE DA KA HA GA RA FA TA cD cK cH cG cR cF cT) :
    ∀ (r : Nat) (now : List Int) (out : List Nat) (U : List (List Int)) (X : List LRow) (A : Option Addr) (c : Nat) (w : World), Mv.rest (Mv.theEnd s) now = r → out.length + r ≤ 100 → Mv.right s now = true → PS W0 (fun x => Mv.plan (Mv.fine (fun m => Cd.can s.d s.gl s.gs m) s) (Mv.theEnd s) x = none) s n gN cN g9 g10 g11 g12 g13 bK bL (.func (.func 43) #[] #[.pointer (some ⟨g10, 0, none⟩), .pointer (some ⟨g7, 0, none⟩), .pointer (some ⟨g11, 0, none⟩), .pointer (some ⟨g12, 0, none⟩), .pointer (some ⟨B, 0, none⟩), .pointer (some ⟨g9, 0, none⟩), .pointer (some ⟨g13, 0, none⟩)]) X w now out U A c →
    Calls Tryd.prog 43 #[.pointer (some ⟨g10, 0, none⟩), .pointer (some ⟨g7, 0, none⟩), .pointer (some ⟨g11, 0, none⟩), .pointer (some ⟨g12, 0, none⟩), .pointer (some ⟨B, 0, none⟩), .pointer (some ⟨g9, 0, none⟩), .pointer (some ⟨g13, 0, none⟩)] w fun e w' => PlOut W0 (fun x => Mv.plan (Mv.fine (fun m => Cd.can s.d s.gl s.gs m) s) (Mv.theEnd s) x = none) s n gN cN g9 g10 g11 g12 g13 bK bL (.func (.func 43) #[] #[.pointer (some ⟨g10, 0, none⟩), .pointer (some ⟨g7, 0, none⟩), .pointer (some ⟨g11, 0, none⟩), .pointer (some ⟨g12, 0, none⟩), .pointer (some ⟨B, 0, none⟩), .pointer (some ⟨g9, 0, none⟩), .pointer (some ⟨g13, 0, none⟩)]) X now out U (Mv.plan (Mv.fine (fun m => Cd.can s.d s.gl s.gs m) s) (Mv.theEnd s) now) e w' := by
  intro r
  induction r with
  | zero =>
    intro now out U X A c w hr hro hrt hps
    have he := Mv.rest_zero (Mv.right_under hrt) hr
    have hnl : now.length = n := by rw [(Mv.right_iff.1 hrt).2.1]; exact hE.len
    have hn24 : n ≤ 24 := by rw [← hE.len]; exact hE.ok.few
    have hrd := hps.rdNow hnl (by omega) (fun x hx => by have := (Mv.right_ph hrt).2 x hx; omega)
    have q10 := hps.c10
    have q7 := hps.own.ext.cell hE.c7
    have hre := Rs.ext RI.ext _ _ _ _ hps.own.ext hE.rdE
    have HPS := Lib.hid hps
    have HE := Lib.hid he
    have HRD := Lib.hid (And.intro hrd hre)
    clear hr hrt hps he hnl hrd hre hE
    go_enter Tryd.func43, Tryd.ntmps43
    go_wp2_with fail
    refine (sEqual_any now (Mv.theEnd s) _ _ w HRD.out.1 HRD.out.2).mono ?_
    rintro e w1 ⟨rfl, hx1⟩
    rw [decide_eq_true HE.out]
    have HP1 := Lib.hid (HPS.out.next hx1)
    clear hx1 q10 q7
    go_wp2_with fail
    go_ret
    refine ⟨U, A, c, fun x hx => .inl hx, .inl ⟨[], by rw [HE.out]; exact Mv.plan_end _ _, rfl, ?_⟩⟩
    have h := HP1.out
    rw [HE.out] at h
    rw [List.append_nil]
    exact h
  | succ r ih =>
    intro now out U X A c w hr hro hrt hps
    have hne : now ≠ Mv.theEnd s := fun e => by
      rw [e] at hr
      unfold Mv.rest at hr
      rw [Mv.restTo_self] at hr
      cases hr
    have hun := Mv.right_under hrt
    have hpl := Mv.plan_more (ok := (Mv.fine (fun m => Cd.can s.d s.gl s.gs m) s)) hun hne
    have hnl : now.length = n := by rw [(Mv.right_iff.1 hrt).2.1]; exact hE.len
    have hn24 : n ≤ 24 := by rw [← hE.len]; exact hE.ok.few
    have hph : Mv.Ph n now := by rw [← hE.len]; exact Mv.right_ph hrt
    have hrd := hps.rdNow hnl (by omega) (fun x hx => by have := hph.2 x hx; omega)
    have q10 := hps.c10
    have q7 := hps.own.ext.cell hE.c7
    have hre := Rs.ext RI.ext _ _ _ _ hps.own.ext hE.rdE
    have HPS := Lib.hid hps
    have HNE := Lib.hid hne
    have HRD := Lib.hid (And.intro hrd hre)
    have HE0 := Lib.hid hE
    have HUN := Lib.hid hun
    have HPL := Lib.hid hpl
    have HNL := Lib.hid hnl
    have HPH := Lib.hid hph
    have HRT := Lib.hid hrt
    have HR := Lib.hid hr
    have IH := Lib.hid ih
    have hkz : ([.int .i8 0, .int .i8 0, .int .i8 0, .int .i8 0, .int .i8 0, .int .i8 0, .int .i8 0, .int .i8 0, .int .i8 0, .int .i8 0, .int .i8 0, .int .i8 0, .int .i8 0, .int .i8 0, .int .i8 0, .int .i8 0, .int .i8 0, .int .i8 0, .int .i8 0, .int .i8 0, .int .i8 0, .int .i8 0, .int .i8 0, .int .i8 0] : List Value) = (Mv.keyTo now 0).map (.int .i8) := by rw [Mv.keyTo_zero]; rfl
    have HKZ := Lib.hid hkz
    clear hr hrt hps hne hun hpl hnl hph hrd hre hE ih hkz
    go_enter Tryd.func43, Tryd.ntmps43
    go_wp2_with fail
    refine (sEqual_any now (Mv.theEnd s) _ _ w HRD.out.1 HRD.out.2).mono ?_
    rintro e w1 ⟨rfl, hx1⟩
    rw [decide_eq_false HNE.out]
    have HP1 := Lib.hid (HPS.out.next hx1)
    have hp2 := HP1.out.push (cs := #[.int .i8 0, .int .i8 0, .int .i8 0, .int .i8 0, .int .i8 0, .int .i8 0, .int .i8 0, .int .i8 0, .int .i8 0, .int .i8 0, .int .i8 0, .int .i8 0, .int .i8 0, .int .i8 0, .int .i8 0, .int .i8 0, .int .i8 0, .int .i8 0, .int .i8 0, .int .i8 0, .int .i8 0, .int .i8 0, .int .i8 0, .int .i8 0]) (l := Mv.keyTo now 0) HKZ.out rfl
    have HP2 := Lib.hid hp2
    have p10 := hp2.c10
    obtain ⟨gk, hgk⟩ : ∃ gk, w1.heap.size = gk := ⟨_, rfl⟩
    clear hx1 q10 q7 hp2
    rw [hgk] at HP2
    go_wp2_with fail
    have HGK := Lib.hid hgk
    clear hgk p10
    go_loopw [17] (fun vk wr => ∃ k : Nat, k ≤ n ∧ vk = .int .i64 k ∧ Hid (PS W0 (fun x => Mv.plan (Mv.fine (fun m => Cd.can s.d s.gl s.gs m) s) (Mv.theEnd s) x = none) s n gN cN g9 g10 g11 g12 g13 bK bL (.func (.func 43) #[] #[.pointer (some ⟨g10, 0, none⟩), .pointer (some ⟨g7, 0, none⟩), .pointer (some ⟨g11, 0, none⟩), .pointer (some ⟨g12, 0, none⟩), .pointer (some ⟨B, 0, none⟩), .pointer (some ⟨g9, 0, none⟩), .pointer (some ⟨g13, 0, none⟩)]) (keyRow gk (Mv.keyTo now k) :: X) wr now out U A c)) (fun vk _ => n - (intOf vk).toNat)
    case atStart => exact ⟨0, Nat.zero_le _, rfl, HP2⟩
    case round =>
      obtain ⟨k, hk, rfl, HI⟩ := hrel
      by_cases hlt : k < n
      · have hkl : k < now.length := by rw [HNL.out]; exact hlt
        have hpb := HPH.out.2 _ (List.getElem_mem hkl)
        have hcn := HI.out.cellNow (List.getElem?_eq_getElem hkl)
        have hst := Mv.keyTo_succ (now := now) (k := k)
        rw [getD_get hkl] at hst
        obtain ⟨p, hp⟩ : ∃ p, now[k] = p := ⟨_, rfl⟩
        rw [hp] at hpb hcn hst
        obtain ⟨y, hy⟩ := Mv.keyTo_get (now := now) (k := k) (i := k) (by omega)
        have hck := HI.out.key hy
        have hfk := HI.out.keyFrozen k
        have hwp : IntKind.i8.wrap p = p := by
          rcases hpb with ⟨h1, h2⟩
          have : p = 0 ∨ p = 1 ∨ p = 2 := by omega
          rcases this with rfl | rfl | rfl <;> rfl
        have HST := Lib.hid hst
        have hki : (k : Int) < (n : Int) := by omega
        have hk24 : (k : Int) < 24 := by omega
        obtain ⟨hpb1, hpb2⟩ := hpb
        clear hst hy hp
        go_wp2_with fail
        have HN := Lib.hid (HI.out.setKey k p)
        clear hcn hck hfk hwp hki hk24
        go_roundw
        case rel => exact ⟨k + 1, by omega, by go_num, Lib.hid (by rw [HST.out]; exact HN.out)⟩
        case measure => simp [intOf]; omega
      · obtain rfl : n = k := by omega
        have hkk := Mv.keyTo_all HNL.out
        have HKK := Lib.hid hkk
        have q11 := HI.out.c11
        have q10 := HI.out.c10
        obtain ⟨⟨D, hD, hS⟩, hnd, hal⟩ := HI.out.lost
        have HD := Lib.hid (And.intro hD hS)
        clear hD hS hnd hal hkk
        cases hin : decide (now ∈ U) with
        | true =>
          have HIN := Lib.hid hin
          clear hin q10
          go_wp2_with (first | refine HI.out.loadKey HKK.out rfl (.tmp 8) rfl rfl ?_ | refine wpl_lost rfl _ _ rfl bL _ _ rfl HD.out.1 HD.out.2 rfl HPH.out HIN.out ?_)
          clear q11
          go_ret
          exact ⟨U, A, c, fun x hx => .inl hx, .inr ⟨(HI.out.lost.2.2 now (of_decide_eq_true HIN.out)).2, rfl, HI.out.pop⟩⟩
        | false =>
        have HIN := Lib.hid hin
        clear hin
        go_wp2_with (first | refine HI.out.loadKey HKK.out rfl (.tmp 8) rfl rfl ?_ | refine wpl_lost rfl _ _ rfl bL _ _ rfl HD.out.1 HD.out.2 rfl HPH.out HIN.out ?_)
        clear q11 q10
        go_loopw [32] (fun vk wr => ∃ (k : Nat) (U' : List (List Int)) (A' : Option Addr) (c' : Nat), k ≤ n ∧ vk = .int .i64 k ∧ Hid (PS W0 (fun x => Mv.plan (Mv.fine (fun m => Cd.can s.d s.gl s.gs m) s) (Mv.theEnd s) x = none) s n gN cN g9 g10 g11 g12 g13 bK bL (.func (.func 43) #[] #[.pointer (some ⟨g10, 0, none⟩), .pointer (some ⟨g7, 0, none⟩), .pointer (some ⟨g11, 0, none⟩), .pointer (some ⟨g12, 0, none⟩), .pointer (some ⟨B, 0, none⟩), .pointer (some ⟨g9, 0, none⟩), .pointer (some ⟨g13, 0, none⟩)]) (keyRow gk (Mv.keyTo now n) :: X) wr now out U' A' c' ∧ Mv.tryTo (Mv.tryAt (Mv.fine (fun m => Cd.can s.d s.gl s.gs m) s) (Mv.theEnd s) now) k = none ∧ ∀ x ∈ U', x ∈ U ∨ Mv.rest (Mv.theEnd s) x ≤ r)) (fun vk _ => n - (intOf vk).toNat)
        case atStart => exact ⟨0, U, A, c, Nat.zero_le _, rfl, Lib.hid ⟨HI.out, rfl, fun x hx => .inl hx⟩⟩
        case round =>
          obtain ⟨k, U', A', c', hk, rfl, HJ⟩ := hrel
          have q10 := HJ.out.1.c10
          by_cases hlt : k < n
          · have hkl : k < now.length := by rw [HNL.out]; exact hlt
            have hpb := HPH.out.2 _ (List.getElem_mem hkl)
            have hcn := HJ.out.1.cellNow (List.getElem?_eq_getElem hkl)
            have hfn := HJ.out.1.frozenNow k
            have q7 := HJ.out.1.own.ext.cell HE0.out.c7
            have hkE : k < (Mv.theEnd s).length := by rw [Mv.theEnd_len, HE0.out.len]; exact hlt
            obtain ⟨ae, ue, e1, hce, hue⟩ := (Rs.ext RI.ext _ _ _ _ HJ.out.1.own.ext HE0.out.rdE).at hkE
            injection e1 with e1
            subst e1
            obtain ⟨rfl, hze1, hze2⟩ := hue
            rw [add0] at hce
            have g1 := getD_get (x := (0 : Int)) hkl
            have g2 := getD_get (x := (0 : Int)) hkE
            obtain ⟨p, hp⟩ : ∃ p, now[k] = p := ⟨_, rfl⟩
            obtain ⟨z, hz⟩ : ∃ z, (Mv.theEnd s)[k] = z := ⟨_, rfl⟩
            rw [hp] at hpb hcn g1
            rw [hz] at hce g2 hze1 hze2
            have HG := Lib.hid (And.intro g1 g2)
            have hki : (k : Int) < (n : Int) := by omega
            obtain ⟨hpb1, hpb2⟩ := hpb
            clear hp hz g1 g2
            by_cases hpz : p = z
            · have hsame : now.getD k 0 = (Mv.theEnd s).getD k 0 := by rw [HG.out.1, HG.out.2]; exact hpz
              have HN : Hid (Mv.tryTo (Mv.tryAt (Mv.fine (fun m => Cd.can s.d s.gl s.gs m) s) (Mv.theEnd s) now) (k + 1) = none) := Lib.hid ((Mv.tryTo_none HJ.out.2.1).trans (Mv.tryAt_same hsame))
              have e1 : (p == z) = true := by rw [hpz]; simp
              clear hsame hpz
              go_wp2_with fail
              go_quiet (fail)
              go_wp2_with fail
              clear hcn hfn q7 hce e1 hki q10
              go_roundw
              case rel => exact ⟨k + 1, U', A', c', by omega, by go_num, Lib.hid ⟨HJ.out.1.next ((Ext.refl _).drewN _), HN.out, HJ.out.2.2⟩⟩
              case measure => simp [intOf]; omega
            · have hdiff : now.getD k 0 ≠ (Mv.theEnd s).getD k 0 := by rw [HG.out.1, HG.out.2]; exact hpz
              have hrs := Mv.right_step HRT.out hkl hdiff
              have hst := Mv.rest_step HUN.out hkl hdiff
              have HD2 := Lib.hid (And.intro hdiff (And.intro hrs hst))
              have e1 : (p == z) = false := by rw [beq_eq_false_iff_ne]; exact hpz
              have hw1 : wrap64 (p + 1) = p + 1 := by unfold wrap64; omega
              have q12 := HJ.out.1.c12
              have f12 := HJ.out.1.f12
              clear hdiff hrs hst hpz
              go_wp2_with fail
              go_quiet (fail)
              rename_i nq
              have hs1 := (HJ.out.1.next ((Ext.refl wr).drewN nq)).setNow k (p + 1)
              rw [show now.set k (p + 1) = Mv.step now k from by unfold Mv.step; rw [HG.out.1]] at hs1
              go_upto_region 16 with fail
              obtain ⟨w4, hw4⟩ : ∃ w4, (wr.drewN nq).setCell ⟨gN, k, none⟩ (.int .i64 (p + 1)) = w4 := ⟨_, rfl⟩
              rw [hw4] at hs1 ⊢
              clear hw4 hcn hfn q7 hce e1 q10 q12 f12
              have q10 := hs1.c10
              have q12 := hs1.c12
              have f12 := hs1.f12
              have HS1 := Lib.hid hs1
              have HS2 := Lib.hid (hs1.next ((Ext.refl w4).alloc (.cells #[.int .i64 (k : Nat)] 3)))
              obtain ⟨y, hy⟩ : ∃ y, p + 1 = y := ⟨_, rfl⟩
              have hy1 : (Mv.step now k)[k]? = some y := by
                unfold Mv.step
                rw [List.getElem?_set_self hkl, HG.out.1, hy]
              have hy2 : (Mv.step now k).set k (y - 1) = now := Mv.step_back hkl (by rw [HG.out.1]; omega)
              have HY := Lib.hid (And.intro hy (And.intro hy1 hy2))
              have hyb1 : 1 ≤ y := by omega
              have hyb2 : y ≤ 3 := by omega
              have hpl2 : (Mv.step now k).length = n := by rw [Mv.step_len, HNL.out]
              have hph2 : Mv.Ph n (Mv.step now k) := by rw [← HE0.out.len]; exact Mv.right_ph HD2.out.2.1
              have HPL2 := Lib.hid (And.intro hpl2 hph2)
              have hol : out.length < 1000000000000 := by omega
              clear hs1 hy hy1 hy2 hpl2 hph2
              go_upto_region 17 with (refine wpl_append_owns (u := .int .i64 (k : Nat)) 22 3 rfl (.tmp 50) (.tmp 52) rfl Tryd.underlying22 info_int rfl (HS1.out.own.push1 (u := .int .i64 (k : Nat)) (e := 3)) 3 rfl rfl rfl (cell_of_row _ _ 0 _ _ (0, 0) (heap_new _ _)) rfl hol (by decide) ?_; intro g5 c5 w5 hO5 hg5; have z12 := hO5.cell 2 rfl 0 rfl; have zf := hO5.frozen 2 rfl 0; have hs5 := HS2.out.more hO5 hg5; have HS5 := Lib.hid hs5; clear hO5 hg5 hs5)
              obtain ⟨w6, hw6⟩ : ∃ w6, w5.setCell ⟨g12, 0, none⟩ (.slice (some ⟨g5, 0, none⟩) (out.length + 1) c5) = w6 := ⟨_, rfl⟩
              rw [hw6] at HS5 ⊢
              clear hw6 z12 zf q10 q12 f12
              have a0 := (HE0.out.box.ext HS5.out.own.ext).b0
              have a1 := (HE0.out.box.ext HS5.out.own.ext).b1
              have a2 := (HE0.out.box.ext HS5.out.own.ext).b2
              have a3 := (HE0.out.box.ext HS5.out.own.ext).b3
              have a4 := (HE0.out.box.ext HS5.out.own.ext).b4
              have a5 := (HE0.out.box.ext HS5.out.own.ext).b5
              have a6 := (HE0.out.box.ext HS5.out.own.ext).b6
              have a7 := (HE0.out.box.ext HS5.out.own.ext).b7
              have a8 := (HE0.out.box.ext HS5.out.own.ext).b8
              have a9 := (HE0.out.box.ext HS5.out.own.ext).b9
              have a10 := (HE0.out.box.ext HS5.out.own.ext).b10
              have q10 := HS5.out.c10
              go_wp2_with fail
              clear a0 a1 a2 a3 a4 a5 a6 a7 a8 a9 a10 q10
              refine (mFits1_any s (Mv.step now k) HE0.out.ok (by rw [HPL2.out.1, HE0.out.len]) _ _ w6 (HE0.out.sh.ext HS5.out.own.ext).sh (HS5.out.rdNow HPL2.out.1 (by omega) (fun x hx => by have := HPL2.out.2.2 x hx; omega))).mono ?_
              rintro e w7 ⟨rfl, hx7⟩
              have HS7 := Lib.hid (HS5.out.next hx7)
              obtain ⟨ft, hft⟩ : ∃ ft, Mv.fits s (Mv.step now k) = ft := ⟨_, rfl⟩
              rw [hft]
              have HFT := Lib.hid hft
              clear hx7 hft
              cases ft with
              | false =>
                have hok : (Mv.fine (fun m => Cd.can s.d s.gl s.gs m) s) (Mv.step now k) = false := by unfold Mv.fine; rw [HFT.out]; rfl
                have HOKK := Lib.hid hok
                have HUU := Lib.hid HJ.out.2.2
                clear hok
                have HN : Hid (Mv.tryTo (Mv.tryAt (Mv.fine (fun m => Cd.can s.d s.gl s.gs m) s) (Mv.theEnd s) now) (k + 1) = none) := Lib.hid ((Mv.tryTo_none HJ.out.2.1).trans (Mv.tryAt_no HOKK.out))
                obtain ⟨g, e9, hc1, hc2⟩ := HS7.out.form
                have e10 : g5 = g := by injection e9 with e9; injection e9
                subst e10
                clear e9
                have q10 := HS7.out.c10
                have hcn := HS7.out.cellNow (k := k) (p := y) HY.out.2.1
                have hfn := HS7.out.frozenNow k
                have hs0 := HS7.out.setNow k (y - 1)
                rw [HY.out.2.2] at hs0
                go_upto_region 20 with fail
                obtain ⟨wb, hwb⟩ : ∃ wb, w7.setCell ⟨gN, k, none⟩ (.int .i64 (y - 1)) = wb := ⟨_, rfl⟩
                rw [hwb] at hs0 ⊢
                clear hwb q10 hcn hfn
                have q10 := hs0.c10
                have q12 := hs0.c12
                have f12 := hs0.f12
                have hci : (out.length : Int) ≤ (c5 : Int) := by omega
                have hci2 : (out.length : Int) + 1 ≤ (c5 : Int) := by omega
                rw [List.length_append] at q12
                have HS0 := Lib.hid hs0.less
                clear hs0
                go_wp2_with fail
                clear q10 q12 f12 hci hci2
                go_roundw
                case rel => exact ⟨k + 1, U', some ⟨g5, 0, none⟩, c5, by omega, by go_num, Lib.hid ⟨HS0.out, HN.out, HUU.out⟩⟩
                case measure => simp [intOf]; omega
              | true =>
              have a0 := (HE0.out.box.ext HS7.out.own.ext).b0
              have a1 := (HE0.out.box.ext HS7.out.own.ext).b1
              have a2 := (HE0.out.box.ext HS7.out.own.ext).b2
              have a3 := (HE0.out.box.ext HS7.out.own.ext).b3
              have a4 := (HE0.out.box.ext HS7.out.own.ext).b4
              have a5 := (HE0.out.box.ext HS7.out.own.ext).b5
              have a6 := (HE0.out.box.ext HS7.out.own.ext).b6
              have a7 := (HE0.out.box.ext HS7.out.own.ext).b7
              have a8 := (HE0.out.box.ext HS7.out.own.ext).b8
              have a9 := (HE0.out.box.ext HS7.out.own.ext).b9
              have a10 := (HE0.out.box.ext HS7.out.own.ext).b10
              have q10 := HS7.out.c10
              have q9 := HS7.out.c9
              go_wp2_with fail
              clear a0 a1 a2 a3 a4 a5 a6 a7 a8 a9 a10 q10 q9
              refine (mSafe_any s (Mv.step now k) bK HE0.out.ok (by rw [HPL2.out.1, HE0.out.len]) _ _ w7 (HE0.out.tab.ext HS7.out.own.ext) (HE0.out.sh.ext HS7.out.own.ext).sh (HS7.out.rdNow HPL2.out.1 (by omega) (fun x hx => by have := HPL2.out.2.2 x hx; omega)) HS7.out.known).mono ?_
              rintro e w8 ⟨rfl, hg8, hk8⟩
              have HS8 := Lib.hid (HS7.out.safe hg8 hk8)
              obtain ⟨sf, hsf⟩ : ∃ sf, Mv.safe (fun m => Cd.can s.d s.gl s.gs m) s (Mv.step now k) = sf := ⟨_, rfl⟩
              rw [hsf]
              have HSF := Lib.hid hsf
              have hok : (Mv.fine (fun m => Cd.can s.d s.gl s.gs m) s) (Mv.step now k) = sf := by unfold Mv.fine; rw [HFT.out, HSF.out]; rfl
              have HOKK := Lib.hid hok
              clear hg8 hk8 hsf hok
              cases sf with
              | false =>
                have HUU := Lib.hid HJ.out.2.2
                have HN : Hid (Mv.tryTo (Mv.tryAt (Mv.fine (fun m => Cd.can s.d s.gl s.gs m) s) (Mv.theEnd s) now) (k + 1) = none) := Lib.hid ((Mv.tryTo_none HJ.out.2.1).trans (Mv.tryAt_no HOKK.out))
                obtain ⟨g, e9, hc1, hc2⟩ := HS8.out.form
                have e10 : g5 = g := by injection e9 with e9; injection e9
                subst e10
                clear e9
                have q10 := HS8.out.c10
                have hcn := HS8.out.cellNow (k := k) (p := y) HY.out.2.1
                have hfn := HS8.out.frozenNow k
                have hs0 := HS8.out.setNow k (y - 1)
                rw [HY.out.2.2] at hs0
                go_upto_region 20 with fail
                obtain ⟨wb, hwb⟩ : ∃ wb, w8.setCell ⟨gN, k, none⟩ (.int .i64 (y - 1)) = wb := ⟨_, rfl⟩
                rw [hwb] at hs0 ⊢
                clear hwb q10 hcn hfn
                have q10 := hs0.c10
                have q12 := hs0.c12
                have f12 := hs0.f12
                have hci : (out.length : Int) ≤ (c5 : Int) := by omega
                have hci2 : (out.length : Int) + 1 ≤ (c5 : Int) := by omega
                rw [List.length_append] at q12
                have HS0 := Lib.hid hs0.less
                clear hs0
                go_wp2_with fail
                clear q10 q12 f12 hci hci2
                go_roundw
                case rel => exact ⟨k + 1, U', some ⟨g5, 0, none⟩, c5, by omega, by go_num, Lib.hid ⟨HS0.out, HN.out, HUU.out⟩⟩
                case measure => simp [intOf]; omega
              | true =>
              have q13 := HS8.out.c13
              have hent := enters43
              go_wp2_with fail
              clear q13
              refine (IH.out (Mv.step now k) (out ++ [k]) U' (keyRow gk (Mv.keyTo now n) :: X) _ _ w8 (by have := HR.out; have := HD2.out.2.2.1; omega) (by rw [List.length_append]; simp; omega) HD2.out.2.1 HS8.out).mono ?_
              rintro e w9 ⟨U9, A9, c9, hU9, hor⟩
              have htry := Mv.tryAt_go (ok := (Mv.fine (fun m => Cd.can s.d s.gl s.gs m) s)) (E := Mv.theEnd s) (now := now) HD2.out.1 HOKK.out
              have huu : ∀ x ∈ U9, x ∈ U ∨ Mv.rest (Mv.theEnd s) x ≤ r := fun x hx => by
                rcases hU9 x hx with h | h
                · exact HJ.out.2.2 x h
                · have := HR.out
                  have := HD2.out.2.2.1
                  exact .inr (by omega)
              have HUU := Lib.hid huu
              have HTRY := Lib.hid htry
              clear huu htry hU9
              rcases hor with ⟨l, hpl9, rfl, hs9⟩ | ⟨hpl9, rfl, hs9⟩
              · have hres : Mv.plan (Mv.fine (fun m => Cd.can s.d s.gl s.gs m) s) (Mv.theEnd s) now = some (k :: l) := by
                  rw [HPL.out]
                  refine Mv.tryTo_mono (k := k + 1) ?_ hkl
                  rw [Mv.tryTo_none HJ.out.2.1, HTRY.out, hpl9]
                  rfl
                have HRES := Lib.hid hres
                have HS9 := Lib.hid hs9
                clear hres hs9 hpl9
                go_wp2_with fail
                go_ret
                refine ⟨U9, A9, c9, fun x hx => (HUU.out x hx).imp id fun h => by have := HR.out; omega, .inl ⟨k :: l, HRES.out, rfl, ?_⟩⟩
                have h := HS9.out.pop
                rw [List.append_assoc] at h
                exact h
              · have hnone : Mv.tryAt (Mv.fine (fun m => Cd.can s.d s.gl s.gs m) s) (Mv.theEnd s) now k = none := by rw [HTRY.out, hpl9]; rfl
                have HNO := Lib.hid hnone
                have HS9 := Lib.hid hs9
                clear hnone hs9 hpl9
                have HN : Hid (Mv.tryTo (Mv.tryAt (Mv.fine (fun m => Cd.can s.d s.gl s.gs m) s) (Mv.theEnd s) now) (k + 1) = none) := Lib.hid ((Mv.tryTo_none HJ.out.2.1).trans (HNO.out))
                obtain ⟨g, e9, hc1, hc2⟩ := HS9.out.form
                subst e9
                have q10 := HS9.out.c10
                have hcn := HS9.out.cellNow (k := k) (p := y) HY.out.2.1
                have hfn := HS9.out.frozenNow k
                have hs0 := HS9.out.setNow k (y - 1)
                rw [HY.out.2.2] at hs0
                go_upto_region 20 with fail
                obtain ⟨wb, hwb⟩ : ∃ wb, w9.setCell ⟨gN, k, none⟩ (.int .i64 (y - 1)) = wb := ⟨_, rfl⟩
                rw [hwb] at hs0 ⊢
                clear hwb q10 hcn hfn
                have q10 := hs0.c10
                have q12 := hs0.c12
                have f12 := hs0.f12
                have hci : (out.length : Int) ≤ (c9 : Int) := by omega
                have hci2 : (out.length : Int) + 1 ≤ (c9 : Int) := by omega
                rw [List.length_append] at q12
                have HS0 := Lib.hid hs0.less
                clear hs0
                go_wp2_with fail
                clear q10 q12 f12 hci hci2
                go_roundw
                case rel => exact ⟨k + 1, U9, some ⟨g, 0, none⟩, c9, by omega, by go_num, Lib.hid ⟨HS0.out, HN.out, HUU.out⟩⟩
                case measure => simp [intOf]; omega
          · obtain rfl : n = k := by omega
            obtain ⟨⟨D2, hD2, hS2⟩, hnd2, hal2⟩ := HJ.out.1.lost
            have hnin : now ∉ U' := fun h => by
              rcases HJ.out.2.2 now h with h | h
              · exact of_decide_eq_false HIN.out h
              · have := HR.out; omega
            have hlen : U'.length < maxLen := by
              have := Mv.ph_len hn24 hnd2 (fun x hx => (hal2 x hx).1)
              unfold maxLen
              omega
            have hnone : Mv.plan (Mv.fine (fun m => Cd.can s.d s.gl s.gs m) s) (Mv.theEnd s) now = none := by
              rw [HPL.out, HNL.out]
              exact HJ.out.2.1
            have HF := Lib.hid (And.intro hD2 (And.intro hS2 (And.intro hnd2 (And.intro hal2 (And.intro hnin hnone)))))
            have q11 := HJ.out.1.c11
            clear hD2 hS2 hnd2 hal2 hnin hnone
            go_wp2_with (first | refine HJ.out.1.loadKey HKK.out rfl (.tmp 8) rfl rfl ?_ | (at_mapUpdate; refine wpList_mapUpdate_own _ rfl _ _ _ 61 rfl 63 4 keyLawP Tryd.underlying61 _ bL U'.length D2 rfl HF.out.1 hlen _ _ _ rfl rfl (keyK_of (pad_byte HPH.out)) (.lit (.bool true)) [] (plainElem_bool Tryd.underlying4 true) ?_; intro w5 hown5 hgrow5; have H5 := Lib.hid (And.intro hown5 hgrow5); clear hown5 hgrow5))
            clear q11 q10
            go_ret
            have hl5 : Lost n (fun x => Mv.plan (Mv.fine (fun m => Cd.can s.d s.gl s.gs m) s) (Mv.theEnd s) x = none) w5 bL (now :: U') := ⟨⟨_, H5.out.1, HF.out.2.1.put hn24 HF.out.1.isMap HPH.out⟩, List.nodup_cons.2 ⟨HF.out.2.2.2.2.1, HF.out.2.2.1⟩, fun x hx => by
              rcases List.mem_cons.1 hx with rfl | hx
              · exact ⟨HPH.out, HF.out.2.2.2.2.2⟩
              · exact HF.out.2.2.2.1 x hx⟩
            refine ⟨now :: U', A', c', fun x hx => ?_, .inr ⟨HF.out.2.2.2.2.2, rfl, (HJ.out.1.lose H5.out.2 hl5).pop⟩⟩
            rcases List.mem_cons.1 hx with rfl | hx
            · exact .inr (Nat.le_refl _)
            · exact (HJ.out.2.2 x hx).imp id fun h => by have := HR.out; omega
end Go.Proofs.YtkbiffbmjgmcaaaDoor

/- THE WALK over Plan of package moves. -/
namespace Mv
/-- The first k of a list, and noughts. -/
def fillTo (l : List Int) (n k : Nat) : List Int := (List.range n).map fun i => if i < k then l.getD i 0 else 0
theorem fillTo_len (l : List Int) (n k : Nat) : (fillTo l n k).length = n := by simp [fillTo]
theorem fillTo_at {l : List Int} {n k i : Nat} (hi : i < n) : (fillTo l n k)[i]? = some (if i < k then l.getD i 0 else 0) := by
  unfold fillTo
  rw [List.getElem?_map, List.getElem?_range hi]; rfl
theorem fillTo_zero (l : List Int) (n : Nat) : fillTo l n 0 = List.replicate n 0 := by
  apply List.ext_getElem?
  intro i
  by_cases hi : i < n
  · rw [fillTo_at hi, List.getElem?_replicate, if_pos hi]; rfl
  · rw [List.getElem?_eq_none (by rw [fillTo_len]; omega), List.getElem?_eq_none (by simp; omega)]
theorem fillTo_succ {l : List Int} {n k : Nat} : fillTo l n (k + 1) = (fillTo l n k).set k (l.getD k 0) := by
  apply List.ext_getElem?
  intro i
  by_cases hi : i < n
  · rw [fillTo_at hi, List.getElem?_set]
    by_cases e : k = i
    · subst e
      rw [if_pos (by omega), if_pos rfl, if_pos (by rw [fillTo_len]; exact hi)]
    · rw [if_neg e, fillTo_at hi]
      by_cases h : i < k
      · rw [if_pos h, if_pos (by omega)]
      · rw [if_neg h, if_neg (by omega)]
  · rw [List.getElem?_eq_none (by rw [fillTo_len]; omega), List.getElem?_eq_none (by rw [List.length_set, fillTo_len]; omega)]
theorem fillTo_same {l : List Int} {n k : Nat} (h : l.getD k 0 = 0) : fillTo l n (k + 1) = fillTo l n k := by
  apply List.ext_getElem?
  intro i
  by_cases hi : i < n
  · rw [fillTo_at hi, fillTo_at hi]
    by_cases e : k = i
    · subst e
      rw [if_pos (by omega), if_neg (by omega), h]
    · by_cases h : i < k
      · rw [if_pos h, if_pos (by omega)]
      · rw [if_neg h, if_neg (by omega)]
  · rw [List.getElem?_eq_none (by rw [fillTo_len]; omega), List.getElem?_eq_none (by rw [fillTo_len]; omega)]
theorem fillTo_all {l : List Int} {n : Nat} (hn : l.length = n) : fillTo l n n = l := by
  apply List.ext_getElem?
  intro i
  by_cases hi : i < n
  · rw [fillTo_at hi, if_pos hi, List.getD_eq_getElem?_getD, List.getElem?_eq_getElem (by omega)]; rfl
  · rw [List.getElem?_eq_none (by rw [fillTo_len]; omega), List.getElem?_eq_none (by omega)]
end Mv
namespace Go.Proofs.YtkbiffbmjgmcaaaDoor
open Go.RowKit
open Go.Maps (Keyed)
open Go.WideMaps Go.ChangeMaps Go.MapKept Go.WideShapes
/-- What Plan returns. -/
def MPlanOut (r : List Nat × Int) (w : World) (e : Ending) (w' : World) : Prop := ∃ A c, e = .returned (.tuple #[.slice A r.1.length c, .int .i64 r.2]) ∧ Owns w w' [lrow A c r.1]
theorem MPlanOut.none {w w' : World} {c : Int} {r : List Nat × Int} (hr : r = ([], c)) (h : Ext w w') : MPlanOut r w (.returned (.tuple #[.slice Option.none 0 0, .int .i64 c])) w' := by
  subst hr
  exact ⟨_, _, rfl, lrow_nil h⟩
theorem MPlanOut.some {w w' : World} {l : List Nat} {A : Option Addr} {c : Nat} {d : Int} {r : List Nat × Int} (hr : r = (l, d)) (h : Owns w w' [lrow A c l]) : MPlanOut r w (.returned (.tuple #[.slice A l.length c, .int .i64 d])) w' := by
  subst hr
  exact ⟨A, c, rfl, h⟩
theorem Owns.one {w0 w : World} {r : LRow} (hx : Ext w0 w) (h : r.ok w0 w) : Owns w0 w [r] :=
  Owns.of_pairwise hx (fun q hq => by rw [List.mem_singleton.1 hq]; exact h) (List.pairwise_singleton _ _)
theorem enters_p1 : ∀ args w, (callFunc 43 args).run Tryd.prog w = .ok (.enter 43 args) w := enters_of Tryd.func43 (by kernel_rfl) rfl
theorem perm7 {α : Type} (a b c d e f g : α) : [a, b, c, d, e, f, g].Perm [b, c, e, g, d, a, f] := by
  have h : [0, 1, 2, 3, 4, 5, 6].Perm [1, 2, 4, 6, 3, 0, 5] := by decide
  exact h.map fun i => [a, b, c, d, e, f, g].getD i a
set_option maxRecDepth 100000 in
/-- The search's beginning. -/
theorem ps_start {W0 w9 : World} {P : List Int → Prop} {s : Mv.Sh} {n gN cN g9 bK z : Nat} {fv : Value} {now : List Int} (hz : w9.heap.size = z)
    (h9 : Owns W0 w9 [⟨.slice (some ⟨g9, 0, none⟩) 1 1, 58, 1, 1, [.map (some bK)]⟩, ⟨.slice (some ⟨gN, 0, none⟩) n cN, 3, 1, n, now.map (.int .i64)⟩]) (hk : Known s w9 bK) (hb : W0.heap.size ≤ bK) :
    PS W0 P s n gN cN g9 z (z + 1 + 1) (z + 1 + 1 + 1) (z + 1 + 1 + 1 + 1) bK (z + 1) fv [] (((((w9.alloc (.cells #[.slice (some ⟨gN, 0, none⟩) n cN] 22)).alloc (.map #[] 0)).alloc (.cells #[.map (some (z + 1))] 61)).alloc (.cells #[.slice none 0 0] 22)).alloc (.cells #[fv] 32)) now [] [] none 0 := by
  subst hz
  have h1 := h9.push1 (u := .slice (some ⟨gN, 0, none⟩) n cN) (e := 22)
  have h2 := (h1.alloc (.map #[] 0)).push1 (u := .map (some (w9.heap.size + 1))) (e := 61)
  have h3 := (h2.push1 (u := .slice none 0 0) (e := 22)).push1 (u := fv) (e := 32)
  simp only [World.size_alloc, List.cons_append, List.nil_append] at h3
  have h6 := h3.behind (Ext.refl _) (World.ownsRow_nil _ _ 3 1)
  have hxa : Ext w9 (w9.alloc (.cells #[.slice (some ⟨gN, 0, none⟩) n cN] 22)) := (Ext.refl w9).alloc _
  have hxb := fun a b c : Obj => (((Ext.refl ((w9.alloc (.cells #[.slice (some ⟨gN, 0, none⟩) n cN] 22)).alloc (.map #[] 0))).alloc a).alloc b).alloc c
  have hm := World.ownsMap_made (H := Unit) (w9.alloc (.cells #[.slice (some ⟨gN, 0, none⟩) n cN] 22)) Tryd.prog 63 (plainElem Tryd.prog 4)
  rw [World.size_alloc] at hm
  have hlt := hk.lt
  refine ⟨?_, ?_, ⟨⟨.map [], ?_, LSays.start n⟩, List.nodup_nil, fun x hx => by cases hx⟩, hb, ?_, by omega⟩
  · rw [List.append_nil]
    refine h6.perm ?_
    unfold psRows lrow
    exact perm7 _ _ _ _ _ _ _
  · exact ((hk.ext hxa).ext ((Ext.refl _).alloc _)).ext (hxb _ _ _)
  · exact ownsMap_ext hm (hxb _ _ _)
  · have := h9.ext.size
    omega
set_option maxHeartbeats 16000000 in
set_option maxRecDepth 100000 in
theorem mPlan_any (s : Mv.Sh) (ph : List Int) (v u : Value) (w : World) (hT : Tab w) (hv : RSh w v s) (hu : Rs RI w u ph) :
    Calls Tryd.prog 18 #[v, u] w fun e w' => MPlanOut (Mv.planned (fun m => Cd.can s.d s.gl s.gs m) s ph) w e w' := by
  obtain ⟨DA, KA, HA, GA, RA, FA, TA, cD, cK, cH, cG, cR, cF, cT, rfl, hS⟩ := hv.open
  obtain ⟨PA, cP, rfl, hp64⟩ := hu.form
  have hx0 := (Ext.refl w).alloc (.cells #[.slice DA s.disks.length cD, .slice KA s.racks.length cK, .slice HA s.houses.length cH, .int .i64 s.owners, .int .i64 s.d, .slice GA s.gs.length cG, .int .i64 s.gl, .int .i64 s.floor, .slice RA s.room.length cR, .slice FA s.src.length cF, .slice TA s.dst.length cT] 30)
  have HX0 := Lib.hid hx0
  have HS := Lib.hid (hS.ext hx0)
  have HP := Lib.hid (Rs.ext RI.ext _ _ _ _ hx0 hu)
  have HT := Lib.hid (hT.ext hx0)
  have hB := BoxAt.new w s DA KA HA GA RA FA TA cD cK cH cG cR cF cT
  have HB := Lib.hid hB
  have a0 := hB.b0
  have a1 := hB.b1
  have a2 := hB.b2
  have a3 := hB.b3
  have a4 := hB.b4
  have a5 := hB.b5
  have a6 := hB.b6
  have a7 := hB.b7
  have a8 := hB.b8
  have a9 := hB.b9
  have a10 := hB.b10
  obtain ⟨i0, hi0, hz0, hz1, hz2⟩ := info_parts info_int
  have HZ := Lib.hid hz2
  have HI0 := Lib.hid (And.intro hi0 (And.intro hz0 hz1))
  clear hv hu hT hS hx0 hB hz2 hi0 hz0 hz1
  have hmm := @run_makeMap Tryd.prog
  have HMM := Lib.hid hmm
  clear hmm
  go_enter Tryd.func18, Tryd.ntmps18
  go_wp2_with fail
  clear a0 a1 a2 a3 a4 a5 a6 a7 a8 a9 a10
  refine (mCheck_any s _ _ HS.out.sh).mono ?_
  rintro e w1 ⟨rfl, hx1⟩
  have HX1 := Lib.hid hx1
  clear hx1
  by_cases hc : Mv.check s = 0
  case neg =>
    have hp := Mv.planned_check (can := (fun m => Cd.can s.d s.gl s.gs m)) (ph := ph) hc
    have HPN := Lib.hid hp
    have e1 : (Mv.check s != 0) = true := by rw [bne_iff_ne]; exact hc
    clear hp hc
    go_wp2_with fail
    go_ret2
    exact MPlanOut.none HPN.out (HX0.out.trans HX1.out)
  case pos =>
  have HC := Lib.hid hc
  have HOK := Lib.hid (Mv.ok_of hc)
  rw [hc]
  clear hc
  have a0 := (HB.out.ext HX1.out).b0
  have a1 := (HB.out.ext HX1.out).b1
  have a2 := (HB.out.ext HX1.out).b2
  have a3 := (HB.out.ext HX1.out).b3
  have a4 := (HB.out.ext HX1.out).b4
  have a5 := (HB.out.ext HX1.out).b5
  have a6 := (HB.out.ext HX1.out).b6
  have a7 := (HB.out.ext HX1.out).b7
  have a8 := (HB.out.ext HX1.out).b8
  have a9 := (HB.out.ext HX1.out).b9
  have a10 := (HB.out.ext HX1.out).b10
  go_wp2_with fail
  clear a0 a1 a2 a3 a4 a5 a6 a7 a8 a9 a10
  refine (mRight_any s ph _ _ w1 (HS.out.ext HX1.out).sh (Rs.ext RI.ext _ _ _ _ HX1.out HP.out)).mono ?_
  rintro e w2 ⟨rfl, hx2⟩
  have HX2 := Lib.hid (HX1.out.trans hx2)
  clear hx2
  cases hrt : Mv.right s ph with
  | false =>
    have HPN := Lib.hid (Mv.planned_right (can := (fun m => Cd.can s.d s.gl s.gs m)) HC.out hrt)
    clear hrt
    go_wp2_with fail
    go_ret2
    exact MPlanOut.none HPN.out (HX0.out.trans HX2.out)
  | true =>
  have HRT := Lib.hid hrt
  have hpl := (Mv.right_iff.1 hrt).2.1
  have HPL := Lib.hid hpl
  have a0 := (HB.out.ext HX2.out).b0
  have a1 := (HB.out.ext HX2.out).b1
  have a2 := (HB.out.ext HX2.out).b2
  have a3 := (HB.out.ext HX2.out).b3
  have a4 := (HB.out.ext HX2.out).b4
  have a5 := (HB.out.ext HX2.out).b5
  have a6 := (HB.out.ext HX2.out).b6
  have a7 := (HB.out.ext HX2.out).b7
  have a8 := (HB.out.ext HX2.out).b8
  have a9 := (HB.out.ext HX2.out).b9
  have a10 := (HB.out.ext HX2.out).b10
  clear hrt hpl
  go_wp2_with fail
  clear a0 a1 a2 a3 a4 a5 a6 a7 a8 a9 a10
  refine (mFits1_any s ph HOK.out HPL.out _ _ w2 (HS.out.ext HX2.out).sh (Rs.ext RI.ext _ _ _ _ HX2.out HP.out)).mono ?_
  rintro e w3 ⟨rfl, hx3⟩
  have HX3 := Lib.hid (HX2.out.trans hx3)
  clear hx3
  cases hft : Mv.fits s ph with
  | false =>
    have HPN := Lib.hid (Mv.planned_fits (can := (fun m => Cd.can s.d s.gl s.gs m)) HC.out HRT.out hft)
    clear hft
    go_wp2_with fail
    go_ret2
    exact MPlanOut.none HPN.out (HX0.out.trans HX3.out)
  | true =>
  have HFT := Lib.hid hft
  obtain ⟨n, hn⟩ : ∃ n, ph.length = n := ⟨_, rfl⟩
  have hsn : s.src.length = n := by rw [← hn]; exact HPL.out.symm
  have hn24 : n ≤ 24 := by rw [← hsn]; exact HOK.out.few
  rw [hn] at HP ⊢
  have HN := Lib.hid (And.intro hn hsn)
  clear hft hn hsn
  go_upto_region 9 with (refine wpList_make_full _ rfl (.tmp 28) (.tmp 28) 22 rfl w3.heap.size 3 i0 (.int .i64 0) 1 Tryd.underlying22 HI0.out.1 HI0.out.2.1 HI0.out.2.2 _ _ _ _ n rfl rfl rfl rfl (by rw [HZ.out]; omega) (by unfold maxLen; omega) (Nat.le_refl _) ?_; intro w4 hown hgrow)
  have hx4 : Ext w3 w4 := (Ext.refl w3).grown hgrow (fun k h => by cases h)
  have hown' : w4.ownsRow w3.heap.size 3 1 (.slice (some ⟨w3.heap.size, 0, none⟩) n n) n ((Mv.fillTo (Mv.theEnd s) n 0).map (.int .i64)) := by
    rw [Mv.fillTo_zero, List.map_replicate, ← toList_madeCells_one]
    simpa [Value.cells] using hown
  have hO5 := (Owns.one (w0 := w3) (r := ⟨.slice (some ⟨w3.heap.size, 0, none⟩) n n, 3, 1, n, (Mv.fillTo (Mv.theEnd s) n 0).map (.int .i64)⟩) hx4 hown').push1 (u := .slice (some ⟨w3.heap.size, 0, none⟩) n n) (e := 22)
  obtain ⟨g7, hg7⟩ : ∃ g7, w4.heap.size = g7 := ⟨_, rfl⟩
  rw [hg7] at hO5 ⊢
  obtain ⟨w5, hw5⟩ : ∃ w5, w4.alloc (.cells #[.slice (some ⟨w3.heap.size, 0, none⟩) n n] 22) = w5 := ⟨_, rfl⟩
  rw [hw5] at hO5 ⊢
  have HO5 := Lib.hid hO5
  have q7 := hO5.cell 1 rfl 0 rfl
  clear hown hown' hgrow hx4 hO5 hg7 hw5
  go_wp2_with fail
  clear q7
  go_loopw [32] (fun vk wr => ∃ k : Nat, k ≤ n ∧ vk = .int .i64 k ∧ Hid (Owns w3 wr [⟨.slice (some ⟨w3.heap.size, 0, none⟩) n n, 3, 1, n, (Mv.fillTo (Mv.theEnd s) n k).map (.int .i64)⟩, ⟨.slice (some ⟨g7, 0, none⟩) 1 1, 22, 1, 1, [.slice (some ⟨w3.heap.size, 0, none⟩) n n]⟩])) (fun vk _ => n - (intOf vk).toNat)
  case atStart => exact ⟨0, Nat.zero_le _, rfl, HO5⟩
  case round =>
    obtain ⟨k, hk, rfl, HI⟩ := hrel
    have q7 := HI.out.cell 1 rfl 0 rfl
    by_cases hlt : k < n
    · have hks : k < s.src.length := by have := HN.out.2; omega
      have hkd : k < s.dst.length := by have := HOK.out.dstLen; omega
      have hxx := HX3.out.trans HI.out.ext
      obtain ⟨af, u1, rfl, hcf, hu1⟩ := (Rs.ext RI.ext _ _ _ _ hxx HS.out.src).at hks
      obtain ⟨rfl, _, _⟩ := hu1
      obtain ⟨at_, u2, rfl, hct, hu2⟩ := (Rs.ext RI.ext _ _ _ _ hxx HS.out.dst).at hkd
      obtain ⟨rfl, _, _⟩ := hu2
      have hte := Mv.theEnd_get (s := s) hks
      rw [getD_get hks, getD_get hkd] at hte
      obtain ⟨y, hy⟩ : ∃ y, s.src[k] = y := ⟨_, rfl⟩
      obtain ⟨z, hz⟩ : ∃ z, s.dst[k] = z := ⟨_, rfl⟩
      rw [hy] at hcf hte
      rw [hz] at hct hte
      have a9 := (HB.out.ext hxx).b9
      have a10 := (HB.out.ext hxx).b10
      have hki : (k : Int) < (n : Int) := by omega
      have hksi : (k : Int) < (s.src.length : Int) := by omega
      have hkdi : (k : Int) < (s.dst.length : Int) := by omega
      have HXX := Lib.hid hxx
      clear hy hz hxx
      by_cases hyz : y = z
      · have hst : Mv.fillTo (Mv.theEnd s) n (k + 1) = Mv.fillTo (Mv.theEnd s) n k := Mv.fillTo_same (by rw [hte, if_neg (fun e => e hyz)])
        have HST := Lib.hid hst
        have e1 : (y != z) = false := by rw [hyz]; simp
        clear hst hte hyz
        go_wp2_with fail
        go_quiet (fail)
        go_wp2_with fail
        clear hcf hct a9 a10 e1 q7 hki hksi hkdi
        go_roundw
        case rel => exact ⟨k + 1, by omega, by go_num, Lib.hid (by rw [HST.out]; exact HI.out.drewN _)⟩
        case measure => simp [intOf]; omega
      · have hst : Mv.fillTo (Mv.theEnd s) n (k + 1) = (Mv.fillTo (Mv.theEnd s) n k).set k 2 := by rw [Mv.fillTo_succ, hte, if_pos hyz]
        have HST := Lib.hid hst
        have e1 : (y != z) = true := by rw [bne_iff_ne]; exact hyz
        have hck := HI.out.cell 0 rfl k (u := .int .i64 0) (by rw [List.getElem?_map, Mv.fillTo_at hlt, if_neg (Nat.lt_irrefl k)]; rfl)
        have hfk := HI.out.frozen 0 rfl k
        clear hst hte hyz
        go_wp2_with fail
        go_quiet (fail)
        rename_i nq
        go_wp2_with fail
        have HS2 := Lib.hid ((HI.out.drewN nq).store 0 rfl k (.int .i64 2))
        clear hcf hct a9 a10 e1 q7 hki hksi hkdi hck hfk
        go_roundw
        case rel => exact ⟨k + 1, by omega, by go_num, Lib.hid (by rw [HST.out, List.map_set]; exact HS2.out)⟩
        case measure => simp [intOf]; omega
    · obtain rfl : n = k := by omega
      have hrow := HI.out
      rw [Mv.fillTo_all (by rw [Mv.theEnd_len, HN.out.2])] at hrow
      have hxr := HX3.out.trans hrow.ext
      have hrdE : Rs RI wr (.slice (some ⟨w3.heap.size, 0, none⟩) n n) (Mv.theEnd s) := Rs.small (hrow.rd 0 rfl) (by rw [Mv.theEnd_len, HN.out.2]) (by rw [Mv.theEnd_len, HN.out.2]; omega) (fun x hx => by have := Mv.endTo_small s _ x hx; omega)
      have q7 := hrow.cell 1 rfl 0 rfl
      have hphl : ph.length = n := HN.out.1
      have hn0 : 0 < n := by
        have h1 := Cd.check_ok HOK.out.code
        have h2 := HOK.out.srcLen
        have h3 := HN.out.2
        omega
      have hph := Rs.ext RI.ext _ _ _ _ hxr HP.out
      obtain ⟨ap, e9⟩ : ∃ ap, PA = some ap := by
        obtain ⟨ap, _, e9, _, _⟩ := hph.at (i := 0) (by omega)
        exact ⟨ap, e9⟩
      subst e9
      have HR := Lib.hid (And.intro hxr hrow)
      have HRE := Lib.hid (And.intro hrdE (And.intro hph q7))
      have hmm := HMM.out
      clear hrow hxr hrdE hphl hph
      go_upto_region 16 with fail
      obtain ⟨bK, hbK⟩ : ∃ bK, wr.heap.size = bK := ⟨_, rfl⟩
      have hxm : Ext wr (wr.alloc (.map #[] 0)) := (Ext.refl wr).alloc _
      have hO6 := ((Owns.start wr (L := []) (by intro r hr; cases hr)).alloc (.map #[] 0)).push1 (u := .map (some bK)) (e := 58)
      rw [World.size_alloc, hbK, List.nil_append] at hO6
      have hk6 := (Known.new s wr).ext ((Ext.refl (wr.alloc (.map #[] 0))).alloc (.cells #[.map (some bK)] 58))
      rw [hbK] at hk6 ⊢
      obtain ⟨w6, hw6⟩ : ∃ w6, (wr.alloc (.map #[] 0)).alloc (.cells #[.map (some bK)] 58) = w6 := ⟨_, rfl⟩
      rw [hw6] at hO6 hk6 ⊢
      have q9 := hO6.cell 0 rfl 0 rfl
      have HO6 := Lib.hid hO6
      have HK6 := Lib.hid hk6
      have HBK := Lib.hid hbK
      clear hxm hO6 hk6 hbK hw6 q7
      have a0 := (HB.out.ext (HR.out.1.trans HO6.out.ext)).b0
      have a1 := (HB.out.ext (HR.out.1.trans HO6.out.ext)).b1
      have a2 := (HB.out.ext (HR.out.1.trans HO6.out.ext)).b2
      have a3 := (HB.out.ext (HR.out.1.trans HO6.out.ext)).b3
      have a4 := (HB.out.ext (HR.out.1.trans HO6.out.ext)).b4
      have a5 := (HB.out.ext (HR.out.1.trans HO6.out.ext)).b5
      have a6 := (HB.out.ext (HR.out.1.trans HO6.out.ext)).b6
      have a7 := (HB.out.ext (HR.out.1.trans HO6.out.ext)).b7
      have a8 := (HB.out.ext (HR.out.1.trans HO6.out.ext)).b8
      have a9 := (HB.out.ext (HR.out.1.trans HO6.out.ext)).b9
      have a10 := (HB.out.ext (HR.out.1.trans HO6.out.ext)).b10
      go_wp2_with fail
      clear a0 a1 a2 a3 a4 a5 a6 a7 a8 a9 a10 q9
      refine (mSafe_any s ph bK HOK.out HPL.out _ _ w6 (HT.out.ext (HR.out.1.trans HO6.out.ext)) (HS.out.ext (HR.out.1.trans HO6.out.ext)).sh (Rs.ext RI.ext _ _ _ _ HO6.out.ext HRE.out.2.1) HK6.out).mono ?_
      rintro e w7 ⟨rfl, hg7, hk7⟩
      have HO7 := Lib.hid (HO6.out.keepMap HK6.out.obj hg7 (Nat.le_of_eq HBK.out))
      have HK7 := Lib.hid hk7
      obtain ⟨s1, hs1⟩ : ∃ s1, Mv.safe (fun m => Cd.can s.d s.gl s.gs m) s ph = s1 := ⟨_, rfl⟩
      rw [hs1]
      have HS1 := Lib.hid hs1
      clear hg7 hk7 hs1
      cases s1 with
      | false =>
        have HPN := Lib.hid (Mv.planned_safe (can := (fun m => Cd.can s.d s.gl s.gs m)) HC.out HRT.out HFT.out (.inl HS1.out))
        go_wp2_with fail
        go_ret2
        exact MPlanOut.none HPN.out (HX0.out.trans (HR.out.1.trans HO7.out.ext))
      | true =>
      have a0 := (HB.out.ext (HR.out.1.trans HO7.out.ext)).b0
      have a1 := (HB.out.ext (HR.out.1.trans HO7.out.ext)).b1
      have a2 := (HB.out.ext (HR.out.1.trans HO7.out.ext)).b2
      have a3 := (HB.out.ext (HR.out.1.trans HO7.out.ext)).b3
      have a4 := (HB.out.ext (HR.out.1.trans HO7.out.ext)).b4
      have a5 := (HB.out.ext (HR.out.1.trans HO7.out.ext)).b5
      have a6 := (HB.out.ext (HR.out.1.trans HO7.out.ext)).b6
      have a7 := (HB.out.ext (HR.out.1.trans HO7.out.ext)).b7
      have a8 := (HB.out.ext (HR.out.1.trans HO7.out.ext)).b8
      have a9 := (HB.out.ext (HR.out.1.trans HO7.out.ext)).b9
      have a10 := (HB.out.ext (HR.out.1.trans HO7.out.ext)).b10
      have q7 := HO7.out.ext.cell HRE.out.2.2
      have q9 := HO7.out.cell 0 rfl 0 rfl
      go_wp2_with fail
      clear a0 a1 a2 a3 a4 a5 a6 a7 a8 a9 a10 q7 q9
      refine (mSafe_any s (Mv.theEnd s) bK HOK.out (Mv.theEnd_len s) _ _ w7 (HT.out.ext (HR.out.1.trans HO7.out.ext)) (HS.out.ext (HR.out.1.trans HO7.out.ext)).sh (Rs.ext RI.ext _ _ _ _ HO7.out.ext HRE.out.1) HK7.out).mono ?_
      rintro e w8 ⟨rfl, hg8, hk8⟩
      have HO8 := Lib.hid (HO7.out.keepMap HK7.out.obj hg8 (Nat.le_of_eq HBK.out))
      have HK8 := Lib.hid hk8
      obtain ⟨s2, hs2⟩ : ∃ s2, Mv.safe (fun m => Cd.can s.d s.gl s.gs m) s (Mv.theEnd s) = s2 := ⟨_, rfl⟩
      rw [hs2]
      have HS2 := Lib.hid hs2
      clear hg8 hk8 hs2
      cases s2 with
      | false =>
        have HPN := Lib.hid (Mv.planned_safe (can := (fun m => Cd.can s.d s.gl s.gs m)) HC.out HRT.out HFT.out (.inr HS2.out))
        go_wp2_with fail
        go_ret2
        exact MPlanOut.none HPN.out (HX0.out.trans (HR.out.1.trans HO8.out.ext))
      | true =>
      go_wp2_with fail
      have hrdp : Rs RI w8 (.slice (some ap) n cP) ph := Rs.ext RI.ext _ _ _ _ HO8.out.ext HRE.out.2.1
      have hcl := clone_any ph ap cP w8 (rs_rdI hrdp) (by rw [HN.out.1]; exact hn0) (by rw [HN.out.1]; omega)
      rw [HN.out.1] at hcl
      refine hcl.mono ?_
      clear hcl hrdp
      rintro e w9 ⟨gN, cN, rfl, hO9⟩
      have HO9 := Lib.hid (HO8.out.behind hO9.ext (hO9.row 0 rfl))
      have HK9 := Lib.hid (HK8.out.ext hO9.ext)
      clear hO9
      have hsf : ∀ (w : World) (a : Addr) (f : Fn) (cap : Array Value), (store a (.func f #[] cap)).run Tryd.prog w = stored Tryd.prog w a (.func f #[] cap) .plain := fun w a f cap => run_store _ w a _ _ rfl
      obtain ⟨z, hz⟩ : ∃ z, w9.heap.size = z := ⟨_, rfl⟩
      have hps := fun fv => ps_start (P := (fun x => Mv.plan (Mv.fine (fun m => Cd.can s.d s.gl s.gs m) s) (Mv.theEnd s) x = none)) (fv := fv) hz HO9.out HK9.out (Nat.le_of_eq HBK.out)
      have HPS := Lib.hid hps
      clear hps
      go_upto_region 23 with fail
      clear hsf
      have hs10 := HPS.out (.func (.func 43) #[] #[.pointer (some ⟨z, 0, none⟩), .pointer (some ⟨g7, 0, none⟩), .pointer (some ⟨z + 1 + 1, 0, none⟩), .pointer (some ⟨z + 1 + 1 + 1, 0, none⟩), .pointer (some ⟨w.heap.size, 0, none⟩), .pointer (some ⟨bK + 1, 0, none⟩), .pointer (some ⟨z + 1 + 1 + 1 + 1, 0, none⟩)])
      obtain ⟨w10, hw10⟩ : ∃ w10, ((((w9.alloc (.cells #[.slice (some ⟨gN, 0, none⟩) n cN] 22)).alloc (.map #[] 0)).alloc (.cells #[.map (some (z + 1))] 61)).alloc (.cells #[.slice none 0 0] 22)).alloc (.cells #[.func (.func 43) #[] #[.pointer (some ⟨z, 0, none⟩), .pointer (some ⟨g7, 0, none⟩), .pointer (some ⟨z + 1 + 1, 0, none⟩), .pointer (some ⟨z + 1 + 1 + 1, 0, none⟩), .pointer (some ⟨w.heap.size, 0, none⟩), .pointer (some ⟨bK + 1, 0, none⟩), .pointer (some ⟨z + 1 + 1 + 1 + 1, 0, none⟩)]] 32) = w10 := ⟨_, rfl⟩
      rw [hw10] at hs10 ⊢
      have q13 := hs10.c13
      have HS10 := Lib.hid hs10
      have hent := enters_p1
      clear hs10 hw10 hz
      go_wp2_with fail
      clear q13
      have hE : PE wr s n w.heap.size g7 w3.heap.size n DA KA HA GA RA FA TA cD cK cH cG cR cF cT := ⟨HT.out.ext HR.out.1, HOK.out, HN.out.2, HB.out.ext HR.out.1, HS.out.ext HR.out.1, HRE.out.2.2, HRE.out.1⟩
      refine (plan1_any wr s n w.heap.size g7 w3.heap.size n gN cN (bK + 1) z (z + 1 + 1) (z + 1 + 1 + 1) (z + 1 + 1 + 1 + 1) bK (z + 1) DA KA HA GA RA FA TA cD cK cH cG cR cF cT hE _ ph [] [] [] none 0 w10 rfl (by have := Mv.rest_le HRT.out; simp; omega) HRT.out HS10.out).mono ?_
      rintro e w11 ⟨U9, A9, c9, _, hor⟩
      rcases hor with ⟨l, hpl9, rfl, hs9⟩ | ⟨hpl9, rfl, hs9⟩
      · have HPN := Lib.hid (Mv.planned_some (can := (fun m => Cd.can s.d s.gl s.gs m)) HC.out HRT.out HFT.out HS1.out HS2.out hpl9)
        rw [List.nil_append] at hs9
        have q12 := hs9.c12
        have HS9 := Lib.hid hs9
        clear hs9 hpl9 hE
        go_wp2_with fail
        go_ret2
        refine MPlanOut.some HPN.out ((HS9.out.own.sublist ?_).elder (HX0.out.trans HR.out.1))
        unfold psRows
        rw [List.append_nil]
        exact (List.Sublist.cons_cons _ (List.nil_sublist _)).cons _ |>.cons _ |>.cons _
      · have HPN := Lib.hid (Mv.planned_none (can := (fun m => Cd.can s.d s.gl s.gs m)) HC.out HRT.out HFT.out HS1.out HS2.out hpl9)
        have HS9 := Lib.hid hs9
        clear hs9 hpl9 hE
        go_wp2_with fail
        go_ret2
        exact MPlanOut.none HPN.out (HX0.out.trans (HR.out.1.trans HS9.out.own.ext))
end Go.Proofs.YtkbiffbmjgmcaaaDoor

/- THE EXAMPLE of the documentation of law 13. -/
namespace Mv
def exSh (floor room : Int) : Sh := ⟨[0, 1, 2, 3, 4], [0, 0, 0, 0, 0], [0], 1, 2, [], 1, floor, [0, 0, 0, room, 0], [0, 1, 2], [3, 1, 0]⟩
theorem ex_check {s : Sh} (h : exSh (2 : Nat) (1 : Nat) = s) : check s = 0 := by
  subst h
  kernel_rfl
theorem ex_p1 {s : Sh} (h : exSh (2 : Nat) (1 : Nat) = s) : planned (fun m => Cd.can s.d s.gl s.gs m) s [0, 0, 0] = ([0, 0, 2, 2], 0) := by
  subst h
  kernel_rfl
theorem ex_p2 {s : Sh} (h : exSh (2 : Nat) (1 : Nat) = s) : planned (fun m => Cd.can s.d s.gl s.gs m) s [1, 0, 0] = ([0, 2, 2], 0) := by
  subst h
  kernel_rfl
theorem ex_p3 {s : Sh} (h : exSh (2 : Nat) (1 : Nat) = s) : planned (fun m => Cd.can s.d s.gl s.gs m) s [2, 0, 2] = ([], 0) := by
  subst h
  kernel_rfl
theorem ex_p4 {s : Sh} (h : exSh (2 : Nat) (1 : Nat) = s) : planned (fun m => Cd.can s.d s.gl s.gs m) s [0, 1, 0] = ([], 1) := by
  subst h
  kernel_rfl
theorem ex_p5 {s : Sh} (h : exSh (2 : Nat) (0 : Nat) = s) : planned (fun m => Cd.can s.d s.gl s.gs m) s [0, 0, 0] = ([], 8) := by
  subst h
  kernel_rfl
theorem ex_p6 {s : Sh} (h : exSh (3 : Nat) (1 : Nat) = s) : planned (fun m => Cd.can s.d s.gl s.gs m) s [0, 0, 0] = ([], 20) := by
  subst h
  kernel_rfl
theorem ex_s1 {s : Sh} (h : exSh (2 : Nat) (1 : Nat) = s) : (right s [0, 0, 0] && safe (fun m => Cd.can s.d s.gl s.gs m) s [0, 0, 0]) = true := by
  subst h
  kernel_rfl
theorem ex_s2 {s : Sh} (h : exSh (2 : Nat) (1 : Nat) = s) : (right s [2, 0, 2] && safe (fun m => Cd.can s.d s.gl s.gs m) s [2, 0, 2]) = true := by
  subst h
  kernel_rfl
theorem ex_f1 {s : Sh} (h : exSh (2 : Nat) (1 : Nat) = s) : (right s [1, 0, 0] && fits s [1, 0, 0]) = true := by
  subst h
  kernel_rfl
theorem ex_f2 {s : Sh} (h : exSh (2 : Nat) (1 : Nat) = s) : (right s [0, 0, 1] && fits s [0, 0, 1]) = false := by
  subst h
  kernel_rfl
theorem ex_l {s : Sh} (h : exSh (2 : Nat) (1 : Nat) = s) : leftL s [2, 0, 0] [0, 3] = 6 := by
  subst h
  kernel_rfl
end Mv
namespace Go.Proofs.YtkbiffbmjgmcaaaDoor
open Go.RowKit
theorem results_cell1 {P : Program} {fn : Func} {a : Tmp} {t : TypeId} (h : fn.results = #[.cell a t]) {tmps : Array Value} {ad : Addr} {v : Value} {w : World} (ha : tmps.getD a undef = .pointer (some ad)) (hl : (loadVar t ad).run P w = .ok v w) :
    (results fn tmps).run P w = .ok v w := by
  rw [Array.getD_eq_getD_getElem?] at ha
  simp [results, h, asAddr, ha, hl]
theorem heap_new2 (w : World) (o o' : Obj) : ((w.alloc o).alloc o').heap[w.heap.size + 1]? = some o' := by
  have := heap_new (w.alloc o) o'
  rwa [World.size_alloc] at this
/-- A list that is laid in a block of its own reads so in each later world. -/
theorem rs_block {w w' : World} {g : Nat} {cs : Array Value} {t : TypeId} {fz : Nat × Nat} {l : List Int} {n c : Nat} (h : w.heap[g]? = some (.cells cs t fz)) (hx : Ext w w') (hc : cs.toList = l.map (.int .i64)) (hn : n = l.length) (hl : l.length ≤ 1000) (hs : small l) : Rs RI w' (.slice (some ⟨g, 0, none⟩) n c) l :=
  Rs.ext RI.ext _ _ _ _ hx (Rs.small (by rw [← hc]; exact Rd.of_block h) hn (by omega) hs)
theorem small_of {l : List Int} (h : (l.all fun x => decide (-1000 ≤ x) && decide (x ≤ 1000)) = true) : small l := fun x hx => by
  have := List.all_eq_true.1 h x hx
  simp only [Bool.and_eq_true, decide_eq_true_eq] at this
  exact this
theorem rk_zero {w w' : World} {g : Nat} {t : TypeId} {fz : Nat × Nat} (h : w.heap[g]? = some (.cells #[.int .i64 0, .bool false, .int .i64 0, .bool false, .int .i64 0, .bool false, .int .i64 0, .bool false, .int .i64 0, .bool false] t fz)) (hx : Ext w w') : RK w' (.slice (some ⟨g, 0, none⟩) 5 5) [0, 0, 0, 0, 0] := by
  refine RK.ext _ _ _ _ hx ⟨some ⟨g, 0, none⟩, 5, rfl, by decide, fun i x hi => ?_⟩
  have hc : ∀ j, w.cell? ⟨g, j, none⟩ = (#[.int .i64 0, .bool false, .int .i64 0, .bool false, .int .i64 0, .bool false, .int .i64 0, .bool false, .int .i64 0, .bool false] : Array Value)[j]? := fun j => by simp [World.cell?, h]
  match i, hi with
  | 0, hi => simp at hi; subst hi; exact ⟨_, false, rfl, (by rw [add0]; exact (hc 0).trans rfl), (by rw [add0]; exact (hc 1).trans rfl), by decide, by decide⟩
  | 1, hi => simp at hi; subst hi; exact ⟨_, false, rfl, (by rw [add0]; exact (hc 2).trans rfl), (by rw [add0]; exact (hc 3).trans rfl), by decide, by decide⟩
  | 2, hi => simp at hi; subst hi; exact ⟨_, false, rfl, (by rw [add0]; exact (hc 4).trans rfl), (by rw [add0]; exact (hc 5).trans rfl), by decide, by decide⟩
  | 3, hi => simp at hi; subst hi; exact ⟨_, false, rfl, (by rw [add0]; exact (hc 6).trans rfl), (by rw [add0]; exact (hc 7).trans rfl), by decide, by decide⟩
  | 4, hi => simp at hi; subst hi; exact ⟨_, false, rfl, (by rw [add0]; exact (hc 8).trans rfl), (by rw [add0]; exact (hc 9).trans rfl), by decide, by decide⟩
  | i + 5, hi => simp at hi
set_option maxRecDepth 100000 in
set_option maxHeartbeats 8000000 in
theorem example_any (a b : Nat) (ha : a ≤ 100) (hb : b ≤ 100) (w : World) :
    Calls Tryd.prog 25 #[.int .i64 (a : Nat), .int .i64 (b : Nat)] w fun e w' => ∃ v, e = .returned v ∧ RSh w' v (Mv.exSh a b) ∧ Ext w w' := by
  have hmk : ∀ w : World, (Instr.makeSlice 23 (.int .i64 5) (.int .i64 5)).run Tryd.prog w = .ok (.slice (some ⟨w.heap.size, 0, none⟩) 5 5) (w.alloc (.cells #[.int .i64 0, .bool false, .int .i64 0, .bool false, .int .i64 0, .bool false, .int .i64 0, .bool false, .int .i64 0, .bool false] 74)) := fun _ => by kernel_rfl
  go_enter Tryd.func25, Tryd.ntmps25
  go_wp2_with fail
  refine bodyPost_ret (results_cell1 (v := .agg #[.slice (some ⟨w.heap.size + 1, 0, none⟩) 5 5, .slice (some ⟨w.heap.size + 1 + 1, 0, none⟩) 5 5, .slice (some ⟨w.heap.size + 1 + 1 + 1, 0, none⟩) 1 1, .int .i64 1, .int .i64 2, .slice none 0 0, .int .i64 1, .int .i64 (a : Nat), .slice (some ⟨w.heap.size + 1 + 1 + 1 + 1 + 1, 0, none⟩) 5 5, .slice (some ⟨w.heap.size + 1 + 1 + 1 + 1 + 1 + 1, 0, none⟩) 3 3, .slice (some ⟨w.heap.size + 1 + 1 + 1 + 1 + 1 + 1 + 1, 0, none⟩) 3 3]) rfl rfl ?_) rfl ?_
  · go_simp
  obtain ⟨v0, hv0⟩ : ∃ v0, w.alloc (.cells #[.slice (some ⟨w.heap.size + 1, 0, none⟩) 5 5, .slice (some ⟨w.heap.size + 1 + 1, 0, none⟩) 5 5, .slice (some ⟨w.heap.size + 1 + 1 + 1, 0, none⟩) 1 1, .int .i64 1, .int .i64 2, .slice none 0 0, .int .i64 1, .int .i64 (a : Nat), .slice (some ⟨w.heap.size + 1 + 1 + 1 + 1 + 1, 0, none⟩) 5 5, .slice (some ⟨w.heap.size + 1 + 1 + 1 + 1 + 1 + 1, 0, none⟩) 3 3, .slice (some ⟨w.heap.size + 1 + 1 + 1 + 1 + 1 + 1 + 1, 0, none⟩) 3 3] 30) = v0 := ⟨_, rfl⟩
  have s0 : v0.heap.size = w.heap.size + 1 := by rw [← hv0, World.size_alloc]
  have h0 : v0.heap[w.heap.size]? = some (.cells #[.slice (some ⟨w.heap.size + 1, 0, none⟩) 5 5, .slice (some ⟨w.heap.size + 1 + 1, 0, none⟩) 5 5, .slice (some ⟨w.heap.size + 1 + 1 + 1, 0, none⟩) 1 1, .int .i64 1, .int .i64 2, .slice none 0 0, .int .i64 1, .int .i64 (a : Nat), .slice (some ⟨w.heap.size + 1 + 1 + 1 + 1 + 1, 0, none⟩) 5 5, .slice (some ⟨w.heap.size + 1 + 1 + 1 + 1 + 1 + 1, 0, none⟩) 3 3, .slice (some ⟨w.heap.size + 1 + 1 + 1 + 1 + 1 + 1 + 1, 0, none⟩) 3 3] 30) := by rw [← hv0]; exact heap_new _ _
  have x0 : Ext w v0 := by rw [← hv0]; exact (Ext.refl _).alloc _
  obtain ⟨v1, hv1⟩ : ∃ v1, v0.alloc (.cells #[.int .i64 0, .int .i64 1, .int .i64 2, .int .i64 3, .int .i64 4] 3) = v1 := ⟨_, rfl⟩
  have s1 : v1.heap.size = w.heap.size + 1 + 1 := by rw [← hv1, World.size_alloc]; rw [s0]
  have h1 : v1.heap[w.heap.size + 1]? = some (.cells #[.int .i64 0, .int .i64 1, .int .i64 2, .int .i64 3, .int .i64 4] 3) := by rw [← hv1, ← s0]; exact heap_new _ _
  have x1 : Ext v0 v1 := by rw [← hv1]; exact (Ext.refl _).alloc _
  obtain ⟨v2, hv2⟩ : ∃ v2, v1.alloc (.cells #[.int .i64 0, .bool false, .int .i64 0, .bool false, .int .i64 0, .bool false, .int .i64 0, .bool false, .int .i64 0, .bool false] 74) = v2 := ⟨_, rfl⟩
  have s2 : v2.heap.size = w.heap.size + 1 + 1 + 1 := by rw [← hv2, World.size_alloc]; rw [s1]
  have h2 : v2.heap[w.heap.size + 1 + 1]? = some (.cells #[.int .i64 0, .bool false, .int .i64 0, .bool false, .int .i64 0, .bool false, .int .i64 0, .bool false, .int .i64 0, .bool false] 74) := by rw [← hv2, ← s1]; exact heap_new _ _
  have x2 : Ext v1 v2 := by rw [← hv2]; exact (Ext.refl _).alloc _
  obtain ⟨v3, hv3⟩ : ∃ v3, v2.alloc (.cells #[.int .i64 0] 3) = v3 := ⟨_, rfl⟩
  have s3 : v3.heap.size = w.heap.size + 1 + 1 + 1 + 1 := by rw [← hv3, World.size_alloc]; rw [s2]
  have h3 : v3.heap[w.heap.size + 1 + 1 + 1]? = some (.cells #[.int .i64 0] 3) := by rw [← hv3, ← s2]; exact heap_new _ _
  have x3 : Ext v2 v3 := by rw [← hv3]; exact (Ext.refl _).alloc _
  obtain ⟨v4, hv4⟩ : ∃ v4, v3.alloc (.cells #[.slice (some ⟨w.heap.size + 1, 0, none⟩) 5 5, .slice (some ⟨w.heap.size + 1 + 1, 0, none⟩) 5 5, .slice (some ⟨w.heap.size + 1 + 1 + 1, 0, none⟩) 1 1, .int .i64 1] 25) = v4 := ⟨_, rfl⟩
  have s4 : v4.heap.size = w.heap.size + 1 + 1 + 1 + 1 + 1 := by rw [← hv4, World.size_alloc]; rw [s3]
  have h4 : v4.heap[w.heap.size + 1 + 1 + 1 + 1]? = some (.cells #[.slice (some ⟨w.heap.size + 1, 0, none⟩) 5 5, .slice (some ⟨w.heap.size + 1 + 1, 0, none⟩) 5 5, .slice (some ⟨w.heap.size + 1 + 1 + 1, 0, none⟩) 1 1, .int .i64 1] 25) := by rw [← hv4, ← s3]; exact heap_new _ _
  have x4 : Ext v3 v4 := by rw [← hv4]; exact (Ext.refl _).alloc _
  obtain ⟨v5, hv5⟩ : ∃ v5, v4.alloc (.cells #[.int .i64 0, .int .i64 0, .int .i64 0, .int .i64 (b : Nat), .int .i64 0] 3) = v5 := ⟨_, rfl⟩
  have s5 : v5.heap.size = w.heap.size + 1 + 1 + 1 + 1 + 1 + 1 := by rw [← hv5, World.size_alloc]; rw [s4]
  have h5 : v5.heap[w.heap.size + 1 + 1 + 1 + 1 + 1]? = some (.cells #[.int .i64 0, .int .i64 0, .int .i64 0, .int .i64 (b : Nat), .int .i64 0] 3) := by rw [← hv5, ← s4]; exact heap_new _ _
  have x5 : Ext v4 v5 := by rw [← hv5]; exact (Ext.refl _).alloc _
  obtain ⟨v6, hv6⟩ : ∃ v6, v5.alloc (.cells #[.int .i64 0, .int .i64 1, .int .i64 2] 3) = v6 := ⟨_, rfl⟩
  have s6 : v6.heap.size = w.heap.size + 1 + 1 + 1 + 1 + 1 + 1 + 1 := by rw [← hv6, World.size_alloc]; rw [s5]
  have h6 : v6.heap[w.heap.size + 1 + 1 + 1 + 1 + 1 + 1]? = some (.cells #[.int .i64 0, .int .i64 1, .int .i64 2] 3) := by rw [← hv6, ← s5]; exact heap_new _ _
  have x6 : Ext v5 v6 := by rw [← hv6]; exact (Ext.refl _).alloc _
  obtain ⟨v7, hv7⟩ : ∃ v7, v6.alloc (.cells #[.int .i64 3, .int .i64 1, .int .i64 0] 3) = v7 := ⟨_, rfl⟩
  have s7 : v7.heap.size = w.heap.size + 1 + 1 + 1 + 1 + 1 + 1 + 1 + 1 := by rw [← hv7, World.size_alloc]; rw [s6]
  have h7 : v7.heap[w.heap.size + 1 + 1 + 1 + 1 + 1 + 1 + 1]? = some (.cells #[.int .i64 3, .int .i64 1, .int .i64 0] 3) := by rw [← hv7, ← s6]; exact heap_new _ _
  have x7 : Ext v6 v7 := by rw [← hv7]; exact (Ext.refl _).alloc _
  simp only [hv0, hv1, hv2, hv3, hv4, hv5, hv6, hv7]
  refine ⟨_, rfl, ⟨_, _, _, _, _, _, _, rfl, rs_block h1 (((((x2.trans x3).trans x4).trans x5).trans x6).trans x7) rfl rfl (Nat.le_of_ble_eq_true rfl) (small_of rfl), rk_zero h2 ((((x3.trans x4).trans x5).trans x6).trans x7), rs_block h3 (((x4.trans x5).trans x6).trans x7) rfl rfl (Nat.le_of_ble_eq_true rfl) (small_of rfl), ⟨none, 0, rfl, Nat.zero_le _, fun i x hi => by simp [Mv.exSh] at hi⟩, rs_block h5 (x6.trans x7) rfl rfl (Nat.le_of_ble_eq_true rfl) ?_, rs_block h6 x7 rfl rfl (Nat.le_of_ble_eq_true rfl) (small_of rfl), rs_block h7 (Ext.refl v7) rfl rfl (Nat.le_of_ble_eq_true rfl) (small_of rfl), ?_, ?_, ?_, ?_⟩, x0.trans ((((((x1.trans x2).trans x3).trans x4).trans x5).trans x6).trans x7)⟩
  · intro x hx
    simp [Mv.exSh] at hx
    omega
  all_goals
    unfold w64 Mv.exSh
    dsimp only
    omega
end Go.Proofs.YtkbiffbmjgmcaaaDoor

/- THE WALK over sanity of law 13. -/
namespace Go.Proofs.YtkbiffbmjgmcaaaDoor
open Go.RowKit
set_option maxRecDepth 100000 in
set_option maxHeartbeats 16000000 in
theorem sanity_any (w : World) (hT : Tab w) :
    Calls Tryd.prog 9 #[] w fun e w' => e = .returned (.bool true) ∧ Ext w w' := by
  have HT := Lib.hid hT
  clear hT
  go_enter Tryd.func9, Tryd.ntmps9
  go_wp2_with fail
  refine (example_any 2 1 (by omega) (by omega) w).mono ?_
  rintro e w0 ⟨v, rfl, hv, hx0⟩
  obtain ⟨s, hs⟩ : ∃ s, Mv.exSh (2 : Nat) (1 : Nat) = s := ⟨_, rfl⟩
  rw [hs] at hv
  have HSE := Lib.hid hs
  clear hs
  obtain ⟨DA, KA, HA, GA, RA, FA, TA, cD, cK, cH, cG, cR, cF, cT, rfl, hS⟩ := hv.open
  have hx1 := (Ext.refl w0).alloc (.cells #[.slice DA s.disks.length cD, .slice KA s.racks.length cK, .slice HA s.houses.length cH, .int .i64 s.owners, .int .i64 s.d, .slice GA s.gs.length cG, .int .i64 s.gl, .int .i64 s.floor, .slice RA s.room.length cR, .slice FA s.src.length cF, .slice TA s.dst.length cT] 30)
  have HS := Lib.hid (hS.ext hx1)
  have hB := BoxAt.new w0 s DA KA HA GA RA FA TA cD cK cH cG cR cF cT
  have HB := Lib.hid hB
  have HW := Lib.hid (hx0.trans hx1)
  clear hv hS hB hx0 hx1
  obtain ⟨B, hBB⟩ : ∃ B, w0.heap.size = B := ⟨_, rfl⟩
  rw [hBB] at HB
  go_upto_region 2 with fail
  obtain ⟨w1, hw1⟩ : ∃ w1, w0.alloc (.cells #[.slice DA s.disks.length cD, .slice KA s.racks.length cK, .slice HA s.houses.length cH, .int .i64 s.owners, .int .i64 s.d, .slice GA s.gs.length cG, .int .i64 s.gl, .int .i64 s.floor, .slice RA s.room.length cR, .slice FA s.src.length cF, .slice TA s.dst.length cT] 30) = w1 := ⟨_, rfl⟩
  rw [hw1] at HS HB HW ⊢
  clear hBB hw1
  have a0 := HB.out.b0
  have a1 := HB.out.b1
  have a2 := HB.out.b2
  have a3 := HB.out.b3
  have a4 := HB.out.b4
  have a5 := HB.out.b5
  have a6 := HB.out.b6
  have a7 := HB.out.b7
  have a8 := HB.out.b8
  have a9 := HB.out.b9
  have a10 := HB.out.b10
  go_wp2_with fail
  clear a0 a1 a2 a3 a4 a5 a6 a7 a8 a9 a10
  have hc := mPlan_any s [0, 0, 0] _ _ (w1.alloc (.cells #[.int .i64 0, .int .i64 0, .int .i64 0] 3)) (HT.out.ext (HW.out.trans ((Ext.refl _).alloc _))) (HS.out.ext ((Ext.refl _).alloc _)).sh (rs_block (n := 3) (c := 3) (l := [0, 0, 0]) (heap_new w1 (.cells #[.int .i64 0, .int .i64 0, .int .i64 0] 3)) (Ext.refl _) rfl rfl (Nat.le_of_ble_eq_true rfl) (small_of rfl))
  rw [show Mv.planned (fun m => Cd.can s.d s.gl s.gs m) s [0, 0, 0] = ([0, 0, 2, 2], 0) from Mv.ex_p1 HSE.out] at hc
  refine hc.mono ?_
  clear hc
  rintro e w2 ⟨A2, c2, rfl, hO⟩
  have hx : Ext w1 w2 := ((Ext.refl _).alloc _).trans hO.ext
  have HB := Lib.hid (HB.out.ext hx)
  have HS := Lib.hid (HS.out.ext hx)
  have HW := Lib.hid (HW.out.trans hx)
  have HL2 : Hid (Rs RI w2 (.slice A2 4 c2) [0, 0, 2, 2]) := Lib.hid (Rs.small (hO.rd 0 rfl) rfl (Nat.le_of_ble_eq_true rfl) (small_of rfl))
  clear hO hx
  dsimp only [List.length_cons, List.length_nil, Nat.reduceAdd, Nat.zero_add]
  have a0 := HB.out.b0
  have a1 := HB.out.b1
  have a2 := HB.out.b2
  have a3 := HB.out.b3
  have a4 := HB.out.b4
  have a5 := HB.out.b5
  have a6 := HB.out.b6
  have a7 := HB.out.b7
  have a8 := HB.out.b8
  have a9 := HB.out.b9
  have a10 := HB.out.b10
  go_wp2_with fail
  clear a0 a1 a2 a3 a4 a5 a6 a7 a8 a9 a10
  have hc := mPlan_any s [1, 0, 0] _ _ (w2.alloc (.cells #[.int .i64 1, .int .i64 0, .int .i64 0] 3)) (HT.out.ext (HW.out.trans ((Ext.refl _).alloc _))) (HS.out.ext ((Ext.refl _).alloc _)).sh (rs_block (n := 3) (c := 3) (l := [1, 0, 0]) (heap_new w2 (.cells #[.int .i64 1, .int .i64 0, .int .i64 0] 3)) (Ext.refl _) rfl rfl (Nat.le_of_ble_eq_true rfl) (small_of rfl))
  rw [show Mv.planned (fun m => Cd.can s.d s.gl s.gs m) s [1, 0, 0] = ([0, 2, 2], 0) from Mv.ex_p2 HSE.out] at hc
  refine hc.mono ?_
  clear hc
  rintro e w3 ⟨A3, c3, rfl, hO⟩
  have hx : Ext w2 w3 := ((Ext.refl _).alloc _).trans hO.ext
  have HB := Lib.hid (HB.out.ext hx)
  have HS := Lib.hid (HS.out.ext hx)
  have HW := Lib.hid (HW.out.trans hx)
  have HL2 := Lib.hid (Rs.ext RI.ext _ _ _ _ hx HL2.out)
  have HL3 : Hid (Rs RI w3 (.slice A3 3 c3) [0, 2, 2]) := Lib.hid (Rs.small (hO.rd 0 rfl) rfl (Nat.le_of_ble_eq_true rfl) (small_of rfl))
  clear hO hx
  dsimp only [List.length_cons, List.length_nil, Nat.reduceAdd, Nat.zero_add]
  have a0 := HB.out.b0
  have a1 := HB.out.b1
  have a2 := HB.out.b2
  have a3 := HB.out.b3
  have a4 := HB.out.b4
  have a5 := HB.out.b5
  have a6 := HB.out.b6
  have a7 := HB.out.b7
  have a8 := HB.out.b8
  have a9 := HB.out.b9
  have a10 := HB.out.b10
  go_wp2_with fail
  clear a0 a1 a2 a3 a4 a5 a6 a7 a8 a9 a10
  have hc := mPlan_any s [2, 0, 2] _ _ (w3.alloc (.cells #[.int .i64 2, .int .i64 0, .int .i64 2] 3)) (HT.out.ext (HW.out.trans ((Ext.refl _).alloc _))) (HS.out.ext ((Ext.refl _).alloc _)).sh (rs_block (n := 3) (c := 3) (l := [2, 0, 2]) (heap_new w3 (.cells #[.int .i64 2, .int .i64 0, .int .i64 2] 3)) (Ext.refl _) rfl rfl (Nat.le_of_ble_eq_true rfl) (small_of rfl))
  rw [show Mv.planned (fun m => Cd.can s.d s.gl s.gs m) s [2, 0, 2] = ([], 0) from Mv.ex_p3 HSE.out] at hc
  refine hc.mono ?_
  clear hc
  rintro e w4 ⟨A4, c4, rfl, hO⟩
  have hx : Ext w3 w4 := ((Ext.refl _).alloc _).trans hO.ext
  have HB := Lib.hid (HB.out.ext hx)
  have HS := Lib.hid (HS.out.ext hx)
  have HW := Lib.hid (HW.out.trans hx)
  have HL2 := Lib.hid (Rs.ext RI.ext _ _ _ _ hx HL2.out)
  have HL3 := Lib.hid (Rs.ext RI.ext _ _ _ _ hx HL3.out)
  have HL4 : Hid (Rs RI w4 (.slice A4 0 c4) []) := Lib.hid (Rs.small (hO.rd 0 rfl) rfl (Nat.le_of_ble_eq_true rfl) (small_of rfl))
  clear hO hx
  dsimp only [List.length_cons, List.length_nil, Nat.reduceAdd, Nat.zero_add]
  have a0 := HB.out.b0
  have a1 := HB.out.b1
  have a2 := HB.out.b2
  have a3 := HB.out.b3
  have a4 := HB.out.b4
  have a5 := HB.out.b5
  have a6 := HB.out.b6
  have a7 := HB.out.b7
  have a8 := HB.out.b8
  have a9 := HB.out.b9
  have a10 := HB.out.b10
  go_wp2_with fail
  clear a0 a1 a2 a3 a4 a5 a6 a7 a8 a9 a10
  have hc := mPlan_any s [0, 1, 0] _ _ (w4.alloc (.cells #[.int .i64 0, .int .i64 1, .int .i64 0] 3)) (HT.out.ext (HW.out.trans ((Ext.refl _).alloc _))) (HS.out.ext ((Ext.refl _).alloc _)).sh (rs_block (n := 3) (c := 3) (l := [0, 1, 0]) (heap_new w4 (.cells #[.int .i64 0, .int .i64 1, .int .i64 0] 3)) (Ext.refl _) rfl rfl (Nat.le_of_ble_eq_true rfl) (small_of rfl))
  rw [show Mv.planned (fun m => Cd.can s.d s.gl s.gs m) s [0, 1, 0] = ([], 1) from Mv.ex_p4 HSE.out] at hc
  refine hc.mono ?_
  clear hc
  rintro e w5 ⟨A5, c5, rfl, hO⟩
  have hx : Ext w4 w5 := ((Ext.refl _).alloc _).trans hO.ext
  have HB := Lib.hid (HB.out.ext hx)
  have HS := Lib.hid (HS.out.ext hx)
  have HW := Lib.hid (HW.out.trans hx)
  have HL2 := Lib.hid (Rs.ext RI.ext _ _ _ _ hx HL2.out)
  have HL3 := Lib.hid (Rs.ext RI.ext _ _ _ _ hx HL3.out)
  have HL5 : Hid (Rs RI w5 (.slice A5 0 c5) []) := Lib.hid (Rs.small (hO.rd 0 rfl) rfl (Nat.le_of_ble_eq_true rfl) (small_of rfl))
  clear hO hx
  dsimp only [List.length_cons, List.length_nil, Nat.reduceAdd, Nat.zero_add]
  go_wp2_with fail
  refine (example_any 2 0 (by omega) (by omega) w5).mono ?_
  rintro e w6 ⟨v, rfl, hv, hx0⟩
  obtain ⟨s6, hs⟩ : ∃ s6, Mv.exSh (2 : Nat) (0 : Nat) = s6 := ⟨_, rfl⟩
  rw [hs] at hv
  have HSF := Lib.hid hs
  clear hs
  have hc := mPlan_any s6 [0, 0, 0] v _ (w6.alloc (.cells #[.int .i64 0, .int .i64 0, .int .i64 0] 3)) (HT.out.ext (HW.out.trans (hx0.trans ((Ext.refl _).alloc _)))) (RSh.ext _ _ _ _ ((Ext.refl _).alloc _) hv) (rs_block (n := 3) (c := 3) (l := [0, 0, 0]) (heap_new w6 (.cells #[.int .i64 0, .int .i64 0, .int .i64 0] 3)) (Ext.refl _) rfl rfl (Nat.le_of_ble_eq_true rfl) (small_of rfl))
  rw [show Mv.planned (fun m => Cd.can s6.d s6.gl s6.gs m) s6 [0, 0, 0] = ([], 8) from Mv.ex_p5 HSF.out] at hc
  have HC := Lib.hid hc
  have HX0 := Lib.hid hx0
  clear hc hv hx0
  go_wp2_with fail
  refine HC.out.mono ?_
  clear HC HSF
  rintro e w7 ⟨A7, c7, rfl, hO⟩
  have hx : Ext w5 w7 := (HX0.out.trans ((Ext.refl _).alloc _)).trans hO.ext
  have HB := Lib.hid (HB.out.ext hx)
  have HS := Lib.hid (HS.out.ext hx)
  have HW := Lib.hid (HW.out.trans hx)
  have HL2 := Lib.hid (Rs.ext RI.ext _ _ _ _ hx HL2.out)
  have HL3 := Lib.hid (Rs.ext RI.ext _ _ _ _ hx HL3.out)
  clear hO hx HX0
  dsimp only [List.length_cons, List.length_nil, Nat.reduceAdd, Nat.zero_add]
  go_wp2_with fail
  refine (example_any 3 1 (by omega) (by omega) w7).mono ?_
  rintro e w8 ⟨v, rfl, hv, hx0⟩
  obtain ⟨s8, hs⟩ : ∃ s8, Mv.exSh (3 : Nat) (1 : Nat) = s8 := ⟨_, rfl⟩
  rw [hs] at hv
  have HSF := Lib.hid hs
  clear hs
  have hc := mPlan_any s8 [0, 0, 0] v _ (w8.alloc (.cells #[.int .i64 0, .int .i64 0, .int .i64 0] 3)) (HT.out.ext (HW.out.trans (hx0.trans ((Ext.refl _).alloc _)))) (RSh.ext _ _ _ _ ((Ext.refl _).alloc _) hv) (rs_block (n := 3) (c := 3) (l := [0, 0, 0]) (heap_new w8 (.cells #[.int .i64 0, .int .i64 0, .int .i64 0] 3)) (Ext.refl _) rfl rfl (Nat.le_of_ble_eq_true rfl) (small_of rfl))
  rw [show Mv.planned (fun m => Cd.can s8.d s8.gl s8.gs m) s8 [0, 0, 0] = ([], 20) from Mv.ex_p6 HSF.out] at hc
  have HC := Lib.hid hc
  have HX0 := Lib.hid hx0
  clear hc hv hx0
  go_wp2_with fail
  refine HC.out.mono ?_
  clear HC HSF
  rintro e w9 ⟨A9, c9, rfl, hO⟩
  have hx : Ext w7 w9 := (HX0.out.trans ((Ext.refl _).alloc _)).trans hO.ext
  have HB := Lib.hid (HB.out.ext hx)
  have HS := Lib.hid (HS.out.ext hx)
  have HW := Lib.hid (HW.out.trans hx)
  have HL2 := Lib.hid (Rs.ext RI.ext _ _ _ _ hx HL2.out)
  have HL3 := Lib.hid (Rs.ext RI.ext _ _ _ _ hx HL3.out)
  clear hO hx HX0
  dsimp only [List.length_cons, List.length_nil, Nat.reduceAdd, Nat.zero_add]
  have a0 := HB.out.b0
  have a1 := HB.out.b1
  have a2 := HB.out.b2
  have a3 := HB.out.b3
  have a4 := HB.out.b4
  have a5 := HB.out.b5
  have a6 := HB.out.b6
  have a7 := HB.out.b7
  have a8 := HB.out.b8
  have a9 := HB.out.b9
  have a10 := HB.out.b10
  go_wp2_with fail
  clear a0 a1 a2 a3 a4 a5 a6 a7 a8 a9 a10
  have hc := mCheck_any s _ w9 HS.out.sh
  rw [show Mv.check s = 0 from Mv.ex_check HSE.out] at hc
  refine hc.mono ?_
  clear hc
  rintro e w10 ⟨rfl, hxx⟩
  have hx : Ext w9 w10 := (Ext.refl _).trans hxx
  have HB := Lib.hid (HB.out.ext hx)
  have HS := Lib.hid (HS.out.ext hx)
  have HW := Lib.hid (HW.out.trans hx)
  have HL2 := Lib.hid (Rs.ext RI.ext _ _ _ _ hx HL2.out)
  have HL3 := Lib.hid (Rs.ext RI.ext _ _ _ _ hx HL3.out)
  clear hxx hx
  have a0 := HB.out.b0
  have a1 := HB.out.b1
  have a2 := HB.out.b2
  have a3 := HB.out.b3
  have a4 := HB.out.b4
  have a5 := HB.out.b5
  have a6 := HB.out.b6
  have a7 := HB.out.b7
  have a8 := HB.out.b8
  have a9 := HB.out.b9
  have a10 := HB.out.b10
  go_wp2_with fail
  clear a0 a1 a2 a3 a4 a5 a6 a7 a8 a9 a10
  have hc := mSafeX_any s [0, 0, 0] _ _ (w10.alloc (.cells #[.int .i64 0, .int .i64 0, .int .i64 0] 3)) (HT.out.ext (HW.out.trans ((Ext.refl _).alloc _))) (HS.out.ext ((Ext.refl _).alloc _)).sh (rs_block (n := 3) (c := 3) (l := [0, 0, 0]) (heap_new w10 (.cells #[.int .i64 0, .int .i64 0, .int .i64 0] 3)) (Ext.refl _) rfl rfl (Nat.le_of_ble_eq_true rfl) (small_of rfl))
  rw [show (Mv.right s [0, 0, 0] && Mv.safe (fun m => Cd.can s.d s.gl s.gs m) s [0, 0, 0]) = true from Mv.ex_s1 HSE.out] at hc
  refine hc.mono ?_
  clear hc
  rintro e w11 ⟨rfl, hxx⟩
  have hx : Ext w10 w11 := ((Ext.refl _).alloc _).trans hxx
  have HB := Lib.hid (HB.out.ext hx)
  have HS := Lib.hid (HS.out.ext hx)
  have HW := Lib.hid (HW.out.trans hx)
  have HL2 := Lib.hid (Rs.ext RI.ext _ _ _ _ hx HL2.out)
  have HL3 := Lib.hid (Rs.ext RI.ext _ _ _ _ hx HL3.out)
  clear hxx hx
  have a0 := HB.out.b0
  have a1 := HB.out.b1
  have a2 := HB.out.b2
  have a3 := HB.out.b3
  have a4 := HB.out.b4
  have a5 := HB.out.b5
  have a6 := HB.out.b6
  have a7 := HB.out.b7
  have a8 := HB.out.b8
  have a9 := HB.out.b9
  have a10 := HB.out.b10
  go_wp2_with fail
  clear a0 a1 a2 a3 a4 a5 a6 a7 a8 a9 a10
  have hc := mSafeX_any s [2, 0, 2] _ _ (w11.alloc (.cells #[.int .i64 2, .int .i64 0, .int .i64 2] 3)) (HT.out.ext (HW.out.trans ((Ext.refl _).alloc _))) (HS.out.ext ((Ext.refl _).alloc _)).sh (rs_block (n := 3) (c := 3) (l := [2, 0, 2]) (heap_new w11 (.cells #[.int .i64 2, .int .i64 0, .int .i64 2] 3)) (Ext.refl _) rfl rfl (Nat.le_of_ble_eq_true rfl) (small_of rfl))
  rw [show (Mv.right s [2, 0, 2] && Mv.safe (fun m => Cd.can s.d s.gl s.gs m) s [2, 0, 2]) = true from Mv.ex_s2 HSE.out] at hc
  refine hc.mono ?_
  clear hc
  rintro e w12 ⟨rfl, hxx⟩
  have hx : Ext w11 w12 := ((Ext.refl _).alloc _).trans hxx
  have HB := Lib.hid (HB.out.ext hx)
  have HS := Lib.hid (HS.out.ext hx)
  have HW := Lib.hid (HW.out.trans hx)
  have HL2 := Lib.hid (Rs.ext RI.ext _ _ _ _ hx HL2.out)
  have HL3 := Lib.hid (Rs.ext RI.ext _ _ _ _ hx HL3.out)
  clear hxx hx
  have a0 := HB.out.b0
  have a1 := HB.out.b1
  have a2 := HB.out.b2
  have a3 := HB.out.b3
  have a4 := HB.out.b4
  have a5 := HB.out.b5
  have a6 := HB.out.b6
  have a7 := HB.out.b7
  have a8 := HB.out.b8
  have a9 := HB.out.b9
  have a10 := HB.out.b10
  go_wp2_with fail
  clear a0 a1 a2 a3 a4 a5 a6 a7 a8 a9 a10
  have hc := mFits_any s [1, 0, 0] _ _ (w12.alloc (.cells #[.int .i64 1, .int .i64 0, .int .i64 0] 3)) (HS.out.ext ((Ext.refl _).alloc _)).sh (rs_block (n := 3) (c := 3) (l := [1, 0, 0]) (heap_new w12 (.cells #[.int .i64 1, .int .i64 0, .int .i64 0] 3)) (Ext.refl _) rfl rfl (Nat.le_of_ble_eq_true rfl) (small_of rfl))
  rw [show (Mv.right s [1, 0, 0] && Mv.fits s [1, 0, 0]) = true from Mv.ex_f1 HSE.out] at hc
  refine hc.mono ?_
  clear hc
  rintro e w13 ⟨rfl, hxx⟩
  have hx : Ext w12 w13 := ((Ext.refl _).alloc _).trans hxx
  have HB := Lib.hid (HB.out.ext hx)
  have HS := Lib.hid (HS.out.ext hx)
  have HW := Lib.hid (HW.out.trans hx)
  have HL2 := Lib.hid (Rs.ext RI.ext _ _ _ _ hx HL2.out)
  have HL3 := Lib.hid (Rs.ext RI.ext _ _ _ _ hx HL3.out)
  clear hxx hx
  have a0 := HB.out.b0
  have a1 := HB.out.b1
  have a2 := HB.out.b2
  have a3 := HB.out.b3
  have a4 := HB.out.b4
  have a5 := HB.out.b5
  have a6 := HB.out.b6
  have a7 := HB.out.b7
  have a8 := HB.out.b8
  have a9 := HB.out.b9
  have a10 := HB.out.b10
  go_wp2_with fail
  clear a0 a1 a2 a3 a4 a5 a6 a7 a8 a9 a10
  have hc := mFits_any s [0, 0, 1] _ _ (w13.alloc (.cells #[.int .i64 0, .int .i64 0, .int .i64 1] 3)) (HS.out.ext ((Ext.refl _).alloc _)).sh (rs_block (n := 3) (c := 3) (l := [0, 0, 1]) (heap_new w13 (.cells #[.int .i64 0, .int .i64 0, .int .i64 1] 3)) (Ext.refl _) rfl rfl (Nat.le_of_ble_eq_true rfl) (small_of rfl))
  rw [show (Mv.right s [0, 0, 1] && Mv.fits s [0, 0, 1]) = false from Mv.ex_f2 HSE.out] at hc
  refine hc.mono ?_
  clear hc
  rintro e w14 ⟨rfl, hxx⟩
  have hx : Ext w13 w14 := ((Ext.refl _).alloc _).trans hxx
  have HB := Lib.hid (HB.out.ext hx)
  have HS := Lib.hid (HS.out.ext hx)
  have HW := Lib.hid (HW.out.trans hx)
  have HL2 := Lib.hid (Rs.ext RI.ext _ _ _ _ hx HL2.out)
  have HL3 := Lib.hid (Rs.ext RI.ext _ _ _ _ hx HL3.out)
  clear hxx hx
  have a0 := HB.out.b0
  have a1 := HB.out.b1
  have a2 := HB.out.b2
  have a3 := HB.out.b3
  have a4 := HB.out.b4
  have a5 := HB.out.b5
  have a6 := HB.out.b6
  have a7 := HB.out.b7
  have a8 := HB.out.b8
  have a9 := HB.out.b9
  have a10 := HB.out.b10
  go_wp2_with fail
  clear a0 a1 a2 a3 a4 a5 a6 a7 a8 a9 a10
  have hc := mLeft_any s [2, 0, 0] [0, 3] _ _ _ ((w14.alloc (.cells #[.int .i64 2, .int .i64 0, .int .i64 0] 3)).alloc (.cells #[.int .i64 0, .int .i64 3] 3)) (HS.out.ext (((Ext.refl _).alloc _).alloc _)).sh (Rs.ext RI.ext _ _ _ _ ((Ext.refl _).alloc _) (rs_block (n := 3) (c := 3) (l := [2, 0, 0]) (heap_new w14 (.cells #[.int .i64 2, .int .i64 0, .int .i64 0] 3)) (Ext.refl _) rfl rfl (Nat.le_of_ble_eq_true rfl) (small_of rfl))) (rs_block (n := 2) (c := 2) (l := [0, 3]) (heap_new2 w14 (.cells #[.int .i64 2, .int .i64 0, .int .i64 0] 3) (.cells #[.int .i64 0, .int .i64 3] 3)) (Ext.refl _) rfl rfl (Nat.le_of_ble_eq_true rfl) (small_of rfl))
  rw [show Mv.leftL s [2, 0, 0] [0, 3] = 6 from Mv.ex_l HSE.out] at hc
  refine hc.mono ?_
  clear hc
  rintro e w15 ⟨rfl, hxx⟩
  have hx : Ext w14 w15 := (((Ext.refl _).alloc _).alloc _).trans hxx
  have HB := Lib.hid (HB.out.ext hx)
  have HS := Lib.hid (HS.out.ext hx)
  have HW := Lib.hid (HW.out.trans hx)
  have HL2 := Lib.hid (Rs.ext RI.ext _ _ _ _ hx HL2.out)
  have HL3 := Lib.hid (Rs.ext RI.ext _ _ _ _ hx HL3.out)
  clear hxx hx
  go_wp2_with fail
  have hc := kSame_any [0, 0, 2, 2] [0, 0, 2, 2] _ _ (w15.alloc (.cells #[.int .i64 0, .int .i64 0, .int .i64 2, .int .i64 2] 3)) (Rs.ext RI.ext _ _ _ _ ((Ext.refl _).alloc _) HL2.out) (rs_block (n := 4) (c := 4) (l := [0, 0, 2, 2]) (heap_new w15 (.cells #[.int .i64 0, .int .i64 0, .int .i64 2, .int .i64 2] 3)) (Ext.refl _) rfl rfl (Nat.le_of_ble_eq_true rfl) (small_of rfl))
  rw [decide_eq_true rfl] at hc
  refine hc.mono ?_
  clear hc
  rintro e w16 ⟨rfl, hxx⟩
  have hx : Ext w15 w16 := ((Ext.refl _).alloc _).trans hxx
  have HB := Lib.hid (HB.out.ext hx)
  have HS := Lib.hid (HS.out.ext hx)
  have HW := Lib.hid (HW.out.trans hx)
  have HL2 := Lib.hid (Rs.ext RI.ext _ _ _ _ hx HL2.out)
  have HL3 := Lib.hid (Rs.ext RI.ext _ _ _ _ hx HL3.out)
  clear hxx hx
  go_wp2_with fail
  have hc := kSame_any [0, 2, 2] [0, 2, 2] _ _ (w16.alloc (.cells #[.int .i64 0, .int .i64 2, .int .i64 2] 3)) (Rs.ext RI.ext _ _ _ _ ((Ext.refl _).alloc _) HL3.out) (rs_block (n := 3) (c := 3) (l := [0, 2, 2]) (heap_new w16 (.cells #[.int .i64 0, .int .i64 2, .int .i64 2] 3)) (Ext.refl _) rfl rfl (Nat.le_of_ble_eq_true rfl) (small_of rfl))
  rw [decide_eq_true rfl] at hc
  refine hc.mono ?_
  clear hc
  rintro e w17 ⟨rfl, hxx⟩
  have hx : Ext w16 w17 := ((Ext.refl _).alloc _).trans hxx
  have HB := Lib.hid (HB.out.ext hx)
  have HS := Lib.hid (HS.out.ext hx)
  have HW := Lib.hid (HW.out.trans hx)
  have HL2 := Lib.hid (Rs.ext RI.ext _ _ _ _ hx HL2.out)
  have HL3 := Lib.hid (Rs.ext RI.ext _ _ _ _ hx HL3.out)
  clear hxx hx
  go_wp2_with fail
  go_ret
  exact ⟨rfl, HW.out⟩
end Go.Proofs.YtkbiffbmjgmcaaaDoor

/- THE WALK over Plan of the specification of moves. -/
namespace Go.Proofs.YtkbiffbmjgmcaaaDoor
open Go.RowKit
/-- What Plan returns. -/
def PlannedOut (r : List Nat × Int) (w : World) (e : Ending) (w' : World) : Prop := ∃ A c, e = .returned (.agg #[.slice A r.1.length c, .int .i64 r.2]) ∧ Owns w w' [lrow A c r.1]
theorem PlannedOut.none {w w' : World} {c : Int} (h : Ext w w') : PlannedOut ([], c) w (.returned (.agg #[.slice Option.none 0 0, .int .i64 c])) w' := ⟨_, _, rfl, lrow_nil h⟩
theorem PlannedOut.some {w w' : World} {l : List Nat} {A : Option Addr} {c : Nat} {d : Int} (h : Owns w w' [lrow A c l]) : PlannedOut (l, d) w (.returned (.agg #[.slice A l.length c, .int .i64 d])) w' := ⟨A, c, rfl, h⟩
end Go.Proofs.YtkbiffbmjgmcaaaDoor

/- MOVES, as specified: Plan. -/
namespace Mv
/-- What Plan returns is short, and has places of pieces. -/
theorem planned_small (can : Nat → Bool) (s : Sh) (ph : List Int) : (planned can s ph).1.length ≤ 48 ∧ ∀ x ∈ (planned can s ph).1, x < 24 := by
  by_cases h : (planned can s ph).2 = 0
  · obtain ⟨h1, h2, _, _, _, h6⟩ := planned_zero h
    have k := ok_of h1
    obtain ⟨a, b⟩ := plan_small _ ph (right_under h2) h6
    refine ⟨by rw [a]; exact rest_le h2, fun x hx => ?_⟩
    have c := b x hx
    have := k.few
    rw [theEnd_len] at c
    omega
  · have : (planned can s ph).1 = [] := by
      by_cases h1 : check s = 0
      · cases h2 : right s ph with
        | false => rw [planned_right h1 h2]
        | true =>
          cases h3 : fits s ph with
          | false => rw [planned_fits h1 h2 h3]
          | true =>
            cases h4 : safe can s ph with
            | false => rw [planned_safe h1 h2 h3 (.inl h4)]
            | true =>
              cases h5 : safe can s (theEnd s) with
              | false => rw [planned_safe h1 h2 h3 (.inr h5)]
              | true =>
                cases h6 : plan (fine can s) (theEnd s) ph with
                | none => rw [planned_none h1 h2 h3 h4 h5 h6]
                | some l => exact absurd (by rw [planned_some h1 h2 h3 h4 h5 h6]) h
      · rw [planned_check h1]
    rw [this]
    simp
end Mv
namespace Go.Proofs.YtkbiffbmjgmcaaaDoor
open Go.RowKit
theorem lrow_rd {w0 w : World} {A : Option Addr} {c : Nat} {l : List Nat} (h : Owns w0 w [lrow A c l]) (hl : l.length ≤ 1000) (hb : ∀ x ∈ l, x ≤ 1000) : Rs RI w (.slice A l.length c) (Mv.ints l) :=
  Rs.small (h.rd 0 rfl) (Mv.ints_len l).symm (by rw [Mv.ints_len]; omega) fun x hx => by
    obtain ⟨y, hy, rfl⟩ := List.mem_map.1 hx
    have := hb y hy
    omega
end Go.Proofs.YtkbiffbmjgmcaaaDoor

/- MOVES: the plan is the rest of a plan. -/
namespace Mv
theorem steps_len : ∀ (l : List Nat) (now : List Int), (steps now l).length = now.length
  | [], _ => rfl
  | x :: l, now => by rw [steps, steps_len l, step_len]
end Mv
namespace Go.Proofs.YtkbiffbmjgmcaaaDoor
open Go.RowKit
section
variable {P : Program} {w : World}
end
end Go.Proofs.YtkbiffbmjgmcaaaDoor

/- THE WALKS over domain.Left and what it calls, at the level of racks. -/
namespace Mv
/-- The rack of a disk, or -1. -/
def ofRack (s : Sh) (x : Int) : Int := if x < 0 ∨ (s.disks.length : Int) ≤ x then -1 else s.disks.getD x.toNat 0
theorem ofRack_out {s : Sh} {x : Int} (h : x < 0 ∨ (s.disks.length : Int) ≤ x) : ofRack s x = -1 := if_pos h
theorem ofRack_in {s : Sh} {d : Nat} (h : d < s.disks.length) : ofRack s (d : Int) = s.disks[d] := by
  rw [ofRack, if_neg (by omega), Int.toNat_natCast, List.getD_eq_getElem?_getD, List.getElem?_eq_getElem h]; rfl
theorem ofRack_bd {s : Sh} (k : Ok s) (x : Int) : -1 ≤ ofRack s x ∧ ofRack s x < 24 := by
  unfold ofRack
  split
  · omega
  · have hx : x.toNat < s.disks.length := by omega
    have h1 := k.disk _ (List.getElem_mem hx)
    have h2 := k.racks
    rw [List.getD_eq_getElem?_getD, List.getElem?_eq_getElem hx]
    simp only [Option.getD_some]
    omega
theorem domErr_zero {s : Sh} (k : Ok s) : domErr s.disks s.racks s.houses s.owners = 0 := by
  have hn : ∀ {n x : Int}, 0 ≤ x ∧ x < n → ¬ out n x := fun h => by unfold out; omega
  refine domErr_ok ?_ ?_
  · have := k.disks; have := k.racks; have := k.houses; have := k.owners; omega
  · rintro (⟨x, hx, e⟩ | ⟨x, hx, e⟩ | ⟨x, hx, e⟩)
    · exact hn (k.disk x hx) e
    · exact hn (k.house x hx) e
    · exact hn (k.rack x hx) e
/-- The pieces of a layout whose racks have not failed. -/
def domTo (s : Sh) (l rs : List Int) : Nat → Nat
  | 0 => 0
  | k + 1 => if 0 ≤ ofRack s (l.getD k 0) ∧ ofRack s (l.getD k 0) ∉ rs then domTo s l rs k ||| 2 ^ k else domTo s l rs k
theorem domTo_yes {s : Sh} {l rs : List Int} {k : Nat} (h : 0 ≤ ofRack s (l.getD k 0)) (h2 : ofRack s (l.getD k 0) ∉ rs) : domTo s l rs (k + 1) = domTo s l rs k ||| 2 ^ k := if_pos ⟨h, h2⟩
theorem domTo_no {s : Sh} {l rs : List Int} {k : Nat} (h : ¬ (0 ≤ ofRack s (l.getD k 0) ∧ ofRack s (l.getD k 0) ∉ rs)) : domTo s l rs (k + 1) = domTo s l rs k := if_neg h
theorem domTo_lt (s : Sh) (l rs : List Int) : ∀ k, domTo s l rs k < 2 ^ k
  | 0 => by show 0 < 1; decide
  | k + 1 => by
    have ih := domTo_lt s l rs k
    have h2 : domTo s l rs k < 2 ^ (k + 1) := Nat.lt_of_lt_of_le ih (Nat.pow_le_pow_right (by decide) (by omega))
    rw [domTo]
    split
    · exact Nat.or_lt_two_pow h2 (Nat.pow_lt_pow_right (by decide) (by omega))
    · exact h2
theorem domTo_bit (s : Sh) (l rs : List Int) (i : Nat) : ∀ k, (domTo s l rs k).testBit i = decide (i < k ∧ 0 ≤ ofRack s (l.getD i 0) ∧ ofRack s (l.getD i 0) ∉ rs)
  | 0 => by simp [domTo]
  | k + 1 => by
    have ih := domTo_bit s l rs i k
    by_cases h : 0 ≤ ofRack s (l.getD k 0) ∧ ofRack s (l.getD k 0) ∉ rs
    · rw [domTo_yes h.1 h.2, Nat.testBit_or, ih, Nat.testBit_two_pow]
      by_cases hik : k = i
      · subst hik
        rw [Bool.eq_iff_iff]
        simp only [Bool.or_eq_true, decide_eq_true_eq]
        exact ⟨fun _ => ⟨by omega, h⟩, fun _ => .inr trivial⟩
      · by_cases hlt : i < k
        · simp [hlt, hik, Nat.lt_succ_of_lt hlt]
        · simp [hlt, hik, show ¬ i < k + 1 by omega]
    · rw [domTo_no h, ih]
      by_cases hik : i = k
      · subst hik
        rw [Bool.eq_iff_iff]
        simp only [decide_eq_true_eq]
        exact ⟨fun e => absurd e.1 (Nat.lt_irrefl _), fun e => absurd e.2 h⟩
      · by_cases hlt : i < k
        · simp [hlt, Nat.lt_succ_of_lt hlt]
        · simp [hlt, show ¬ i < k + 1 by omega]
end Mv
/- THE WALKS over the small functions of package sums: senders, Check, and the library's functions that they call. -/
namespace Su
end Su
namespace Go.Proofs.YtkbiffbmjgmcaaaDoor
open Go.RowKit
/-- What Index returns. -/
def IdxOut (l : List Int) (x : Int) (w : World) (e : Ending) (w' : World) : Prop := ∃ z : Int, e = .returned (.int .i64 z) ∧ (0 ≤ z ↔ x ∈ l) ∧ w = w'
theorem sIndex_any (l : List Int) (x : Int) (B : Option Addr) (n c : Nat) (w : World) (hB : Rs RI w (.slice B n c) l) :
    Calls Tryd.prog 86 #[.slice B n c, .int .i64 x] w fun e w' => IdxOut l x w e w' := by
  have hn := hB.len
  obtain ⟨_, _, e0, hl⟩ := hB.form
  have HB := Lib.hid hB
  have HN := Lib.hid hn
  have hl2 : n ≤ 9223372036854775807 := by omega
  clear hB hn e0 hl
  go_enter Tryd.func86, Tryd.ntmps86
  go_wp2_with fail
  go_loop [8] (fun vi => ∃ i : Nat, i ≤ n ∧ vi = .int .i64 i ∧ Hid (∀ j, j < i → l.getD j 0 ≠ x)) (fun vi => n - (intOf vi).toNat)
  case atStart => exact ⟨0, Nat.zero_le _, rfl, Lib.hid fun j hj => absurd hj (Nat.not_lt_zero j)⟩
  case round =>
    obtain ⟨i, hi, rfl, HJ⟩ := hrel
    by_cases hlt : i < n
    · have hll : i < l.length := by rw [← HN.out]; exact hlt
      obtain ⟨ad, u, rfl, hc, hu⟩ := HB.out.at hll
      obtain ⟨rfl, _, _⟩ := hu
      have hgd := getD_get (x := (0 : Int)) hll
      obtain ⟨y, hy⟩ : ∃ y, l[i] = y := ⟨_, rfl⟩
      rw [hy] at hc hgd
      have hm : y ∈ l := by rw [← hy]; exact List.getElem_mem hll
      have HM := Lib.hid (And.intro hgd hm)
      clear hgd hm hy
      by_cases h1 : x = y
      · have e1 : (x == y) = true := by rw [h1]; simp
        have hd : (0 ≤ (i : Int) ↔ x ∈ l) := ⟨fun _ => by rw [h1]; exact HM.out.2, fun _ => by omega⟩
        have HD := Lib.hid hd
        clear h1 hd
        go_wp2_with fail
        go_ret
        exact ⟨_, rfl, HD.out, rfl⟩
      · have e1 : (x == y) = false := by rw [beq_eq_false_iff_ne]; exact h1
        have H1 := Lib.hid h1
        clear h1
        go_wp2_with fail
        go_round
        case rel => exact ⟨i + 1, by omega, by go_num, Lib.hid fun j hj => by
          by_cases hji : j = i
          · rw [hji, HM.out.1]; exact fun e => H1.out e.symm
          · exact HJ.out j (by omega)⟩
        case measure => simp [intOf]; omega
    · obtain rfl : i = n := by omega
      have hd : (0 ≤ (-1 : Int) ↔ x ∈ l) := by
        refine ⟨fun h => by omega, fun hm => ?_⟩
        obtain ⟨j, hj, he⟩ := List.getElem_of_mem hm
        have := HJ.out j (by rw [HN.out]; exact hj)
        rw [getD_get hj] at this
        exact absurd he this
      have HD := Lib.hid hd
      clear hd
      go_wp2_with fail
      go_ret
      exact ⟨_, rfl, HD.out, rfl⟩
theorem sContains_any (l : List Int) (x : Int) (B : Option Addr) (n c : Nat) (w : World) (hB : Rs RI w (.slice B n c) l) :
    Calls Tryd.prog 70 #[.slice B n c, .int .i64 x] w fun e w' => e = .returned (.bool (decide (x ∈ l))) ∧ w = w' := by
  have HB := Lib.hid hB
  clear hB
  go_enter Tryd.func70, Tryd.ntmps70
  go_wp2_with fail
  refine (sIndex_any l x B n c _ HB.out).mono ?_
  rintro e w1 ⟨z, rfl, hz, rfl⟩
  have HZ := Lib.hid hz
  clear hz
  go_wp2_with fail
  go_ret
  exact ⟨ret_bool (by simp [HZ.out]), rfl⟩
end Go.Proofs.YtkbiffbmjgmcaaaDoor


namespace Go.Proofs.YtkbiffbmjgmcaaaDoor
open Go.RowKit
set_option maxHeartbeats 8000000 in
set_option maxRecDepth 100000 in
theorem dClimb1_any (s : Mv.Sh) (DA KA HA GA RA FA TA : Option Addr) (cD cK cH cG cR cF cT : Nat) (hok : Mv.Ok s) (d : Nat) (hd : d < s.disks.length) (w : World) (hS : ShAt w s DA KA HA GA RA FA TA cD cK cH cG cR cF cT) :
    Calls Tryd.prog 85 #[.agg #[.slice DA s.disks.length cD, .slice KA s.racks.length cK, .slice HA s.houses.length cH, .int .i64 s.owners], .int .i64 0, .int .i64 1, .int .i64 (d : Nat)] w fun e w' => e = .returned (.int .i64 (Mv.ofRack s (d : Int))) ∧ Ext w w' := by
  have hx0 := (Ext.refl w).alloc (.cells #[.slice DA s.disks.length cD, .slice KA s.racks.length cK, .slice HA s.houses.length cH, .int .i64 s.owners] 25)
  have HX0 := Lib.hid hx0
  have HS := Lib.hid (hS.ext hx0)
  have b0 : (w.alloc (.cells #[.slice DA s.disks.length cD, .slice KA s.racks.length cK, .slice HA s.houses.length cH, .int .i64 s.owners] 25)).cell? ⟨w.heap.size, 0, none⟩ = some (.slice DA s.disks.length cD) := cells_new _ _ _ 0 _ rfl
  have b1 : (w.alloc (.cells #[.slice DA s.disks.length cD, .slice KA s.racks.length cK, .slice HA s.houses.length cH, .int .i64 s.owners] 25)).cell? ⟨w.heap.size, 1, none⟩ = some (.slice KA s.racks.length cK) := cells_new _ _ _ 1 _ rfl
  have b2 : (w.alloc (.cells #[.slice DA s.disks.length cD, .slice KA s.racks.length cK, .slice HA s.houses.length cH, .int .i64 s.owners] 25)).cell? ⟨w.heap.size, 2, none⟩ = some (.slice HA s.houses.length cH) := cells_new _ _ _ 2 _ rfl
  have b3 : (w.alloc (.cells #[.slice DA s.disks.length cD, .slice KA s.racks.length cK, .slice HA s.houses.length cH, .int .i64 s.owners] 25)).cell? ⟨w.heap.size, 3, none⟩ = some (.int .i64 s.owners) := cells_new _ _ _ 3 _ rfl
  have HB := Lib.hid (And.intro b0 (And.intro b1 (And.intro b2 b3)))
  have HOK := Lib.hid hok
  obtain ⟨ad, u, rfl, hcd, hu⟩ := HS.out.disks.at hd
  obtain ⟨rfl, _, _⟩ := hu
  have hof := Mv.ofRack_in (s := s) hd
  obtain ⟨x, hx⟩ : ∃ x, s.disks[d] = x := ⟨_, rfl⟩
  rw [hx] at hcd hof
  have HOF := Lib.hid hof
  have hdi : (d : Int) < (s.disks.length : Int) := by omega
  clear hS hx0 hok hof hx
  go_enter Tryd.func85, Tryd.ntmps85
  go_wp2_with fail
  clear b0 b1 b2 b3 hcd
  go_ret
  exact ⟨ret_int (by rw [HOF.out]), HX0.out⟩
set_option maxHeartbeats 8000000 in
set_option maxRecDepth 100000 in
theorem dOf1_any (s : Mv.Sh) (DA KA HA GA RA FA TA : Option Addr) (cD cK cH cG cR cF cT : Nat) (hok : Mv.Ok s) (x : Int) (w : World) (hS : ShAt w s DA KA HA GA RA FA TA cD cK cH cG cR cF cT) :
    Calls Tryd.prog 69 #[.agg #[.slice DA s.disks.length cD, .slice KA s.racks.length cK, .slice HA s.houses.length cH, .int .i64 s.owners], .int .i64 1, .int .i64 x] w fun e w' => e = .returned (.int .i64 (Mv.ofRack s x)) ∧ Ext w w' := by
  have hx0 := (Ext.refl w).alloc (.cells #[.slice DA s.disks.length cD, .slice KA s.racks.length cK, .slice HA s.houses.length cH, .int .i64 s.owners] 25)
  have HX0 := Lib.hid hx0
  have HS := Lib.hid (hS.ext hx0)
  have b0 : (w.alloc (.cells #[.slice DA s.disks.length cD, .slice KA s.racks.length cK, .slice HA s.houses.length cH, .int .i64 s.owners] 25)).cell? ⟨w.heap.size, 0, none⟩ = some (.slice DA s.disks.length cD) := cells_new _ _ _ 0 _ rfl
  have b1 : (w.alloc (.cells #[.slice DA s.disks.length cD, .slice KA s.racks.length cK, .slice HA s.houses.length cH, .int .i64 s.owners] 25)).cell? ⟨w.heap.size, 1, none⟩ = some (.slice KA s.racks.length cK) := cells_new _ _ _ 1 _ rfl
  have b2 : (w.alloc (.cells #[.slice DA s.disks.length cD, .slice KA s.racks.length cK, .slice HA s.houses.length cH, .int .i64 s.owners] 25)).cell? ⟨w.heap.size, 2, none⟩ = some (.slice HA s.houses.length cH) := cells_new _ _ _ 2 _ rfl
  have b3 : (w.alloc (.cells #[.slice DA s.disks.length cD, .slice KA s.racks.length cK, .slice HA s.houses.length cH, .int .i64 s.owners] 25)).cell? ⟨w.heap.size, 3, none⟩ = some (.int .i64 s.owners) := cells_new _ _ _ 3 _ rfl
  have HB := Lib.hid (And.intro b0 (And.intro b1 (And.intro b2 b3)))
  have HOK := Lib.hid hok
  have hd0 : Mv.domErr s.disks s.racks s.houses s.owners = 0 := Mv.domErr_zero hok
  have HD0 := Lib.hid hd0
  clear hS hx0 hok hd0
  go_enter Tryd.func69, Tryd.ntmps69
  go_wp2_with fail
  clear b0 b1 b2 b3
  refine (dCheck_any s.disks s.racks s.houses s.owners _ _ _ _ HS.out.disks HS.out.racks HS.out.houses HS.out.owners).mono ?_
  rintro ee w1 ⟨rfl, hx1⟩
  have HX1 := Lib.hid hx1
  rw [HD0.out]
  have b0 := hx1.cell HB.out.1
  have b1 := hx1.cell HB.out.2.1
  have b2 := hx1.cell HB.out.2.2.1
  have b3 := hx1.cell HB.out.2.2.2
  clear hx1
  by_cases h0 : x < 0
  · have HE := Lib.hid (Mv.ofRack_out (s := s) (.inl h0))
    go_wp2_with fail
    clear b0 b1 b2 b3
    go_ret
    exact ⟨ret_int (by rw [HE.out]), HX0.out.trans HX1.out⟩
  · by_cases h1 : (s.disks.length : Int) ≤ x
    · have HE := Lib.hid (Mv.ofRack_out (s := s) (.inr h1))
      go_wp2_with fail
      clear b0 b1 b2 b3
      go_ret
      exact ⟨ret_int (by rw [HE.out]), HX0.out.trans HX1.out⟩
    · obtain ⟨d, rfl⟩ : ∃ d : Nat, x = d := ⟨x.toNat, by omega⟩
      have hd : d < s.disks.length := by omega
      have HD := Lib.hid hd
      clear hd
      go_wp2_with fail
      clear b0 b1 b2 b3
      refine (dClimb1_any s DA KA HA GA RA FA TA cD cK cH cG cR cF cT HOK.out d HD.out w1 (HS.out.ext HX1.out)).mono ?_
      rintro ee w2 ⟨rfl, hx2⟩
      have HX2 := Lib.hid (HX1.out.trans hx2)
      clear hx2
      go_wp2_with fail
      go_ret
      exact ⟨rfl, HX0.out.trans HX2.out⟩
set_option maxHeartbeats 8000000 in
set_option maxRecDepth 100000 in
theorem dLeft1_any (s : Mv.Sh) (DA KA HA GA RA FA TA : Option Addr) (cD cK cH cG cR cF cT : Nat) (hok : Mv.Ok s) (l rs : List Int) (hl : l.length ≤ 24) (A Q : Option Addr) (cA cQ : Nat) (w : World) (hS : ShAt w s DA KA HA GA RA FA TA cD cK cH cG cR cF cT) (hA : Rs RI w (.slice A l.length cA) l) (hQ : Rs RI w (.slice Q rs.length cQ) rs) :
    Calls Tryd.prog 49 #[.agg #[.slice DA s.disks.length cD, .slice KA s.racks.length cK, .slice HA s.houses.length cH, .int .i64 s.owners], .int .i64 1, .slice A l.length cA, .slice Q rs.length cQ] w fun e w' => e = .returned (.int .i64 (Mv.domTo s l rs l.length : Nat)) ∧ Ext w w' := by
  have hx0 := (Ext.refl w).alloc (.cells #[.slice DA s.disks.length cD, .slice KA s.racks.length cK, .slice HA s.houses.length cH, .int .i64 s.owners] 25)
  have HX0 := Lib.hid hx0
  have HS := Lib.hid (hS.ext hx0)
  have b0 : (w.alloc (.cells #[.slice DA s.disks.length cD, .slice KA s.racks.length cK, .slice HA s.houses.length cH, .int .i64 s.owners] 25)).cell? ⟨w.heap.size, 0, none⟩ = some (.slice DA s.disks.length cD) := cells_new _ _ _ 0 _ rfl
  have b1 : (w.alloc (.cells #[.slice DA s.disks.length cD, .slice KA s.racks.length cK, .slice HA s.houses.length cH, .int .i64 s.owners] 25)).cell? ⟨w.heap.size, 1, none⟩ = some (.slice KA s.racks.length cK) := cells_new _ _ _ 1 _ rfl
  have b2 : (w.alloc (.cells #[.slice DA s.disks.length cD, .slice KA s.racks.length cK, .slice HA s.houses.length cH, .int .i64 s.owners] 25)).cell? ⟨w.heap.size, 2, none⟩ = some (.slice HA s.houses.length cH) := cells_new _ _ _ 2 _ rfl
  have b3 : (w.alloc (.cells #[.slice DA s.disks.length cD, .slice KA s.racks.length cK, .slice HA s.houses.length cH, .int .i64 s.owners] 25)).cell? ⟨w.heap.size, 3, none⟩ = some (.int .i64 s.owners) := cells_new _ _ _ 3 _ rfl
  have HB := Lib.hid (And.intro b0 (And.intro b1 (And.intro b2 b3)))
  have HOK := Lib.hid hok
  have HLL := Lib.hid (Rs.ext RI.ext _ _ _ _ hx0 hA)
  have HRR := Lib.hid (Rs.ext RI.ext _ _ _ _ hx0 hQ)
  obtain ⟨_, _, _, hq64⟩ := hQ.form
  clear hS hx0 hok hA hQ
  go_enter Tryd.func49, Tryd.ntmps49
  go_wp2_with fail
  clear b0 b1 b2 b3
  obtain ⟨W, hW⟩ : ∃ W, W = (w.alloc (.cells #[.slice DA s.disks.length cD, .slice KA s.racks.length cK, .slice HA s.houses.length cH, .int .i64 s.owners] 25)) := ⟨_, rfl⟩
  have HW := Lib.hid hW
  rw [← hW] at HX0 HS HB HLL HRR
  clear hW
  go_loopw [9, 19] (fun vs vk wr => ∃ k : Nat, k ≤ l.length ∧ vk = .int .i64 k ∧ vs = .int .i64 (Mv.domTo s l rs k : Nat) ∧ Hid (Ext W wr)) (fun _ vk _ => l.length - (intOf vk).toNat)
  case atStart => exact ⟨0, Nat.zero_le _, rfl, rfl, Lib.hid (by rw [HW.out]; exact Ext.refl _)⟩
  case round =>
    obtain ⟨k, hk, rfl, rfl, HI⟩ := hrel
    obtain ⟨S, hSS⟩ : ∃ S, Mv.domTo s l rs k = S := ⟨_, rfl⟩
    have hSl := Mv.domTo_lt s l rs k
    rw [hSS] at hSl ⊢
    have HSS := Lib.hid hSS
    by_cases hlt : k < l.length
    · obtain ⟨al, u, rfl, hcl, hu⟩ := (Rs.ext RI.ext _ _ _ _ HI.out HLL.out).at hlt
      obtain ⟨rfl, _, _⟩ := hu
      have hg := getD_get (x := (0 : Int)) hlt
      obtain ⟨x, hx⟩ : ∃ x, l[k] = x := ⟨_, rfl⟩
      rw [hx] at hcl hg
      have HG := Lib.hid hg
      have hS40 : S < 2 ^ 40 := Nat.lt_of_lt_of_le hSl (Nat.pow_le_pow_right (by decide) (by omega))
      have hOR := or_pow40 S k hS40 (by omega)
      have HOR := Lib.hid hOR
      have hki : (k : Int) < (l.length : Int) := by omega
      have b0 := HI.out.cell HB.out.1
      have b1 := HI.out.cell HB.out.2.1
      have b2 := HI.out.cell HB.out.2.2.1
      have b3 := HI.out.cell HB.out.2.2.2
      clear hx hg hSS hSl hOR hS40
      go_wp2_with fail
      clear b0 b1 b2 b3
      refine (dOf1_any s DA KA HA GA RA FA TA cD cK cH cG cR cF cT HOK.out x wr (HS.out.ext HI.out)).mono ?_
      rintro ee w1 ⟨rfl, hx1⟩
      have hbd := Mv.ofRack_bd HOK.out x
      obtain ⟨z, hz0⟩ : ∃ z, Mv.ofRack s x = z := ⟨_, rfl⟩
      rw [hz0] at hbd ⊢
      have HZ := Lib.hid hz0
      have HX1 := Lib.hid (HI.out.trans hx1)
      have HQ1 := Lib.hid (Rs.ext RI.ext _ _ _ _ (HI.out.trans hx1) HRR.out)
      clear hx1 hz0 hcl
      by_cases hz : 0 ≤ z
      · by_cases hin : z ∈ rs
        · have HST := Lib.hid (Mv.domTo_no (s := s) (l := l) (rs := rs) (k := k) (fun e => by rw [HG.out, HZ.out] at e; exact e.2 hin))
          have HIN := Lib.hid hin
          clear hin
          go_wp2_with fail
          refine (sContains_any rs z Q rs.length cQ w1 HQ1.out).mono ?_
          rintro ee w2 ⟨rfl, rfl⟩
          rw [decide_eq_true HIN.out]
          go_wp2_with fail
          go_roundw
          case rel => exact ⟨k + 1, by omega, by go_num, by rw [HST.out, HSS.out], HX1⟩
          case measure => simp [intOf]; omega
        · have HST := Lib.hid (Mv.domTo_yes (s := s) (l := l) (rs := rs) (k := k) (by rw [HG.out, HZ.out]; exact hz) (by rw [HG.out, HZ.out]; exact hin))
          have HIN := Lib.hid hin
          clear hin
          go_wp2_with fail
          refine (sContains_any rs z Q rs.length cQ w1 HQ1.out).mono ?_
          rintro ee w2 ⟨rfl, rfl⟩
          rw [decide_eq_false HIN.out]
          go_wp2_with fail
          go_roundw
          case rel => exact ⟨k + 1, by omega, by go_num, by rw [HST.out, HSS.out, HOR.out.1], HX1⟩
          case measure => simp [intOf]; omega
      · have HST := Lib.hid (Mv.domTo_no (s := s) (l := l) (rs := rs) (k := k) (fun e => by rw [HG.out, HZ.out] at e; exact hz e.1))
        go_wp2_with fail
        go_roundw
        case rel => exact ⟨k + 1, by omega, by go_num, by rw [HST.out, HSS.out], HX1⟩
        case measure => simp [intOf]; omega
    · obtain rfl : l.length = k := by omega
      clear hSS hSl
      go_wp2_with fail
      go_ret
      exact ⟨ret_int (by rw [HSS.out]), HX0.out.trans HI.out⟩
end Go.Proofs.YtkbiffbmjgmcaaaDoor

/- THE WALK over there of law 13. -/
namespace Mv
/-- Both layouts, without the pieces that are not there. -/
def oldTo (s : Sh) (ph : List Int) : Nat → List Int
  | 0 => []
  | k + 1 => oldTo s ph k ++ [if ph.getD k 0 = 2 then -1 else s.src.getD k 0]
def newTo (s : Sh) (ph : List Int) : Nat → List Int
  | 0 => []
  | k + 1 => newTo s ph k ++ [if ph.getD k 0 = 0 then -1 else s.dst.getD k 0]
theorem oldTo_succ (s : Sh) (ph : List Int) (k : Nat) : oldTo s ph (k + 1) = oldTo s ph k ++ [if ph.getD k 0 = 2 then -1 else s.src.getD k 0] := rfl
theorem newTo_succ (s : Sh) (ph : List Int) (k : Nat) : newTo s ph (k + 1) = newTo s ph k ++ [if ph.getD k 0 = 0 then -1 else s.dst.getD k 0] := rfl
theorem oldTo_len (s : Sh) (ph : List Int) : ∀ n, (oldTo s ph n).length = n
  | 0 => rfl
  | n + 1 => by rw [oldTo_succ, List.length_append, oldTo_len s ph n]; rfl
theorem newTo_len (s : Sh) (ph : List Int) : ∀ n, (newTo s ph n).length = n
  | 0 => rfl
  | n + 1 => by rw [newTo_succ, List.length_append, newTo_len s ph n]; rfl
theorem getD_app {l : List Int} {x : Int} {n k : Nat} (h : l.length = n) : (l ++ [x]).getD k 0 = if k = n then x else l.getD k 0 := by
  rw [List.getD_eq_getElem?_getD, List.getD_eq_getElem?_getD]
  by_cases e : k = n
  · rw [if_pos e, List.getElem?_append_right (by omega), show k - l.length = 0 by omega]; rfl
  · rw [if_neg e]
    by_cases h2 : k < n
    · rw [List.getElem?_append_left (by omega)]
    · rw [List.getElem?_eq_none (by simp; omega), List.getElem?_eq_none (by omega)]
theorem oldTo_get (s : Sh) (ph : List Int) {k : Nat} : ∀ n, k < n → (oldTo s ph n).getD k 0 = if ph.getD k 0 = 2 then -1 else s.src.getD k 0
  | 0, h => absurd h (by omega)
  | n + 1, h => by
    rw [oldTo_succ, getD_app (oldTo_len s ph n)]
    by_cases e : k = n
    · rw [if_pos e, e]
    · rw [if_neg e]; exact oldTo_get s ph n (by omega)
theorem newTo_get (s : Sh) (ph : List Int) {k : Nat} : ∀ n, k < n → (newTo s ph n).getD k 0 = if ph.getD k 0 = 0 then -1 else s.dst.getD k 0
  | 0, h => absurd h (by omega)
  | n + 1, h => by
    rw [newTo_succ, getD_app (newTo_len s ph n)]
    by_cases e : k = n
    · rw [if_pos e, e]
    · rw [if_neg e]; exact newTo_get s ph n (by omega)
theorem ofRack_rack {s : Sh} (h : Ok s) {l : List Int} (hl : ∀ x ∈ l, 0 ≤ x ∧ x < (s.disks.length : Int)) {k : Nat} (hk : k < l.length) : ofRack s (l.getD k 0) = (rackOf s l k : Int) ∧ rackOf s l k < s.racks.length := by
  have h1 := hl _ (List.getElem_mem hk)
  have e1 : l.getD k 0 = l[k] := by rw [List.getD_eq_getElem?_getD, List.getElem?_eq_getElem hk]; rfl
  have h2 : (l[k]).toNat < s.disks.length := by omega
  have h3 := h.disk _ (List.getElem_mem h2)
  have e2 : s.disks.getD (l[k]).toNat 0 = s.disks[(l[k]).toNat] := by rw [List.getD_eq_getElem?_getD, List.getElem?_eq_getElem h2]; rfl
  unfold rackOf ofRack
  rw [e1, if_neg (by omega), e2]
  omega
theorem dom_or {s : Sh} {ph rs : List Int} (h : right s ph = true) : domTo s (oldTo s ph ph.length) rs ph.length ||| domTo s (newTo s ph ph.length) rs ph.length = leftL s ph rs := by
  have k := ok_of (right_iff.1 h).1
  have hl := (right_iff.1 h).2.1
  rw [leftL_yes h]
  apply Nat.eq_of_testBit_eq
  intro i
  unfold left
  rw [Nat.testBit_or, domTo_bit, domTo_bit, leftTo_bit, Bool.eq_iff_iff]
  simp only [Bool.or_eq_true, decide_eq_true_eq]
  by_cases hi : i < ph.length
  · obtain ⟨e1, b1⟩ := ofRack_rack k k.src (k := i) (by omega)
    obtain ⟨e2, b2⟩ := ofRack_rack k k.dst (k := i) (by rw [k.dstLen]; omega)
    have hr := right_at h hi
    have hm1 : ofRack s (-1) = -1 := ofRack_out (.inl (by omega))
    rw [oldTo_get s ph _ hi, newTo_get s ph _ hi]
    unfold there
    rw [failed_bit b1, failed_bit b2]
    simp only [decide_eq_false_iff_not]
    have h0 : (0 : Int) ≤ (rackOf s s.src i : Int) := by omega
    have h0' : (0 : Int) ≤ (rackOf s s.dst i : Int) := by omega
    by_cases p2 : ph.getD i 0 = 2
    · rw [if_pos p2, if_neg (by omega), hm1, e2]
      constructor
      · rintro (⟨_, h1, _⟩ | ⟨_, _, h1⟩)
        · omega
        · exact ⟨hi, .inr ⟨by omega, h1⟩⟩
      · rintro ⟨_, ⟨h1, _⟩ | ⟨_, h1⟩⟩
        · omega
        · exact .inr ⟨hi, h0', h1⟩
    · by_cases p0 : ph.getD i 0 = 0
      · rw [if_neg p2, if_pos p0, hm1, e1]
        constructor
        · rintro (⟨_, _, h1⟩ | ⟨_, h1, _⟩)
          · exact ⟨hi, .inl ⟨by omega, h1⟩⟩
          · omega
        · rintro ⟨_, ⟨_, h1⟩ | ⟨h1, _⟩⟩
          · exact .inl ⟨hi, h0, h1⟩
          · omega
      · rw [if_neg p2, if_neg p0, e1, e2]
        constructor
        · rintro (⟨_, _, h1⟩ | ⟨_, _, h1⟩)
          · exact ⟨hi, .inl ⟨by omega, h1⟩⟩
          · exact ⟨hi, .inr ⟨by omega, h1⟩⟩
        · rintro ⟨_, ⟨_, h1⟩ | ⟨_, h1⟩⟩
          · exact .inl ⟨hi, h0, h1⟩
          · exact .inr ⟨hi, h0', h1⟩
  · constructor
    · rintro (⟨h1, _⟩ | ⟨h1, _⟩) <;> exact absurd h1 hi
    · rintro ⟨h1, _⟩; exact absurd h1 hi
end Mv
namespace Go.Proofs.YtkbiffbmjgmcaaaDoor
open Go.RowKit
theorem dLeft1_at (s : Mv.Sh) (DA KA HA GA RA FA TA : Option Addr) (cD cK cH cG cR cF cT : Nat) (hok : Mv.Ok s) (l rs : List Int) (hl : l.length ≤ 24) (A Q : Option Addr) (cA cQ : Nat) (w : World) (hS : ShAt w s DA KA HA GA RA FA TA cD cK cH cG cR cF cT) (hA : Rs RI w (.slice A l.length cA) l) (hQ : Rs RI w (.slice Q rs.length cQ) rs) (X : Nat) (hX : Mv.domTo s l rs l.length = X) :
    Calls Tryd.prog 49 #[.agg #[.slice DA s.disks.length cD, .slice KA s.racks.length cK, .slice HA s.houses.length cH, .int .i64 s.owners], .int .i64 1, .slice A l.length cA, .slice Q rs.length cQ] w fun e w' => e = .returned (.int .i64 (X : Nat)) ∧ Ext w w' := by
  rw [← hX]
  exact dLeft1_any s DA KA HA GA RA FA TA cD cK cH cG cR cF cT hok l rs hl A Q cA cQ w hS hA hQ
noncomputable def th_or_code : Code := ((Tryd.f22.body.bind (regionOf 12)).getD .skip)
def th_or_dsts : List (Option Nat) := [some 43, some 44, some 45, some 46, some 47, some 48, some 49, some 50, some 51, some 52, some 53, some 6]
theorem th_or_apart : apartD th_or_dsts = true := by decide +kernel
set_option maxRecDepth 1000000 in
set_option maxHeartbeats 16000000 in
theorem th_or (wr : World) (B : Nat) (s : Mv.Sh) (O N rs : List Int) (DA KA HA GA RA FA TA OA NA QA : Option Addr) (cD cK cH cG cR cF cT cO cN cQ : Nat) (hok : Mv.Ok s) (hO : O.length ≤ 24) (hN : N.length ≤ 24) (hB : BoxAt wr B s DA KA HA GA RA FA TA cD cK cH cG cR cF cT) (HS : Hid (ShAt wr s DA KA HA GA RA FA TA cD cK cH cG cR cF cT)) (HOO : Hid (Rs RI wr (.slice OA O.length cO) O)) (HNN : Hid (Rs RI wr (.slice NA N.length cN) N)) (HR : Hid (Rs RI wr (.slice QA rs.length cQ) rs)) (X Y : Nat) (HX : Hid (Mv.domTo s O rs O.length = X)) (HY : Hid (Mv.domTo s N rs N.length = Y)) (HOR : Hid (bits .or .i64 (X : Int) (Y : Int) = ((X ||| Y : Nat) : Int))) (c0 c1 c4 c5 c6 c9 c10 c11 c12 c13 c14 c15 c16 c17 c18 c19 c20 c21 c22 c23 c24 c25 c26 c27 c28 c29 c30 c31 c32 c33 c34 c35 c36 c37 c38 c39 c40 c41 c42 c43 c44 c45 c46 c47 c48 c49 c50 c51 c52 c53 : Value) (df : List Deferred) (K : Act → World → Prop)
    (hK : ∀  (u43 u44 u45 u46 u47 u48 u49 u50 u51 u52 u53 : Value) (wx : World), Ext wr wx → K ⟨#[c0, c1, .slice QA rs.length cQ, .pointer (some ⟨B, 0, none⟩), c4, c5, .int .i64 ((X ||| Y : Nat) : Int), .slice OA O.length cO, .slice NA N.length cN, c9, c10, c11, c12, c13, c14, c15, c16, c17, c18, c19, c20, c21, c22, c23, c24, c25, c26, c27, c28, c29, c30, c31, c32, c33, c34, c35, c36, c37, c38, c39, c40, c41, c42, u43, u44, u45, u46, u47, u48, u49, u50, u51, u52, u53], df⟩ wx) :
    Code.wp Tryd.prog th_or_code (AtEnd K) ⟨#[c0, c1, .slice QA rs.length cQ, .pointer (some ⟨B, 0, none⟩), c4, c5, c6, .slice OA O.length cO, .slice NA N.length cN, c9, c10, c11, c12, c13, c14, c15, c16, c17, c18, c19, c20, c21, c22, c23, c24, c25, c26, c27, c28, c29, c30, c31, c32, c33, c34, c35, c36, c37, c38, c39, c40, c41, c42, c43, c44, c45, c46, c47, c48, c49, c50, c51, c52, c53], df⟩ wr := by
  conv => arg 2; whnf
  refine region_inv (by kernel_rfl) [[], [0], [], [], [1, 2, 3], [], [5], [], [], [6, 7, 8, 4], [4, 9], [10, 9, 0, 1, 2, 3, 4, 5, 6, 7, 8, 9, 10]] (by kernel_rfl) [0, 1, 2, 3, 4, 5, 6, 7, 8, 9, 10, 11] (by decide +kernel) (by decide +kernel) (by decide +kernel) (fun L a wc => Inv th_or_dsts [.pointer (some ⟨B, 0, none⟩), .agg #[.slice DA s.disks.length cD, .slice KA s.racks.length cK, .slice HA s.houses.length cH, .int .i64 s.owners], .slice OA O.length cO, .slice QA rs.length cQ, .int .i64 (X : Nat), .pointer (some ⟨B, 0, none⟩), .agg #[.slice DA s.disks.length cD, .slice KA s.racks.length cK, .slice HA s.houses.length cH, .int .i64 s.owners], .slice NA N.length cN, .slice QA rs.length cQ, .int .i64 (Y : Nat), .int .i64 ((X ||| Y : Nat) : Int), .int .i64 ((X ||| Y : Nat) : Int)] ⟨#[c0, c1, .slice QA rs.length cQ, .pointer (some ⟨B, 0, none⟩), c4, c5, c6, .slice OA O.length cO, .slice NA N.length cN, c9, c10, c11, c12, c13, c14, c15, c16, c17, c18, c19, c20, c21, c22, c23, c24, c25, c26, c27, c28, c29, c30, c31, c32, c33, c34, c35, c36, c37, c38, c39, c40, c41, c42, c43, c44, c45, c46, c47, c48, c49, c50, c51, c52, c53], df⟩ L a ∧ Hid (Ext wr wc)) ⟨Inv.start, Lib.hid ((Ext.refl wr).drew)⟩ ?_ ?_
  · refine ⟨?_, ?_, ?_, ?_, ?_, ?_, ?_, ?_, ?_, ?_, ?_, ?_, trivial⟩
    · -- 0 field
      rintro L a wc ⟨hv, HO⟩ hL hc hd
      exact wpOp_val rfl rfl (ex_field rfl ((hv.fixed 3 (by decide)).trans rfl) (by go_simp)) ⟨hv.put th_or_apart 0 rfl (Nat.le_of_ble_eq_true rfl) (Nat.le_of_ble_eq_true rfl) rfl, HO⟩
    · -- 1 load
      rintro L a wc ⟨hv, HO⟩ hL hc hd
      have h0 : wc.cell? ⟨B, 0, none⟩ = some (.slice DA s.disks.length cD) := HO.out.cell hB.b0
      have h1 : wc.cell? ⟨B, 1, none⟩ = some (.slice KA s.racks.length cK) := HO.out.cell hB.b1
      have h2 : wc.cell? ⟨B, 2, none⟩ = some (.slice HA s.houses.length cH) := HO.out.cell hB.b2
      have h3 : wc.cell? ⟨B, 3, none⟩ = some (.int .i64 s.owners) := HO.out.cell hB.b3
      exact wpOp_val rfl rfl (ex_load rfl (hv.get 0 rfl rfl (hd 0 (by decide))) (by go_simp)) ⟨hv.put th_or_apart 1 rfl (Nat.le_of_ble_eq_true rfl) (Nat.le_of_ble_eq_true rfl) rfl, HO⟩
    · -- 2 move
      rintro L a wc ⟨hv, HO⟩ hL hc hd
      exact wpOp_val rfl rfl (ex_move rfl ((hv.fixed 7 (by decide)).trans rfl)) ⟨hv.put th_or_apart 2 rfl (Nat.le_of_ble_eq_true rfl) (Nat.le_of_ble_eq_true rfl) rfl, HO⟩
    · -- 3 move
      rintro L a wc ⟨hv, HO⟩ hL hc hd
      exact wpOp_val rfl rfl (ex_move rfl ((hv.fixed 2 (by decide)).trans rfl)) ⟨hv.put th_or_apart 3 rfl (Nat.le_of_ble_eq_true rfl) (Nat.le_of_ble_eq_true rfl) rfl, HO⟩
    · -- 4 call
      rintro L a wc ⟨hv, HO⟩ hL hc hd
      refine wpOp_call (R := fun v w1 => v = .int .i64 (X : Nat) ∧ Ext wc w1) rfl rfl (ex_call rfl rfl (by simp only [List.map_toArray, List.map_cons, List.map_nil, (hv.get 1 rfl rfl (hd 1 (by decide))), (hv.get 2 rfl rfl (hd 2 (by decide))), (hv.get 3 rfl rfl (hd 3 (by decide)))]; rfl) (enters_of Tryd.func49 (by kernel_rfl) rfl _ _)) (((dLeft1_at s DA KA HA GA RA FA TA cD cK cH cG cR cF cT hok O rs hO OA QA cO cQ wc (HS.out.ext HO.out) (Rs.ext RI.ext _ _ _ _ HO.out HOO.out) (Rs.ext RI.ext _ _ _ _ HO.out HR.out) X HX.out)).mono (fun e w' h => ⟨_, h.1, rfl, h.2⟩)) ?_
      rintro v w' ⟨rfl, hx⟩
      exact ⟨hv.put th_or_apart 4 rfl (Nat.le_of_ble_eq_true rfl) (Nat.le_of_ble_eq_true rfl) rfl, Lib.hid (HO.out.trans hx)⟩
    · -- 5 field
      rintro L a wc ⟨hv, HO⟩ hL hc hd
      exact wpOp_val rfl rfl (ex_field rfl ((hv.fixed 3 (by decide)).trans rfl) (by go_simp)) ⟨hv.put th_or_apart 5 rfl (Nat.le_of_ble_eq_true rfl) (Nat.le_of_ble_eq_true rfl) rfl, HO⟩
    · -- 6 load
      rintro L a wc ⟨hv, HO⟩ hL hc hd
      have h0 : wc.cell? ⟨B, 0, none⟩ = some (.slice DA s.disks.length cD) := HO.out.cell hB.b0
      have h1 : wc.cell? ⟨B, 1, none⟩ = some (.slice KA s.racks.length cK) := HO.out.cell hB.b1
      have h2 : wc.cell? ⟨B, 2, none⟩ = some (.slice HA s.houses.length cH) := HO.out.cell hB.b2
      have h3 : wc.cell? ⟨B, 3, none⟩ = some (.int .i64 s.owners) := HO.out.cell hB.b3
      exact wpOp_val rfl rfl (ex_load rfl (hv.get 5 rfl rfl (hd 5 (by decide))) (by go_simp)) ⟨hv.put th_or_apart 6 rfl (Nat.le_of_ble_eq_true rfl) (Nat.le_of_ble_eq_true rfl) rfl, HO⟩
    · -- 7 move
      rintro L a wc ⟨hv, HO⟩ hL hc hd
      exact wpOp_val rfl rfl (ex_move rfl ((hv.fixed 8 (by decide)).trans rfl)) ⟨hv.put th_or_apart 7 rfl (Nat.le_of_ble_eq_true rfl) (Nat.le_of_ble_eq_true rfl) rfl, HO⟩
    · -- 8 move
      rintro L a wc ⟨hv, HO⟩ hL hc hd
      exact wpOp_val rfl rfl (ex_move rfl ((hv.fixed 2 (by decide)).trans rfl)) ⟨hv.put th_or_apart 8 rfl (Nat.le_of_ble_eq_true rfl) (Nat.le_of_ble_eq_true rfl) rfl, HO⟩
    · -- 9 call
      rintro L a wc ⟨hv, HO⟩ hL hc hd
      refine wpOp_call (R := fun v w1 => v = .int .i64 (Y : Nat) ∧ Ext wc w1) rfl rfl (ex_call rfl rfl (by simp only [List.map_toArray, List.map_cons, List.map_nil, (hv.get 6 rfl rfl (hd 6 (by decide))), (hv.get 7 rfl rfl (hd 7 (by decide))), (hv.get 8 rfl rfl (hd 8 (by decide)))]; rfl) (enters_of Tryd.func49 (by kernel_rfl) rfl _ _)) (((dLeft1_at s DA KA HA GA RA FA TA cD cK cH cG cR cF cT hok N rs hN NA QA cN cQ wc (HS.out.ext HO.out) (Rs.ext RI.ext _ _ _ _ HO.out HNN.out) (Rs.ext RI.ext _ _ _ _ HO.out HR.out) Y HY.out)).mono (fun e w' h => ⟨_, h.1, rfl, h.2⟩)) ?_
      rintro v w' ⟨rfl, hx⟩
      exact ⟨hv.put th_or_apart 9 rfl (Nat.le_of_ble_eq_true rfl) (Nat.le_of_ble_eq_true rfl) rfl, Lib.hid (HO.out.trans hx)⟩
    · -- 10 bin
      rintro L a wc ⟨hv, HO⟩ hL hc hd
      have hor := HOR.out
      exact wpOp_val rfl rfl (ex_bin rfl (hv.get 4 rfl rfl (hd 4 (by decide))) (hv.get 9 rfl rfl (hd 9 (by decide))) (by go_simp)) ⟨hv.put th_or_apart 10 rfl (Nat.le_of_ble_eq_true rfl) (Nat.le_of_ble_eq_true rfl) rfl, HO⟩
    · -- 11 assign
      rintro L a wc ⟨hv, HO⟩ hL hc hd
      exact wpOp_val rfl rfl (ex_assign rfl (hv.get 10 rfl rfl (hd 10 (by decide)))) ⟨hv.put th_or_apart 11 rfl (Nat.le_of_ble_eq_true rfl) (Nat.le_of_ble_eq_true rfl) rfl, HO⟩
  · rintro L a wc ⟨hv, HO⟩ hall
    show K a wc
    have ha := act_lit a
    rw [hv.size, hv.defers] at ha
    have hl : ∀ f : Nat → Value, ((List.range (⟨#[c0, c1, .slice QA rs.length cQ, .pointer (some ⟨B, 0, none⟩), c4, c5, c6, .slice OA O.length cO, .slice NA N.length cN, c9, c10, c11, c12, c13, c14, c15, c16, c17, c18, c19, c20, c21, c22, c23, c24, c25, c26, c27, c28, c29, c30, c31, c32, c33, c34, c35, c36, c37, c38, c39, c40, c41, c42, c43, c44, c45, c46, c47, c48, c49, c50, c51, c52, c53], df⟩ : Act).tmps.size).map f).toArray = #[f 0, f 1, f 2, f 3, f 4, f 5, f 6, f 7, f 8, f 9, f 10, f 11, f 12, f 13, f 14, f 15, f 16, f 17, f 18, f 19, f 20, f 21, f 22, f 23, f 24, f 25, f 26, f 27, f 28, f 29, f 30, f 31, f 32, f 33, f 34, f 35, f 36, f 37, f 38, f 39, f 40, f 41, f 42, f 43, f 44, f 45, f 46, f 47, f 48, f 49, f 50, f 51, f 52, f 53] := fun _ => rfl
    rw [hl] at ha
    simp only [hv.fixed 0 (by decide), hv.fixed 1 (by decide), hv.fixed 2 (by decide), hv.fixed 3 (by decide), hv.fixed 4 (by decide), hv.fixed 5 (by decide), hv.fixed 7 (by decide), hv.fixed 8 (by decide), hv.fixed 9 (by decide), hv.fixed 10 (by decide), hv.fixed 11 (by decide), hv.fixed 12 (by decide), hv.fixed 13 (by decide), hv.fixed 14 (by decide), hv.fixed 15 (by decide), hv.fixed 16 (by decide), hv.fixed 17 (by decide), hv.fixed 18 (by decide), hv.fixed 19 (by decide), hv.fixed 20 (by decide), hv.fixed 21 (by decide), hv.fixed 22 (by decide), hv.fixed 23 (by decide), hv.fixed 24 (by decide), hv.fixed 25 (by decide), hv.fixed 26 (by decide), hv.fixed 27 (by decide), hv.fixed 28 (by decide), hv.fixed 29 (by decide), hv.fixed 30 (by decide), hv.fixed 31 (by decide), hv.fixed 32 (by decide), hv.fixed 33 (by decide), hv.fixed 34 (by decide), hv.fixed 35 (by decide), hv.fixed 36 (by decide), hv.fixed 37 (by decide), hv.fixed 38 (by decide), hv.fixed 39 (by decide), hv.fixed 40 (by decide), hv.fixed 41 (by decide), hv.fixed 42 (by decide), hv.get 11 (d := 6) rfl rfl (hall 11 (by decide))] at ha
    rw [ha]
    exact hK _ _ _ _ _ _ _ _ _ _ _ wc HO.out
set_option maxHeartbeats 8000000 in
set_option maxRecDepth 100000 in
theorem there_any (s : Mv.Sh) (ph rs : List Int) (hrt : Mv.right s ph = true) (v u q : Value) (w : World) (hv : RSh w v s) (hu : Rs RI w u ph) (hq : Rs RI w q rs) :
    Calls Tryd.prog 22 #[v, u, q] w fun e w' => e = .returned (.int .i64 (Mv.leftL s ph rs : Nat)) ∧ Ext w w' := by
  obtain ⟨DA, KA, HA, GA, RA, FA, TA, cD, cK, cH, cG, cR, cF, cT, rfl, hS⟩ := hv.open
  obtain ⟨PA, cP, rfl, hp64⟩ := hu.form
  obtain ⟨QA, cQ, rfl, hq64⟩ := hq.form
  obtain ⟨W, hW⟩ : ∃ W, W = (w.alloc (.cells #[.slice DA s.disks.length cD, .slice KA s.racks.length cK, .slice HA s.houses.length cH, .int .i64 s.owners, .int .i64 s.d, .slice GA s.gs.length cG, .int .i64 s.gl, .int .i64 s.floor, .slice RA s.room.length cR, .slice FA s.src.length cF, .slice TA s.dst.length cT] 30)) := ⟨_, rfl⟩
  have HW := Lib.hid hW
  have hx0 := (Ext.refl w).alloc (.cells #[.slice DA s.disks.length cD, .slice KA s.racks.length cK, .slice HA s.houses.length cH, .int .i64 s.owners, .int .i64 s.d, .slice GA s.gs.length cG, .int .i64 s.gl, .int .i64 s.floor, .slice RA s.room.length cR, .slice FA s.src.length cF, .slice TA s.dst.length cT] 30)
  have hB := BoxAt.new w s DA KA HA GA RA FA TA cD cK cH cG cR cF cT
  rw [← hW] at hx0 hB
  have HX0 := Lib.hid hx0
  have HS := Lib.hid (hS.ext hx0)
  have HP := Lib.hid (Rs.ext RI.ext _ _ _ _ hx0 hu)
  have HQ := Lib.hid (Rs.ext RI.ext _ _ _ _ hx0 hq)
  have HB := Lib.hid hB
  have HRT := Lib.hid hrt
  have HOK := Lib.hid (Mv.ok_of (Mv.right_iff.1 hrt).1)
  have HPL := Lib.hid (Mv.right_iff.1 hrt).2.1
  have hp24 : ph.length ≤ 24 := by have a := (Mv.right_iff.1 hrt).2.1; have b := HOK.out.few; omega
  clear hv hu hq hS hx0 hB hrt hW
  go_enter Tryd.func22, Tryd.ntmps22
  go_wp2_with fail
  go_loopw [7, 8, 15] (fun vo vn vk wr => ∃ (k : Nat) (A1 : Option Addr) (c1 : Nat) (A2 : Option Addr) (c2 : Nat), k ≤ ph.length ∧ vk = .int .i64 k ∧ vo = .slice A1 k c1 ∧ vn = .slice A2 k c2 ∧ Hid (Owns W wr [⟨.slice A1 k c1, 3, 1, k, (Mv.oldTo s ph k).map (.int .i64)⟩, ⟨.slice A2 k c2, 3, 1, k, (Mv.newTo s ph k).map (.int .i64)⟩])) (fun _ _ vk _ => ph.length - (intOf vk).toNat)
  case atStart => exact ⟨0, none, 0, none, 0, Nat.zero_le _, rfl, rfl, rfl, Lib.hid (by rw [← HW.out]; exact Owns.start W (fun r hr => by
    rcases List.mem_cons.1 hr with rfl | hr
    · exact ⟨rfl, rfl, rfl⟩
    · rw [List.mem_singleton.1 hr]; exact ⟨rfl, rfl, rfl⟩))⟩
  case round =>
    obtain ⟨k, A1, c1, A2, c2, hk, rfl, rfl, rfl, HI⟩ := hrel
    have hk12 : k < 1000000000000 := by omega
    by_cases hlt : k < ph.length
    · have hks : k < s.src.length := by have := HPL.out; omega
      have hkd : k < s.dst.length := by have := HPL.out; have := HOK.out.dstLen; omega
      obtain ⟨ap, u, rfl, hcp, hu⟩ := (Rs.ext RI.ext _ _ _ _ HI.out.ext HP.out).at hlt
      obtain ⟨rfl, _, _⟩ := hu
      obtain ⟨af, u1, rfl, hcf, hu1⟩ := (Rs.ext RI.ext _ _ _ _ HI.out.ext HS.out.src).at hks
      obtain ⟨rfl, _, _⟩ := hu1
      obtain ⟨at_, u2, rfl, hct, hu2⟩ := (Rs.ext RI.ext _ _ _ _ HI.out.ext HS.out.dst).at hkd
      obtain ⟨rfl, _, _⟩ := hu2
      have ho := Mv.oldTo_succ s ph k
      have hn := Mv.newTo_succ s ph k
      rw [getD_get hlt, getD_get hks] at ho
      rw [getD_get hlt, getD_get hkd] at hn
      obtain ⟨p, hp⟩ : ∃ p, ph[k] = p := ⟨_, rfl⟩
      obtain ⟨y, hy⟩ : ∃ y, s.src[k] = y := ⟨_, rfl⟩
      obtain ⟨z, hz⟩ : ∃ z, s.dst[k] = z := ⟨_, rfl⟩
      rw [hp] at hcp ho hn
      rw [hy] at hcf ho
      rw [hz] at hct hn
      have a9 := (HB.out.ext HI.out.ext).b9
      have a10 := (HB.out.ext HI.out.ext).b10
      have hki : (k : Int) < (ph.length : Int) := by omega
      have hksi : (k : Int) < (s.src.length : Int) := by omega
      have hkdi : (k : Int) < (s.dst.length : Int) := by omega
      clear hp hy hz
      by_cases h2 : p = 2
      · rw [if_pos h2] at ho
        rw [if_neg (by omega)] at hn
        have HST := Lib.hid (And.intro ho hn)
        rw [h2] at hcp
        clear ho hn
        go_wp2_with fail
        go_quiet (fail)
        rename_i nq
        have HI2 := Lib.hid (HI.out.drewN nq)
        go_wp2_with (first
          | (refine wpl_append_owns (u := .int .i64 (-1)) 22 3 rfl (.tmp 34) (.tmp 36) rfl Tryd.underlying22 info_int rfl (HI2.out.push1 (u := .int .i64 (-1)) (e := 3)) 0 rfl rfl rfl (cell_of_row _ _ 0 _ _ (0, 0) (heap_new _ _)) rfl hk12 (by decide) ?_; intro g1 d1 w3 hO3 _; have HO3 := Lib.hid hO3; clear hO3)
          | (refine wpl_append_owns (u := .int .i64 (z)) 22 3 rfl (.tmp 38) (.tmp 40) rfl Tryd.underlying22 info_int rfl (HO3.out.push1 (u := .int .i64 (z)) (e := 3)) 1 rfl rfl rfl (cell_of_row _ _ 0 _ _ (0, 0) (heap_new _ _)) rfl hk12 (by decide) ?_; intro g2 d2 w4 hO4 _; have HO4 := Lib.hid hO4; clear hO4))
        clear hcp hcf hct a9 a10 hki hksi hkdi
        go_roundw
        case rel => exact ⟨k + 1, _, d1, _, d2, by omega, by go_num, rfl, rfl, Lib.hid (by rw [HST.out.1, HST.out.2, List.map_append, List.map_append]; exact HO4.out.sublist (List.sublist_append_left [_, _] _))⟩
        case measure => simp [intOf]; omega
      · by_cases h0 : p = 0
        · rw [if_neg h2] at ho
          rw [if_pos h0] at hn
          have HST := Lib.hid (And.intro ho hn)
          rw [h0] at hcp
          clear ho hn
          go_wp2_with fail
          go_quiet (fail)
          rename_i nq
          have HI2 := Lib.hid (HI.out.drewN nq)
          go_wp2_with (first
            | (refine wpl_append_owns (u := .int .i64 (y)) 22 3 rfl (.tmp 34) (.tmp 36) rfl Tryd.underlying22 info_int rfl (HI2.out.push1 (u := .int .i64 (y)) (e := 3)) 0 rfl rfl rfl (cell_of_row _ _ 0 _ _ (0, 0) (heap_new _ _)) rfl hk12 (by decide) ?_; intro g1 d1 w3 hO3 _; have HO3 := Lib.hid hO3; clear hO3)
            | (refine wpl_append_owns (u := .int .i64 (-1)) 22 3 rfl (.tmp 38) (.tmp 40) rfl Tryd.underlying22 info_int rfl (HO3.out.push1 (u := .int .i64 (-1)) (e := 3)) 1 rfl rfl rfl (cell_of_row _ _ 0 _ _ (0, 0) (heap_new _ _)) rfl hk12 (by decide) ?_; intro g2 d2 w4 hO4 _; have HO4 := Lib.hid hO4; clear hO4))
          clear hcp hcf hct a9 a10 hki hksi hkdi
          go_roundw
          case rel => exact ⟨k + 1, _, d1, _, d2, by omega, by go_num, rfl, rfl, Lib.hid (by rw [HST.out.1, HST.out.2, List.map_append, List.map_append]; exact HO4.out.sublist (List.sublist_append_left [_, _] _))⟩
          case measure => simp [intOf]; omega
        · rw [if_neg h2] at ho
          rw [if_neg h0] at hn
          have HST := Lib.hid (And.intro ho hn)
          have e2 : (p == 2) = false := by rw [beq_eq_false_iff_ne]; exact h2
          have e0 : (p == 0) = false := by rw [beq_eq_false_iff_ne]; exact h0
          clear ho hn h2 h0
          go_wp2_with fail
          go_quiet (fail)
          rename_i nq
          have HI2 := Lib.hid (HI.out.drewN nq)
          go_wp2_with (first
            | (refine wpl_append_owns (u := .int .i64 (y)) 22 3 rfl (.tmp 34) (.tmp 36) rfl Tryd.underlying22 info_int rfl (HI2.out.push1 (u := .int .i64 (y)) (e := 3)) 0 rfl rfl rfl (cell_of_row _ _ 0 _ _ (0, 0) (heap_new _ _)) rfl hk12 (by decide) ?_; intro g1 d1 w3 hO3 _; have HO3 := Lib.hid hO3; clear hO3)
            | (refine wpl_append_owns (u := .int .i64 (z)) 22 3 rfl (.tmp 38) (.tmp 40) rfl Tryd.underlying22 info_int rfl (HO3.out.push1 (u := .int .i64 (z)) (e := 3)) 1 rfl rfl rfl (cell_of_row _ _ 0 _ _ (0, 0) (heap_new _ _)) rfl hk12 (by decide) ?_; intro g2 d2 w4 hO4 _; have HO4 := Lib.hid hO4; clear hO4))
          clear hcp hcf hct a9 a10 hki hksi hkdi
          go_roundw
          case rel => exact ⟨k + 1, _, d1, _, d2, by omega, by go_num, rfl, rfl, Lib.hid (by rw [HST.out.1, HST.out.2, List.map_append, List.map_append]; exact HO4.out.sublist (List.sublist_append_left [_, _] _))⟩
          case measure => simp [intOf]; omega
    · obtain rfl : ph.length = k := by omega
      have hsrc := fun x hx => HOK.out.src x hx
      have hxr := HI.out.ext
      have hOl := Mv.oldTo_len s ph ph.length
      have hNl := Mv.newTo_len s ph ph.length
      have hb64 := HOK.out.disks
      have hO : Rs RI wr (.slice A1 ph.length c1) (Mv.oldTo s ph ph.length) := Rs.small (HI.out.rd 0 rfl) hOl.symm (by rw [hOl]; omega) (fun x hx => by
        obtain ⟨j, hj, rfl⟩ := List.getElem_of_mem hx
        rw [hOl] at hj
        have h1 := Mv.oldTo_get s ph _ hj
        rw [getD_get (by rw [hOl]; exact hj)] at h1
        rw [h1]
        have hjs : j < s.src.length := by have := HPL.out; omega
        have := HOK.out.src _ (List.getElem_mem hjs)
        rw [getD_get hjs]
        split <;> omega)
      have hN : Rs RI wr (.slice A2 ph.length c2) (Mv.newTo s ph ph.length) := Rs.small (HI.out.rd 1 rfl) hNl.symm (by rw [hNl]; omega) (fun x hx => by
        obtain ⟨j, hj, rfl⟩ := List.getElem_of_mem hx
        rw [hNl] at hj
        have h1 := Mv.newTo_get s ph _ hj
        rw [getD_get (by rw [hNl]; exact hj)] at h1
        rw [h1]
        have hjs : j < s.dst.length := by have := HPL.out; have := HOK.out.dstLen; omega
        have := HOK.out.dst _ (List.getElem_mem hjs)
        rw [getD_get hjs]
        split <;> omega)
      have hor := Mv.dom_or (rs := rs) HRT.out
      have hl1 := Mv.domTo_lt s (Mv.oldTo s ph ph.length) rs ph.length
      have hl2 := Mv.domTo_lt s (Mv.newTo s ph ph.length) rs ph.length
      obtain ⟨O, hOe⟩ : ∃ O, Mv.oldTo s ph ph.length = O := ⟨_, rfl⟩
      obtain ⟨N, hNe⟩ : ∃ N, Mv.newTo s ph ph.length = N := ⟨_, rfl⟩
      rw [hOe] at hO hor hl1 hOl
      rw [hNe] at hN hor hl2 hNl
      obtain ⟨X, hX⟩ : ∃ X, Mv.domTo s O rs ph.length = X := ⟨_, rfl⟩
      obtain ⟨Y, hY⟩ : ∃ Y, Mv.domTo s N rs ph.length = Y := ⟨_, rfl⟩
      rw [hX] at hor hl1
      rw [hY] at hor hl2
      have hp63 : 2 ^ ph.length ≤ 2 ^ 24 := Nat.pow_le_pow_right (by decide) hp24
      have HOR : Hid (bits .or .i64 (X : Int) (Y : Int) = ((X ||| Y : Nat) : Int)) := Lib.hid (or64 X Y (by omega) (by omega))
      have HE := Lib.hid hor
      have HX : Hid (Mv.domTo s O rs O.length = X) := Lib.hid (by rw [hOl]; exact hX)
      have HY : Hid (Mv.domTo s N rs N.length = Y) := Lib.hid (by rw [hNl]; exact hY)
      have HB2 := HB.out.ext hxr
      have HS2 := Lib.hid (HS.out.ext hxr)
      have HQ2 := Lib.hid (Rs.ext RI.ext _ _ _ _ hxr HQ.out)
      have hth := th_or wr w.heap.size s O N rs DA KA HA GA RA FA TA A1 A2 QA cD cK cH cG cR cF cT c1 c2 cQ HOK.out (by omega) (by omega) HB2 HS2
      rw [hOl, hNl] at hth
      have HTH := Lib.hid (hth (Lib.hid hO) (Lib.hid hN) HQ2 X Y (Lib.hid hX) (Lib.hid hY) HOR)
      have HXR := Lib.hid hxr
      clear hth hO hN hor hl1 hl2 hOe hNe hX hY hp63 HB2 hOl hNl hsrc hxr
      go_wp2_with fail
      refine wp_atEnd' (HTH.out _ _ _ _ _ _ _ _ _ _ _ _ _ _ _ _ _ _ _ _ _ _ _ _ _ _ _ _ _ _ _ _ _ _ _ _ _ _ _ _ _ _ _ _ _ _ _ _ _ _ _ _ ?_)
      intro u43 u44 u45 u46 u47 u48 u49 u50 u51 u52 u53 w5 hx5
      have HX5 := Lib.hid (HXR.out.trans hx5)
      clear hx5 HTH
      go_wp2_with fail
      go_ret
      exact ⟨ret_int (by rw [← HE.out]), HX0.out.trans HX5.out⟩
end Go.Proofs.YtkbiffbmjgmcaaaDoor

/- THE FLOOR IS KEPT: plain laws, and the drawn regions of the statement. -/
namespace Mv
theorem come_succ (s : Sh) (ph : List Int) (d : Int) (k : Nat) : come s ph d (k + 1) = come s ph d k + if 0 < ph.getD k 0 ∧ s.dst.getD k 0 = d then 1 else 0 := by
  rw [come]; split <;> rfl
theorem gone_succ (s : Sh) (ph : List Int) (d : Int) (k : Nat) : gone s ph d (k + 1) = gone s ph d k + if ph.getD k 0 = 2 ∧ s.src.getD k 0 = d then 1 else 0 := by
  rw [gone]; split <;> rfl
/-- The room behind the first k pieces of some phases. -/
def rmL (s : Sh) (ph : List Int) (k : Nat) : List Int := (List.range s.room.length).map fun d => s.room.getD d 0 + gone s ph (d : Nat) k - come s ph (d : Nat) k
theorem rmL_len (s : Sh) (ph : List Int) (k : Nat) : (rmL s ph k).length = s.room.length := by simp [rmL]
theorem rmL_at {s : Sh} {ph : List Int} {k d : Nat} (h : d < s.room.length) : (rmL s ph k)[d]? = some (s.room.getD d 0 + gone s ph (d : Nat) k - come s ph (d : Nat) k) := by
  unfold rmL
  rw [List.getElem?_map, List.getElem?_range h]; rfl
theorem rmL_get {s : Sh} {ph : List Int} {k d : Nat} (h : d < s.room.length) : (rmL s ph k).getD d 0 = s.room.getD d 0 + gone s ph (d : Nat) k - come s ph (d : Nat) k := by
  rw [List.getD_eq_getElem?_getD, rmL_at h]; rfl
theorem rmL_zero (s : Sh) (ph : List Int) : rmL s ph 0 = s.room := by
  apply List.ext_getElem?
  intro d
  by_cases h : d < s.room.length
  · rw [rmL_at h, gone_zero, come_zero, List.getD_eq_getElem?_getD, List.getElem?_eq_getElem h]
    simp
  · rw [List.getElem?_eq_none (by rw [rmL_len]; omega), List.getElem?_eq_none (by omega)]
theorem rm_ext {s : Sh} {a b : List Int} (ha : a.length = s.room.length) (hb : b.length = s.room.length) (h : ∀ d, d < s.room.length → a.getD d 0 = b.getD d 0) : a = b :=
  list_ext (ha.trans hb.symm) fun d hd => h d (by omega)
/-- What a piece takes and gives. -/
theorem rm_no {s : Sh} {ph : List Int} {k : Nat} (h : ¬ 0 < ph.getD k 0) : rmL s ph (k + 1) = rmL s ph k := rm_ext (rmL_len _ _ _) (rmL_len _ _ _) fun d hd => by
  rw [rmL_get hd, rmL_get hd, come_succ, gone_succ]
  (repeat' split) <;> omega
theorem rm_one {s : Sh} {ph : List Int} {k t : Nat} (h : 0 < ph.getD k 0) (h2 : ph.getD k 0 ≠ 2) (ht : s.dst.getD k 0 = (t : Int)) (htl : t < s.room.length) : rmL s ph (k + 1) = (rmL s ph k).set t ((rmL s ph k).getD t 0 - 1) := rm_ext (rmL_len _ _ _) (by rw [List.length_set, rmL_len]) fun d hd => by
  rw [rmL_get hd, come_succ, gone_succ, ht]
  by_cases e : t = d
  · subst e
    rw [getD_set_self (by rw [rmL_len]; exact htl), rmL_get hd]
    (repeat' split) <;> omega
  · rw [getD_set_other e, rmL_get hd]
    (repeat' split) <;> omega
theorem rm_two {s : Sh} {ph : List Int} {k t f : Nat} (h2 : ph.getD k 0 = 2) (ht : s.dst.getD k 0 = (t : Int)) (htl : t < s.room.length) (hf : s.src.getD k 0 = (f : Int)) (hfl : f < s.room.length) : rmL s ph (k + 1) = ((rmL s ph k).set t ((rmL s ph k).getD t 0 - 1)).set f (((rmL s ph k).set t ((rmL s ph k).getD t 0 - 1)).getD f 0 + 1) := rm_ext (rmL_len _ _ _) (by rw [List.length_set, List.length_set, rmL_len]) fun d hd => by
  rw [rmL_get hd, come_succ, gone_succ, ht, hf, h2]
  by_cases e : f = d
  · subst e
    rw [getD_set_self (by rw [List.length_set, rmL_len]; exact hfl)]
    by_cases e2 : t = f
    · subst e2
      rw [getD_set_self (by rw [rmL_len]; exact htl), rmL_get hd]
      (repeat' split) <;> omega
    · rw [getD_set_other e2, rmL_get hd]
      (repeat' split) <;> omega
  · rw [getD_set_other e]
    by_cases e2 : t = d
    · subst e2
      rw [getD_set_self (by rw [rmL_len]; exact htl), rmL_get hd]
      (repeat' split) <;> omega
    · rw [getD_set_other e2, rmL_get hd]
      (repeat' split) <;> omega
theorem come_step {s : Sh} {now : List Int} {k : Nat} (hk : k < now.length) (h0 : 0 ≤ now.getD k 0) (d : Int) : ∀ n, come s (step now k) d n = come s now d n + if k < n ∧ now.getD k 0 = 0 ∧ s.dst.getD k 0 = d then 1 else 0
  | 0 => by rw [come_zero, come_zero, if_neg (fun e => absurd e.1 (Nat.not_lt_zero _))]
  | n + 1 => by
    have ih := come_step (s := s) hk h0 d n
    rw [come_succ, come_succ, ih]
    by_cases e : k = n
    · subst e
      rw [step_self hk]
      (repeat' split) <;> omega
    · rw [step_other e]
      (repeat' split) <;> omega
theorem gone_step {s : Sh} {now : List Int} {k : Nat} (hk : k < now.length) (h1 : now.getD k 0 ≤ 1) (d : Int) : ∀ n, gone s (step now k) d n = gone s now d n + if k < n ∧ now.getD k 0 = 1 ∧ s.src.getD k 0 = d then 1 else 0
  | 0 => by rw [gone_zero, gone_zero, if_neg (fun e => absurd e.1 (Nat.not_lt_zero _))]
  | n + 1 => by
    have ih := gone_step (s := s) hk h1 d n
    rw [gone_succ, gone_succ, ih]
    by_cases e : k = n
    · subst e
      rw [step_self hk]
      (repeat' split) <;> omega
    · rw [step_other e]
      (repeat' split) <;> omega
/-- A copy comes: its disk has less room. -/
theorem rm_come {s : Sh} {now : List Int} {k t n : Nat} (hk : k < now.length) (hn : k < n) (h0 : now.getD k 0 = 0) (ht : s.dst.getD k 0 = (t : Int)) (htl : t < s.room.length) : rmL s (step now k) n = (rmL s now n).set t ((rmL s now n).getD t 0 - 1) := rm_ext (rmL_len _ _ _) (by rw [List.length_set, rmL_len]) fun d hd => by
  rw [rmL_get hd, come_step hk (by omega), gone_step hk (by omega), ht]
  by_cases e : t = d
  · subst e
    rw [getD_set_self (by rw [rmL_len]; exact htl), rmL_get hd]
    (repeat' split) <;> omega
  · rw [getD_set_other e, rmL_get hd]
    (repeat' split) <;> omega
/-- A piece is dropped: its disk has more room. -/
theorem rm_drop {s : Sh} {now : List Int} {k t n : Nat} (hk : k < now.length) (hn : k < n) (h0 : now.getD k 0 = 1) (ht : s.src.getD k 0 = (t : Int)) (htl : t < s.room.length) : rmL s (step now k) n = (rmL s now n).set t ((rmL s now n).getD t 0 + 1) := rm_ext (rmL_len _ _ _) (by rw [List.length_set, rmL_len]) fun d hd => by
  rw [rmL_get hd, come_step hk (by omega), gone_step hk (by omega), ht]
  by_cases e : t = d
  · subst e
    rw [getD_set_self (by rw [rmL_len]; exact htl), rmL_get hd]
    (repeat' split) <;> omega
  · rw [getD_set_other e, rmL_get hd]
    (repeat' split) <;> omega
theorem rm_bd {s : Sh} (k : Ok s) {ph : List Int} {n : Nat} (hn : n ≤ 24) {d : Nat} (hd : d < s.room.length) : -24 ≤ (rmL s ph n).getD d 0 ∧ (rmL s ph n).getD d 0 ≤ 48 := by
  have h1 := k.room _ (List.getElem_mem hd)
  have h2 := come_le s ph (d : Nat) n
  have h3 := gone_le s ph (d : Nat) n
  have e : s.room.getD d 0 = s.room[d] := by rw [List.getD_eq_getElem?_getD, List.getElem?_eq_getElem hd]; rfl
  rw [rmL_get hd, e]
  omega
theorem rm_pos {s : Sh} (k : Ok s) {ph : List Int} (hl : ph.length = s.src.length) (hf : fits s ph = true) {d : Nat} (hd : d < s.room.length) : 0 ≤ (rmL s ph ph.length).getD d 0 := by
  have := (fits_iff (idx_src k hl) (idx_dst k hl)).1 hf d hd
  rw [rmL_get hd]
  omega
/-- Of some numbers those that are in a list: not more than it has. -/
theorem filter_in (R : Nat) : ∀ rs : List Int, ((List.range R).filter fun x : Nat => decide ((x : Int) ∈ rs)).length ≤ rs.length
  | [] => by simp
  | a :: rs => by
    have ih := filter_in R rs
    have h1 : ∀ l : List Nat, l.Nodup → (l.filter fun x : Nat => decide ((x : Int) ∈ a :: rs)).length ≤ (l.filter fun x : Nat => decide ((x : Int) ∈ rs)).length + (l.filter fun x : Nat => decide ((x : Int) = a)).length := by
      intro l _
      induction l with
      | nil => simp
      | cons y l ihl =>
        have ihl' := ihl (by rename_i h; exact (List.nodup_cons.1 h).2)
        rw [List.filter_cons, List.filter_cons, List.filter_cons]
        by_cases hy : (y : Int) = a
        · have m1 : decide ((y : Int) ∈ a :: rs) = true := decide_eq_true (by rw [hy]; exact List.mem_cons_self)
          rw [m1, decide_eq_true hy]
          by_cases h2 : (y : Int) ∈ rs
          · rw [decide_eq_true h2]; simp only [↓reduceIte, List.length_cons]; omega
          · rw [decide_eq_false h2]; simp only [↓reduceIte, Bool.false_eq_true, List.length_cons]; omega
        · by_cases h2 : (y : Int) ∈ rs
          · have m1 : decide ((y : Int) ∈ a :: rs) = true := decide_eq_true (List.mem_cons_of_mem _ h2)
            rw [m1, decide_eq_true h2, decide_eq_false hy]; simp only [↓reduceIte, Bool.false_eq_true, List.length_cons]; omega
          · have m1 : decide ((y : Int) ∈ a :: rs) = false := decide_eq_false (fun e => by
              rcases List.mem_cons.1 e with e | e
              · exact hy e
              · exact h2 e)
            rw [m1, decide_eq_false h2, decide_eq_false hy]; simp only [↓reduceIte, Bool.false_eq_true]; omega
    have h2 : ((List.range R).filter fun x : Nat => decide ((x : Int) = a)).length ≤ 1 := by
      refine nodup_one _ a.toNat (List.nodup_range.filter _) fun x hx => ?_
      have := of_decide_eq_true (List.mem_filter.1 hx).2
      omega
    have := h1 (List.range R) List.nodup_range
    rw [List.length_cons]
    omega
/-- FEWER RACKS THAN THE FLOOR: what is left can be recovered. -/
theorem can_left {s : Sh} {ph rs : List Int} (hr : right s ph = true) (hs : safe (fun m => Cd.can s.d s.gl s.gs m) s ph = true) (h : (rs.length : Int) < s.floor) : Cd.can s.d s.gl s.gs (leftL s ph rs : Nat) = true := by
  have k := ok_of (right_iff.1 hr).1
  have hl := (right_iff.1 hr).2.1
  have h1 := safe_any hs (T := (List.range s.racks.length).filter fun x : Nat => decide ((x : Int) ∈ rs)) (by have := filter_in s.racks.length rs; omega) (List.pairwise_lt_range.filter _) (fun x hx => List.mem_range.1 (List.mem_filter.1 hx).1) hl
  have e : left s ph (mask ((List.range s.racks.length).filter fun x : Nat => decide ((x : Int) ∈ rs)) 0) = leftL s ph rs := by
    rw [leftL_yes hr]
    refine leftTo_congr _ fun j hj => ?_
    obtain ⟨_, b1⟩ := ofRack_rack k k.src (k := j) (by omega)
    obtain ⟨_, b2⟩ := ofRack_rack k k.dst (k := j) (by rw [k.dstLen]; omega)
    rw [failed_bit b1, failed_bit b2, mask_bit, mask_bit]
    simp only [List.mem_filter, List.mem_range, b1, b2, true_and, decide_eq_true_eq, Nat.zero_testBit, Bool.false_or, and_self]
  rw [e] at h1
  exact h1
end Mv
namespace Go.Proofs.YtkbiffbmjgmcaaaDoor
open Go.RowKit
theorem cRec_at (d gl m : Int) (gs : List (List Int)) (G : Value) (w : World) (hT : Tab w) (hG : Rs (Rs RI) w G gs) (h : Cd.can d gl gs m = true) :
    Calls Tryd.prog 21 #[.agg #[.int .i64 d, G, .int .i64 gl], .int .i64 m] w fun e w' => e = .returned (.bool true) ∧ Ext w w' := by
  rw [← h]
  exact cRec_any d gl m gs G w hT hG
noncomputable def kp_can_code : Code := ((Tryd.f7.body.bind (regionOf 20)).getD .skip)
def kp_can_dsts : List (Option Nat) := [some 91, some 92, some 93, some 94, some 95, some 96, some 97, some 98]
theorem kp_can_apart : apartD kp_can_dsts = true := by decide +kernel
set_option maxRecDepth 1000000 in
set_option maxHeartbeats 16000000 in
theorem kp_can (wr : World) (B gN n cN : Nat) (s : Mv.Sh) (now rs : List Int) (DA KA HA GA RA FA TA QA : Option Addr) (cD cK cH cG cR cF cT cQ : Nat) (hrt : Mv.right s now = true) (HT : Hid (Tab wr)) (hB : BoxAt wr B s DA KA HA GA RA FA TA cD cK cH cG cR cF cT) (HS : Hid (ShAt wr s DA KA HA GA RA FA TA cD cK cH cG cR cF cT)) (HP : Hid (Rs RI wr (.slice (some ⟨gN, 0, none⟩) n cN) now)) (HR : Hid (Rs RI wr (.slice QA rs.length cQ) rs)) (HC : Hid (Cd.can s.d s.gl s.gs (Mv.leftL s now rs : Nat) = true)) (c0 c1 c4 c5 c6 c7 c8 c9 c11 c12 c13 c14 c15 c16 c17 c18 c19 c20 c21 c22 c23 c24 c25 c26 c27 c28 c29 c30 c31 c32 c33 c34 c35 c36 c37 c38 c39 c40 c41 c42 c43 c44 c45 c46 c47 c48 c49 c50 c51 c52 c53 c54 c55 c56 c57 c58 c59 c60 c61 c62 c63 c64 c65 c66 c67 c68 c69 c70 c71 c72 c73 c74 c75 c76 c77 c78 c79 c80 c81 c82 c83 c84 c85 c86 c87 c88 c89 c90 c91 c92 c93 c94 c95 c96 c97 c98 c99 c100 c101 c102 c103 c104 c105 c106 c107 c108 c109 c110 c111 c112 c113 c114 c115 c116 c117 c118 c119 c120 c121 c122 c123 c124 c125 c126 c127 c128 c129 c130 c131 c132 c133 c134 c135 c136 c137 c138 c139 c140 c141 c142 c143 c144 c145 c146 c147 c148 c149 c150 c151 c152 c153 c154 c155 c156 c157 c158 c159 c160 c161 c162 c163 c164 c165 c166 c167 c168 c169 c170 c171 c172 c173 c174 c175 c176 c177 c178 c179 c180 c181 c182 c183 c184 c185 c186 c187 c188 c189 c190 c191 c192 c193 c194 c195 c196 c197 : Value) (df : List Deferred) (K : Act → World → Prop)
    (hK : ∀  (u91 u92 u93 u94 u95 u96 u97 : Value) (wx : World), Ext wr wx → K ⟨#[c0, c1, .slice QA rs.length cQ, .pointer (some ⟨B, 0, none⟩), c4, c5, c6, c7, c8, c9, .slice (some ⟨gN, 0, none⟩) n cN, c11, c12, c13, c14, c15, c16, c17, c18, c19, c20, c21, c22, c23, c24, c25, c26, c27, c28, c29, c30, c31, c32, c33, c34, c35, c36, c37, c38, c39, c40, c41, c42, c43, c44, c45, c46, c47, c48, c49, c50, c51, c52, c53, c54, c55, c56, c57, c58, c59, c60, c61, c62, c63, c64, c65, c66, c67, c68, c69, c70, c71, c72, c73, c74, c75, c76, c77, c78, c79, c80, c81, c82, c83, c84, c85, c86, c87, c88, c89, c90, u91, u92, u93, u94, u95, u96, u97, .bool false, c99, c100, c101, c102, c103, c104, c105, c106, c107, c108, c109, c110, c111, c112, c113, c114, c115, c116, c117, c118, c119, c120, c121, c122, c123, c124, c125, c126, c127, c128, c129, c130, c131, c132, c133, c134, c135, c136, c137, c138, c139, c140, c141, c142, c143, c144, c145, c146, c147, c148, c149, c150, c151, c152, c153, c154, c155, c156, c157, c158, c159, c160, c161, c162, c163, c164, c165, c166, c167, c168, c169, c170, c171, c172, c173, c174, c175, c176, c177, c178, c179, c180, c181, c182, c183, c184, c185, c186, c187, c188, c189, c190, c191, c192, c193, c194, c195, c196, c197], df⟩ wx) :
    Code.wp Tryd.prog kp_can_code (AtEnd K) ⟨#[c0, c1, .slice QA rs.length cQ, .pointer (some ⟨B, 0, none⟩), c4, c5, c6, c7, c8, c9, .slice (some ⟨gN, 0, none⟩) n cN, c11, c12, c13, c14, c15, c16, c17, c18, c19, c20, c21, c22, c23, c24, c25, c26, c27, c28, c29, c30, c31, c32, c33, c34, c35, c36, c37, c38, c39, c40, c41, c42, c43, c44, c45, c46, c47, c48, c49, c50, c51, c52, c53, c54, c55, c56, c57, c58, c59, c60, c61, c62, c63, c64, c65, c66, c67, c68, c69, c70, c71, c72, c73, c74, c75, c76, c77, c78, c79, c80, c81, c82, c83, c84, c85, c86, c87, c88, c89, c90, c91, c92, c93, c94, c95, c96, c97, c98, c99, c100, c101, c102, c103, c104, c105, c106, c107, c108, c109, c110, c111, c112, c113, c114, c115, c116, c117, c118, c119, c120, c121, c122, c123, c124, c125, c126, c127, c128, c129, c130, c131, c132, c133, c134, c135, c136, c137, c138, c139, c140, c141, c142, c143, c144, c145, c146, c147, c148, c149, c150, c151, c152, c153, c154, c155, c156, c157, c158, c159, c160, c161, c162, c163, c164, c165, c166, c167, c168, c169, c170, c171, c172, c173, c174, c175, c176, c177, c178, c179, c180, c181, c182, c183, c184, c185, c186, c187, c188, c189, c190, c191, c192, c193, c194, c195, c196, c197], df⟩ wr := by
  conv => arg 2; whnf
  refine region_inv (by kernel_rfl) [[], [0], [], [], [], [2, 3, 4], [1, 5, 5], [6]] (by kernel_rfl) [0, 1, 2, 3, 4, 5, 6, 7] (by decide +kernel) (by decide +kernel) (by decide +kernel) (fun L a wc => Inv kp_can_dsts [.pointer (some ⟨B, 4, none⟩), .agg #[.int .i64 s.d, .slice GA s.gs.length cG, .int .i64 s.gl], .agg #[.slice DA s.disks.length cD, .slice KA s.racks.length cK, .slice HA s.houses.length cH, .int .i64 s.owners, .int .i64 s.d, .slice GA s.gs.length cG, .int .i64 s.gl, .int .i64 s.floor, .slice RA s.room.length cR, .slice FA s.src.length cF, .slice TA s.dst.length cT], .slice (some ⟨gN, 0, none⟩) n cN, .slice QA rs.length cQ, .int .i64 (Mv.leftL s now rs : Nat), .bool true, .bool false] ⟨#[c0, c1, .slice QA rs.length cQ, .pointer (some ⟨B, 0, none⟩), c4, c5, c6, c7, c8, c9, .slice (some ⟨gN, 0, none⟩) n cN, c11, c12, c13, c14, c15, c16, c17, c18, c19, c20, c21, c22, c23, c24, c25, c26, c27, c28, c29, c30, c31, c32, c33, c34, c35, c36, c37, c38, c39, c40, c41, c42, c43, c44, c45, c46, c47, c48, c49, c50, c51, c52, c53, c54, c55, c56, c57, c58, c59, c60, c61, c62, c63, c64, c65, c66, c67, c68, c69, c70, c71, c72, c73, c74, c75, c76, c77, c78, c79, c80, c81, c82, c83, c84, c85, c86, c87, c88, c89, c90, c91, c92, c93, c94, c95, c96, c97, c98, c99, c100, c101, c102, c103, c104, c105, c106, c107, c108, c109, c110, c111, c112, c113, c114, c115, c116, c117, c118, c119, c120, c121, c122, c123, c124, c125, c126, c127, c128, c129, c130, c131, c132, c133, c134, c135, c136, c137, c138, c139, c140, c141, c142, c143, c144, c145, c146, c147, c148, c149, c150, c151, c152, c153, c154, c155, c156, c157, c158, c159, c160, c161, c162, c163, c164, c165, c166, c167, c168, c169, c170, c171, c172, c173, c174, c175, c176, c177, c178, c179, c180, c181, c182, c183, c184, c185, c186, c187, c188, c189, c190, c191, c192, c193, c194, c195, c196, c197], df⟩ L a ∧ Hid (Ext wr wc)) ⟨Inv.start, Lib.hid ((Ext.refl wr).drew)⟩ ?_ ?_
  · refine ⟨?_, ?_, ?_, ?_, ?_, ?_, ?_, ?_, trivial⟩
    · -- 0 field
      rintro L a wc ⟨hv, HO⟩ hL hc hd
      exact wpOp_val rfl rfl (ex_field rfl ((hv.fixed 3 (by decide)).trans rfl) (by go_simp)) ⟨hv.put kp_can_apart 0 rfl (Nat.le_of_ble_eq_true rfl) (Nat.le_of_ble_eq_true rfl) rfl, HO⟩
    · -- 1 load
      rintro L a wc ⟨hv, HO⟩ hL hc hd
      have h0 : wc.cell? ⟨B, 4, none⟩ = some (.int .i64 s.d) := HO.out.cell hB.b4
      have h1 : wc.cell? ⟨B, 5, none⟩ = some (.slice GA s.gs.length cG) := HO.out.cell hB.b5
      have h2 : wc.cell? ⟨B, 6, none⟩ = some (.int .i64 s.gl) := HO.out.cell hB.b6
      exact wpOp_val rfl rfl (ex_load rfl (hv.get 0 rfl rfl (hd 0 (by decide))) (by go_simp)) ⟨hv.put kp_can_apart 1 rfl (Nat.le_of_ble_eq_true rfl) (Nat.le_of_ble_eq_true rfl) rfl, HO⟩
    · -- 2 load
      rintro L a wc ⟨hv, HO⟩ hL hc hd
      have h0 : wc.cell? ⟨B, 0, none⟩ = some (.slice DA s.disks.length cD) := HO.out.cell hB.b0
      have h1 : wc.cell? ⟨B, 1, none⟩ = some (.slice KA s.racks.length cK) := HO.out.cell hB.b1
      have h2 : wc.cell? ⟨B, 2, none⟩ = some (.slice HA s.houses.length cH) := HO.out.cell hB.b2
      have h3 : wc.cell? ⟨B, 3, none⟩ = some (.int .i64 s.owners) := HO.out.cell hB.b3
      have h4 : wc.cell? ⟨B, 4, none⟩ = some (.int .i64 s.d) := HO.out.cell hB.b4
      have h5 : wc.cell? ⟨B, 5, none⟩ = some (.slice GA s.gs.length cG) := HO.out.cell hB.b5
      have h6 : wc.cell? ⟨B, 6, none⟩ = some (.int .i64 s.gl) := HO.out.cell hB.b6
      have h7 : wc.cell? ⟨B, 7, none⟩ = some (.int .i64 s.floor) := HO.out.cell hB.b7
      have h8 : wc.cell? ⟨B, 8, none⟩ = some (.slice RA s.room.length cR) := HO.out.cell hB.b8
      have h9 : wc.cell? ⟨B, 9, none⟩ = some (.slice FA s.src.length cF) := HO.out.cell hB.b9
      have h10 : wc.cell? ⟨B, 10, none⟩ = some (.slice TA s.dst.length cT) := HO.out.cell hB.b10
      exact wpOp_val rfl rfl (ex_load rfl ((hv.fixed 3 (by decide)).trans rfl) (by go_simp)) ⟨hv.put kp_can_apart 2 rfl (Nat.le_of_ble_eq_true rfl) (Nat.le_of_ble_eq_true rfl) rfl, HO⟩
    · -- 3 move
      rintro L a wc ⟨hv, HO⟩ hL hc hd
      exact wpOp_val rfl rfl (ex_move rfl ((hv.fixed 10 (by decide)).trans rfl)) ⟨hv.put kp_can_apart 3 rfl (Nat.le_of_ble_eq_true rfl) (Nat.le_of_ble_eq_true rfl) rfl, HO⟩
    · -- 4 move
      rintro L a wc ⟨hv, HO⟩ hL hc hd
      exact wpOp_val rfl rfl (ex_move rfl ((hv.fixed 2 (by decide)).trans rfl)) ⟨hv.put kp_can_apart 4 rfl (Nat.le_of_ble_eq_true rfl) (Nat.le_of_ble_eq_true rfl) rfl, HO⟩
    · -- 5 call
      rintro L a wc ⟨hv, HO⟩ hL hc hd
      refine wpOp_call (R := fun v w1 => v = .int .i64 (Mv.leftL s now rs : Nat) ∧ Ext wc w1) rfl rfl (ex_call rfl rfl (map3c (hv.get 2 rfl rfl (hd 2 (by decide))) (hv.get 3 rfl rfl (hd 3 (by decide))) (hv.get 4 rfl rfl (hd 4 (by decide)))) (enters_of Tryd.func22 (by kernel_rfl) rfl _ _)) ((there_any s now rs hrt _ _ _ wc (HS.out.ext HO.out).sh (Rs.ext RI.ext _ _ _ _ HO.out HP.out) (Rs.ext RI.ext _ _ _ _ HO.out HR.out)).mono (fun e w' h => ⟨_, h.1, rfl, h.2⟩)) ?_
      rintro v w' ⟨rfl, hx⟩
      exact ⟨hv.put kp_can_apart 5 rfl (Nat.le_of_ble_eq_true rfl) (Nat.le_of_ble_eq_true rfl) rfl, Lib.hid (HO.out.trans hx)⟩
    · -- 6 call
      rintro L a wc ⟨hv, HO⟩ hL hc hd
      refine wpOp_call (R := fun v w1 => v = .bool true ∧ Ext wc w1) rfl rfl (ex_call rfl rfl (map2c (hv.get 1 rfl rfl (hd 1 (by decide))) (hv.get 5 rfl rfl (hd 5 (by decide)))) (enters_of Tryd.func21 (by kernel_rfl) rfl _ _)) ((cRec_at s.d s.gl (Mv.leftL s now rs : Nat) s.gs _ wc (HT.out.ext HO.out) (HS.out.ext HO.out).gs HC.out).mono (fun e w' h => ⟨_, h.1, rfl, h.2⟩)) ?_
      rintro v w' ⟨rfl, hx⟩
      exact ⟨hv.put kp_can_apart 6 rfl (Nat.le_of_ble_eq_true rfl) (Nat.le_of_ble_eq_true rfl) rfl, Lib.hid (HO.out.trans hx)⟩
    · -- 7 un
      rintro L a wc ⟨hv, HO⟩ hL hc hd
      exact wpOp_val rfl rfl (ex_un rfl (hv.get 6 rfl rfl (hd 6 (by decide))) (by go_simp)) ⟨hv.put kp_can_apart 7 rfl (Nat.le_of_ble_eq_true rfl) (Nat.le_of_ble_eq_true rfl) rfl, HO⟩
  · rintro L a wc ⟨hv, HO⟩ hall
    show K a wc
    have ha := act_lit a
    rw [hv.size, hv.defers] at ha
    have hl : ∀ f : Nat → Value, ((List.range (⟨#[c0, c1, .slice QA rs.length cQ, .pointer (some ⟨B, 0, none⟩), c4, c5, c6, c7, c8, c9, .slice (some ⟨gN, 0, none⟩) n cN, c11, c12, c13, c14, c15, c16, c17, c18, c19, c20, c21, c22, c23, c24, c25, c26, c27, c28, c29, c30, c31, c32, c33, c34, c35, c36, c37, c38, c39, c40, c41, c42, c43, c44, c45, c46, c47, c48, c49, c50, c51, c52, c53, c54, c55, c56, c57, c58, c59, c60, c61, c62, c63, c64, c65, c66, c67, c68, c69, c70, c71, c72, c73, c74, c75, c76, c77, c78, c79, c80, c81, c82, c83, c84, c85, c86, c87, c88, c89, c90, c91, c92, c93, c94, c95, c96, c97, c98, c99, c100, c101, c102, c103, c104, c105, c106, c107, c108, c109, c110, c111, c112, c113, c114, c115, c116, c117, c118, c119, c120, c121, c122, c123, c124, c125, c126, c127, c128, c129, c130, c131, c132, c133, c134, c135, c136, c137, c138, c139, c140, c141, c142, c143, c144, c145, c146, c147, c148, c149, c150, c151, c152, c153, c154, c155, c156, c157, c158, c159, c160, c161, c162, c163, c164, c165, c166, c167, c168, c169, c170, c171, c172, c173, c174, c175, c176, c177, c178, c179, c180, c181, c182, c183, c184, c185, c186, c187, c188, c189, c190, c191, c192, c193, c194, c195, c196, c197], df⟩ : Act).tmps.size).map f).toArray = #[f 0, f 1, f 2, f 3, f 4, f 5, f 6, f 7, f 8, f 9, f 10, f 11, f 12, f 13, f 14, f 15, f 16, f 17, f 18, f 19, f 20, f 21, f 22, f 23, f 24, f 25, f 26, f 27, f 28, f 29, f 30, f 31, f 32, f 33, f 34, f 35, f 36, f 37, f 38, f 39, f 40, f 41, f 42, f 43, f 44, f 45, f 46, f 47, f 48, f 49, f 50, f 51, f 52, f 53, f 54, f 55, f 56, f 57, f 58, f 59, f 60, f 61, f 62, f 63, f 64, f 65, f 66, f 67, f 68, f 69, f 70, f 71, f 72, f 73, f 74, f 75, f 76, f 77, f 78, f 79, f 80, f 81, f 82, f 83, f 84, f 85, f 86, f 87, f 88, f 89, f 90, f 91, f 92, f 93, f 94, f 95, f 96, f 97, f 98, f 99, f 100, f 101, f 102, f 103, f 104, f 105, f 106, f 107, f 108, f 109, f 110, f 111, f 112, f 113, f 114, f 115, f 116, f 117, f 118, f 119, f 120, f 121, f 122, f 123, f 124, f 125, f 126, f 127, f 128, f 129, f 130, f 131, f 132, f 133, f 134, f 135, f 136, f 137, f 138, f 139, f 140, f 141, f 142, f 143, f 144, f 145, f 146, f 147, f 148, f 149, f 150, f 151, f 152, f 153, f 154, f 155, f 156, f 157, f 158, f 159, f 160, f 161, f 162, f 163, f 164, f 165, f 166, f 167, f 168, f 169, f 170, f 171, f 172, f 173, f 174, f 175, f 176, f 177, f 178, f 179, f 180, f 181, f 182, f 183, f 184, f 185, f 186, f 187, f 188, f 189, f 190, f 191, f 192, f 193, f 194, f 195, f 196, f 197] := fun _ => rfl
    rw [hl] at ha
    simp only [hv.fixed 0 (by decide), hv.fixed 1 (by decide), hv.fixed 2 (by decide), hv.fixed 3 (by decide), hv.fixed 4 (by decide), hv.fixed 5 (by decide), hv.fixed 6 (by decide), hv.fixed 7 (by decide), hv.fixed 8 (by decide), hv.fixed 9 (by decide), hv.fixed 10 (by decide), hv.fixed 11 (by decide), hv.fixed 12 (by decide), hv.fixed 13 (by decide), hv.fixed 14 (by decide), hv.fixed 15 (by decide), hv.fixed 16 (by decide), hv.fixed 17 (by decide), hv.fixed 18 (by decide), hv.fixed 19 (by decide), hv.fixed 20 (by decide), hv.fixed 21 (by decide), hv.fixed 22 (by decide), hv.fixed 23 (by decide), hv.fixed 24 (by decide), hv.fixed 25 (by decide), hv.fixed 26 (by decide), hv.fixed 27 (by decide), hv.fixed 28 (by decide), hv.fixed 29 (by decide), hv.fixed 30 (by decide), hv.fixed 31 (by decide), hv.fixed 32 (by decide), hv.fixed 33 (by decide), hv.fixed 34 (by decide), hv.fixed 35 (by decide), hv.fixed 36 (by decide), hv.fixed 37 (by decide), hv.fixed 38 (by decide), hv.fixed 39 (by decide), hv.fixed 40 (by decide), hv.fixed 41 (by decide), hv.fixed 42 (by decide), hv.fixed 43 (by decide), hv.fixed 44 (by decide), hv.fixed 45 (by decide), hv.fixed 46 (by decide), hv.fixed 47 (by decide), hv.fixed 48 (by decide), hv.fixed 49 (by decide), hv.fixed 50 (by decide), hv.fixed 51 (by decide), hv.fixed 52 (by decide), hv.fixed 53 (by decide), hv.fixed 54 (by decide), hv.fixed 55 (by decide), hv.fixed 56 (by decide), hv.fixed 57 (by decide), hv.fixed 58 (by decide), hv.fixed 59 (by decide), hv.fixed 60 (by decide), hv.fixed 61 (by decide), hv.fixed 62 (by decide), hv.fixed 63 (by decide), hv.fixed 64 (by decide), hv.fixed 65 (by decide), hv.fixed 66 (by decide), hv.fixed 67 (by decide), hv.fixed 68 (by decide), hv.fixed 69 (by decide), hv.fixed 70 (by decide), hv.fixed 71 (by decide), hv.fixed 72 (by decide), hv.fixed 73 (by decide), hv.fixed 74 (by decide), hv.fixed 75 (by decide), hv.fixed 76 (by decide), hv.fixed 77 (by decide), hv.fixed 78 (by decide), hv.fixed 79 (by decide), hv.fixed 80 (by decide), hv.fixed 81 (by decide), hv.fixed 82 (by decide), hv.fixed 83 (by decide), hv.fixed 84 (by decide), hv.fixed 85 (by decide), hv.fixed 86 (by decide), hv.fixed 87 (by decide), hv.fixed 88 (by decide), hv.fixed 89 (by decide), hv.fixed 90 (by decide), hv.fixed 99 (by decide), hv.fixed 100 (by decide), hv.fixed 101 (by decide), hv.fixed 102 (by decide), hv.fixed 103 (by decide), hv.fixed 104 (by decide), hv.fixed 105 (by decide), hv.fixed 106 (by decide), hv.fixed 107 (by decide), hv.fixed 108 (by decide), hv.fixed 109 (by decide), hv.fixed 110 (by decide), hv.fixed 111 (by decide), hv.fixed 112 (by decide), hv.fixed 113 (by decide), hv.fixed 114 (by decide), hv.fixed 115 (by decide), hv.fixed 116 (by decide), hv.fixed 117 (by decide), hv.fixed 118 (by decide), hv.fixed 119 (by decide), hv.fixed 120 (by decide), hv.fixed 121 (by decide), hv.fixed 122 (by decide), hv.fixed 123 (by decide), hv.fixed 124 (by decide), hv.fixed 125 (by decide), hv.fixed 126 (by decide), hv.fixed 127 (by decide), hv.fixed 128 (by decide), hv.fixed 129 (by decide), hv.fixed 130 (by decide), hv.fixed 131 (by decide), hv.fixed 132 (by decide), hv.fixed 133 (by decide), hv.fixed 134 (by decide), hv.fixed 135 (by decide), hv.fixed 136 (by decide), hv.fixed 137 (by decide), hv.fixed 138 (by decide), hv.fixed 139 (by decide), hv.fixed 140 (by decide), hv.fixed 141 (by decide), hv.fixed 142 (by decide), hv.fixed 143 (by decide), hv.fixed 144 (by decide), hv.fixed 145 (by decide), hv.fixed 146 (by decide), hv.fixed 147 (by decide), hv.fixed 148 (by decide), hv.fixed 149 (by decide), hv.fixed 150 (by decide), hv.fixed 151 (by decide), hv.fixed 152 (by decide), hv.fixed 153 (by decide), hv.fixed 154 (by decide), hv.fixed 155 (by decide), hv.fixed 156 (by decide), hv.fixed 157 (by decide), hv.fixed 158 (by decide), hv.fixed 159 (by decide), hv.fixed 160 (by decide), hv.fixed 161 (by decide), hv.fixed 162 (by decide), hv.fixed 163 (by decide), hv.fixed 164 (by decide), hv.fixed 165 (by decide), hv.fixed 166 (by decide), hv.fixed 167 (by decide), hv.fixed 168 (by decide), hv.fixed 169 (by decide), hv.fixed 170 (by decide), hv.fixed 171 (by decide), hv.fixed 172 (by decide), hv.fixed 173 (by decide), hv.fixed 174 (by decide), hv.fixed 175 (by decide), hv.fixed 176 (by decide), hv.fixed 177 (by decide), hv.fixed 178 (by decide), hv.fixed 179 (by decide), hv.fixed 180 (by decide), hv.fixed 181 (by decide), hv.fixed 182 (by decide), hv.fixed 183 (by decide), hv.fixed 184 (by decide), hv.fixed 185 (by decide), hv.fixed 186 (by decide), hv.fixed 187 (by decide), hv.fixed 188 (by decide), hv.fixed 189 (by decide), hv.fixed 190 (by decide), hv.fixed 191 (by decide), hv.fixed 192 (by decide), hv.fixed 193 (by decide), hv.fixed 194 (by decide), hv.fixed 195 (by decide), hv.fixed 196 (by decide), hv.fixed 197 (by decide), hv.get 7 (d := 98) rfl rfl (hall 7 (by decide))] at ha
    rw [ha]
    exact hK _ _ _ _ _ _ _ wc HO.out
noncomputable def kp_step_code : Code := ((Tryd.f7.body.bind (regionOf 30)).getD .skip)
def kp_step_dsts : List (Option Nat) := [some 116, some 117, some 118, some 119, some 120, some 121, some 122, some 123, some 124, some 125, some 126, some 127, some 128, some 129, some 130, some 131, some 132, some 133, some 134, some 135, some 136, some 137, some 138, some 139, some 140, some 141, some 142, some 143]
theorem kp_step_apart : apartD kp_step_dsts = true := by decide +kernel
set_option maxRecDepth 1000000 in
set_option maxHeartbeats 16000000 in
theorem kp_step (wr : World) (B gN n cN k nf nt cF cT : Nat) (pf pt : Addr) (p y z : Int) (hkn : k < n) (hkf : k < nf) (hkt : k < nt) (hp : p ≤ 1) (HEQ : Hid ((y == z) = false)) (b9 : wr.cell? ⟨B, 9, none⟩ = some (.slice (some pf) nf cF)) (b10 : wr.cell? ⟨B, 10, none⟩ = some (.slice (some pt) nt cT)) (e0 : wr.cell? (pf.add k) = some (.int .i64 y)) (e1 : wr.cell? (pt.add k) = some (.int .i64 z)) (e2 : wr.cell? ⟨gN, k, none⟩ = some (.int .i64 p)) (c0 c1 c2 c4 c5 c6 c7 c8 c9 c11 c12 c13 c14 c15 c16 c18 c19 c20 c21 c22 c23 c24 c25 c26 c27 c28 c29 c30 c31 c32 c33 c34 c35 c36 c37 c38 c39 c40 c41 c42 c43 c44 c45 c46 c47 c48 c49 c50 c51 c52 c53 c54 c55 c56 c57 c58 c59 c60 c61 c62 c63 c64 c65 c66 c67 c68 c69 c70 c71 c72 c73 c74 c75 c76 c77 c78 c79 c80 c81 c82 c83 c84 c85 c86 c87 c88 c89 c90 c91 c92 c93 c94 c95 c96 c97 c98 c99 c100 c101 c102 c103 c104 c105 c106 c107 c108 c109 c110 c111 c112 c113 c114 c115 c116 c117 c118 c119 c120 c121 c122 c123 c124 c125 c126 c127 c128 c129 c130 c131 c132 c133 c134 c135 c136 c137 c138 c139 c140 c141 c142 c143 c144 c145 c146 c147 c148 c149 c150 c151 c152 c153 c154 c155 c156 c157 c158 c159 c160 c161 c162 c163 c164 c165 c166 c167 c168 c169 c170 c171 c172 c173 c174 c175 c176 c177 c178 c179 c180 c181 c182 c183 c184 c185 c186 c187 c188 c189 c190 c191 c192 c193 c194 c195 c196 c197 : Value) (df : List Deferred) (K : Act → World → Prop)
    (hK : ∀  (u116 u117 u118 u119 u120 u121 u122 u123 u124 u125 u126 u127 u128 u129 u130 u131 u132 u133 u134 u135 u136 u137 u138 u139 u140 u141 u142 : Value) (wx : World), Ext wr wx → K ⟨#[c0, c1, c2, .pointer (some ⟨B, 0, none⟩), c4, c5, c6, c7, c8, c9, .slice (some ⟨gN, 0, none⟩) n cN, c11, c12, c13, c14, c15, c16, .int .i64 (k : Nat), c18, c19, c20, c21, c22, c23, c24, c25, c26, c27, c28, c29, c30, c31, c32, c33, c34, c35, c36, c37, c38, c39, c40, c41, c42, c43, c44, c45, c46, c47, c48, c49, c50, c51, c52, c53, c54, c55, c56, c57, c58, c59, c60, c61, c62, c63, c64, c65, c66, c67, c68, c69, c70, c71, c72, c73, c74, c75, c76, c77, c78, c79, c80, c81, c82, c83, c84, c85, c86, c87, c88, c89, c90, c91, c92, c93, c94, c95, c96, c97, c98, c99, c100, c101, c102, c103, c104, c105, c106, c107, c108, c109, c110, c111, c112, c113, c114, c115, u116, u117, u118, u119, u120, u121, u122, u123, u124, u125, u126, u127, u128, u129, u130, u131, u132, u133, u134, u135, u136, u137, u138, u139, u140, u141, u142, .bool false, c144, c145, c146, c147, c148, c149, c150, c151, c152, c153, c154, c155, c156, c157, c158, c159, c160, c161, c162, c163, c164, c165, c166, c167, c168, c169, c170, c171, c172, c173, c174, c175, c176, c177, c178, c179, c180, c181, c182, c183, c184, c185, c186, c187, c188, c189, c190, c191, c192, c193, c194, c195, c196, c197], df⟩ wx) :
    Code.wp Tryd.prog kp_step_code (AtEnd K) ⟨#[c0, c1, c2, .pointer (some ⟨B, 0, none⟩), c4, c5, c6, c7, c8, c9, .slice (some ⟨gN, 0, none⟩) n cN, c11, c12, c13, c14, c15, c16, .int .i64 (k : Nat), c18, c19, c20, c21, c22, c23, c24, c25, c26, c27, c28, c29, c30, c31, c32, c33, c34, c35, c36, c37, c38, c39, c40, c41, c42, c43, c44, c45, c46, c47, c48, c49, c50, c51, c52, c53, c54, c55, c56, c57, c58, c59, c60, c61, c62, c63, c64, c65, c66, c67, c68, c69, c70, c71, c72, c73, c74, c75, c76, c77, c78, c79, c80, c81, c82, c83, c84, c85, c86, c87, c88, c89, c90, c91, c92, c93, c94, c95, c96, c97, c98, c99, c100, c101, c102, c103, c104, c105, c106, c107, c108, c109, c110, c111, c112, c113, c114, c115, c116, c117, c118, c119, c120, c121, c122, c123, c124, c125, c126, c127, c128, c129, c130, c131, c132, c133, c134, c135, c136, c137, c138, c139, c140, c141, c142, c143, c144, c145, c146, c147, c148, c149, c150, c151, c152, c153, c154, c155, c156, c157, c158, c159, c160, c161, c162, c163, c164, c165, c166, c167, c168, c169, c170, c171, c172, c173, c174, c175, c176, c177, c178, c179, c180, c181, c182, c183, c184, c185, c186, c187, c188, c189, c190, c191, c192, c193, c194, c195, c196, c197], df⟩ wr := by
  conv => arg 2; whnf
  refine region_inv (by kernel_rfl) [[], [0], [1], [2], [2], [4, 2], [3, 5, 2], [2, 6], [7, 2], [8], [9, 8], [8], [10, 11, 8], [12, 8], [8], [14, 8], [8], [15, 16, 8], [17, 8], [13, 18, 8], [8, 19], [20, 8], [21], [21], [22, 23, 21], [24, 21], [25, 21], [21, 26]] (by kernel_rfl) [0, 1, 2, 3, 4, 5, 6, 7, 8, 9, 10, 11, 12, 13, 14, 15, 16, 17, 18, 19, 20, 21, 22, 23, 24, 25, 26, 27] (by decide +kernel) (by decide +kernel) (by decide +kernel) (fun L a wc => Inv kp_step_dsts [.int .i64 (k : Nat), .bool false, .bool false, .int .i64 (k : Nat), .slice (some ⟨gN, 0, none⟩) n cN, .int .i64 (n : Nat), .bool false, .bool false, .bool false, .pointer (some ⟨B, 9, none⟩), .slice (some pf) nf cF, .int .i64 (k : Nat), .pointer (some (pf.add k)), .int .i64 y, .pointer (some ⟨B, 10, none⟩), .slice (some pt) nt cT, .int .i64 (k : Nat), .pointer (some (pt.add k)), .int .i64 z, .bool false, .bool false, .bool false, .slice (some ⟨gN, 0, none⟩) n cN, .int .i64 (k : Nat), .pointer (some ⟨gN, k, none⟩), .int .i64 p, .bool false, .bool false] ⟨#[c0, c1, c2, .pointer (some ⟨B, 0, none⟩), c4, c5, c6, c7, c8, c9, .slice (some ⟨gN, 0, none⟩) n cN, c11, c12, c13, c14, c15, c16, .int .i64 (k : Nat), c18, c19, c20, c21, c22, c23, c24, c25, c26, c27, c28, c29, c30, c31, c32, c33, c34, c35, c36, c37, c38, c39, c40, c41, c42, c43, c44, c45, c46, c47, c48, c49, c50, c51, c52, c53, c54, c55, c56, c57, c58, c59, c60, c61, c62, c63, c64, c65, c66, c67, c68, c69, c70, c71, c72, c73, c74, c75, c76, c77, c78, c79, c80, c81, c82, c83, c84, c85, c86, c87, c88, c89, c90, c91, c92, c93, c94, c95, c96, c97, c98, c99, c100, c101, c102, c103, c104, c105, c106, c107, c108, c109, c110, c111, c112, c113, c114, c115, c116, c117, c118, c119, c120, c121, c122, c123, c124, c125, c126, c127, c128, c129, c130, c131, c132, c133, c134, c135, c136, c137, c138, c139, c140, c141, c142, c143, c144, c145, c146, c147, c148, c149, c150, c151, c152, c153, c154, c155, c156, c157, c158, c159, c160, c161, c162, c163, c164, c165, c166, c167, c168, c169, c170, c171, c172, c173, c174, c175, c176, c177, c178, c179, c180, c181, c182, c183, c184, c185, c186, c187, c188, c189, c190, c191, c192, c193, c194, c195, c196, c197], df⟩ L a ∧ Hid (Ext wr wc)) ⟨Inv.start, Lib.hid ((Ext.refl wr).drew)⟩ ?_ ?_
  · refine ⟨?_, ?_, ?_, ?_, ?_, ?_, ?_, ?_, ?_, ?_, ?_, ?_, ?_, ?_, ?_, ?_, ?_, ?_, ?_, ?_, ?_, ?_, ?_, ?_, ?_, ?_, ?_, ?_, trivial⟩
    · -- 0 move
      rintro L a wc ⟨hv, HO⟩ hL hc hd
      exact wpOp_val rfl rfl (ex_move rfl ((hv.fixed 17 (by decide)).trans rfl)) ⟨hv.put kp_step_apart 0 rfl (Nat.le_of_ble_eq_true rfl) (Nat.le_of_ble_eq_true rfl) rfl, HO⟩
    · -- 1 bin
      rintro L a wc ⟨hv, HO⟩ hL hc hd
      have u0 : (0 : Int) ≤ (k : Int) := by omega
      exact wpOp_val rfl rfl (ex_bin rfl (hv.get 0 rfl rfl (hd 0 (by decide))) rfl (by go_simp)) ⟨hv.put kp_step_apart 1 rfl (Nat.le_of_ble_eq_true rfl) (Nat.le_of_ble_eq_true rfl) rfl, HO⟩
    · -- 2 move
      rintro L a wc ⟨hv, HO⟩ hL hc hd
      exact wpOp_val rfl rfl (ex_move rfl (hv.get 1 rfl rfl (hd 1 (by decide)))) ⟨hv.put kp_step_apart 2 rfl (Nat.le_of_ble_eq_true rfl) (Nat.le_of_ble_eq_true rfl) rfl, HO⟩
    · -- 3 move
      rintro L a wc ⟨hv, HO⟩ hL hc hd
      exact wpOp_val rfl ((wanted_at rfl rfl (hv.get 2 rfl rfl (hd 2 (by decide)))).trans rfl) (ex_move rfl ((hv.fixed 17 (by decide)).trans rfl)) ⟨hv.put kp_step_apart 3 rfl (Nat.le_of_ble_eq_true rfl) (Nat.le_of_ble_eq_true rfl) rfl, HO⟩
    · -- 4 move
      rintro L a wc ⟨hv, HO⟩ hL hc hd
      exact wpOp_val rfl ((wanted_at rfl rfl (hv.get 2 rfl rfl (hd 2 (by decide)))).trans rfl) (ex_move rfl ((hv.fixed 10 (by decide)).trans rfl)) ⟨hv.put kp_step_apart 4 rfl (Nat.le_of_ble_eq_true rfl) (Nat.le_of_ble_eq_true rfl) rfl, HO⟩
    · -- 5 raw
      rintro L a wc ⟨hv, HO⟩ hL hc hd
      exact wpOp_val rfl ((wanted_at rfl rfl (hv.get 2 rfl rfl (hd 2 (by decide)))).trans rfl) (ex_len rfl (hv.get 4 rfl rfl (hd 4 (by decide))) (by go_simp)) ⟨hv.put kp_step_apart 5 rfl (Nat.le_of_ble_eq_true rfl) (Nat.le_of_ble_eq_true rfl) rfl, HO⟩
    · -- 6 bin
      rintro L a wc ⟨hv, HO⟩ hL hc hd
      have u0 : (k : Int) < (n : Int) := by omega
      exact wpOp_val rfl ((wanted_at rfl rfl (hv.get 2 rfl rfl (hd 2 (by decide)))).trans rfl) (ex_bin rfl (hv.get 3 rfl rfl (hd 3 (by decide))) (hv.get 5 rfl rfl (hd 5 (by decide))) (by go_simp)) ⟨hv.put kp_step_apart 6 rfl (Nat.le_of_ble_eq_true rfl) (Nat.le_of_ble_eq_true rfl) rfl, HO⟩
    · -- 7 pick
      rintro L a wc ⟨hv, HO⟩ hL hc hd
      exact wpOp_val rfl rfl (ex_pick rfl (hv.get 2 rfl rfl (hd 2 (by decide))) (hv.get 6 rfl rfl (hd 6 (by decide)))) ⟨hv.put kp_step_apart 7 rfl (Nat.le_of_ble_eq_true rfl) (Nat.le_of_ble_eq_true rfl) rfl, HO⟩
    · -- 8 move
      rintro L a wc ⟨hv, HO⟩ hL hc hd
      exact wpOp_val rfl rfl (ex_move rfl (hv.get 7 rfl rfl (hd 7 (by decide)))) ⟨hv.put kp_step_apart 8 rfl (Nat.le_of_ble_eq_true rfl) (Nat.le_of_ble_eq_true rfl) rfl, HO⟩
    · -- 9 field
      rintro L a wc ⟨hv, HO⟩ hL hc hd
      exact wpOp_val rfl ((wanted_at rfl rfl (hv.get 8 rfl rfl (hd 8 (by decide)))).trans rfl) (ex_field rfl ((hv.fixed 3 (by decide)).trans rfl) (by go_simp)) ⟨hv.put kp_step_apart 9 rfl (Nat.le_of_ble_eq_true rfl) (Nat.le_of_ble_eq_true rfl) rfl, HO⟩
    · -- 10 load
      rintro L a wc ⟨hv, HO⟩ hL hc hd
      have h0 : wc.cell? ⟨B, 9, none⟩ = some (.slice (some pf) nf cF) := HO.out.cell b9
      exact wpOp_val rfl ((wanted_at rfl rfl (hv.get 8 rfl rfl (hd 8 (by decide)))).trans rfl) (ex_load rfl (hv.get 9 rfl rfl (hd 9 (by decide))) (by go_simp)) ⟨hv.put kp_step_apart 10 rfl (Nat.le_of_ble_eq_true rfl) (Nat.le_of_ble_eq_true rfl) rfl, HO⟩
    · -- 11 move
      rintro L a wc ⟨hv, HO⟩ hL hc hd
      exact wpOp_val rfl ((wanted_at rfl rfl (hv.get 8 rfl rfl (hd 8 (by decide)))).trans rfl) (ex_move rfl ((hv.fixed 17 (by decide)).trans rfl)) ⟨hv.put kp_step_apart 11 rfl (Nat.le_of_ble_eq_true rfl) (Nat.le_of_ble_eq_true rfl) rfl, HO⟩
    · -- 12 index
      rintro L a wc ⟨hv, HO⟩ hL hc hd
      have u1 : (0 : Int) ≤ (k : Int) := by omega
      have u2 : (k : Int) < (nf : Int) := by omega
      exact wpOp_val rfl ((wanted_at rfl rfl (hv.get 8 rfl rfl (hd 8 (by decide)))).trans rfl) (ex_index rfl (hv.get 10 rfl rfl (hd 10 (by decide))) (hv.get 11 rfl rfl (hd 11 (by decide))) (by go_simp)) ⟨hv.put kp_step_apart 12 rfl (Nat.le_of_ble_eq_true rfl) (Nat.le_of_ble_eq_true rfl) rfl, HO⟩
    · -- 13 load
      rintro L a wc ⟨hv, HO⟩ hL hc hd
      have h0 : wc.cell? (pf.add k) = some (.int .i64 y) := HO.out.cell e0
      exact wpOp_val rfl ((wanted_at rfl rfl (hv.get 8 rfl rfl (hd 8 (by decide)))).trans rfl) (ex_load rfl (hv.get 12 rfl rfl (hd 12 (by decide))) (by go_simp)) ⟨hv.put kp_step_apart 13 rfl (Nat.le_of_ble_eq_true rfl) (Nat.le_of_ble_eq_true rfl) rfl, HO⟩
    · -- 14 field
      rintro L a wc ⟨hv, HO⟩ hL hc hd
      exact wpOp_val rfl ((wanted_at rfl rfl (hv.get 8 rfl rfl (hd 8 (by decide)))).trans rfl) (ex_field rfl ((hv.fixed 3 (by decide)).trans rfl) (by go_simp)) ⟨hv.put kp_step_apart 14 rfl (Nat.le_of_ble_eq_true rfl) (Nat.le_of_ble_eq_true rfl) rfl, HO⟩
    · -- 15 load
      rintro L a wc ⟨hv, HO⟩ hL hc hd
      have h0 : wc.cell? ⟨B, 10, none⟩ = some (.slice (some pt) nt cT) := HO.out.cell b10
      exact wpOp_val rfl ((wanted_at rfl rfl (hv.get 8 rfl rfl (hd 8 (by decide)))).trans rfl) (ex_load rfl (hv.get 14 rfl rfl (hd 14 (by decide))) (by go_simp)) ⟨hv.put kp_step_apart 15 rfl (Nat.le_of_ble_eq_true rfl) (Nat.le_of_ble_eq_true rfl) rfl, HO⟩
    · -- 16 move
      rintro L a wc ⟨hv, HO⟩ hL hc hd
      exact wpOp_val rfl ((wanted_at rfl rfl (hv.get 8 rfl rfl (hd 8 (by decide)))).trans rfl) (ex_move rfl ((hv.fixed 17 (by decide)).trans rfl)) ⟨hv.put kp_step_apart 16 rfl (Nat.le_of_ble_eq_true rfl) (Nat.le_of_ble_eq_true rfl) rfl, HO⟩
    · -- 17 index
      rintro L a wc ⟨hv, HO⟩ hL hc hd
      have u1 : (0 : Int) ≤ (k : Int) := by omega
      have u2 : (k : Int) < (nt : Int) := by omega
      exact wpOp_val rfl ((wanted_at rfl rfl (hv.get 8 rfl rfl (hd 8 (by decide)))).trans rfl) (ex_index rfl (hv.get 15 rfl rfl (hd 15 (by decide))) (hv.get 16 rfl rfl (hd 16 (by decide))) (by go_simp)) ⟨hv.put kp_step_apart 17 rfl (Nat.le_of_ble_eq_true rfl) (Nat.le_of_ble_eq_true rfl) rfl, HO⟩
    · -- 18 load
      rintro L a wc ⟨hv, HO⟩ hL hc hd
      have h0 : wc.cell? (pt.add k) = some (.int .i64 z) := HO.out.cell e1
      exact wpOp_val rfl ((wanted_at rfl rfl (hv.get 8 rfl rfl (hd 8 (by decide)))).trans rfl) (ex_load rfl (hv.get 17 rfl rfl (hd 17 (by decide))) (by go_simp)) ⟨hv.put kp_step_apart 18 rfl (Nat.le_of_ble_eq_true rfl) (Nat.le_of_ble_eq_true rfl) rfl, HO⟩
    · -- 19 bin
      rintro L a wc ⟨hv, HO⟩ hL hc hd
      have heq := HEQ.out
      exact wpOp_val rfl ((wanted_at rfl rfl (hv.get 8 rfl rfl (hd 8 (by decide)))).trans rfl) (ex_bin rfl (hv.get 13 rfl rfl (hd 13 (by decide))) (hv.get 18 rfl rfl (hd 18 (by decide))) (by go_simp)) ⟨hv.put kp_step_apart 19 rfl (Nat.le_of_ble_eq_true rfl) (Nat.le_of_ble_eq_true rfl) rfl, HO⟩
    · -- 20 pick
      rintro L a wc ⟨hv, HO⟩ hL hc hd
      exact wpOp_val rfl rfl (ex_pick rfl (hv.get 8 rfl rfl (hd 8 (by decide))) (hv.get 19 rfl rfl (hd 19 (by decide)))) ⟨hv.put kp_step_apart 20 rfl (Nat.le_of_ble_eq_true rfl) (Nat.le_of_ble_eq_true rfl) rfl, HO⟩
    · -- 21 move
      rintro L a wc ⟨hv, HO⟩ hL hc hd
      exact wpOp_val rfl rfl (ex_move rfl (hv.get 20 rfl rfl (hd 20 (by decide)))) ⟨hv.put kp_step_apart 21 rfl (Nat.le_of_ble_eq_true rfl) (Nat.le_of_ble_eq_true rfl) rfl, HO⟩
    · -- 22 move
      rintro L a wc ⟨hv, HO⟩ hL hc hd
      exact wpOp_val rfl ((wanted_at rfl rfl (hv.get 21 rfl rfl (hd 21 (by decide)))).trans rfl) (ex_move rfl ((hv.fixed 10 (by decide)).trans rfl)) ⟨hv.put kp_step_apart 22 rfl (Nat.le_of_ble_eq_true rfl) (Nat.le_of_ble_eq_true rfl) rfl, HO⟩
    · -- 23 move
      rintro L a wc ⟨hv, HO⟩ hL hc hd
      exact wpOp_val rfl ((wanted_at rfl rfl (hv.get 21 rfl rfl (hd 21 (by decide)))).trans rfl) (ex_move rfl ((hv.fixed 17 (by decide)).trans rfl)) ⟨hv.put kp_step_apart 23 rfl (Nat.le_of_ble_eq_true rfl) (Nat.le_of_ble_eq_true rfl) rfl, HO⟩
    · -- 24 index
      rintro L a wc ⟨hv, HO⟩ hL hc hd
      have u1 : (0 : Int) ≤ (k : Int) := by omega
      have u2 : (k : Int) < (n : Int) := by omega
      exact wpOp_val rfl ((wanted_at rfl rfl (hv.get 21 rfl rfl (hd 21 (by decide)))).trans rfl) (ex_index rfl (hv.get 22 rfl rfl (hd 22 (by decide))) (hv.get 23 rfl rfl (hd 23 (by decide))) (by go_simp)) ⟨hv.put kp_step_apart 24 rfl (Nat.le_of_ble_eq_true rfl) (Nat.le_of_ble_eq_true rfl) rfl, HO⟩
    · -- 25 load
      rintro L a wc ⟨hv, HO⟩ hL hc hd
      have h0 : wc.cell? ⟨gN, k, none⟩ = some (.int .i64 p) := HO.out.cell e2
      exact wpOp_val rfl ((wanted_at rfl rfl (hv.get 21 rfl rfl (hd 21 (by decide)))).trans rfl) (ex_load rfl (hv.get 24 rfl rfl (hd 24 (by decide))) (by go_simp)) ⟨hv.put kp_step_apart 25 rfl (Nat.le_of_ble_eq_true rfl) (Nat.le_of_ble_eq_true rfl) rfl, HO⟩
    · -- 26 bin
      rintro L a wc ⟨hv, HO⟩ hL hc hd
      exact wpOp_val rfl ((wanted_at rfl rfl (hv.get 21 rfl rfl (hd 21 (by decide)))).trans rfl) (ex_bin rfl (hv.get 25 rfl rfl (hd 25 (by decide))) rfl (by go_simp)) ⟨hv.put kp_step_apart 26 rfl (Nat.le_of_ble_eq_true rfl) (Nat.le_of_ble_eq_true rfl) rfl, HO⟩
    · -- 27 pick
      rintro L a wc ⟨hv, HO⟩ hL hc hd
      exact wpOp_val rfl rfl (ex_pick rfl (hv.get 21 rfl rfl (hd 21 (by decide))) (hv.get 26 rfl rfl (hd 26 (by decide)))) ⟨hv.put kp_step_apart 27 rfl (Nat.le_of_ble_eq_true rfl) (Nat.le_of_ble_eq_true rfl) rfl, HO⟩
  · rintro L a wc ⟨hv, HO⟩ hall
    show K a wc
    have ha := act_lit a
    rw [hv.size, hv.defers] at ha
    have hl : ∀ f : Nat → Value, ((List.range (⟨#[c0, c1, c2, .pointer (some ⟨B, 0, none⟩), c4, c5, c6, c7, c8, c9, .slice (some ⟨gN, 0, none⟩) n cN, c11, c12, c13, c14, c15, c16, .int .i64 (k : Nat), c18, c19, c20, c21, c22, c23, c24, c25, c26, c27, c28, c29, c30, c31, c32, c33, c34, c35, c36, c37, c38, c39, c40, c41, c42, c43, c44, c45, c46, c47, c48, c49, c50, c51, c52, c53, c54, c55, c56, c57, c58, c59, c60, c61, c62, c63, c64, c65, c66, c67, c68, c69, c70, c71, c72, c73, c74, c75, c76, c77, c78, c79, c80, c81, c82, c83, c84, c85, c86, c87, c88, c89, c90, c91, c92, c93, c94, c95, c96, c97, c98, c99, c100, c101, c102, c103, c104, c105, c106, c107, c108, c109, c110, c111, c112, c113, c114, c115, c116, c117, c118, c119, c120, c121, c122, c123, c124, c125, c126, c127, c128, c129, c130, c131, c132, c133, c134, c135, c136, c137, c138, c139, c140, c141, c142, c143, c144, c145, c146, c147, c148, c149, c150, c151, c152, c153, c154, c155, c156, c157, c158, c159, c160, c161, c162, c163, c164, c165, c166, c167, c168, c169, c170, c171, c172, c173, c174, c175, c176, c177, c178, c179, c180, c181, c182, c183, c184, c185, c186, c187, c188, c189, c190, c191, c192, c193, c194, c195, c196, c197], df⟩ : Act).tmps.size).map f).toArray = #[f 0, f 1, f 2, f 3, f 4, f 5, f 6, f 7, f 8, f 9, f 10, f 11, f 12, f 13, f 14, f 15, f 16, f 17, f 18, f 19, f 20, f 21, f 22, f 23, f 24, f 25, f 26, f 27, f 28, f 29, f 30, f 31, f 32, f 33, f 34, f 35, f 36, f 37, f 38, f 39, f 40, f 41, f 42, f 43, f 44, f 45, f 46, f 47, f 48, f 49, f 50, f 51, f 52, f 53, f 54, f 55, f 56, f 57, f 58, f 59, f 60, f 61, f 62, f 63, f 64, f 65, f 66, f 67, f 68, f 69, f 70, f 71, f 72, f 73, f 74, f 75, f 76, f 77, f 78, f 79, f 80, f 81, f 82, f 83, f 84, f 85, f 86, f 87, f 88, f 89, f 90, f 91, f 92, f 93, f 94, f 95, f 96, f 97, f 98, f 99, f 100, f 101, f 102, f 103, f 104, f 105, f 106, f 107, f 108, f 109, f 110, f 111, f 112, f 113, f 114, f 115, f 116, f 117, f 118, f 119, f 120, f 121, f 122, f 123, f 124, f 125, f 126, f 127, f 128, f 129, f 130, f 131, f 132, f 133, f 134, f 135, f 136, f 137, f 138, f 139, f 140, f 141, f 142, f 143, f 144, f 145, f 146, f 147, f 148, f 149, f 150, f 151, f 152, f 153, f 154, f 155, f 156, f 157, f 158, f 159, f 160, f 161, f 162, f 163, f 164, f 165, f 166, f 167, f 168, f 169, f 170, f 171, f 172, f 173, f 174, f 175, f 176, f 177, f 178, f 179, f 180, f 181, f 182, f 183, f 184, f 185, f 186, f 187, f 188, f 189, f 190, f 191, f 192, f 193, f 194, f 195, f 196, f 197] := fun _ => rfl
    rw [hl] at ha
    simp only [hv.fixed 0 (by decide), hv.fixed 1 (by decide), hv.fixed 2 (by decide), hv.fixed 3 (by decide), hv.fixed 4 (by decide), hv.fixed 5 (by decide), hv.fixed 6 (by decide), hv.fixed 7 (by decide), hv.fixed 8 (by decide), hv.fixed 9 (by decide), hv.fixed 10 (by decide), hv.fixed 11 (by decide), hv.fixed 12 (by decide), hv.fixed 13 (by decide), hv.fixed 14 (by decide), hv.fixed 15 (by decide), hv.fixed 16 (by decide), hv.fixed 17 (by decide), hv.fixed 18 (by decide), hv.fixed 19 (by decide), hv.fixed 20 (by decide), hv.fixed 21 (by decide), hv.fixed 22 (by decide), hv.fixed 23 (by decide), hv.fixed 24 (by decide), hv.fixed 25 (by decide), hv.fixed 26 (by decide), hv.fixed 27 (by decide), hv.fixed 28 (by decide), hv.fixed 29 (by decide), hv.fixed 30 (by decide), hv.fixed 31 (by decide), hv.fixed 32 (by decide), hv.fixed 33 (by decide), hv.fixed 34 (by decide), hv.fixed 35 (by decide), hv.fixed 36 (by decide), hv.fixed 37 (by decide), hv.fixed 38 (by decide), hv.fixed 39 (by decide), hv.fixed 40 (by decide), hv.fixed 41 (by decide), hv.fixed 42 (by decide), hv.fixed 43 (by decide), hv.fixed 44 (by decide), hv.fixed 45 (by decide), hv.fixed 46 (by decide), hv.fixed 47 (by decide), hv.fixed 48 (by decide), hv.fixed 49 (by decide), hv.fixed 50 (by decide), hv.fixed 51 (by decide), hv.fixed 52 (by decide), hv.fixed 53 (by decide), hv.fixed 54 (by decide), hv.fixed 55 (by decide), hv.fixed 56 (by decide), hv.fixed 57 (by decide), hv.fixed 58 (by decide), hv.fixed 59 (by decide), hv.fixed 60 (by decide), hv.fixed 61 (by decide), hv.fixed 62 (by decide), hv.fixed 63 (by decide), hv.fixed 64 (by decide), hv.fixed 65 (by decide), hv.fixed 66 (by decide), hv.fixed 67 (by decide), hv.fixed 68 (by decide), hv.fixed 69 (by decide), hv.fixed 70 (by decide), hv.fixed 71 (by decide), hv.fixed 72 (by decide), hv.fixed 73 (by decide), hv.fixed 74 (by decide), hv.fixed 75 (by decide), hv.fixed 76 (by decide), hv.fixed 77 (by decide), hv.fixed 78 (by decide), hv.fixed 79 (by decide), hv.fixed 80 (by decide), hv.fixed 81 (by decide), hv.fixed 82 (by decide), hv.fixed 83 (by decide), hv.fixed 84 (by decide), hv.fixed 85 (by decide), hv.fixed 86 (by decide), hv.fixed 87 (by decide), hv.fixed 88 (by decide), hv.fixed 89 (by decide), hv.fixed 90 (by decide), hv.fixed 91 (by decide), hv.fixed 92 (by decide), hv.fixed 93 (by decide), hv.fixed 94 (by decide), hv.fixed 95 (by decide), hv.fixed 96 (by decide), hv.fixed 97 (by decide), hv.fixed 98 (by decide), hv.fixed 99 (by decide), hv.fixed 100 (by decide), hv.fixed 101 (by decide), hv.fixed 102 (by decide), hv.fixed 103 (by decide), hv.fixed 104 (by decide), hv.fixed 105 (by decide), hv.fixed 106 (by decide), hv.fixed 107 (by decide), hv.fixed 108 (by decide), hv.fixed 109 (by decide), hv.fixed 110 (by decide), hv.fixed 111 (by decide), hv.fixed 112 (by decide), hv.fixed 113 (by decide), hv.fixed 114 (by decide), hv.fixed 115 (by decide), hv.fixed 144 (by decide), hv.fixed 145 (by decide), hv.fixed 146 (by decide), hv.fixed 147 (by decide), hv.fixed 148 (by decide), hv.fixed 149 (by decide), hv.fixed 150 (by decide), hv.fixed 151 (by decide), hv.fixed 152 (by decide), hv.fixed 153 (by decide), hv.fixed 154 (by decide), hv.fixed 155 (by decide), hv.fixed 156 (by decide), hv.fixed 157 (by decide), hv.fixed 158 (by decide), hv.fixed 159 (by decide), hv.fixed 160 (by decide), hv.fixed 161 (by decide), hv.fixed 162 (by decide), hv.fixed 163 (by decide), hv.fixed 164 (by decide), hv.fixed 165 (by decide), hv.fixed 166 (by decide), hv.fixed 167 (by decide), hv.fixed 168 (by decide), hv.fixed 169 (by decide), hv.fixed 170 (by decide), hv.fixed 171 (by decide), hv.fixed 172 (by decide), hv.fixed 173 (by decide), hv.fixed 174 (by decide), hv.fixed 175 (by decide), hv.fixed 176 (by decide), hv.fixed 177 (by decide), hv.fixed 178 (by decide), hv.fixed 179 (by decide), hv.fixed 180 (by decide), hv.fixed 181 (by decide), hv.fixed 182 (by decide), hv.fixed 183 (by decide), hv.fixed 184 (by decide), hv.fixed 185 (by decide), hv.fixed 186 (by decide), hv.fixed 187 (by decide), hv.fixed 188 (by decide), hv.fixed 189 (by decide), hv.fixed 190 (by decide), hv.fixed 191 (by decide), hv.fixed 192 (by decide), hv.fixed 193 (by decide), hv.fixed 194 (by decide), hv.fixed 195 (by decide), hv.fixed 196 (by decide), hv.fixed 197 (by decide), hv.get 27 (d := 143) rfl rfl (hall 27 (by decide))] at ha
    rw [ha]
    exact hK _ _ _ _ _ _ _ _ _ _ _ _ _ _ _ _ _ _ _ _ _ _ _ _ _ _ _ wc HO.out
end Go.Proofs.YtkbiffbmjgmcaaaDoor
