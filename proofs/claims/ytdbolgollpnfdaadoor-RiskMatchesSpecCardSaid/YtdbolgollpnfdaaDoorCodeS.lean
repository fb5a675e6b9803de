/- THE WALK over (*stairs).add. -/
import Derived.Test.YtdbolgollpnfdaaDoorCodeQ
import Derived.Test.YtdbolgollpnfdaaDoorOwnB
import Derived.StillTailTactics
import Derived.Deep.RegionHeld3
import Derived.Deep.RegionWith
import Derived.Deep.RegionLaw
namespace Cd
theorem first_eq : ∀ l : List UInt8, first l = Gf.firstNZ l
  | [] => by unfold first; rfl
  | x :: r => by
    have := first_eq r
    unfold first Gf.firstNZ
    split
    · rw [this]
    · rfl
end Cd
namespace Go.Proofs.YtdbolgollpnfdaaDoor
open Go.RowKit

/-- 'append(out, xs...)' of a region's list of operations, any number of elements. -/
theorem wpl_append_all {P : Program} {w0 w : World} {L : List LRow} {ops : Array Oper} {rest : List Oper} {o : Oper} {a : Act} {Q : Exit → Act → World → Prop} (t e : TypeId) (hgd : o.guard = none) (s x : Operand)
    (ho : o.op = .call { callee := .builtin .append, args := #[s, x], argTypes := #[t, t] })
    {z : Value} {bytes : Nat} (ht : P.underlying t = some (.slice e)) (hi : (P.info? e).map (fun i => (i.zero, i.size, i.bytes)) = some (some z, 1, bytes)) (hzs : z.cells.size = 1)
    (h : Owns w0 w L) (i : Nat) {v : Value} {n : Nat} {xs : List Value} (hL : L[i]? = some ⟨v, e, 1, n, xs⟩) (hs : a.eval s = v) {ad : Addr} {m c : Nat} {news : List Value}
    (hx : a.eval x = .slice (some ad) m c) (hl : news.length = m) (hnews : ∀ j u, news[j]? = some u → w.cell? (ad.add j) = some u) (h1 : ∀ u ∈ news, u.oneCell' = true) (hm : 0 < m) (hn : n + m < 100000000000) (hb : bytes ≤ 100)
    (hK : ∀ g cap w', Owns w0 w' (L.set i ⟨.slice (some ⟨g, 0, none⟩) (n + m) cap, e, 1, n + m, xs ++ news⟩) → w.grownBy w' v.ownBlock → wpList P ops Q rest (a.put o.dst (.slice (some ⟨g, 0, none⟩) (n + m) cap)) w') :
    wpList P ops Q (o :: rest) a w := by
  refine wpList_plain hgd fun K hK' => ?_
  have hbb : (n + m) * bytes ≤ (n + m) * 100 := Nat.mul_le_mul_left _ hb
  obtain ⟨g, cap, w', hr, h2, _, h3⟩ := run_append_owns (P := P) t o.type e ht hi hzs (by decide) h i hL ad m c news (by omega) hnews h1 hm (by unfold maxLen; omega) (by omega)
  unfold Oper.wp execOp
  simp only [ho, resolve, invoke, builtin, Sem.run_bind, Sem.run_pure, Result.andThen_ok, List.map_toArray, List.map_cons, List.map_nil, hs, hx, hr]
  exact hK' _ _ (hK g cap w' h2 h3)

theorem mul_still (a b : UInt8) (w : World) (hT : Tab w) : Calls Tryd.prog 60 #[bv a, bv b] w fun e w'' => e = .returned (bv (Gf.mul a b)) ∧ w'' = w := (mul_u8 a b w hT).mono fun _ _ h => ⟨h.1, h.2.symm⟩
abbrev sv (p : List UInt8) : Value := .string (sb p)
theorem inv_u8 (a : UInt8) (w : World) (hT : Tab w) : Calls Tryd.prog 63 #[bv a] w fun e w' => e = .returned (.tuple #[bv (Gf.inv a), .int .i64 (Gf.noneI (a.toNat : Int))]) ∧ w = w' := by
  refine (inv_any (a.toNat : Int) w hT (by omega) (by have := Gf.lt8 a; omega)).mono ?_
  rintro e w' ⟨rfl, rfl⟩
  refine ⟨?_, rfl⟩
  rw [Int.toNat_natCast, ← Gf.inv_toNat]
/-- r after k of its elements were multiplied by c. -/
def halfMul (c : UInt8) (r : List UInt8) (k : Nat) : List UInt8 := (List.range r.length).map fun i => if i < k then Gf.mul c (r.getD i 0) else r.getD i 0
theorem halfMul_length (c : UInt8) (r : List UInt8) (k : Nat) : (halfMul c r k).length = r.length := by simp [halfMul]
theorem halfMul_zero (c : UInt8) (r : List UInt8) : halfMul c r 0 = r := by
  apply List.ext_getElem
  · exact halfMul_length c r 0
  · intro i h1 h2
    simp [halfMul, List.getElem?_eq_getElem h2]
theorem halfMul_full (c : UInt8) (r : List UInt8) : halfMul c r r.length = r.map (Gf.mul c) := by
  apply List.ext_getElem
  · simp [halfMul]
  · intro i h1 h2
    have h3 : i < r.length := by simpa using h2
    simp [halfMul, List.getElem?_eq_getElem h3]
    intro h
    omega
theorem halfMul_at {c : UInt8} {r : List UInt8} {i : Nat} (h : i < r.length) : (halfMul c r i)[i]? = some (r.getD i 0) := by
  unfold halfMul
  rw [List.getElem?_map, List.getElem?_eq_getElem (by simpa using h)]
  simp
theorem halfMul_set {c : UInt8} {r : List UInt8} {i : Nat} : (halfMul c r i).set i (Gf.mul c (r.getD i 0)) = halfMul c r (i + 1) := by
  apply List.ext_getElem
  · simp [halfMul]
  · intro j h1 h2
    rw [List.getElem_set]
    split
    · rename_i hij
      subst hij
      simp [halfMul]
    · rename_i hij
      simp only [halfMul, List.getElem_map, List.getElem_range]
      by_cases hj : j < i
      · rw [if_pos hj, if_pos (by omega)]
      · rw [if_neg hj, if_neg (by omega)]
/-- Rows of bytes that a call has made, of whatever room. -/
def innerC1 (h : Nat × Nat) (r : List UInt8) : LRow := ⟨.slice (some ⟨h.1, 0, none⟩) r.length h.2, 5, 1, r.length, r.map bv⟩
def innerC (hs : List (Nat × Nat)) (rs : List (List UInt8)) : List LRow := List.zipWith innerC1 hs rs
theorem innerC_snoc {hs : List (Nat × Nat)} {rs : List (List UInt8)} (h : hs.length = rs.length) (g : Nat × Nat) (r : List UInt8) : innerC (hs ++ [g]) (rs ++ [r]) = innerC hs rs ++ [innerC1 g r] := by
  unfold innerC
  rw [List.zipWith_append h]
  rfl
/-- The stairs that a call has made. -/
def StairsOut (w0 w : World) (P : Nat) (rows parts : List (List UInt8)) (n : Nat) : Prop :=
  ∃ (A B : Option Addr) (cA cB : Nat) (hs : List (Nat × Nat)), hs.length = rows.length ∧ parts.length = rows.length ∧
    Owns w0 w (⟨.slice (some ⟨P, 0, none⟩) 1 1, 76, 3, 1, [.slice A rows.length cA, .slice B rows.length cB, .int .i64 n]⟩ :: ⟨.slice A rows.length cA, 63, 1, rows.length, (innerC hs rows).map (·.v)⟩ :: ⟨.slice B rows.length cB, 9, 1, rows.length, parts.map sv⟩ :: innerC hs rows)
theorem StairsOut.ext {w0 w : World} {P n : Nat} {rs ps : List (List UInt8)} (h : StairsOut w0 w P rs ps n) : Ext w0 w := by
  obtain ⟨A, B, cA, cB, hs, h1, h2, h⟩ := h
  exact h.ext
theorem StairsOut.next {w0 w w' : World} {P n : Nat} {rs ps : List (List UInt8)} (h : StairsOut w0 w P rs ps n) (hx : Ext w w') : StairsOut w0 w' P rs ps n := by
  obtain ⟨A, B, cA, cB, hs, h1, h2, h⟩ := h
  exact ⟨A, B, cA, cB, hs, h1, h2, h.next hx⟩
theorem StairsOut.of {w0 w : World} {P m n g c cA cB : Nat} {A B : Option Addr} {rows parts : List (List UInt8)} {r q : List UInt8} {hs : List (Nat × Nat)} {X Y : LRow} (hl : hs.length = rows.length) (hp : parts.length = rows.length) (hm : r.length = m)
    (h : Owns w0 w (⟨.slice (some ⟨P, 0, none⟩) 1 1, 76, 3, 1, [.slice A (rows.length + 1) cA, .slice B (rows.length + 1) cB, .int .i64 n]⟩ :: ⟨.slice A (rows.length + 1) cA, 63, 1, rows.length + 1, (innerC hs rows).map (·.v) ++ [.slice (some ⟨g, 0, none⟩) m c]⟩ :: ⟨.slice B (rows.length + 1) cB, 9, 1, rows.length + 1, parts.map sv ++ [sv q]⟩ :: X :: Y :: (innerC hs rows ++ [innerC1 (g, c) r]))) :
    StairsOut w0 w P (rows ++ [r]) (parts ++ [q]) n := by
  subst hm
  refine ⟨A, B, cA, cB, hs ++ [(g, c)], by simp [hl], by simp [hp], ?_⟩
  have h2 := h.sublist (L' := _ :: _ :: _ :: (innerC hs rows ++ [innerC1 (g, c) r])) (((List.Sublist.refl _).cons Y |>.cons X).cons_cons _ |>.cons_cons _ |>.cons_cons _)
  rw [innerC_snoc hl]
  simp only [List.length_append, List.length_cons, List.length_nil, List.map_append, List.map_cons, List.map_nil]
  exact h2
theorem Owns.two {w0 w : World} {x y z : LRow} {Y : List LRow} (h : Owns w0 w (x :: y :: z :: Y)) : Owns w0 w (x :: y :: z :: no :: no :: Y) := by
  refine h.wider.wider.perm ?_
  show (x :: y :: z :: (Y ++ [no] ++ [no])).Perm (x :: y :: z :: ([no, no] ++ Y))
  rw [List.append_assoc]
  exact (((List.perm_append_comm).cons _).cons _).cons _
theorem info_str : (Tryd.prog.info? 9).map (fun i => (i.zero, i.size, i.bytes)) = some (some (.string ByteArray.empty), 1, 16) := by kernel_rfl
/-- r less its multiples of rows; the part that belongs to it. -/
def redPart (p : List UInt8) (r x q : List UInt8) : List UInt8 := if r.getD (Gf.firstNZ x) 0 = 0 then p else Gf.sum p (Gf.scale (r.getD (Gf.firstNZ x) 0) q)
def redTo (rows parts : List (List UInt8)) (r p : List UInt8) : Nat → List UInt8 × List UInt8
  | 0 => (r, p)
  | k + 1 => (Gf.redRow (redTo rows parts r p k).1 (rows.getD k []), redPart (redTo rows parts r p k).2 (redTo rows parts r p k).1 (rows.getD k []) (parts.getD k []))
/-- r after k of its elements were turned by x. -/
def halfRow (r x : List UInt8) (k : Nat) : List UInt8 := (List.range r.length).map fun i => if i < k then r.getD i 0 ^^^ Gf.mul (r.getD (Gf.firstNZ x) 0) (x.getD i 0) else r.getD i 0

/-- A row that is read, of a list of rows. -/
theorem StairsOut.look {w0 w : World} {P n : Nat} {rs ps : List (List UInt8)} (h : StairsOut w0 w P rs ps n) :
    ∃ (A B : Option Addr) (cA cB : Nat), w.cell? ⟨P, 0, none⟩ = some (.slice A rs.length cA) ∧ w.cell? ⟨P, 1, none⟩ = some (.slice B rs.length cB) ∧ w.cell? ⟨P, 2, none⟩ = some (.int .i64 n) ∧ ps.length = rs.length ∧
      (∀ k (hk : k < rs.length), ∃ ad g cg, A = some ad ∧ w.cell? (ad.add k) = some (.slice (some ⟨g, 0, none⟩) rs[k].length cg) ∧ Rd w (some ⟨g, 0, none⟩) (rs[k].map bv)) ∧
      (∀ k (hk : k < ps.length), ∃ bd, B = some bd ∧ w.cell? (bd.add k) = some (sv ps[k])) := by
  obtain ⟨A, B, cA, cB, hs, h1, h2, hO⟩ := h
  refine ⟨A, B, cA, cB, hO.cell 0 rfl 0 rfl, hO.cell 0 rfl 1 rfl, hO.cell 0 rfl 2 rfl, h2, fun k hk => ?_, fun k hk => ?_⟩
  · have hin : (innerC hs rs)[k]? = some (innerC1 (hs[k]'(by omega)) rs[k]) := by
      unfold innerC
      rw [List.getElem?_eq_getElem (by simp; omega), List.getElem_zipWith]
    have hrd : Rd w A ((innerC hs rs).map (·.v)) := hO.rd 1 rfl
    obtain ⟨ad, hA, _, hc⟩ := hrd k _ (by rw [List.getElem?_map, hin]; rfl)
    exact ⟨ad, _, _, hA, hc, hO.rd (k + 3) (n := rs[k].length) (by simpa [innerC1] using hin)⟩
  · have hrd : Rd w B (ps.map sv) := hO.rd 2 rfl
    obtain ⟨ad, hA, _, hc⟩ := hrd k (sv ps[k]) (by rw [List.getElem?_map, List.getElem?_eq_getElem hk]; rfl)
    exact ⟨ad, hA, hc⟩
theorem redTo_length (rows parts : List (List UInt8)) (r p : List UInt8) : ∀ k, (redTo rows parts r p k).1.length = r.length
  | 0 => rfl
  | k + 1 => by rw [redTo, Gf.redRow_length, redTo_length]
theorem redPart_zero {p r x q : List UInt8} (h : r.getD (Gf.firstNZ x) 0 = 0) : redPart p r x q = p := if_pos h
theorem redPart_nz {p r x q : List UInt8} (h : r.getD (Gf.firstNZ x) 0 ≠ 0) : redPart p r x q = Gf.sum p (Gf.scale (r.getD (Gf.firstNZ x) 0) q) := if_neg h
theorem redTo_part_le (rows parts : List (List UInt8)) (r p : List UInt8) (M : Nat) (hq : ∀ q ∈ parts, q.length ≤ M) (hp : p.length ≤ M) : ∀ k, (redTo rows parts r p k).2.length ≤ M
  | 0 => hp
  | k + 1 => by
    have ih := redTo_part_le rows parts r p M hq hp k
    have hg : (parts.getD k []).length ≤ M := by
      rw [List.getD_eq_getElem?_getD]
      cases hpk : parts[k]? with
      | none => simp
      | some q => exact hq q (List.mem_of_getElem? hpk)
    rw [redTo]
    show (redPart _ _ _ _).length ≤ M
    unfold redPart
    split
    · exact ih
    · simp only [Gf.sum, Gf.scale, List.length_map, List.length_range]
      omega
theorem halfRow_length (r x : List UInt8) (k : Nat) : (halfRow r x k).length = r.length := by simp [halfRow]
theorem halfRow_zero (r x : List UInt8) : halfRow r x 0 = r := by
  apply List.ext_getElem
  · exact halfRow_length r x 0
  · intro i h1 h2
    simp [halfRow, List.getElem?_eq_getElem h2]
theorem halfRow_full (r x : List UInt8) : halfRow r x r.length = Gf.redRow r x := by
  unfold halfRow Gf.redRow
  apply List.map_congr_left
  intro i hi
  rw [if_pos (by simpa using hi)]
theorem halfRow_at {r x : List UInt8} {i : Nat} (h : i < r.length) : (halfRow r x i)[i]? = some (r.getD i 0) := by
  unfold halfRow
  rw [List.getElem?_map, List.getElem?_eq_getElem (by simpa using h)]
  simp
theorem halfRow_set {r x : List UInt8} {i : Nat} : (halfRow r x i).set i (r.getD i 0 ^^^ Gf.mul (r.getD (Gf.firstNZ x) 0) (x.getD i 0)) = halfRow r x (i + 1) := by
  apply List.ext_getElem
  · simp [halfRow]
  · intro j h1 h2
    rw [List.getElem_set]
    split
    · rename_i hij
      subst hij
      simp [halfRow]
    · rename_i hij
      simp only [halfRow, List.getElem_map, List.getElem_range]
      by_cases hj : j < i
      · rw [if_pos hj, if_pos (by omega)]
      · rw [if_neg hj, if_neg (by omega)]
theorem redTo_take (rows parts : List (List UInt8)) (r p : List UInt8) : ∀ k, k ≤ rows.length → (redTo rows parts r p k).1 = Gf.reduce (rows.take k) r
  | 0, _ => rfl
  | k + 1, h => by
    have hk : k < rows.length := by omega
    rw [redTo]
    show Gf.redRow _ _ = _
    rw [redTo_take rows parts r p k (by omega), List.take_succ_eq_append_getElem hk, Gf.reduce, Gf.reduce, List.foldl_append, List.getD_eq_getElem?_getD, List.getElem?_eq_getElem hk]
    rfl
theorem redTo_full (rows parts : List (List UInt8)) (r p : List UInt8) : (redTo rows parts r p rows.length).1 = Gf.reduce rows r := by
  rw [redTo_take rows parts r p _ (Nat.le_refl _), List.take_length]
/-- What belongs to the row that is added. -/
def newPart (rows parts : List (List UInt8)) (l p : List UInt8) : List UInt8 := Gf.scale (Gf.inv ((Gf.reduce rows l).getD (Gf.firstNZ (Gf.reduce rows l)) 0)) (redTo rows parts l p rows.length).2
/-- The stairs with a row more, if it is no combination of them. -/
def addTo (rows parts : List (List UInt8)) (l p : List UInt8) : List (List UInt8) × List (List UInt8) :=
  match Gf.addRow rows l with
  | none => (rows, parts)
  | some t => (rows ++ [t], parts ++ [newPart rows parts l p])
theorem addTo_none {rows parts : List (List UInt8)} {l p : List UInt8} (h : Gf.addRow rows l = none) : addTo rows parts l p = (rows, parts) := by unfold addTo; rw [h]
theorem addTo_some {rows parts : List (List UInt8)} {l p t : List UInt8} (h : Gf.addRow rows l = some t) : addTo rows parts l p = (rows ++ [t], parts ++ [newPart rows parts l p]) := by unfold addTo; rw [h]
attribute [irreducible] redPart halfRow addTo

set_option maxRecDepth 100000 in
set_option maxHeartbeats 8000000 in
theorem cAdd_any (w0 w : World) (P : Nat) (rows parts : List (List UInt8)) (l p : List UInt8) (A : Addr) (c : Nat) (hT0 : Tab w0) (hA : Rd w (some A) (l.map bv)) (hn : 0 < l.length) (hn2 : l.length ≤ 16)
    (hS : StairsOut w0 w P rows parts l.length) (hw : Gf.Stairs l.length rows) (hr : rows.length < 100) (hq : ∀ q ∈ parts, q.length ≤ 140737488351232) (hp : p.length ≤ 140737488351232) :
    Calls Tryd.prog 53 #[.pointer (some ⟨P, 0, none⟩), .slice (some A) l.length c, .string (sb p)] w fun e w' => e = .returned (.bool (Gf.addRow rows l).isSome) ∧ StairsOut w0 w' P (addTo rows parts l p).1 (addTo rows parts l p).2 l.length := by
  have hT := hT0.ext hS.ext
  have HT := Lib.hid hT
  have HT0 := Lib.hid hT0
  have HA := Lib.hid hA
  have HS := Lib.hid hS
  have HW := Lib.hid hw
  obtain ⟨X, B, cX, cB, b0, b1, b2, hpl, hX, hB⟩ := hS.look
  have HB := Lib.hid (And.intro b0 (And.intro b1 b2))
  have HL := Lib.hid (And.intro hX hB)
  have HPL := Lib.hid hpl
  have HQ := Lib.hid (redTo_part_le rows parts l p _ hq hp)
  have HQ2 := Lib.hid hq
  clear hT hT0 hA hS hw b0 b1 b2 hX hB hpl hq hp
  have hO0 : Owns w (w.alloc (.cells #[] 5)) [⟨.slice (some ⟨w.heap.size, 0, none⟩) 0 0, 5, 1, 0, []⟩] := (Owns.start w (L := [no]) (by intro r hr; simp at hr; subst hr; exact ⟨rfl, rfl, rfl⟩)).new 0 #[] 5 (by simp [maxLen])
  have HO0 := Lib.hid hO0
  clear hO0
  have hnews : ∀ (j : Nat) (u : Value), (l.map bv)[j]? = some u → (w.alloc (.cells #[] 5)).cell? (A.add j) = some u := fun j u hj =>
    (((Ext.refl w).alloc _).cell (HA.out.all (List.getElem?_eq_some_iff.1 hj).1)).trans (by rw [(List.getElem?_eq_some_iff.1 hj).2])
  have hone : ∀ u ∈ l.map bv, u.oneCell' = true := by intro u hu; simp at hu; obtain ⟨b, _, rfl⟩ := hu; rfl
  have HN := Lib.hid (And.intro hnews hone)
  clear hnews hone
  go_enter Tryd.func53, Tryd.ntmps53
  go_wp2_with (refine wpl_append_all 63 5 rfl (.tmp 17) (.tmp 18) rfl Tryd.underlying63 info_u8 rfl HO0.out 0 rfl rfl rfl (List.length_map _) HN.out.1 HN.out.2 hn (by omega) (by decide) ?_; intro g1 c1 w3 hO3 _; have hb0 : w3.cell? ⟨P, 0, none⟩ = some (.slice X rows.length cX) := hO3.ext.cell HB.out.1)
  have hO3' : Owns w w3 [⟨.slice (some ⟨g1, 0, none⟩) l.length c1, 5, 1, l.length, (redTo rows parts l p 0).1.map bv⟩] := by simpa [redTo] using hO3
  have HO3 := Lib.hid hO3'
  clear hO3 hO3' hb0
  go_loopw [2, 25] (fun vp vk wr => ∃ k : Nat, k ≤ rows.length ∧ vk = .int .i64 k ∧ vp = sv (redTo rows parts l p k).2 ∧ Hid (Owns w wr [⟨.slice (some ⟨g1, 0, none⟩) l.length c1, 5, 1, l.length, (redTo rows parts l p k).1.map bv⟩])) (fun _ vk _ => rows.length - (intOf vk).toNat)
  case atStart => exact ⟨0, Nat.zero_le _, rfl, rfl, HO3.out⟩
  case round =>
    obtain ⟨k, hk, rfl, rfl, HR⟩ := hrel
    by_cases hlt : k < rows.length
    · obtain ⟨ad, g, cg, rfl, hx1, hx2⟩ := HL.out.1 k hlt
      have hxl := HW.out.len _ (List.getElem_mem hlt)
      have hxn := HW.out.nz _ (List.getElem_mem hlt)
      have hrl := redTo_length rows parts l p k
      have hstep : redTo rows parts l p (k + 1) = (Gf.redRow (redTo rows parts l p k).1 rows[k], redPart (redTo rows parts l p k).2 (redTo rows parts l p k).1 rows[k] (parts.getD k [])) := by
        rw [redTo, List.getD_eq_getElem?_getD, List.getElem?_eq_getElem hlt]; rfl
      obtain ⟨x, hx⟩ : ∃ x, rows[k] = x := ⟨_, rfl⟩
      obtain ⟨r, hr'⟩ : ∃ r, (redTo rows parts l p k).1 = r := ⟨_, rfl⟩
      obtain ⟨q, hq⟩ : ∃ q, (redTo rows parts l p k).2 = q := ⟨_, rfl⟩
      rw [hx] at hx1 hx2 hxl hxn hstep
      rw [hr'] at hstep hrl
      rw [hq] at hstep
      have hO := HR.out
      rw [hr'] at hO
      rw [hxl] at hx1
      have hx1' := hO.ext.cell hx1
      have HX2 := Lib.hid (Rd.ext hx2 hO.ext)
      have HX3 := Lib.hid hx2
      obtain ⟨f, hf⟩ : ∃ f, Gf.firstNZ x = f := ⟨_, rfl⟩
      rw [hf] at hxn
      have hcf := hO.cell 0 rfl f (u := bv (r.getD f 0)) (by rw [List.getElem?_map, List.getElem?_eq_getElem (by omega), List.getD_eq_getElem?_getD, List.getElem?_eq_getElem (by omega)]; rfl)
      have HST := Lib.hid (And.intro hstep (And.intro hf (And.intro hxl hrl)))
      have HO := Lib.hid hO
      clear hstep hx1 hx2 hO hx hr' hf hrl
      go_wp2_with fail
      rw [← hxl]
      refine (cFirst_any x _ _ _ HX2.out (by omega)).mono ?_
      rintro e w' ⟨rfl, rfl⟩
      rw [Cd.first_eq, HST.out.2.1, hxl]
      by_cases h0 : r.getD f 0 = 0
      · rw [h0] at hcf
        go_wp2_with fail
        go_roundw
        case rel => exact ⟨k + 1, by omega, by go_num, by rw [HST.out.1]; dsimp only; rw [redPart_zero (by rw [HST.out.2.1]; exact h0)], by rw [HST.out.1]; dsimp only; rw [Gf.redRow_same (by rw [HST.out.2.1]; exact h0)]; exact HO.out⟩
        case measure => simp [intOf]; omega
      · have ef : (((r.getD f 0).toNat : Int) != 0) = true := by
          rw [bne_iff_ne]
          intro h
          exact h0 (UInt8.toNat_inj.1 (by have : (r.getD f 0).toNat = 0 := by omega
                                          exact this))
        have H0 := Lib.hid h0
        obtain ⟨fv, hfv⟩ : ∃ fv, r.getD f 0 = fv := ⟨_, rfl⟩
        rw [hfv] at hcf ef
        have HF := Lib.hid hfv
        have HQQ := Lib.hid hq
        clear hfv h0 hq
        go_wp2_with fail
        go_loopw [40] (fun vi wi => ∃ i : Nat, i ≤ l.length ∧ vi = .int .i64 i ∧ Hid (Owns w wi [⟨.slice (some ⟨g1, 0, none⟩) l.length c1, 5, 1, l.length, (halfRow r x i).map bv⟩])) (fun vi _ => l.length - (intOf vi).toNat)
        case atStart => exact ⟨0, Nat.zero_le _, rfl, by rw [halfRow_zero]; exact HO.out⟩
        case round =>
          obtain ⟨i, hi, rfl, HI⟩ := hrel
          by_cases hli : i < l.length
          · have hri : i < r.length := by rw [HST.out.2.2.2]; exact hli
            have hca := HI.out.cell 0 rfl i (u := bv (r.getD i 0)) (by rw [List.getElem?_map, halfRow_at hri]; rfl)
            have hfa := HI.out.frozen 0 rfl i
            have hst := HI.out.store 0 rfl i (bv (r.getD i 0 ^^^ Gf.mul fv (x.getD i 0)))
            have hmap : ((halfRow r x i).map bv).set i (bv (r.getD i 0 ^^^ Gf.mul fv (x.getD i 0))) = (halfRow r x (i + 1)).map bv := by
              rw [← List.map_set, ← halfRow_set, HST.out.2.1, HF.out]
            have hxx := (Rd.ext HX3.out HI.out.ext).all (k := i) (by simpa using (by omega : i < x.length))
            have hxi : i < x.length := by omega
            have hxe : (x.map bv)[i]'(by simpa using hxi) = bv (x.getD i 0) := by
              rw [List.getElem_map, List.getD_eq_getElem?_getD, List.getElem?_eq_getElem hxi]; rfl
            rw [hxe] at hxx
            have hxr : bits .xor .u8 ((r.getD i 0).toNat : Int) ((Gf.mul fv (x.getD i 0)).toNat : Int) = ((r.getD i 0 ^^^ Gf.mul fv (x.getD i 0)).toNat : Int) := by
              rw [u8_xor_nat _ _ (Gf.lt8 _) (Gf.lt8 _), UInt8.toNat_xor]
            obtain ⟨ri, hre⟩ : ∃ ri, r.getD i 0 = ri := ⟨_, rfl⟩
            obtain ⟨xi, hxie⟩ : ∃ xi, x.getD i 0 = xi := ⟨_, rfl⟩
            rw [hre] at hca hst hmap hxr
            rw [hxie] at hst hmap hxr hxx
            have hTr := HT.out.ext HI.out.ext
            have HTR := Lib.hid hTr
            have HSM := Lib.hid (And.intro hst hmap)
            have HXR := Lib.hid hxr
            have hca' : wr.cell? ⟨g1, i, none⟩ = some (bv ri) := hca
            have hfa' : wr.frozen? ⟨g1, i, none⟩ = false := hfa
            have hxx' : wr.cell? ⟨g, i, none⟩ = some (bv xi) := by
              have ea : (⟨g, 0, none⟩ : Addr).add i = ⟨g, i, none⟩ := by unfold Addr.add; split <;> simp_all
              rw [← ea]; exact hxx
            clear hst hmap hxr hTr hre hxie hca hfa hxx hxi hxe
            go_wp2_with fail
            go_still_tail 12, (by kernel_rfl)
            still_call (mul_still fv xi wr.drew HTR.out)
            repeat still_step
            refine wpStill_nil ?_
            go_wp2_with fail
            go_roundw
            case rel => exact ⟨i + 1, by omega, by go_num, by rw [HXR.out, ← HSM.out.2]; exact HSM.out.1.drew⟩
            case measure => simp [intOf]; omega
          · obtain rfl : i = l.length := by omega
            have hfull := HI.out
            rw [← HST.out.2.2.2, halfRow_full, HST.out.2.2.2] at hfull
            have hkp : k < parts.length := by rw [HPL.out]; exact hlt
            obtain ⟨bd, rfl, hq1⟩ := HL.out.2 k hkp
            have hb1 := hfull.ext.cell HB.out.2.1
            have hq1' := hfull.ext.cell hq1
            have hql := HQ2.out _ (List.getElem_mem hkp)
            have hpe : parts.getD k [] = parts[k] := by rw [List.getD_eq_getElem?_getD, List.getElem?_eq_getElem hkp]; rfl
            obtain ⟨y, hy⟩ : ∃ y, parts[k] = y := ⟨_, rfl⟩
            rw [hy] at hq1' hql hpe
            have hT4 := HT.out.ext hfull.ext
            have HT4 := Lib.hid hT4
            have hqq := HQ.out k
            rw [HQQ.out] at hqq
            have HFU := Lib.hid hfull
            have HPE := Lib.hid hpe
            clear hfull hq1 hpe hy hT4
            go_wp2_with fail
            refine (scale_any fv (sb y) _ HT4.out (by rw [size_sb]; exact hql)).mono ?_
            rintro e w4 ⟨rfl, hx4⟩
            have HX4 := Lib.hid hx4
            clear hx4
            go_wp2_with fail
            try rw [HQQ.out]
            refine (sum_any _ _ _ ?_ ?_).mono ?_
            · rw [size_sb]; exact hqq
            · rw [size_sb]; simpa [Gf.scale] using hql
            rintro e w5 ⟨rfl, hx5⟩
            have HX5 := Lib.hid (HX4.out.trans hx5)
            clear hx5
            go_wp2_with fail
            go_roundw
            case rel =>
              have e2 : (redTo rows parts l p (k + 1)).1 = Gf.redRow r x := by rw [HST.out.1]
              have e1 : (redTo rows parts l p (k + 1)).2 = Gf.sum q (Gf.scale fv y) := by
                rw [HST.out.1]
                dsimp only
                rw [redPart_nz (by rw [HST.out.2.1]; exact H0.out), HST.out.2.1, HF.out, HPE.out]
              refine ⟨k + 1, by omega, by go_num, ?_, ?_⟩
              · rw [e1]
              · rw [e2]; exact HFU.out.next HX5.out
            case measure => simp [intOf]; omega
    · obtain rfl : k = rows.length := by omega
      have hO := HR.out
      rw [redTo_full] at hO
      have hlen := Gf.reduce_length rows l
      have hadd : Gf.addRow rows l = if Gf.firstNZ (Gf.reduce rows l) = l.length then none else some ((Gf.reduce rows l).map (Gf.mul (Gf.inv ((Gf.reduce rows l).getD (Gf.firstNZ (Gf.reduce rows l)) 0)))) := rfl
      obtain ⟨r, hr'⟩ : ∃ r, Gf.reduce rows l = r := ⟨_, rfl⟩
      rw [hr'] at hO hlen hadd
      have hle := Gf.firstNZ_le r
      have hrd : Rd wr (some ⟨g1, 0, none⟩) (r.map bv) := hO.rd 0 rfl
      have HO := Lib.hid hO
      have HRD := Lib.hid hrd
      have HADD := Lib.hid hadd
      have HRR := Lib.hid hr'
      clear hO hrd hadd hr'
      go_wp2_with fail
      rw [← hlen]
      refine (cFirst_any r _ _ _ HRD.out (by omega)).mono ?_
      rintro e w' ⟨rfl, rfl⟩
      rw [Cd.first_eq, hlen]
      by_cases h0 : Gf.firstNZ r = l.length
      · have hno : Gf.addRow rows l = none := by rw [HADD.out, if_pos h0]
        have HNO := Lib.hid hno
        clear hno
        rw [h0]
        go_wp2_with fail
        go_ret
        exact ⟨by rw [HNO.out]; rfl, by rw [addTo_none HNO.out]; exact HS.out.next HO.out.ext⟩
      · obtain ⟨f, hf⟩ : ∃ f, Gf.firstNZ r = f := ⟨_, rfl⟩
        rw [hf] at hle h0
        have hfl : f < l.length := by omega
        have hcf : wr.cell? ⟨g1, f, none⟩ = some (bv (r.getD f 0)) := HO.out.cell 0 rfl f (u := bv (r.getD f 0)) (by rw [List.getElem?_map, List.getElem?_eq_getElem (by omega), List.getD_eq_getElem?_getD, List.getElem?_eq_getElem (by omega)]; rfl)
        have e1 : ((f : Int) == (l.length : Int)) = false := by rw [beq_eq_false_iff_ne]; omega
        have hyes : Gf.addRow rows l = some (r.map (Gf.mul (Gf.inv (r.getD f 0)))) := by rw [HADD.out, if_neg (by rw [hf]; exact h0), hf]
        have HYES := Lib.hid hyes
        have HF := Lib.hid hf
        have HLEN := Lib.hid hlen
        have hT2 := HT.out.ext HO.out.ext
        have HT2 := Lib.hid hT2
        rw [hf]
        clear hyes hf hle h0 hlen hT2
        obtain ⟨fv, hfv⟩ : ∃ fv, r.getD f 0 = fv := ⟨_, rfl⟩
        rw [hfv] at hcf
        have HFV := Lib.hid hfv
        clear hfv
        go_wp2_with fail
        refine (inv_u8 fv _ HT2.out).mono ?_
        rintro e w' ⟨rfl, rfl⟩
        go_wp2_with fail
        go_loopw [84] (fun vi wi => ∃ i : Nat, i ≤ l.length ∧ vi = .int .i64 i ∧ Hid (Owns w wi [⟨.slice (some ⟨g1, 0, none⟩) l.length c1, 5, 1, l.length, (halfMul (Gf.inv fv) r i).map bv⟩])) (fun vi _ => l.length - (intOf vi).toNat)
        case atStart => exact ⟨0, Nat.zero_le _, rfl, by rw [halfMul_zero]; exact HO.out⟩
        case round =>
          obtain ⟨i, hi, rfl, HI⟩ := hrel
          by_cases hli : i < l.length
          · have hri : i < r.length := by rw [HLEN.out]; exact hli
            have hca : wr.cell? ⟨g1, i, none⟩ = some (bv (r.getD i 0)) := HI.out.cell 0 rfl i (u := bv (r.getD i 0)) (by rw [List.getElem?_map, halfMul_at hri]; rfl)
            have hfa : wr.frozen? ⟨g1, i, none⟩ = false := HI.out.frozen 0 rfl i
            have hst := HI.out.store 0 rfl i (bv (Gf.mul (Gf.inv fv) (r.getD i 0)))
            have hmap : ((halfMul (Gf.inv fv) r i).map bv).set i (bv (Gf.mul (Gf.inv fv) (r.getD i 0))) = (halfMul (Gf.inv fv) r (i + 1)).map bv := by
              rw [← List.map_set, ← halfMul_set]
            obtain ⟨ri, hre⟩ : ∃ ri, r.getD i 0 = ri := ⟨_, rfl⟩
            rw [hre] at hca hst hmap
            have HSM := Lib.hid (And.intro hst hmap)
            have hTr := HT.out.ext HI.out.ext
            have HTR := Lib.hid hTr
            clear hst hmap hTr hre
            go_wp2_with fail
            refine (mul_u8 _ _ _ HTR.out).mono ?_
            rintro e w' ⟨rfl, rfl⟩
            go_wp2_with fail
            go_roundw
            case rel => exact ⟨i + 1, by omega, by go_num, by rw [← HSM.out.2]; exact HSM.out.1⟩
            case measure => simp [intOf]; omega
          · obtain rfl : i = l.length := by omega
            have hnew : addTo rows parts l p = (rows ++ [r.map (Gf.mul (Gf.inv fv))], parts ++ [Gf.scale (Gf.inv fv) (redTo rows parts l p rows.length).2]) := by
              rw [addTo_some HYES.out]
              unfold newPart
              rw [HRR.out, HF.out, HFV.out]
            have HNEW := Lib.hid hnew
            have HQR := Lib.hid (HQ.out rows.length)
            have hsome : (Gf.addRow rows l).isSome = true := by rw [HYES.out]; rfl
            have HSOME := Lib.hid hsome
            have hrl : (r.map (Gf.mul (Gf.inv fv))).length = l.length := by rw [List.length_map]; exact HLEN.out
            obtain ⟨A', B', cA', cB', hs, hl1, hl2, hO⟩ := HS.out
            have hrow := HI.out.row 0 rfl
            rw [← HLEN.out, halfMul_full, HLEN.out] at hrow
            have h2 := hO.behind HI.out.ext hrow
            obtain ⟨r', hr'⟩ : ∃ r', r.map (Gf.mul (Gf.inv fv)) = r' := ⟨_, rfl⟩
            rw [hr'] at h2 hrl hnew
            have hin : (⟨.slice (some ⟨g1, 0, none⟩) l.length c1, 5, 1, l.length, r'.map bv⟩ : LRow) = innerC1 (g1, c1) r' := by unfold innerC1; rw [hrl]
            rw [hin] at h2
            have hO5 : Owns w0 wr.drew (⟨.slice (some ⟨P, 0, none⟩) 1 1, 76, 3, 1, [.slice A' rows.length cA', .slice B' rows.length cB', .int .i64 l.length]⟩ :: ⟨.slice A' rows.length cA', 63, 1, rows.length, (innerC hs rows).map (·.v)⟩ :: ⟨.slice B' rows.length cB', 9, 1, rows.length, parts.map sv⟩ :: no :: no :: (innerC hs rows ++ [innerC1 (g1, c1) r'])) := (Owns.two h2).drew
            have P0 : wr.cell? ⟨P, 0, none⟩ = some (.slice A' rows.length cA') := hO5.cell 0 rfl 0 rfl
            have P1 : wr.cell? ⟨P, 1, none⟩ = some (.slice B' rows.length cB') := hO5.cell 0 rfl 1 rfl
            have PA0 : (wr.alloc (.cells #[.slice (some ⟨g1, 0, none⟩) l.length c1] 63)).cell? ⟨P, 0, none⟩ = some (.slice A' rows.length cA') := ((Ext.refl wr).alloc _).cell P0
            have PA1 : (wr.alloc (.cells #[.slice (some ⟨g1, 0, none⟩) l.length c1] 63)).cell? ⟨P, 1, none⟩ = some (.slice B' rows.length cB') := ((Ext.refl wr).alloc _).cell P1
            have HO5 := Lib.hid hO5
            have HL5 := Lib.hid (And.intro hl1 (And.intro hl2 (And.intro hrl hnew)))
            clear hnew hsome hrl hO hrow h2 hin hO5 hl1 hl2 hr'
            go_wp2_with fail
            have HO := HO5
            go_region_law (first
              | (have hB : Owns w0 (World.drew (World.alloc wr (.cells #[.slice (some ⟨g1, 0, none⟩) l.length c1] 63))) _ := HO.out.new 3 #[.slice (some ⟨g1, 0, none⟩) l.length c1] 63 (by simp [maxLen]); refine step_append_owns 62 63 rfl (.tmp 102) (.tmp 104) rfl Tryd.underlying62 info_bytes rfl hB 1 rfl rfl rfl (hB.cell 3 rfl 0 rfl) rfl (by omega) (by decide) ?_; clear hB; intro g8 c8 w8 hO8 hx8; have HO := Lib.hid hO8; have P0 : w8.cell? ⟨P, 0, none⟩ = some (.slice A' rows.length cA') := hO8.cell 0 rfl 0 rfl; have P1 : w8.cell? ⟨P, 1, none⟩ = some (.slice B' rows.length cB') := hO8.cell 0 rfl 1 rfl; clear hO8 hx8)
              | (have hB := HO.out.new 4 #[sv (Gf.scale (Gf.inv fv) (redTo rows parts l p rows.length).2)] 9 (by simp [maxLen]); refine step_append_owns 74 9 rfl (.tmp 109) (.tmp 113) rfl Tryd.underlying74 info_str rfl hB 2 rfl rfl rfl (hB.cell 4 rfl 0 rfl) rfl (by omega) (by decide) ?_; clear hB; intro g17 c17 w17 hO17 hx17; have HO := Lib.hid hO17; have P0 : w17.cell? ⟨P, 0, none⟩ = some (.slice A' rows.length cA') := hO17.cell 0 rfl 0 rfl; have P1 : w17.cell? ⟨P, 1, none⟩ = some (.slice B' rows.length cB') := hO17.cell 0 rfl 1 rfl; have F0 : w17.frozen? ⟨P, 0, none⟩ = false := hO17.frozen 0 rfl 0; have F1 : w17.frozen? ⟨P, 1, none⟩ = false := hO17.frozen 0 rfl 1; clear hO17 hx17)
              | (go_simp; refine (scale_any (Gf.inv fv) (sb (redTo rows parts l p rows.length).2) _ (HT0.out.ext HO.out.ext) (by rw [size_sb]; exact HQR.out)).mono ?_; rintro e w15 ⟨rfl, hx15⟩; dsimp only; have hO15 := HO.out.next hx15; have HO := Lib.hid hO15; have P0 : w15.cell? ⟨P, 0, none⟩ = some (.slice A' rows.length cA') := hO15.cell 0 rfl 0 rfl; have P1 : w15.cell? ⟨P, 1, none⟩ = some (.slice B' rows.length cB') := hO15.cell 0 rfl 1 rfl; have P1' : (w15.alloc (.cells #[sv (Gf.scale (Gf.inv fv) (redTo rows parts l p rows.length).2)] 9)).cell? ⟨P, 1, none⟩ = some (.slice B' rows.length cB') := ((Ext.refl w15).alloc _).cell P1; clear hO15 hx15))
            all_goals go_wp2_with fail
            all_goals go_ret
            all_goals refine ⟨by rw [HSOME.out]; rfl, ?_⟩
            all_goals rw [HL5.out.2.2.2]
            all_goals first
              | exact StairsOut.of HL5.out.1 HL5.out.2.1 HL5.out.2.2.1 ((HO.out.store 0 rfl 0 _).store 0 rfl 1 _)
              | exact StairsOut.of HL5.out.1 HL5.out.2.1 HL5.out.2.2.1 ((HO.out.store 0 rfl 1 _).store 0 rfl 0 _)
end Go.Proofs.YtdbolgollpnfdaaDoor
