/- What the program's functions do, step by step: part C of the texts for this claim; no condition beyond what each theorem states. -/
import Derived.RangeFuncNested
import Derived.RangeFuncBound
import Derived.RangeFuncCalls
import Derived.RangeFuncLeaves
import Derived.Shelf.Abstract
import Derived.Shelf.RegionOpen
import Derived.OwnWalkIn
import Derived.TacticsInMore
import Derived.LoopNIn
import Derived.LoopIn
import Derived.OrdersIn
import Derived.RangeFuncFrom
import Derived.ArgAppend
import Derived.WalkKit
import Derived.Test.YtdmljilcbndmfaaDoorRbJoiBunA
import Derived.Test.YtdmljilcbndmfaaDoorRbJoiBunB
/- THE WALK over solve of package matrix. -/
namespace Mx
/-- A solution of a system that has been reduced, if there is one. -/
def solved (A : Mat) (n : Nat) : Option (List UInt8) :=
  if n ∈ (redTo A (n + 1)).2 then none else some (solTo (redTo A (n + 1)).1 (redTo A (n + 1)).2 n (redTo A (n + 1)).2.length)
theorem solved_none {A : Mat} {n : Nat} (h : n ∈ (redTo A (n + 1)).2) : solved A n = none := if_pos h
theorem solved_some {A : Mat} {n : Nat} (h : n ∉ (redTo A (n + 1)).2) : solved A n = some (solTo (redTo A (n + 1)).1 (redTo A (n + 1)).2 n (redTo A (n + 1)).2.length) := if_neg h
theorem expr_solved (rows : Mat) (b : List UInt8) : expr rows b = solved (aug rows b) rows.length := rfl
end Mx
namespace Go.Proofs.YtdmljilcbndmfaaDoor
open Go.RowKit
theorem info_bool : (Tryd.prog.info? 4).map (fun i => (i.zero, i.size, i.bytes)) = some (some (.bool false), 1, 1) := by kernel_rfl
theorem Owns.made {w0 w w' : World} {L : List LRow} (h : Owns w0 w L) (i : Nat) {v : Value} {e s n : Nat} {xs : List Value} (hx : Ext w w') (ho : w'.ownsRow w.heap.size e s v n xs) : Owns w0 w' (L.set i ⟨v, e, s, n, xs⟩) :=
  (h.next hx).put i _ (h.ext.trans hx) ⟨ho.1, ho.2.imp id fun ⟨g, cap, cur, h1, h2, r⟩ => ⟨g, cap, cur, h1, Nat.le_trans h.ext.size h2, r⟩⟩ (fun _ _ _ _ _ _ => rfl) (fun j r _ hr => by
    unfold LRow.far
    cases hv : v.ownBlock with
    | none => exact .inl rfl
    | some g =>
      refine .inr fun hh => ?_
      have h1 := (World.ownsRow.lt (h.ok j r hr) g (by rw [← hh])).2
      have h2 := (ho.lt g hv).1
      omega)
theorem ex_make {P : Program} {o : Oper} {a : Act} {w w' : World} {t : TypeId} {l c : Operand} {x y v : Value} (ho : o.op = .makeSlice t l c) (hl : a.eval l = x) (hc : a.eval c = y) (hr : (Instr.makeSlice t x y).run P w = .ok v w') : (execOp a.eval o).run P w = .ok (.value v) w' := by
  unfold execOp
  simp only [ho, hl, hc, hr, Sem.run_bind, Sem.run_pure, Result.andThen_ok]
set_option maxHeartbeats 8000000 in
set_option maxRecDepth 100000 in
theorem xSolve1_any (m : Mx.Mat) (b : List UInt8) (n i k PU PM PB : Nat) (vm vb : Value) (w : World) (hM : Rs (Rs RB) w vm m) (hB : Rs RB w vb b) (hw : Mx.Rect n m) (hl : m.length = b.length) (hi : i < b.length)
    (c1 : w.cell? ⟨PU, 0, none⟩ = some (.int .i64 (n : Nat))) (c2 : w.cell? ⟨PM, 0, none⟩ = some vm) (c3 : w.cell? ⟨PB, 0, none⟩ = some vb) :
    Calls Tryd.prog 90 #[.int .i64 (i : Nat), .int .i64 (k : Nat), .pointer (some ⟨PU, 0, none⟩), .pointer (some ⟨PM, 0, none⟩), .pointer (some ⟨PB, 0, none⟩)] w fun e w' => e = .returned (bv (if k < n then Mx.cell m i k else b.getD i 0)) ∧ w = w' := by
  obtain ⟨MA, cM, rfl, hm64⟩ := hM.form
  obtain ⟨BA, cB, rfl, hb64⟩ := hB.form
  by_cases hk : k < n
  · rw [if_pos hk]
    obtain ⟨a1, u1, rfl, hc1, hu1⟩ := hM.at (i := i) (by omega)
    obtain ⟨QA, cQ, rfl, hq64⟩ := hu1.form
    have hrl : m[i].length = n := by
      have := hw i (by omega)
      rw [Mx.row_at (by omega)] at this
      exact this
    obtain ⟨a2, u2, rfl, hc2, hu2⟩ := hu1.at (i := k) (by rw [hrl]; exact hk)
    obtain rfl := hu2
    have hcell : Mx.cell m i k = m[i][k] := by
      unfold Mx.cell Mx.row
      rw [getD_got (show i < m.length by omega), getD_got (show k < m[i].length by rw [hrl]; exact hk)]
    rw [hcell]
    obtain ⟨x, hx⟩ : ∃ x, m[i][k] = x := ⟨_, rfl⟩
    rw [hx] at hc2 ⊢
    rw [hrl] at hc1
    rw [hl] at c2
    have him : (i : Int) < (b.length : Int) := by omega
    obtain ⟨N, hN⟩ : ∃ N, b.length = N := ⟨_, rfl⟩
    rw [hN] at c2 c3 him
    have hN2 : m.length = N := by omega
    clear hx hcell hrl hu1 hM hB hw hl hm64 hb64 hq64 hN hN2 hi
    go_enter Tryd.func90, Tryd.ntmps90
    go_wp2_with fail
    go_ret
    exact ⟨rfl, rfl⟩
  · rw [if_neg hk]
    obtain ⟨a2, u2, rfl, hc2, hu2⟩ := hB.at (i := i) hi
    obtain rfl := hu2
    rw [getD_got hi]
    obtain ⟨x, hx⟩ : ∃ x, b[i] = x := ⟨_, rfl⟩
    rw [hx] at hc2 ⊢
    have him : (i : Int) < (b.length : Int) := by omega
    obtain ⟨N, hN⟩ : ∃ N, b.length = N := ⟨_, rfl⟩
    rw [hN] at c3 him
    clear hx hM hB hw hm64 hb64
    go_enter Tryd.func90, Tryd.ntmps90
    go_wp2_with fail
    go_ret
    exact ⟨rfl, rfl⟩
noncomputable def so_make_code : Code := ((Tryd.f68.body.bind (regionOf 2)).getD .skip)
def so_make_dsts : List (Option Nat) := [some 28, some 29, some 30, some 31, some 6, some 11]
theorem so_make_apart : apartD so_make_dsts = true := by decide +kernel
set_option maxRecDepth 1000000 in
set_option maxHeartbeats 16000000 in
theorem so_make (w0 wr : World) (U n : Nat) (hx0 : Ext w0 wr) (hn : n ≤ 1000) (hU2 : w0.cell? ⟨U, 0, none⟩ = some (.int .i64 (n : Nat))) (c0 c1 c2 c3 c4 c6 c7 c8 c9 c10 c11 c12 c13 c14 c15 c16 c17 c18 c19 c20 c21 c22 c23 c24 c25 c26 c27 c28 c29 c30 c31 c32 c33 c34 c35 c36 c37 c38 c39 c40 c41 c42 c43 c44 c45 c46 c47 c48 c49 c50 c51 c52 c53 c54 c55 c56 c57 c58 c59 c60 c61 c62 c63 c64 c65 c66 c67 c68 c69 c70 c71 c72 c73 c74 c75 c76 c77 c78 c79 c80 c81 c82 c83 c84 c85 c86 c87 c88 c89 c90 c91 c92 c93 : Value) (df : List Deferred) (K : Act → World → Prop)
    (hK : ∀ (gx gb : Nat) (u28 u29 u30 u31 : Value) (wx : World), Owns w0 wx [⟨.slice (some ⟨gx, 0, none⟩) n n, 5, 1, n, List.replicate n (.int .u8 0)⟩, ⟨.slice (some ⟨gb, 0, none⟩) n n, 4, 1, n, List.replicate n (.bool false)⟩] → K ⟨#[c0, c1, c2, c3, c4, .pointer (some ⟨U, 0, none⟩), .slice (some ⟨gx, 0, none⟩) n n, c7, c8, c9, c10, .slice (some ⟨gb, 0, none⟩) n n, c12, c13, c14, c15, c16, c17, c18, c19, c20, c21, c22, c23, c24, c25, c26, c27, u28, u29, u30, u31, c32, c33, c34, c35, c36, c37, c38, c39, c40, c41, c42, c43, c44, c45, c46, c47, c48, c49, c50, c51, c52, c53, c54, c55, c56, c57, c58, c59, c60, c61, c62, c63, c64, c65, c66, c67, c68, c69, c70, c71, c72, c73, c74, c75, c76, c77, c78, c79, c80, c81, c82, c83, c84, c85, c86, c87, c88, c89, c90, c91, c92, c93], df⟩ wx) :
    Code.wp Tryd.prog so_make_code (AtEnd K) ⟨#[c0, c1, c2, c3, c4, .pointer (some ⟨U, 0, none⟩), c6, c7, c8, c9, c10, c11, c12, c13, c14, c15, c16, c17, c18, c19, c20, c21, c22, c23, c24, c25, c26, c27, c28, c29, c30, c31, c32, c33, c34, c35, c36, c37, c38, c39, c40, c41, c42, c43, c44, c45, c46, c47, c48, c49, c50, c51, c52, c53, c54, c55, c56, c57, c58, c59, c60, c61, c62, c63, c64, c65, c66, c67, c68, c69, c70, c71, c72, c73, c74, c75, c76, c77, c78, c79, c80, c81, c82, c83, c84, c85, c86, c87, c88, c89, c90, c91, c92, c93], df⟩ wr := by
  obtain ⟨i0, hi, hz0, hz1, hz2⟩ := info_parts info_u8
  obtain ⟨j0, hj, hy0, hy1, hy2⟩ := info_parts info_bool
  conv => arg 2; whnf
  refine region_inv (by kernel_rfl) [[], [0, 0], [], [2, 2], [1, 0, 1], [3, 4, 0, 1, 2, 3, 4]] (by kernel_rfl) [0, 1, 2, 3, 4, 5] (by decide +kernel) (by decide +kernel) (by decide +kernel) (fun L a wc => ∃ (gx : Nat) (gb : Nat), Inv so_make_dsts [.int .i64 (n : Nat), .slice (some ⟨gx, 0, none⟩) n n, .int .i64 (n : Nat), .slice (some ⟨gb, 0, none⟩) n n, .slice (some ⟨gx, 0, none⟩) n n, .slice (some ⟨gb, 0, none⟩) n n] ⟨#[c0, c1, c2, c3, c4, .pointer (some ⟨U, 0, none⟩), c6, c7, c8, c9, c10, c11, c12, c13, c14, c15, c16, c17, c18, c19, c20, c21, c22, c23, c24, c25, c26, c27, c28, c29, c30, c31, c32, c33, c34, c35, c36, c37, c38, c39, c40, c41, c42, c43, c44, c45, c46, c47, c48, c49, c50, c51, c52, c53, c54, c55, c56, c57, c58, c59, c60, c61, c62, c63, c64, c65, c66, c67, c68, c69, c70, c71, c72, c73, c74, c75, c76, c77, c78, c79, c80, c81, c82, c83, c84, c85, c86, c87, c88, c89, c90, c91, c92, c93], df⟩ L a ∧ Hid (Owns w0 wc [if L 1 = true then ⟨.slice (some ⟨gx, 0, none⟩) n n, 5, 1, n, List.replicate n (.int .u8 0)⟩ else no, if L 3 = true then ⟨.slice (some ⟨gb, 0, none⟩) n n, 4, 1, n, List.replicate n (.bool false)⟩ else no])) ⟨0, 0, Inv.start, Lib.hid (Owns.next (Owns.start w0 (fun r hr => by simp [no] at hr; subst hr; exact ⟨rfl, rfl, rfl⟩)) hx0.drew)⟩ ?_ ?_
  · refine ⟨?_, ?_, ?_, ?_, ?_, ?_, trivial⟩
    ·
      rintro L a wc ⟨gx, gb, hv, HO⟩ hL hc hd
      have h0 : wc.cell? ⟨U, 0, none⟩ = some (.int .i64 (n : Nat)) := HO.out.ext.cell hU2
      exact wpOp_val rfl rfl (ex_load rfl ((hv.fixed 5 (by decide)).trans rfl) (by go_simp)) ⟨gx, gb, hv.put so_make_apart 0 rfl (lb rfl) (lb rfl) rfl, HO⟩
    ·
      rintro L a wc ⟨gx, gb, hv, HO⟩ hL hc hd
      obtain ⟨w2, hrun, r1, r2⟩ := run_make_full (P := Tryd.prog) (w := wc) wc.heap.size 28 5 i0 (.int .u8 0) 1 Tryd.underlying28 hi hz0 hz1 .i64 .i64 n (by rw [hz2]; omega) (by unfold maxLen; omega) (Nat.le_refl _)
      have hx2 : Ext wc w2 := (Ext.refl wc).grown r2 (fun k h => by cases h)
      have r3 : w2.ownsRow wc.heap.size 5 1 (.slice (some ⟨wc.heap.size, 0, none⟩) n n) n (List.replicate n ((.int .u8 0))) := by
        rw [← toList_madeCells_one]
        simpa [Value.cells] using r1
      have hO := HO.out.made 0 hx2 r3
      have hv := hv.reset 4 (Bool.eq_false_iff.2 fun h => Bool.false_ne_true (hL.symm.trans (hc 4 h 1 (by decide)))) (.slice (some ⟨wc.heap.size, 0, none⟩) n n)
      exact wpOp_val rfl rfl (ex_make rfl (hv.get 0 rfl rfl (hd 0 (by decide))) (hv.get 0 rfl rfl (hd 0 (by decide))) hrun) ⟨wc.heap.size, gb, hv.put so_make_apart 1 rfl (lb rfl) (lb rfl) rfl, Lib.hid hO⟩
    ·
      rintro L a wc ⟨gx, gb, hv, HO⟩ hL hc hd
      have h0 : wc.cell? ⟨U, 0, none⟩ = some (.int .i64 (n : Nat)) := HO.out.ext.cell hU2
      exact wpOp_val rfl rfl (ex_load rfl ((hv.fixed 5 (by decide)).trans rfl) (by go_simp)) ⟨gx, gb, hv.put so_make_apart 2 rfl (lb rfl) (lb rfl) rfl, HO⟩
    ·
      rintro L a wc ⟨gx, gb, hv, HO⟩ hL hc hd
      obtain ⟨w2, hrun, r1, r2⟩ := run_make_full (P := Tryd.prog) (w := wc) wc.heap.size 131 4 j0 (.bool false) 1 Tryd.underlying131 hj hy0 hy1 .i64 .i64 n (by rw [hy2]; omega) (by unfold maxLen; omega) (Nat.le_refl _)
      have hx2 : Ext wc w2 := (Ext.refl wc).grown r2 (fun k h => by cases h)
      have r3 : w2.ownsRow wc.heap.size 4 1 (.slice (some ⟨wc.heap.size, 0, none⟩) n n) n (List.replicate n ((.bool false))) := by
        rw [← toList_madeCells_one]
        simpa [Value.cells] using r1
      have hO := HO.out.made 1 hx2 r3
      have hv := hv.reset 5 (Bool.eq_false_iff.2 fun h => Bool.false_ne_true (hL.symm.trans (hc 5 h 3 (by decide)))) (.slice (some ⟨wc.heap.size, 0, none⟩) n n)
      exact wpOp_val rfl rfl (ex_make rfl (hv.get 2 rfl rfl (hd 2 (by decide))) (hv.get 2 rfl rfl (hd 2 (by decide))) hrun) ⟨gx, wc.heap.size, hv.put so_make_apart 3 rfl (lb rfl) (lb rfl) rfl, Lib.hid hO⟩
    ·
      rintro L a wc ⟨gx, gb, hv, HO⟩ hL hc hd
      exact wpOp_val rfl rfl (ex_assign rfl (hv.get 1 rfl rfl (hd 1 (by decide)))) ⟨gx, gb, hv.put so_make_apart 4 rfl (lb rfl) (lb rfl) rfl, HO⟩
    ·
      rintro L a wc ⟨gx, gb, hv, HO⟩ hL hc hd
      exact wpOp_val rfl rfl (ex_assign rfl (hv.get 3 rfl rfl (hd 3 (by decide)))) ⟨gx, gb, hv.put so_make_apart 5 rfl (lb rfl) (lb rfl) rfl, HO⟩
  · rintro L a wc ⟨gx, gb, hv, HO⟩ hall
    show K a wc
    have ha := act_lit a
    rw [hv.size, hv.defers] at ha
    have hl : ∀ f : Nat → Value, ((List.range (⟨#[c0, c1, c2, c3, c4, .pointer (some ⟨U, 0, none⟩), c6, c7, c8, c9, c10, c11, c12, c13, c14, c15, c16, c17, c18, c19, c20, c21, c22, c23, c24, c25, c26, c27, c28, c29, c30, c31, c32, c33, c34, c35, c36, c37, c38, c39, c40, c41, c42, c43, c44, c45, c46, c47, c48, c49, c50, c51, c52, c53, c54, c55, c56, c57, c58, c59, c60, c61, c62, c63, c64, c65, c66, c67, c68, c69, c70, c71, c72, c73, c74, c75, c76, c77, c78, c79, c80, c81, c82, c83, c84, c85, c86, c87, c88, c89, c90, c91, c92, c93], df⟩ : Act).tmps.size).map f).toArray = #[f 0, f 1, f 2, f 3, f 4, f 5, f 6, f 7, f 8, f 9, f 10, f 11, f 12, f 13, f 14, f 15, f 16, f 17, f 18, f 19, f 20, f 21, f 22, f 23, f 24, f 25, f 26, f 27, f 28, f 29, f 30, f 31, f 32, f 33, f 34, f 35, f 36, f 37, f 38, f 39, f 40, f 41, f 42, f 43, f 44, f 45, f 46, f 47, f 48, f 49, f 50, f 51, f 52, f 53, f 54, f 55, f 56, f 57, f 58, f 59, f 60, f 61, f 62, f 63, f 64, f 65, f 66, f 67, f 68, f 69, f 70, f 71, f 72, f 73, f 74, f 75, f 76, f 77, f 78, f 79, f 80, f 81, f 82, f 83, f 84, f 85, f 86, f 87, f 88, f 89, f 90, f 91, f 92, f 93] := fun _ => rfl
    rw [hl] at ha
    simp only [hv.fixed 0 (by decide), hv.fixed 1 (by decide), hv.fixed 2 (by decide), hv.fixed 3 (by decide), hv.fixed 4 (by decide), hv.fixed 5 (by decide), hv.fixed 7 (by decide), hv.fixed 8 (by decide), hv.fixed 9 (by decide), hv.fixed 10 (by decide), hv.fixed 12 (by decide), hv.fixed 13 (by decide), hv.fixed 14 (by decide), hv.fixed 15 (by decide), hv.fixed 16 (by decide), hv.fixed 17 (by decide), hv.fixed 18 (by decide), hv.fixed 19 (by decide), hv.fixed 20 (by decide), hv.fixed 21 (by decide), hv.fixed 22 (by decide), hv.fixed 23 (by decide), hv.fixed 24 (by decide), hv.fixed 25 (by decide), hv.fixed 26 (by decide), hv.fixed 27 (by decide), hv.fixed 32 (by decide), hv.fixed 33 (by decide), hv.fixed 34 (by decide), hv.fixed 35 (by decide), hv.fixed 36 (by decide), hv.fixed 37 (by decide), hv.fixed 38 (by decide), hv.fixed 39 (by decide), hv.fixed 40 (by decide), hv.fixed 41 (by decide), hv.fixed 42 (by decide), hv.fixed 43 (by decide), hv.fixed 44 (by decide), hv.fixed 45 (by decide), hv.fixed 46 (by decide), hv.fixed 47 (by decide), hv.fixed 48 (by decide), hv.fixed 49 (by decide), hv.fixed 50 (by decide), hv.fixed 51 (by decide), hv.fixed 52 (by decide), hv.fixed 53 (by decide), hv.fixed 54 (by decide), hv.fixed 55 (by decide), hv.fixed 56 (by decide), hv.fixed 57 (by decide), hv.fixed 58 (by decide), hv.fixed 59 (by decide), hv.fixed 60 (by decide), hv.fixed 61 (by decide), hv.fixed 62 (by decide), hv.fixed 63 (by decide), hv.fixed 64 (by decide), hv.fixed 65 (by decide), hv.fixed 66 (by decide), hv.fixed 67 (by decide), hv.fixed 68 (by decide), hv.fixed 69 (by decide), hv.fixed 70 (by decide), hv.fixed 71 (by decide), hv.fixed 72 (by decide), hv.fixed 73 (by decide), hv.fixed 74 (by decide), hv.fixed 75 (by decide), hv.fixed 76 (by decide), hv.fixed 77 (by decide), hv.fixed 78 (by decide), hv.fixed 79 (by decide), hv.fixed 80 (by decide), hv.fixed 81 (by decide), hv.fixed 82 (by decide), hv.fixed 83 (by decide), hv.fixed 84 (by decide), hv.fixed 85 (by decide), hv.fixed 86 (by decide), hv.fixed 87 (by decide), hv.fixed 88 (by decide), hv.fixed 89 (by decide), hv.fixed 90 (by decide), hv.fixed 91 (by decide), hv.fixed 92 (by decide), hv.fixed 93 (by decide), hv.get 4 (d := 6) rfl rfl (hall 4 (by decide)), hv.get 5 (d := 11) rfl rfl (hall 5 (by decide))] at ha
    rw [ha]
    have h1 := hall 1 (by decide)
    have h3 := hall 3 (by decide)
    have h := HO.out
    rw [if_pos h1, if_pos h3] at h
    exact hK gx gb _ _ _ _ wc h
noncomputable def so_put_code : Code := ((Tryd.f68.body.bind (regionOf 8)).getD .skip)
def so_put_dsts : List (Option Nat) := [some 42, some 43, some 44, some 45, some 46, some 47, some 48, some 49, some 50, some 51, some 52, some 53, none, some 54, none]
theorem so_put_apart : apartD so_put_dsts = true := by decide +kernel
set_option maxRecDepth 1000000 in
set_option maxHeartbeats 16000000 in
theorem so_put (wr : World) (U n gx gb c p k cR cQ q : Nat) (ar aq : Addr) (v x0 : UInt8) (b0 : Bool) (hc0 : c < n) (hk : k < p) (hnq : n < q) (hU : wr.cell? ⟨U, 0, none⟩ = some (.int .i64 (n : Nat))) (hR : wr.cell? (ar.add k) = some (.slice (some aq) q cQ)) (hQ : wr.cell? (aq.add n) = some (bv v)) (hX : wr.cell? ⟨gx, c, none⟩ = some (bv x0)) (hXf : wr.frozen? ⟨gx, c, none⟩ = false) (hB : ((wr.drew).setCell ⟨gx, c, none⟩ (bv v)).cell? ⟨gb, c, none⟩ = some (.bool b0)) (hBf : ((wr.drew).setCell ⟨gx, c, none⟩ (bv v)).frozen? ⟨gb, c, none⟩ = false) (c0 c1 c2 c3 c4 c7 c8 c10 c14 c15 c16 c17 c18 c19 c20 c21 c22 c23 c24 c25 c26 c27 c28 c29 c30 c31 c32 c33 c34 c35 c36 c37 c38 c39 c40 c41 c42 c43 c44 c45 c46 c47 c48 c49 c50 c51 c52 c53 c54 c55 c56 c57 c58 c59 c60 c61 c62 c63 c64 c65 c66 c67 c68 c69 c70 c71 c72 c73 c74 c75 c76 c77 c78 c79 c80 c81 c82 c83 c84 c85 c86 c87 c88 c89 c90 c91 c92 c93 : Value) (df : List Deferred) (K : Act → World → Prop)
    (hK : ∀  (u42 u43 u44 u45 u46 u47 u48 u49 u50 u51 u52 u53 u54 : Value) (wx : World), wx = ((wr.drew).setCell ⟨gx, c, none⟩ (bv v)).setCell ⟨gb, c, none⟩ (.bool true) → K ⟨#[c0, c1, c2, c3, c4, .pointer (some ⟨U, 0, none⟩), .slice (some ⟨gx, 0, none⟩) n n, c7, c8, .slice (some ar) p cR, c10, .slice (some ⟨gb, 0, none⟩) n n, .int .i64 (k : Nat), .int .i64 (c : Nat), c14, c15, c16, c17, c18, c19, c20, c21, c22, c23, c24, c25, c26, c27, c28, c29, c30, c31, c32, c33, c34, c35, c36, c37, c38, c39, c40, c41, u42, u43, u44, u45, u46, u47, u48, u49, u50, u51, u52, u53, u54, c55, c56, c57, c58, c59, c60, c61, c62, c63, c64, c65, c66, c67, c68, c69, c70, c71, c72, c73, c74, c75, c76, c77, c78, c79, c80, c81, c82, c83, c84, c85, c86, c87, c88, c89, c90, c91, c92, c93], df⟩ wx) :
    Code.wp Tryd.prog so_put_code (AtEnd K) ⟨#[c0, c1, c2, c3, c4, .pointer (some ⟨U, 0, none⟩), .slice (some ⟨gx, 0, none⟩) n n, c7, c8, .slice (some ar) p cR, c10, .slice (some ⟨gb, 0, none⟩) n n, .int .i64 (k : Nat), .int .i64 (c : Nat), c14, c15, c16, c17, c18, c19, c20, c21, c22, c23, c24, c25, c26, c27, c28, c29, c30, c31, c32, c33, c34, c35, c36, c37, c38, c39, c40, c41, c42, c43, c44, c45, c46, c47, c48, c49, c50, c51, c52, c53, c54, c55, c56, c57, c58, c59, c60, c61, c62, c63, c64, c65, c66, c67, c68, c69, c70, c71, c72, c73, c74, c75, c76, c77, c78, c79, c80, c81, c82, c83, c84, c85, c86, c87, c88, c89, c90, c91, c92, c93], df⟩ wr := by
  conv => arg 2; whnf
  refine region_inv (by kernel_rfl) [[], [], [], [], [], [], [4, 5], [6], [], [7, 8], [9], [0, 1, 0, 1, 4, 5, 6, 7, 8, 9, 10], [11, 10, 0, 1, 4, 5, 6, 7, 8, 9, 10], [2, 3, 0, 1, 2, 3, 4, 5, 6, 7, 8, 9, 10, 11, 12], [13, 12, 0, 1, 2, 3, 4, 5, 6, 7, 8, 9, 10, 11, 12]] (by kernel_rfl) [0, 1, 2, 3, 4, 5, 6, 7, 8, 9, 10, 11, 12, 13, 14] (by decide +kernel) (by decide +kernel) (by decide +kernel) (fun L a wc => Inv so_put_dsts [.slice (some ⟨gx, 0, none⟩) n n, .int .i64 (c : Nat), .slice (some ⟨gb, 0, none⟩) n n, .int .i64 (c : Nat), .slice (some ar) p cR, .int .i64 (k : Nat), .pointer (some (ar.add k)), .slice (some aq) q cQ, .int .i64 (n : Nat), .pointer (some (aq.add n)), bv v, .pointer (some ⟨gx, c, none⟩), undef, .pointer (some ⟨gb, c, none⟩), undef] ⟨#[c0, c1, c2, c3, c4, .pointer (some ⟨U, 0, none⟩), .slice (some ⟨gx, 0, none⟩) n n, c7, c8, .slice (some ar) p cR, c10, .slice (some ⟨gb, 0, none⟩) n n, .int .i64 (k : Nat), .int .i64 (c : Nat), c14, c15, c16, c17, c18, c19, c20, c21, c22, c23, c24, c25, c26, c27, c28, c29, c30, c31, c32, c33, c34, c35, c36, c37, c38, c39, c40, c41, c42, c43, c44, c45, c46, c47, c48, c49, c50, c51, c52, c53, c54, c55, c56, c57, c58, c59, c60, c61, c62, c63, c64, c65, c66, c67, c68, c69, c70, c71, c72, c73, c74, c75, c76, c77, c78, c79, c80, c81, c82, c83, c84, c85, c86, c87, c88, c89, c90, c91, c92, c93], df⟩ L a ∧ Hid ((L 12 = false → wc = wr.drew) ∧ (L 12 = true → L 14 = false → wc = (wr.drew).setCell ⟨gx, c, none⟩ (bv v)) ∧ (L 14 = true → wc = ((wr.drew).setCell ⟨gx, c, none⟩ (bv v)).setCell ⟨gb, c, none⟩ (.bool true)))) ⟨Inv.start, Lib.hid ⟨fun _ => rfl, fun h => (by cases h), fun h => by cases h⟩⟩ ?_ ?_
  · refine ⟨?_, ?_, ?_, ?_, ?_, ?_, ?_, ?_, ?_, ?_, ?_, ?_, ?_, ?_, ?_, trivial⟩
    ·
      rintro L a wc ⟨hv, HO⟩ hL hc hd
      exact wpOp_val rfl rfl (ex_move rfl ((hv.fixed 6 (by decide)).trans rfl)) ⟨hv.put so_put_apart 0 rfl (lb rfl) (lb rfl) rfl, HO⟩
    ·
      rintro L a wc ⟨hv, HO⟩ hL hc hd
      exact wpOp_val rfl rfl (ex_move rfl ((hv.fixed 13 (by decide)).trans rfl)) ⟨hv.put so_put_apart 1 rfl (lb rfl) (lb rfl) rfl, HO⟩
    ·
      rintro L a wc ⟨hv, HO⟩ hL hc hd
      exact wpOp_val rfl rfl (ex_move rfl ((hv.fixed 11 (by decide)).trans rfl)) ⟨hv.put so_put_apart 2 rfl (lb rfl) (lb rfl) rfl, HO⟩
    ·
      rintro L a wc ⟨hv, HO⟩ hL hc hd
      exact wpOp_val rfl rfl (ex_move rfl ((hv.fixed 13 (by decide)).trans rfl)) ⟨hv.put so_put_apart 3 rfl (lb rfl) (lb rfl) rfl, HO⟩
    ·
      rintro L a wc ⟨hv, HO⟩ hL hc hd
      exact wpOp_val rfl rfl (ex_move rfl ((hv.fixed 9 (by decide)).trans rfl)) ⟨hv.put so_put_apart 4 rfl (lb rfl) (lb rfl) rfl, HO⟩
    ·
      rintro L a wc ⟨hv, HO⟩ hL hc hd
      exact wpOp_val rfl rfl (ex_move rfl ((hv.fixed 12 (by decide)).trans rfl)) ⟨hv.put so_put_apart 5 rfl (lb rfl) (lb rfl) rfl, HO⟩
    ·
      rintro L a wc ⟨hv, HO⟩ hL hc hd
      have u1 : (0 : Int) ≤ (k : Int) := by omega
      have u2 : (k : Int) < (p : Int) := by omega
      exact wpOp_val rfl rfl (ex_index rfl (hv.get 4 rfl rfl (hd 4 (by decide))) (hv.get 5 rfl rfl (hd 5 (by decide))) (by go_simp)) ⟨hv.put so_put_apart 6 rfl (lb rfl) (lb rfl) rfl, HO⟩
    ·
      rintro L a wc ⟨hv, HO⟩ hL hc hd
      have hw0 : wc = wr.drew := HO.out.1 (Bool.eq_false_iff.2 fun h => Bool.false_ne_true (hL.symm.trans (hc 12 h 7 (by decide))))
      have h0 : wc.cell? (ar.add k) = some (.slice (some aq) q cQ) := (by rw [hw0]; exact hR)
      exact wpOp_val rfl rfl (ex_load rfl (hv.get 6 rfl rfl (hd 6 (by decide))) (by go_simp)) ⟨hv.put so_put_apart 7 rfl (lb rfl) (lb rfl) rfl, HO⟩
    ·
      rintro L a wc ⟨hv, HO⟩ hL hc hd
      have hw0 : wc = wr.drew := HO.out.1 (Bool.eq_false_iff.2 fun h => Bool.false_ne_true (hL.symm.trans (hc 12 h 8 (by decide))))
      have h0 : wc.cell? ⟨U, 0, none⟩ = some (.int .i64 (n : Nat)) := (by rw [hw0]; exact hU)
      exact wpOp_val rfl rfl (ex_load rfl ((hv.fixed 5 (by decide)).trans rfl) (by go_simp)) ⟨hv.put so_put_apart 8 rfl (lb rfl) (lb rfl) rfl, HO⟩
    ·
      rintro L a wc ⟨hv, HO⟩ hL hc hd
      have u1 : (0 : Int) ≤ (n : Int) := by omega
      have u2 : (n : Int) < (q : Int) := by omega
      exact wpOp_val rfl rfl (ex_index rfl (hv.get 7 rfl rfl (hd 7 (by decide))) (hv.get 8 rfl rfl (hd 8 (by decide))) (by go_simp)) ⟨hv.put so_put_apart 9 rfl (lb rfl) (lb rfl) rfl, HO⟩
    ·
      rintro L a wc ⟨hv, HO⟩ hL hc hd
      have hw0 : wc = wr.drew := HO.out.1 (Bool.eq_false_iff.2 fun h => Bool.false_ne_true (hL.symm.trans (hc 12 h 10 (by decide))))
      have h0 : wc.cell? (aq.add n) = some (bv v) := (by rw [hw0]; exact hQ)
      exact wpOp_val rfl rfl (ex_load rfl (hv.get 9 rfl rfl (hd 9 (by decide))) (by go_simp)) ⟨hv.put so_put_apart 10 rfl (lb rfl) (lb rfl) rfl, HO⟩
    ·
      rintro L a wc ⟨hv, HO⟩ hL hc hd
      have u1 : (0 : Int) ≤ (c : Int) := by omega
      have u2 : (c : Int) < (n : Int) := by omega
      exact wpOp_val rfl rfl (ex_index rfl (hv.get 0 rfl rfl (hd 0 (by decide))) (hv.get 1 rfl rfl (hd 1 (by decide))) (by go_simp)) ⟨hv.put so_put_apart 11 rfl (lb rfl) (lb rfl) rfl, HO⟩
    ·
      rintro L a wc ⟨hv, HO⟩ hL hc hd
      have hw0 : wc = wr.drew := HO.out.1 hL
      have f0 : wc.frozen? ⟨gx, c, none⟩ = false := by rw [hw0]; exact hXf
      have c1 : wc.cell? ⟨gx, c, none⟩ = some (bv x0) := by rw [hw0]; exact hX
      exact wpOp_skip rfl rfl rfl (ex_store (w' := wc.setCell ⟨gx, c, none⟩ (bv v)) rfl (hv.get 11 rfl rfl (hd 11 (by decide))) (hv.get 10 rfl rfl (hd 10 (by decide))) (by clear hw0; go_simp)) ⟨hv.skip 12 rfl, Lib.hid ⟨fun h => absurd h (by simp [upd]), fun _ _ => by rw [hw0], fun h => absurd (hc 14 h 12 (by decide)) (by rw [hL]; decide)⟩⟩
    ·
      rintro L a wc ⟨hv, HO⟩ hL hc hd
      have u1 : (0 : Int) ≤ (c : Int) := by omega
      have u2 : (c : Int) < (n : Int) := by omega
      exact wpOp_val rfl rfl (ex_index rfl (hv.get 2 rfl rfl (hd 2 (by decide))) (hv.get 3 rfl rfl (hd 3 (by decide))) (by go_simp)) ⟨hv.put so_put_apart 13 rfl (lb rfl) (lb rfl) rfl, HO⟩
    ·
      rintro L a wc ⟨hv, HO⟩ hL hc hd
      have hw0 : wc = (wr.drew).setCell ⟨gx, c, none⟩ (bv v) := HO.out.2.1 (hd 12 (by decide)) hL
      have f0 : wc.frozen? ⟨gb, c, none⟩ = false := by rw [hw0]; exact hBf
      have c1 : wc.cell? ⟨gb, c, none⟩ = some (.bool b0) := by rw [hw0]; exact hB
      exact wpOp_skip rfl rfl rfl (ex_store (w' := wc.setCell ⟨gb, c, none⟩ (.bool true)) rfl (hv.get 13 rfl rfl (hd 13 (by decide))) rfl (by clear hw0; go_simp)) ⟨hv.skip 14 rfl, Lib.hid ⟨fun h => absurd (h.symm.trans (show upd L 14 12 = true from hd 12 (by decide))) (by decide), fun _ h => absurd h (by simp [upd]), fun _ => by rw [hw0]⟩⟩
  · rintro L a wc ⟨hv, HO⟩ hall
    show K a wc
    have ha := act_lit a
    rw [hv.size, hv.defers] at ha
    have hl : ∀ f : Nat → Value, ((List.range (⟨#[c0, c1, c2, c3, c4, .pointer (some ⟨U, 0, none⟩), .slice (some ⟨gx, 0, none⟩) n n, c7, c8, .slice (some ar) p cR, c10, .slice (some ⟨gb, 0, none⟩) n n, .int .i64 (k : Nat), .int .i64 (c : Nat), c14, c15, c16, c17, c18, c19, c20, c21, c22, c23, c24, c25, c26, c27, c28, c29, c30, c31, c32, c33, c34, c35, c36, c37, c38, c39, c40, c41, c42, c43, c44, c45, c46, c47, c48, c49, c50, c51, c52, c53, c54, c55, c56, c57, c58, c59, c60, c61, c62, c63, c64, c65, c66, c67, c68, c69, c70, c71, c72, c73, c74, c75, c76, c77, c78, c79, c80, c81, c82, c83, c84, c85, c86, c87, c88, c89, c90, c91, c92, c93], df⟩ : Act).tmps.size).map f).toArray = #[f 0, f 1, f 2, f 3, f 4, f 5, f 6, f 7, f 8, f 9, f 10, f 11, f 12, f 13, f 14, f 15, f 16, f 17, f 18, f 19, f 20, f 21, f 22, f 23, f 24, f 25, f 26, f 27, f 28, f 29, f 30, f 31, f 32, f 33, f 34, f 35, f 36, f 37, f 38, f 39, f 40, f 41, f 42, f 43, f 44, f 45, f 46, f 47, f 48, f 49, f 50, f 51, f 52, f 53, f 54, f 55, f 56, f 57, f 58, f 59, f 60, f 61, f 62, f 63, f 64, f 65, f 66, f 67, f 68, f 69, f 70, f 71, f 72, f 73, f 74, f 75, f 76, f 77, f 78, f 79, f 80, f 81, f 82, f 83, f 84, f 85, f 86, f 87, f 88, f 89, f 90, f 91, f 92, f 93] := fun _ => rfl
    rw [hl] at ha
    simp only [hv.fixed 0 (by decide), hv.fixed 1 (by decide), hv.fixed 2 (by decide), hv.fixed 3 (by decide), hv.fixed 4 (by decide), hv.fixed 5 (by decide), hv.fixed 6 (by decide), hv.fixed 7 (by decide), hv.fixed 8 (by decide), hv.fixed 9 (by decide), hv.fixed 10 (by decide), hv.fixed 11 (by decide), hv.fixed 12 (by decide), hv.fixed 13 (by decide), hv.fixed 14 (by decide), hv.fixed 15 (by decide), hv.fixed 16 (by decide), hv.fixed 17 (by decide), hv.fixed 18 (by decide), hv.fixed 19 (by decide), hv.fixed 20 (by decide), hv.fixed 21 (by decide), hv.fixed 22 (by decide), hv.fixed 23 (by decide), hv.fixed 24 (by decide), hv.fixed 25 (by decide), hv.fixed 26 (by decide), hv.fixed 27 (by decide), hv.fixed 28 (by decide), hv.fixed 29 (by decide), hv.fixed 30 (by decide), hv.fixed 31 (by decide), hv.fixed 32 (by decide), hv.fixed 33 (by decide), hv.fixed 34 (by decide), hv.fixed 35 (by decide), hv.fixed 36 (by decide), hv.fixed 37 (by decide), hv.fixed 38 (by decide), hv.fixed 39 (by decide), hv.fixed 40 (by decide), hv.fixed 41 (by decide), hv.fixed 55 (by decide), hv.fixed 56 (by decide), hv.fixed 57 (by decide), hv.fixed 58 (by decide), hv.fixed 59 (by decide), hv.fixed 60 (by decide), hv.fixed 61 (by decide), hv.fixed 62 (by decide), hv.fixed 63 (by decide), hv.fixed 64 (by decide), hv.fixed 65 (by decide), hv.fixed 66 (by decide), hv.fixed 67 (by decide), hv.fixed 68 (by decide), hv.fixed 69 (by decide), hv.fixed 70 (by decide), hv.fixed 71 (by decide), hv.fixed 72 (by decide), hv.fixed 73 (by decide), hv.fixed 74 (by decide), hv.fixed 75 (by decide), hv.fixed 76 (by decide), hv.fixed 77 (by decide), hv.fixed 78 (by decide), hv.fixed 79 (by decide), hv.fixed 80 (by decide), hv.fixed 81 (by decide), hv.fixed 82 (by decide), hv.fixed 83 (by decide), hv.fixed 84 (by decide), hv.fixed 85 (by decide), hv.fixed 86 (by decide), hv.fixed 87 (by decide), hv.fixed 88 (by decide), hv.fixed 89 (by decide), hv.fixed 90 (by decide), hv.fixed 91 (by decide), hv.fixed 92 (by decide), hv.fixed 93 (by decide)] at ha
    rw [ha]
    exact hK _ _ _ _ _ _ _ _ _ _ _ _ _ wc (HO.out.2.2 (hall 14 (by decide)))
set_option maxHeartbeats 16000000 in
set_option maxRecDepth 100000 in
theorem xSolve_any (m : Mx.Mat) (b : List UInt8) (n N : Nat) (vm vb : Value) (w : World) (hT : Tab w) (hM : Rs (Rs RB) w vm m) (hB : Rs RB w vb b) (hw : Mx.Rect n m) (hl : m.length = b.length) (hN : b.length = N) (h0 : 0 < N) (hN1 : N ≤ 1000) (hn : n ≤ 999) :
    Calls Tryd.prog 68 #[vm, vb, .int .i64 (n : Nat)] w fun e w' => ∃ X K, e = .returned (.tuple #[X, K, .bool (Mx.solved (tabled N (n + 1) (fun i k => if k < n then Mx.cell m i k else b.getD i 0)) n).isSome]) ∧ Rs RB w' X ((Mx.solved (tabled N (n + 1) (fun i k => if k < n then Mx.cell m i k else b.getD i 0)) n).getD []) ∧ Ext w w' := by
  obtain ⟨MA, cM, rfl, hm64⟩ := hM.form
  obtain ⟨BA, cB, rfl, hb64⟩ := hB.form
  have hmN : m.length = N := by omega
  rw [hmN] at hM ⊢
  rw [hN] at hB ⊢
  obtain ⟨A, hA⟩ : ∃ A, tabled N (n + 1) (fun i k => if k < n then Mx.cell m i k else b.getD i 0) = A := ⟨_, rfl⟩
  obtain ⟨w3, hw3⟩ : ∃ w3, ((w.alloc (.cells #[.slice MA N cM] 65)).alloc (.cells #[.slice BA N cB] 28)).alloc (.cells #[.int .i64 (n : Nat)] 3) = w3 := ⟨_, rfl⟩
  have hx3 : Ext w w3 := by rw [← hw3]; exact (((Ext.refl w).alloc _).alloc _).alloc _
  have d1 : w3.cell? ⟨w.heap.size, 0, none⟩ = some (.slice MA N cM) := by rw [← hw3]; clear hw3; go_simp
  have d2 : w3.cell? ⟨w.heap.size + 1, 0, none⟩ = some (.slice BA N cB) := by rw [← hw3]; clear hw3; go_simp
  have d3 : w3.cell? ⟨w.heap.size + 1 + 1, 0, none⟩ = some (.int .i64 (n : Nat)) := by rw [← hw3]; clear hw3; go_simp
  have hcall := xGrid_any N (n + 1) 90 #[.pointer (some ⟨w.heap.size + 1 + 1, 0, none⟩), .pointer (some ⟨w.heap.size, 0, none⟩), .pointer (some ⟨w.heap.size + 1, 0, none⟩)] (fun i k => if k < n then Mx.cell m i k else b.getD i 0) w3 hN1 (by omega) (enters_of Tryd.func90 (by kernel_rfl) rfl)
    (fun i k hi _ w' hx' => xSolve1_any m b n i k _ _ _ _ _ w' (Rs.ext (Rs.ext RB.ext) _ _ _ _ (hx3.trans hx') hM) (Rs.ext RB.ext _ _ _ _ (hx3.trans hx') hB) hw (by omega) (by omega) (hx'.cell d3) (hx'.cell d1) (hx'.cell d2))
  rw [hA] at hcall ⊢
  rw [show ((n + 1 : Nat) : Int) = (n : Int) + 1 by omega] at hcall
  have HC := Lib.hid hcall
  have hAl : A.length = N := by rw [← hA, tabled_length]
  have hAm : ∀ r ∈ A, r.length = n + 1 := by rw [← hA]; exact fun r hr => tabled_wide hr
  have hAr : Mx.Rect (n + 1) A := fun i hi => by rw [Mx.row_at hi]; exact hAm _ (List.getElem_mem _)
  have HA := Lib.hid (And.intro hAl hAr)
  have HW := Lib.hid hw3
  have HX3 := Lib.hid hx3
  have HT := Lib.hid hT
  have HD := Lib.hid (And.intro d1 (And.intro d2 d3))
  clear hM hB hw hl hN hmN hm64 hb64 hA hcall hAl hAr hAm hT hx3 hw3
  rw [← HW.out] at d1 d2 d3
  go_enter Tryd.func68, Tryd.ntmps68
  go_wp2_with fail
  clear d1 d2 d3
  rw [HW.out]
  refine HC.out.mono ?_
  rintro e w4 ⟨v4, rfl, hr4, hx4⟩
  have HX4 := Lib.hid (HX3.out.trans hx4)
  have HR4 := Lib.hid hr4
  have HD4 := Lib.hid (And.intro (hx4.cell HD.out.1) (And.intro (hx4.cell HD.out.2.1) (hx4.cell HD.out.2.2)))
  clear hr4 hx4 HC
  go_wp2_with fail
  refine (xReduce_any A (n + 1) N _ w4 (HT.out.ext HX4.out) HR4.out HA.out.2 HA.out.1 (by omega) (by omega) h0 hN1).mono ?_
  rintro e w5 ⟨vR, vP, rfl, hR5, hP5, hx5⟩
  have HX5 := Lib.hid (HX4.out.trans hx5)
  obtain ⟨R, hR⟩ : ∃ R, (Mx.redTo A (n + 1)).1 = R := ⟨_, rfl⟩
  obtain ⟨P, hP⟩ : ∃ P, (Mx.redTo A (n + 1)).2 = P := ⟨_, rfl⟩
  have red := Mx.red_to HA.out.2 (n + 1)
  rw [hR, hP] at hR5 red
  rw [hP] at hP5
  obtain ⟨RA, cR, rfl, _⟩ := hR5.form
  obtain ⟨PA, cP, rfl, _⟩ := hP5.form
  obtain ⟨p, hp⟩ : ∃ p, P.length = p := ⟨_, rfl⟩
  have hpR : p ≤ R.length := by rw [← hp]; exact red.few
  have hRl : R.length = N := red.len.trans HA.out.1
  have htl : (R.take P.length).length = p := by rw [List.length_take, hp]; omega
  rw [htl] at hR5 ⊢
  rw [List.length_map, hp] at hP5 ⊢
  rw [hp] at hR5
  have hU5 : w5.cell? ⟨w.heap.size + 1 + 1, 0, none⟩ = some (.int .i64 (n : Nat)) := hx5.cell HD4.out.2.2
  have hp1000 : p ≤ 1000 := by omega
  have HU5 := Lib.hid hU5
  have HRP := Lib.hid (And.intro hR hP)
  have H5 := Lib.hid (And.intro hR5 (And.intro hP5 (And.intro red (And.intro hp (And.intro hpR hRl)))))
  clear hR hP hR5 hP5 red hp hpR hRl htl hx5 hU5
  go_wp2_with fail
  refine wp_atEnd' (so_make w5 w5 (w.heap.size + 1 + 1) n (Ext.refl w5) (by omega) HU5.out _ _ _ _ _ _ _ _ _ _ _ _ _ _ _ _ _ _ _ _ _ _ _ _ _ _ _ _ _ _ _ _ _ _ _ _ _ _ _ _ _ _ _ _ _ _ _ _ _ _ _ _ _ _ _ _ _ _ _ _ _ _ _ _ _ _ _ _ _ _ _ _ _ _ _ _ _ _ _ _ _ _ _ _ _ _ _ _ _ _ _ _ _ _ _ ?_)
  intro gx gb u28 u29 u30 u31 wx hx
  have HO := Lib.hid hx
  clear hx
  go_wp2_with fail
  go_loopw [6, 7, 8, 34] (fun v6 v7 v8 vi wr => ∃ (k : Nat) (bl : List Bool), k ≤ p ∧ vi = .int .i64 (k : Nat) ∧ v6 = .slice (some ⟨gx, 0, none⟩) n n ∧ v7 = .slice none 0 0 ∧ v8 = .bool false ∧ Hid (bl.length = n ∧ (∀ j, j < k → P.getD j 0 < n) ∧ Owns w5 wr [⟨.slice (some ⟨gx, 0, none⟩) n n, 5, 1, n, (Mx.solTo R P n k).map bv⟩, ⟨.slice (some ⟨gb, 0, none⟩) n n, 4, 1, n, bl.map Value.bool⟩])) (fun _ _ _ vi _ => p - (intOf vi).toNat)
  case atStart =>
    refine ⟨0, List.replicate n false, Nat.zero_le _, rfl, rfl, rfl, rfl, Lib.hid ⟨by simp, fun j h => absurd h (by omega), ?_⟩⟩
    have h := HO.out
    simp only [Mx.solTo, List.map_replicate]
    exact h
  case round =>
    obtain ⟨k, bl, hk, rfl, rfl, rfl, rfl, HI⟩ := hrel
    by_cases hlt : k < p
    · have hkP : k < P.length := by rw [H5.out.2.2.2.1]; exact hlt
      obtain ⟨ap, u1, hap, hc1, hu1⟩ := (Rs.ext RI.ext _ _ _ _ HI.out.2.2.ext H5.out.2.1).at (i := k) (by rw [List.length_map]; exact hkP)
      subst hap
      have hue := hu1.1
      subst hue
      clear hu1
      rw [List.getElem_map] at hc1
      have hPk : P.getD k 0 = P[k] := by rw [List.getD_eq_getElem?_getD, List.getElem?_eq_getElem hkP]; rfl
      have hcl := H5.out.2.2.1.lt k hkP
      rw [hPk] at hcl
      obtain ⟨c, hc⟩ : ∃ c, P[k] = c := ⟨_, rfl⟩
      rw [hc] at hc1 hPk hcl
      have hU : wr.cell? ⟨w.heap.size + 1 + 1, 0, none⟩ = some (.int .i64 (n : Nat)) := HI.out.2.2.ext.cell HU5.out
      have HPK := Lib.hid (And.intro hPk hkP)
      clear hPk hkP hc
      by_cases hcn : c = n
      · subst hcn
        have hnone : Mx.solved A c = none := Mx.solved_none (by
          rw [HRP.out.2]
          have h := HPK.out.1
          rw [List.getD_eq_getElem?_getD, List.getElem?_eq_getElem HPK.out.2] at h
          have h2 : P[k]'HPK.out.2 = c := h
          rw [← h2]
          exact List.getElem_mem _)
        have HNO := Lib.hid hnone
        clear hnone
        go_wp2_with fail
        (first | go_ret2 | go_ret | go_ret3)
        refine ⟨_, _, by rw [HNO.out]; rfl, ?_, HX5.out.trans HI.out.2.2.ext⟩
        rw [HNO.out]
        exact ⟨none, 0, rfl, by simp, fun i x h => by simp at h⟩
      · have hcl2 : c < n := by omega
        have hce : ((c : Int) == (n : Int)) = false := by rw [beq_eq_false_iff_ne]; omega
        have hkt : k < (R.take p).length := by rw [List.length_take]; have := H5.out.2.2.2.2.1; omega
        obtain ⟨ar, u2, har, hc2, hu2⟩ := (Rs.ext (Rs.ext RB.ext) _ _ _ _ HI.out.2.2.ext H5.out.1).at (i := k) hkt
        subst har
        have hkR : k < R.length := by have := H5.out.2.2.2.2.1; omega
        have hrowk : (R.take p)[k] = Mx.row R k := by rw [List.getElem_take, Mx.row_at hkR]
        rw [hrowk] at hu2
        obtain ⟨QA, cQ, rfl, _⟩ := hu2.form
        have hql : (Mx.row R k).length = n + 1 := H5.out.2.2.1.rect k hkR
        obtain ⟨aq, u3, haq, hc3, hu3⟩ := hu2.at (i := n) (by omega)
        subst haq
        obtain rfl := hu3
        have hcell : (Mx.row R k)[n]'(by omega) = Mx.cell R k n := by unfold Mx.cell; rw [List.getD_eq_getElem?_getD, List.getElem?_eq_getElem (by omega)]; rfl
        rw [hcell] at hc3
        rw [hql] at hc2
        obtain ⟨v, hv⟩ : ∃ v, Mx.cell R k n = v := ⟨_, rfl⟩
        rw [hv] at hc3
        have hXl : (Mx.solTo R P n k).length = n := Mx.solTo_length R P n k
        have hX : wr.cell? ⟨gx, c, none⟩ = some (bv ((Mx.solTo R P n k).getD c 0)) := HI.out.2.2.cell 0 rfl c (by
          rw [List.getElem?_map, List.getElem?_eq_getElem (by rw [hXl]; exact hcl2), List.getD_eq_getElem?_getD, List.getElem?_eq_getElem (by rw [hXl]; exact hcl2)]; rfl)
        have hXf : wr.frozen? ⟨gx, c, none⟩ = false := HI.out.2.2.frozen 0 rfl c
        have hO1 := HI.out.2.2.store 0 rfl c (bv v)
        have hB : (wr.setCell ⟨gx, c, none⟩ (bv v)).cell? ⟨gb, c, none⟩ = some (.bool (bl.getD c false)) := hO1.cell 1 rfl c (by
          rw [List.getElem?_map, List.getElem?_eq_getElem (by rw [HI.out.1]; exact hcl2), List.getD_eq_getElem?_getD, List.getElem?_eq_getElem (by rw [HI.out.1]; exact hcl2)]; rfl)
        have hBf : (wr.setCell ⟨gx, c, none⟩ (bv v)).frozen? ⟨gb, c, none⟩ = false := hO1.frozen 1 rfl c
        have hO2 := (hO1.store 1 rfl c (.bool true)).drew
        have HO2 := Lib.hid hO2
        have HV := Lib.hid hv
        clear hv hcell hql hu2 hrowk hkt hkR hXl hO1 hO2
        go_wp2_with fail
        refine wp_atEnd' (so_put wr (w.heap.size + 1 + 1) n gx gb c p k cR cQ (n + 1) ar aq v _ _ hcl2 hlt (by omega) hU hc2 hc3 hX hXf hB hBf _ _ _ _ _ _ _ _ _ _ _ _ _ _ _ _ _ _ _ _ _ _ _ _ _ _ _ _ _ _ _ _ _ _ _ _ _ _ _ _ _ _ _ _ _ _ _ _ _ _ _ _ _ _ _ _ _ _ _ _ _ _ _ _ _ _ _ _ _ _ _ _ _ _ _ _ _ _ _ _ _ _ _ _ _ _ _ _ _ _ ?_)
        rintro u42 u43 u44 u45 u46 u47 u48 u49 u50 u51 u52 u53 u54 wy hy
        have hOy : Owns w5 wy [⟨.slice (some ⟨gx, 0, none⟩) n n, 5, 1, n, (Mx.solTo R P n (k + 1)).map bv⟩, ⟨.slice (some ⟨gb, 0, none⟩) n n, 4, 1, n, (bl.set c true).map Value.bool⟩] := by
          have e1 : (Mx.solTo R P n (k + 1)).map bv = ((Mx.solTo R P n k).map bv).set c (bv v) := by
            rw [Mx.solTo, HPK.out.1, HV.out, List.map_set]
          rw [e1, List.map_set, hy]
          exact HO2.out
        have HOy := Lib.hid hOy
        clear hy hOy hX hXf hB hBf hc1 hc2 hc3 hU hce
        go_wp2_with fail
        go_roundw
        case rel => 
          refine ⟨k + 1, bl.set c true, by omega, by go_num, (by first | trivial | rfl), (by first | trivial | rfl), (by first | trivial | rfl), Lib.hid ⟨by rw [List.length_set]; exact HI.out.1, fun j hj => ?_, HOy.out⟩⟩
          by_cases e : j = k
          · rw [e, HPK.out.1]; exact hcl2
          · exact HI.out.2.1 j (by omega)
        case measure => simp [intOf]; omega
    · obtain rfl : p = k := by omega
      have hno : n ∉ P := fun hm => by
        obtain ⟨i, hi, he⟩ := List.getElem_of_mem hm
        have h1 := HI.out.2.1 i (by rw [← H5.out.2.2.2.1]; exact hi)
        rw [List.getD_eq_getElem?_getD, List.getElem?_eq_getElem hi] at h1
        have h2 : P[i] < n := h1
        omega
      have hsome : Mx.solved A n = some (Mx.solTo R P n p) := by
        rw [Mx.solved_some (by rw [HRP.out.2]; exact hno), HRP.out.1, HRP.out.2, H5.out.2.2.2.1]
      obtain ⟨x, hx⟩ : ∃ x, Mx.solTo R P n p = x := ⟨_, rfl⟩
      have hxl : x.length = n := by rw [← hx]; exact Mx.solTo_length R P n p
      have hO1 := HI.out.2.2
      rw [hx] at hsome hO1
      have HO1 := Lib.hid hO1
      have HSO := Lib.hid (And.intro hsome hxl)
      have hbll := HI.out.1
      have hlt5 := HI.out.2.1
      have HBL := Lib.hid (And.intro hbll hlt5)
      have hU : wr.cell? ⟨w.heap.size + 1 + 1, 0, none⟩ = some (.int .i64 (n : Nat)) := HI.out.2.2.ext.cell HU5.out
      obtain ⟨i0, hi, hz0, hz1, hz2⟩ := info_parts info_u8
      have HZ := Lib.hid hz2
      clear hno hsome hx hxl hO1 hbll hlt5 HI hz2
      obtain ⟨wo, rfl⟩ : ∃ wo, wo = wr := ⟨_, rfl⟩
      go_wp2_with fail
      clear hU
      go_loopw [7, 57] (fun v7 vi wr => ∃ (c kn kc : Nat) (kA : Option Addr) (ks : List Value), c ≤ n ∧ kn ≤ c ∧ vi = .int .i64 (c : Nat) ∧ v7 = .slice kA kn kc ∧ Hid (Owns w5 wr [⟨.slice (some ⟨gx, 0, none⟩) n n, 5, 1, n, x.map bv⟩, ⟨.slice (some ⟨gb, 0, none⟩) n n, 4, 1, n, bl.map Value.bool⟩, ⟨.slice kA kn kc, 28, 1, kn, ks⟩])) (fun _ vi _ => n - (intOf vi).toNat)
      case atStart => exact ⟨0, 0, 0, none, [], Nat.zero_le _, Nat.le_refl _, rfl, rfl, Lib.hid HO1.out.nilled⟩
      case round =>
        obtain ⟨c, kn, kc, kA, ks, hcn, hkn, rfl, rfl, HI⟩ := hrel
        by_cases hlt : c < n
        · obtain ⟨b1, hb1⟩ : ∃ b1, bl.getD c false = b1 := ⟨_, rfl⟩
          have hcb : wr.cell? ⟨gb, c, none⟩ = some (.bool b1) := HI.out.cell 1 rfl c (by
            rw [← hb1, List.getElem?_map, List.getElem?_eq_getElem (by rw [HBL.out.1]; exact hlt), List.getD_eq_getElem?_getD, List.getElem?_eq_getElem (by rw [HBL.out.1]; exact hlt)]; rfl)
          clear hb1
          cases b1 with
          | true =>
            go_wp2_with fail
            clear hcb
            go_roundw
            case rel => exact ⟨c + 1, kn, kc, kA, ks, by omega, by omega, by go_num, (by first | trivial | rfl), HI⟩
            case measure => simp [intOf]; omega
          | false =>
            have hU : wr.cell? ⟨w.heap.size + 1 + 1, 0, none⟩ = some (.int .i64 (n : Nat)) := HI.out.ext.cell HU5.out
            go_wp2_with (refine wpList_make_full _ rfl (.tmp 64) (.tmp 64) 28 rfl wr.heap.size 5 i0 (.int .u8 0) 1 Tryd.underlying28 hi hz0 hz1 _ _ _ _ n rfl rfl rfl rfl (by rw [HZ.out]; omega) (by unfold maxLen; omega) (Nat.le_refl _) ?_; intro w6 hown hgrow; have hx6 : Ext wr w6 := (Ext.refl wr).grown hgrow (fun k h => by cases h); have hw6 : w6.ownsRow wr.heap.size 5 1 (.slice (some ⟨wr.heap.size, 0, none⟩) n n) n ((List.replicate n (0 : UInt8)).map bv) := (by rw [List.map_replicate]; rw [show bv 0 = .int .u8 0 from rfl, ← toList_madeCells_one]; simpa [Value.cells] using hown); have hcv : w6.cell? ⟨wr.heap.size, c, none⟩ = some (.int .u8 0) := (by rw [hw6.cellAt c (by omega), List.getElem?_map, List.getElem?_replicate_of_lt hlt]; rfl); have hfv : w6.frozen? ⟨wr.heap.size, c, none⟩ = false := hw6.frozenAt c)
            have hO6 := ((HI.out.behind hx6 hw6).store 3 rfl c (bv 1))
            have hO7 : Owns w5 (w6.setCell ⟨wr.heap.size, c, none⟩ (.int .u8 1)) [⟨.slice (some ⟨gx, 0, none⟩) n n, 5, 1, n, x.map bv⟩, ⟨.slice (some ⟨gb, 0, none⟩) n n, 4, 1, n, bl.map Value.bool⟩, ⟨.slice kA kn kc, 28, 1, kn, ks⟩, ⟨.slice (some ⟨wr.heap.size, 0, none⟩) n n, 5, 1, n, (((List.replicate n (0 : UInt8)).set c 1).map bv)⟩] := by
              rw [List.map_set]; exact hO6
            obtain ⟨w7, hw7⟩ : ∃ w7, w6.setCell ⟨wr.heap.size, c, none⟩ (.int .u8 1) = w7 := ⟨_, rfl⟩
            rw [hw7] at hO7 ⊢
            obtain ⟨h, hh⟩ : ∃ h, wr.heap.size = h := ⟨_, rfl⟩
            rw [hh] at hO7
            have H7 := Lib.hid hO7
            clear hown hgrow hx6 hw6 hcv hfv hO6 hO7 hU hcb
            try rw [hh]
            clear hh hw7
            obtain ⟨wy, rfl⟩ : ∃ wy, wy = wr := ⟨_, rfl⟩
            go_wp2_with fail
            go_loopw [71] (fun vi wi => ∃ (j : Nat) (vs : List UInt8), j ≤ p ∧ vi = .int .i64 (j : Nat) ∧ Hid (vs.length = n ∧ Owns w5 wi [⟨.slice (some ⟨gx, 0, none⟩) n n, 5, 1, n, x.map bv⟩, ⟨.slice (some ⟨gb, 0, none⟩) n n, 4, 1, n, bl.map Value.bool⟩, ⟨.slice kA kn kc, 28, 1, kn, ks⟩, ⟨.slice (some ⟨h, 0, none⟩) n n, 5, 1, n, vs.map bv⟩])) (fun vi _ => p - (intOf vi).toNat)
            case atStart => exact ⟨0, _, Nat.zero_le _, rfl, Lib.hid ⟨by simp, H7.out⟩⟩
            case round =>
              obtain ⟨j, vs, hj, rfl, HJ⟩ := hrel
              by_cases hjl : j < p
              · have hkP : j < P.length := by rw [H5.out.2.2.2.1]; exact hjl
                obtain ⟨ap, u1, hap, hc1, hu1⟩ := (Rs.ext RI.ext _ _ _ _ HJ.out.2.ext H5.out.2.1).at (i := j) (by rw [List.length_map]; exact hkP)
                subst hap
                have hue := hu1.1
                subst hue
                clear hu1
                rw [List.getElem_map] at hc1
                have hcl := HBL.out.2 j hjl
                rw [List.getD_eq_getElem?_getD, List.getElem?_eq_getElem hkP] at hcl
                have hcl2 : P[j] < n := hcl
                obtain ⟨q, hq⟩ : ∃ q, P[j] = q := ⟨_, rfl⟩
                rw [hq] at hc1 hcl2
                have hkt : j < (R.take p).length := by rw [List.length_take]; have := H5.out.2.2.2.2.1; omega
                obtain ⟨ar, u2, har, hc2, hu2⟩ := (Rs.ext (Rs.ext RB.ext) _ _ _ _ HJ.out.2.ext H5.out.1).at (i := j) hkt
                subst har
                have hkR : j < R.length := by have := H5.out.2.2.2.2.1; omega
                have hrowk : (R.take p)[j] = Mx.row R j := by rw [List.getElem_take, Mx.row_at hkR]
                rw [hrowk] at hu2
                obtain ⟨QA, cQ, rfl, _⟩ := hu2.form
                have hql : (Mx.row R j).length = n + 1 := H5.out.2.2.1.rect j hkR
                obtain ⟨aq, u3, haq, hc3, hu3⟩ := hu2.at (i := c) (by omega)
                subst haq
                obtain rfl := hu3
                obtain ⟨y, hy⟩ : ∃ y, (Mx.row R j)[c]'(by omega) = y := ⟨_, rfl⟩
                rw [hy] at hc3
                rw [hql] at hc2
                have hcl3 : (c : Int) < ((n + 1 : Nat) : Int) := by omega
                have hcv : wr.cell? ⟨h, q, none⟩ = some (bv (vs.getD q 0)) := HJ.out.2.cell 3 rfl q (by
                  rw [List.getElem?_map, List.getElem?_eq_getElem (by rw [HJ.out.1]; exact hcl2), List.getD_eq_getElem?_getD, List.getElem?_eq_getElem (by rw [HJ.out.1]; exact hcl2)]; rfl)
                have hfv : wr.frozen? ⟨h, q, none⟩ = false := HJ.out.2.frozen 3 rfl q
                obtain ⟨y0, hy0⟩ : ∃ y0, vs.getD q 0 = y0 := ⟨_, rfl⟩
                rw [hy0] at hcv
                have hO8 := HJ.out.2.store 3 rfl q (bv y)
                have HO8 := Lib.hid hO8
                clear hO8 hy0 hy hql hrowk hu2 hkt hq hcl
                go_wp2_with fail
                clear hc1 hc2 hc3 hcv hfv
                go_roundw
                case rel => exact ⟨j + 1, vs.set q y, by omega, by go_num, Lib.hid ⟨by rw [List.length_set]; exact HJ.out.1, by rw [List.map_set]; exact HO8.out⟩⟩
                case measure => simp [intOf]; omega
              · obtain rfl : p = j := by omega
                go_wp2_with (refine wpl_append_owns (u := .slice (some ⟨h, 0, none⟩) n n) 65 28 rfl (.tmp 87) (.tmp 89) rfl Tryd.underlying65 info_bytes rfl HJ.out.2.push1 2 rfl rfl rfl (cell_of_row _ _ 0 _ _ (0, 0) (heap_new _ _)) rfl (by omega) (by decide) ?_; intro g9 c9 w9 hO9 hg9)
                have hfin : Owns w5 w9 [⟨.slice (some ⟨gx, 0, none⟩) n n, 5, 1, n, x.map bv⟩, ⟨.slice (some ⟨gb, 0, none⟩) n n, 4, 1, n, bl.map Value.bool⟩, ⟨.slice (some ⟨g9, 0, none⟩) (kn + 1) c9, 28, 1, kn + 1, ks ++ [.slice (some ⟨h, 0, none⟩) n n]⟩] := by
                  refine Owns.front (M := [⟨.slice (some ⟨h, 0, none⟩) n n, 5, 1, n, vs.map bv⟩, ⟨.slice (some ⟨wr.heap.size, 0, none⟩) 1 1, 28, 1, 1, [.slice (some ⟨h, 0, none⟩) n n]⟩]) ?_
                  exact hO9
                have HF := Lib.hid hfin
                clear hO9 hg9 hfin
                go_wp2_with fail
                go_roundw
                case rel => exact ⟨c + 1, kn + 1, c9, some ⟨g9, 0, none⟩, _, by omega, by omega, by go_num, (by first | trivial | rfl), HF⟩
                case measure => simp [intOf]; omega
        · obtain rfl : n = c := by omega
          have hrs : Rs RB wr (.slice (some ⟨gx, 0, none⟩) n n) x := by
            have := Rs.of_rd (c := n) (HI.out.rd 0 (n := n) (c := n) (e := 5) rfl) (by rw [HSO.out.2]; omega)
            rw [HSO.out.2] at this
            exact this
          have HRS := Lib.hid hrs
          clear hrs
          go_wp2_with fail
          (first | go_ret2 | go_ret | go_ret3)
          refine ⟨_, _, by rw [HSO.out.1]; rfl, ?_, HX5.out.trans HI.out.ext⟩
          rw [HSO.out.1]
          exact HRS.out
end Go.Proofs.YtdmljilcbndmfaaDoor

/- THE WALK over Express of package matrix. -/
namespace Mx
theorem checkG_all {c : Nat} : ∀ {m : Mat}, (∀ r ∈ m, r.length = c) → c ≤ 48 → checkG c 0 m = 0
  | [], _, _ => rfl
  | r :: m, h, hc => by
    have hr := h r (by simp)
    rw [checkG, if_neg (by omega), if_pos hr]
    exact checkG_all (fun x hx => h x (by simp [hx])) hc
theorem check_all {c : Nat} {m : Mat} (h : ∀ r ∈ m, r.length = c) (hc : c ≤ 48) (hl : m.length ≤ 48) : check m = 0 := by
  rw [check_few (by omega)]
  cases m with
  | nil => rfl
  | cons r m =>
    have hr := h r (by simp)
    show checkG r.length 0 (r :: m) = 0
    rw [hr]
    exact checkG_all h hc
end Mx
namespace Go.Proofs.YtdmljilcbndmfaaDoor
open Go.RowKit
theorem ex_makeFunc {P : Program} {o : Oper} {a : Act} {w : World} {k : FuncId} {x : Operand} {v : Value} (ho : o.op = .makeFunc (.func k) #[] #[x]) (hx : a.eval x = v) : (execOp a.eval o).run P w = .ok (.value (.func (.func k) #[] #[v])) w := by
  subst hx
  unfold execOp
  simp [ho, Instr.makeFunc]
theorem ex_extract {P : Program} {o : Oper} {a : Act} {w : World} {i : Nat} {x : Operand} {vs : Array Value} {v : Value} (ho : o.op = .extract x i) (hx : a.eval x = .tuple vs) (hi : vs[i]? = some v) : (execOp a.eval o).run P w = .ok (.value v) w := by
  unfold execOp
  simp only [ho, hx, Instr.extract, hi, Sem.run_bind, Sem.run_pure, Result.andThen_ok]
set_option maxHeartbeats 8000000 in
set_option maxRecDepth 100000 in
theorem xExpr1_any (m : Mx.Mat) (N i k PU : Nat) (vm : Value) (w : World) (hM : Rs (Rs RB) w vm m) (hw : ∀ r ∈ m, r.length = N) (hk : k < m.length) (hi : i < N) (c1 : w.cell? ⟨PU, 0, none⟩ = some vm) :
    Calls Tryd.prog 70 #[.int .i64 (i : Nat), .int .i64 (k : Nat), .pointer (some ⟨PU, 0, none⟩)] w fun e w' => e = .returned (bv (Mx.cell m k i)) ∧ w = w' := by
  obtain ⟨MA, cM, rfl, hm64⟩ := hM.form
  obtain ⟨a1, u1, rfl, hc1, hu1⟩ := hM.at hk
  obtain ⟨QA, cQ, rfl, hq64⟩ := hu1.form
  have hrl : m[k].length = N := hw _ (List.getElem_mem _)
  obtain ⟨a2, u2, rfl, hc2, hu2⟩ := hu1.at (i := i) (by rw [hrl]; exact hi)
  obtain rfl := hu2
  have hcell : Mx.cell m k i = m[k][i]'(by rw [hrl]; exact hi) := by
    unfold Mx.cell Mx.row
    rw [getD_got hk, getD_got (show i < m[k].length by rw [hrl]; exact hi)]
  rw [hcell]
  obtain ⟨x, hx⟩ : ∃ x, m[k][i]'(by rw [hrl]; exact hi) = x := ⟨_, rfl⟩
  rw [hx] at hc2 ⊢
  rw [hrl] at hc1
  have hkm : (k : Int) < (m.length : Int) := by omega
  obtain ⟨n, hn⟩ : ∃ n, m.length = n := ⟨_, rfl⟩
  rw [hn] at c1 hkm
  clear hx hcell hrl hu1 hM hw hm64 hq64
  clear hn hk
  go_enter Tryd.func70, Tryd.ntmps70
  go_wp2_with fail
  go_ret
  exact ⟨rfl, rfl⟩
noncomputable def ex_solve_code : Code := ((Tryd.f30.body.bind (regionOf 8)).getD .skip)
def ex_solve_dsts : List (Option Nat) := [some 31, some 32, some 33, some 34, some 35, some 36, some 37, some 38, some 39, some 40, some 30, some 41, some 42, some 43, some 7, some 8, some 9]
theorem ex_solve_apart : apartD ex_solve_dsts = true := by decide +kernel
set_option maxRecDepth 1000000 in
set_option maxHeartbeats 16000000 in
theorem ex_solve (wr : World) (m : Mx.Mat) (b : List UInt8) (n N U cM cB : Nat) (MA BA : Option Addr) (HT : Hid (Tab wr)) (HM : Hid (Rs (Rs RB) wr (.slice MA n cM) m)) (HB : Hid (Rs RB wr (.slice BA N cB) b)) (HL : Hid (m.length = n ∧ b.length = N ∧ (∀ r ∈ m, r.length = N))) (h0 : 0 < N) (hN1 : N ≤ 1000) (hn : n ≤ 999) (hU : wr.cell? ⟨U, 0, none⟩ = some (.slice MA n cM)) (c0 c3 c4 c5 c6 c7 c8 c9 c10 c11 c12 c13 c14 c15 c16 c17 c18 c19 c20 c21 c22 c23 c24 c25 c26 c27 c28 c29 c30 c31 c32 c33 c34 c35 c36 c37 c38 c39 c40 c41 c42 c43 c44 c45 c46 : Value) (df : List Deferred) (K : Act → World → Prop)
    (hK : ∀ (X Y : Value) (u30 u31 u32 u33 u34 u35 u36 u37 u38 u39 u40 u41 u42 u43 : Value) (wx : World), Ext wr wx ∧ Rs RB wx X ((Mx.solved (tabled N (n + 1) (fun i k => if k < n then Mx.cell (tabled N n (fun i k => Mx.cell m k i)) i k else b.getD i 0)) n).getD []) → K ⟨#[c0, .slice BA N cB, .pointer (some ⟨U, 0, none⟩), c3, c4, c5, c6, X, Y, .bool (Mx.solved (tabled N (n + 1) (fun i k => if k < n then Mx.cell (tabled N n (fun i k => Mx.cell m k i)) i k else b.getD i 0)) n).isSome, c10, c11, c12, c13, c14, c15, c16, c17, c18, c19, c20, c21, c22, c23, c24, c25, c26, c27, c28, c29, u30, u31, u32, u33, u34, u35, u36, u37, u38, u39, u40, u41, u42, u43, c44, c45, c46], df⟩ wx) :
    Code.wp Tryd.prog ex_solve_code (AtEnd K) ⟨#[c0, .slice BA N cB, .pointer (some ⟨U, 0, none⟩), c3, c4, c5, c6, c7, c8, c9, c10, c11, c12, c13, c14, c15, c16, c17, c18, c19, c20, c21, c22, c23, c24, c25, c26, c27, c28, c29, c30, c31, c32, c33, c34, c35, c36, c37, c38, c39, c40, c41, c42, c43, c44, c45, c46], df⟩ wr := by
  conv => arg 2; whnf
  refine region_inv (by kernel_rfl) [[], [0], [], [2], [], [1, 3, 4], [], [], [7], [5, 6, 8, 5], [9], [10], [10], [10], [11, 9, 0, 1, 2, 3, 4, 5, 6, 7, 8, 9, 10, 11], [12, 14, 0, 1, 2, 3, 4, 5, 6, 7, 8, 9, 10, 11, 12, 14], [13, 15, 0, 1, 2, 3, 4, 5, 6, 7, 8, 9, 10, 11, 12, 13, 14, 15]] (by kernel_rfl) [0, 1, 2, 3, 4, 5, 6, 7, 8, 9, 10, 11, 12, 13, 14, 15, 16] (by decide +kernel) (by decide +kernel) (by decide +kernel) (fun L a wc => ∃ (gv : Value) (X : Value) (Y : Value), Inv ex_solve_dsts [.slice BA N cB, .int .i64 (N : Nat), .slice MA n cM, .int .i64 (n : Nat), .func (.func 70) #[] #[.pointer (some ⟨U, 0, none⟩)], gv, .slice BA N cB, .slice MA n cM, .int .i64 (n : Nat), .tuple #[X, Y, .bool (Mx.solved (tabled N (n + 1) (fun i k => if k < n then Mx.cell (tabled N n (fun i k => Mx.cell m k i)) i k else b.getD i 0)) n).isSome], .tuple #[X, Y, .bool (Mx.solved (tabled N (n + 1) (fun i k => if k < n then Mx.cell (tabled N n (fun i k => Mx.cell m k i)) i k else b.getD i 0)) n).isSome], X, Y, .bool (Mx.solved (tabled N (n + 1) (fun i k => if k < n then Mx.cell (tabled N n (fun i k => Mx.cell m k i)) i k else b.getD i 0)) n).isSome, X, Y, .bool (Mx.solved (tabled N (n + 1) (fun i k => if k < n then Mx.cell (tabled N n (fun i k => Mx.cell m k i)) i k else b.getD i 0)) n).isSome] ⟨#[c0, .slice BA N cB, .pointer (some ⟨U, 0, none⟩), c3, c4, c5, c6, c7, c8, c9, c10, c11, c12, c13, c14, c15, c16, c17, c18, c19, c20, c21, c22, c23, c24, c25, c26, c27, c28, c29, c30, c31, c32, c33, c34, c35, c36, c37, c38, c39, c40, c41, c42, c43, c44, c45, c46], df⟩ L a ∧ Hid (Ext wr wc ∧ (L 5 = true → Rs (Rs RB) wc gv (tabled N n (fun i k => Mx.cell m k i))) ∧ (L 9 = true → Rs RB wc X ((Mx.solved (tabled N (n + 1) (fun i k => if k < n then Mx.cell (tabled N n (fun i k => Mx.cell m k i)) i k else b.getD i 0)) n).getD [])))) ⟨undef, undef, undef, Inv.start, Lib.hid ⟨(Ext.refl wr).drew, fun h => (by cases h), fun h => by cases h⟩⟩ ?_ ?_
  · refine ⟨?_, ?_, ?_, ?_, ?_, ?_, ?_, ?_, ?_, ?_, ?_, ?_, ?_, ?_, ?_, ?_, ?_, trivial⟩
    ·
      rintro L a wc ⟨gv, X, Y, hv, HO⟩ hL hc hd
      exact wpOp_val rfl rfl (ex_move rfl ((hv.fixed 1 (by decide)).trans rfl)) ⟨gv, X, Y, hv.put ex_solve_apart 0 rfl (lb rfl) (lb rfl) rfl, HO⟩
    ·
      rintro L a wc ⟨gv, X, Y, hv, HO⟩ hL hc hd
      exact wpOp_val rfl rfl (ex_len rfl (hv.get 0 rfl rfl (hd 0 (by decide))) (by go_simp)) ⟨gv, X, Y, hv.put ex_solve_apart 1 rfl (lb rfl) (lb rfl) rfl, HO⟩
    ·
      rintro L a wc ⟨gv, X, Y, hv, HO⟩ hL hc hd
      have h0 : wc.cell? ⟨U, 0, none⟩ = some (.slice MA n cM) := HO.out.1.cell hU
      exact wpOp_val rfl rfl (ex_load rfl ((hv.fixed 2 (by decide)).trans rfl) (by go_simp)) ⟨gv, X, Y, hv.put ex_solve_apart 2 rfl (lb rfl) (lb rfl) rfl, HO⟩
    ·
      rintro L a wc ⟨gv, X, Y, hv, HO⟩ hL hc hd
      exact wpOp_val rfl rfl (ex_len rfl (hv.get 2 rfl rfl (hd 2 (by decide))) (by go_simp)) ⟨gv, X, Y, hv.put ex_solve_apart 3 rfl (lb rfl) (lb rfl) rfl, HO⟩
    ·
      rintro L a wc ⟨gv, X, Y, hv, HO⟩ hL hc hd
      exact wpOp_val rfl rfl (ex_makeFunc rfl ((hv.fixed 2 (by decide)).trans rfl)) ⟨gv, X, Y, hv.put ex_solve_apart 4 rfl (lb rfl) (lb rfl) rfl, HO⟩
    ·
      rintro L a wc ⟨gv, X, Y, hv, HO⟩ hL hc hd
      have hcall := xGrid_any N n 70 #[.pointer (some ⟨U, 0, none⟩)] (fun i k => Mx.cell m k i) wc hN1 (by omega) (enters_of Tryd.func70 (by kernel_rfl) rfl) (fun i k hi hk w' hx' => xExpr1_any m N i k U _ w' (Rs.ext (Rs.ext RB.ext) _ _ _ _ (HO.out.1.trans hx') HM.out) (fun r hr => HL.out.2.2 r hr) (by rw [HL.out.1]; exact hk) hi ((HO.out.1.trans hx').cell hU))
      refine wpOp_call (R := fun v w1 => Rs (Rs RB) w1 v (tabled N n (fun i k => Mx.cell m k i)) ∧ Ext wc w1) rfl rfl (ex_call rfl rfl (map3c (hv.get 1 rfl rfl (hd 1 (by decide))) (hv.get 3 rfl rfl (hd 3 (by decide))) (hv.get 4 rfl rfl (hd 4 (by decide)))) (enters_of Tryd.func69 (by kernel_rfl) rfl _ _)) (hcall.mono (fun e w' h => h)) ?_
      rintro v w' ⟨hr, hx⟩
      have h9 : upd L 5 9 = true → False := fun h => Bool.false_ne_true (hL.symm.trans (hc 9 h 5 (by decide)))
      exact ⟨v, X, Y, hv.put ex_solve_apart 5 rfl (lb rfl) (lb rfl) rfl, Lib.hid ⟨HO.out.1.trans hx, fun _ => hr, fun h => (h9 h).elim⟩⟩
    ·
      rintro L a wc ⟨gv, X, Y, hv, HO⟩ hL hc hd
      exact wpOp_val rfl rfl (ex_move rfl ((hv.fixed 1 (by decide)).trans rfl)) ⟨gv, X, Y, hv.put ex_solve_apart 6 rfl (lb rfl) (lb rfl) rfl, HO⟩
    ·
      rintro L a wc ⟨gv, X, Y, hv, HO⟩ hL hc hd
      have h0 : wc.cell? ⟨U, 0, none⟩ = some (.slice MA n cM) := HO.out.1.cell hU
      exact wpOp_val rfl rfl (ex_load rfl ((hv.fixed 2 (by decide)).trans rfl) (by go_simp)) ⟨gv, X, Y, hv.put ex_solve_apart 7 rfl (lb rfl) (lb rfl) rfl, HO⟩
    ·
      rintro L a wc ⟨gv, X, Y, hv, HO⟩ hL hc hd
      exact wpOp_val rfl rfl (ex_len rfl (hv.get 7 rfl rfl (hd 7 (by decide))) (by go_simp)) ⟨gv, X, Y, hv.put ex_solve_apart 8 rfl (lb rfl) (lb rfl) rfl, HO⟩
    ·
      rintro L a wc ⟨gv, X, Y, hv, HO⟩ hL hc hd
      have hM1 : Rs (Rs RB) wc gv (tabled N n (fun i k => Mx.cell m k i)) := HO.out.2.1 (hd 5 (by decide))
      have hcall := xSolve_any (tabled N n (fun i k => Mx.cell m k i)) b n N gv (.slice BA N cB) wc (HT.out.ext HO.out.1) hM1 (Rs.ext RB.ext _ _ _ _ HO.out.1 HB.out) (fun i hi => by rw [Mx.row_at hi]; exact tabled_wide (List.getElem_mem _)) (by rw [tabled_length]; exact HL.out.2.1.symm) HL.out.2.1 h0 hN1 hn
      refine wpOp_call (R := fun v w1 => ∃ X2 Y2, v = .tuple #[X2, Y2, .bool (Mx.solved (tabled N (n + 1) (fun i k => if k < n then Mx.cell (tabled N n (fun i k => Mx.cell m k i)) i k else b.getD i 0)) n).isSome] ∧ Rs RB w1 X2 ((Mx.solved (tabled N (n + 1) (fun i k => if k < n then Mx.cell (tabled N n (fun i k => Mx.cell m k i)) i k else b.getD i 0)) n).getD []) ∧ Ext wc w1) rfl rfl (ex_call rfl rfl (map3c (hv.get 5 rfl rfl (hd 5 (by decide))) (hv.get 6 rfl rfl (hd 6 (by decide))) (hv.get 8 rfl rfl (hd 8 (by decide)))) (enters_of Tryd.func68 (by kernel_rfl) rfl _ _)) (hcall.mono (fun e w' h => by obtain ⟨X2, Y2, h1, h2, h3⟩ := h; exact ⟨_, h1, X2, Y2, rfl, h2, h3⟩)) ?_
      rintro v w' ⟨X2, Y2, rfl, hr, hx⟩
      have hv := hv.reset 10 (Bool.eq_false_iff.2 fun h => Bool.false_ne_true (hL.symm.trans (hc 10 h 9 (by decide)))) (.tuple #[X2, Y2, .bool (Mx.solved (tabled N (n + 1) (fun i k => if k < n then Mx.cell (tabled N n (fun i k => Mx.cell m k i)) i k else b.getD i 0)) n).isSome])
      have hv := hv.reset 11 (Bool.eq_false_iff.2 fun h => Bool.false_ne_true (hL.symm.trans (hc 10 (hc 11 h 10 (by decide)) 9 (by decide)))) (X2)
      have hv := hv.reset 12 (Bool.eq_false_iff.2 fun h => Bool.false_ne_true (hL.symm.trans (hc 10 (hc 12 h 10 (by decide)) 9 (by decide)))) (Y2)
      have hv := hv.reset 14 (Bool.eq_false_iff.2 fun h => Bool.false_ne_true (hL.symm.trans (hc 14 h 9 (by decide)))) (X2)
      have hv := hv.reset 15 (Bool.eq_false_iff.2 fun h => Bool.false_ne_true (hL.symm.trans (hc 15 h 9 (by decide)))) (Y2)
      exact ⟨gv, X2, Y2, hv.put ex_solve_apart 9 rfl (lb rfl) (lb rfl) rfl, Lib.hid ⟨HO.out.1.trans hx, fun h => Rs.ext (Rs.ext RB.ext) _ _ _ _ hx (HO.out.2.1 h), fun _ => hr⟩⟩
    ·
      rintro L a wc ⟨gv, X, Y, hv, HO⟩ hL hc hd
      exact wpOp_val rfl rfl (ex_move rfl (hv.get 9 rfl rfl (hd 9 (by decide)))) ⟨gv, X, Y, hv.put ex_solve_apart 10 rfl (lb rfl) (lb rfl) rfl, HO⟩
    ·
      rintro L a wc ⟨gv, X, Y, hv, HO⟩ hL hc hd
      exact wpOp_val rfl rfl (ex_extract rfl (hv.get 10 rfl rfl (hd 10 (by decide))) rfl) ⟨gv, X, Y, hv.put ex_solve_apart 11 rfl (lb rfl) (lb rfl) rfl, HO⟩
    ·
      rintro L a wc ⟨gv, X, Y, hv, HO⟩ hL hc hd
      exact wpOp_val rfl rfl (ex_extract rfl (hv.get 10 rfl rfl (hd 10 (by decide))) rfl) ⟨gv, X, Y, hv.put ex_solve_apart 12 rfl (lb rfl) (lb rfl) rfl, HO⟩
    ·
      rintro L a wc ⟨gv, X, Y, hv, HO⟩ hL hc hd
      exact wpOp_val rfl rfl (ex_extract rfl (hv.get 10 rfl rfl (hd 10 (by decide))) rfl) ⟨gv, X, Y, hv.put ex_solve_apart 13 rfl (lb rfl) (lb rfl) rfl, HO⟩
    ·
      rintro L a wc ⟨gv, X, Y, hv, HO⟩ hL hc hd
      exact wpOp_val rfl rfl (ex_assign rfl (hv.get 11 rfl rfl (hd 11 (by decide)))) ⟨gv, X, Y, hv.put ex_solve_apart 14 rfl (lb rfl) (lb rfl) rfl, HO⟩
    ·
      rintro L a wc ⟨gv, X, Y, hv, HO⟩ hL hc hd
      exact wpOp_val rfl rfl (ex_assign rfl (hv.get 12 rfl rfl (hd 12 (by decide)))) ⟨gv, X, Y, hv.put ex_solve_apart 15 rfl (lb rfl) (lb rfl) rfl, HO⟩
    ·
      rintro L a wc ⟨gv, X, Y, hv, HO⟩ hL hc hd
      exact wpOp_val rfl rfl (ex_assign rfl (hv.get 13 rfl rfl (hd 13 (by decide)))) ⟨gv, X, Y, hv.put ex_solve_apart 16 rfl (lb rfl) (lb rfl) rfl, HO⟩
  · rintro L a wc ⟨gv, X, Y, hv, HO⟩ hall
    show K a wc
    have ha := act_lit a
    rw [hv.size, hv.defers] at ha
    have hl : ∀ f : Nat → Value, ((List.range (⟨#[c0, .slice BA N cB, .pointer (some ⟨U, 0, none⟩), c3, c4, c5, c6, c7, c8, c9, c10, c11, c12, c13, c14, c15, c16, c17, c18, c19, c20, c21, c22, c23, c24, c25, c26, c27, c28, c29, c30, c31, c32, c33, c34, c35, c36, c37, c38, c39, c40, c41, c42, c43, c44, c45, c46], df⟩ : Act).tmps.size).map f).toArray = #[f 0, f 1, f 2, f 3, f 4, f 5, f 6, f 7, f 8, f 9, f 10, f 11, f 12, f 13, f 14, f 15, f 16, f 17, f 18, f 19, f 20, f 21, f 22, f 23, f 24, f 25, f 26, f 27, f 28, f 29, f 30, f 31, f 32, f 33, f 34, f 35, f 36, f 37, f 38, f 39, f 40, f 41, f 42, f 43, f 44, f 45, f 46] := fun _ => rfl
    rw [hl] at ha
    simp only [hv.fixed 0 (by decide), hv.fixed 1 (by decide), hv.fixed 2 (by decide), hv.fixed 3 (by decide), hv.fixed 4 (by decide), hv.fixed 5 (by decide), hv.fixed 6 (by decide), hv.fixed 10 (by decide), hv.fixed 11 (by decide), hv.fixed 12 (by decide), hv.fixed 13 (by decide), hv.fixed 14 (by decide), hv.fixed 15 (by decide), hv.fixed 16 (by decide), hv.fixed 17 (by decide), hv.fixed 18 (by decide), hv.fixed 19 (by decide), hv.fixed 20 (by decide), hv.fixed 21 (by decide), hv.fixed 22 (by decide), hv.fixed 23 (by decide), hv.fixed 24 (by decide), hv.fixed 25 (by decide), hv.fixed 26 (by decide), hv.fixed 27 (by decide), hv.fixed 28 (by decide), hv.fixed 29 (by decide), hv.fixed 44 (by decide), hv.fixed 45 (by decide), hv.fixed 46 (by decide), hv.get 14 (d := 7) rfl rfl (hall 14 (by decide)), hv.get 15 (d := 8) rfl rfl (hall 15 (by decide)), hv.get 16 (d := 9) rfl rfl (hall 16 (by decide))] at ha
    rw [ha]
    exact hK X Y _ _ _ _ _ _ _ _ _ _ _ _ _ _ wc ⟨HO.out.1, HO.out.2.2 (hall 9 (by decide))⟩
theorem aug_tabled (m : Mx.Mat) (b : List UInt8) : tabled b.length (m.length + 1) (fun i k => if k < m.length then Mx.cell (tabled b.length m.length (fun i k => Mx.cell m k i)) i k else b.getD i 0) = Mx.aug m b := by
  unfold tabled Mx.aug
  refine List.map_congr_left fun i hi => List.map_congr_left fun k _ => ?_
  have hi := List.mem_range.1 hi
  dsimp only
  by_cases hk : k < m.length
  · rw [if_pos hk, if_pos hk]
    unfold Mx.cell Mx.row
    simp [List.getD_eq_getElem?_getD, hi, hk]
  · rw [if_neg hk, if_neg hk]
set_option maxHeartbeats 8000000 in
set_option maxRecDepth 100000 in
/-- Express, where the rows are as long as the row, and few. -/
theorem xExpress_any (m : Mx.Mat) (b : List UInt8) (vm vb : Value) (w : World) (hT : Tab w) (hM : Rs (Rs RB) w vm m) (hB : Rs RB w vb b) (hw : ∀ r ∈ m, r.length = b.length) (h0 : 0 < b.length) (hb : b.length ≤ 48) (hm : m.length ≤ 48) :
    Calls Tryd.prog 30 #[vm, vb] w fun e w' => ∃ X, e = .returned (.tuple #[X, .int .i64 (if (Mx.expr m b).isSome then 0 else 8)]) ∧ Rs RB w' X ((Mx.expr m b).getD []) ∧ Ext w w' := by
  obtain ⟨MA, cM, rfl, hm64⟩ := hM.form
  obtain ⟨BA, cB, rfl, hb64⟩ := hB.form
  have hck : Mx.check m = 0 := Mx.check_all hw hb hm
  have haug := aug_tabled m b
  have hcols : 0 < m.length → Mx.cols m = b.length := fun h => by
    unfold Mx.cols
    exact hw _ (by rw [List.getD_eq_getElem?_getD, List.getElem?_eq_getElem h]; exact List.getElem_mem _)
  rw [Mx.expr_solved, ← haug]
  obtain ⟨n, hn⟩ : ∃ n, m.length = n := ⟨_, rfl⟩
  obtain ⟨N, hN⟩ : ∃ N, b.length = N := ⟨_, rfl⟩
  rw [hn] at hcols hm hM ⊢
  rw [hN] at h0 hb hB hw hcols ⊢
  obtain ⟨so, hso⟩ : ∃ so, Mx.solved (tabled N (n + 1) (fun i k => if k < n then Mx.cell (tabled N n (fun i k => Mx.cell m k i)) i k else b.getD i 0)) n = so := ⟨_, rfl⟩
  rw [hso]
  obtain ⟨w1, hw1⟩ : ∃ w1, w.alloc (.cells #[.slice MA n cM] 65) = w1 := ⟨_, rfl⟩
  have hx1 : Ext w w1 := by rw [← hw1]; exact (Ext.refl w).alloc _
  have d1 : w1.cell? ⟨w.heap.size, 0, none⟩ = some (.slice MA n cM) := by rw [← hw1]; clear hw1; go_simp
  have HM := Lib.hid (Rs.ext (Rs.ext RB.ext) _ _ _ _ hx1 hM)
  have HB := Lib.hid (Rs.ext RB.ext _ _ _ _ hx1 hB)
  have HT := Lib.hid (hT.ext hx1)
  have HL := Lib.hid (And.intro hn (And.intro hN hw))
  have HW := Lib.hid hw1
  have HX1 := Lib.hid hx1
  have HCK := Lib.hid (And.intro hck hcols)
  have HSO := Lib.hid hso
  have HD := Lib.hid d1
  rw [← hw1] at d1
  clear hm64 hb64 hck haug hcols hn hN hM hB hT hw hw1 hx1 hso
  go_enter Tryd.func30, Tryd.ntmps30
  go_wp2_with fail
  clear d1
  rw [HW.out]
  refine (xCheck_any m _ _ HM.out).mono ?_
  rintro e w2 ⟨rfl, rfl⟩
  rw [HCK.out.1]
  have d1 := HD.out
  by_cases hn0 : n = 0
  · subst hn0
    go_wp2_with fail
    refine wp_atEnd' (ex_solve w1 m b 0 N _ cM cB MA BA HT HM HB HL h0 (by omega) (by omega) d1 _ _ _ _ _ _ _ _ _ _ _ _ _ _ _ _ _ _ _ _ _ _ _ _ _ _ _ _ _ _ _ _ _ _ _ _ _ _ _ _ _ _ _ _ _ _ _ ?_)
    intro X Y u30 u31 u32 u33 u34 u35 u36 u37 u38 u39 u40 u41 u42 u43 wx hx
    rw [HSO.out] at hx ⊢
    have HX := Lib.hid hx
    clear hx d1
    cases so with
    | none =>
      go_wp2_with fail
      (first | go_ret2 | go_ret)
      exact ⟨_, rfl, ⟨none, 0, rfl, by simp, fun i x h => by simp at h⟩, HX1.out.trans HX.out.1⟩
    | some s =>
      go_wp2_with fail
      (first | go_ret2 | go_ret)
      exact ⟨_, rfl, HX.out.2, HX1.out.trans HX.out.1⟩
  · have hnp : (0 : Int) < (n : Int) := by omega
    go_wp2_with fail
    refine (xCols_any m _ _ HM.out).mono ?_
    rintro e w2 ⟨rfl, rfl⟩
    rw [HCK.out.2 (by omega)]
    go_wp2_with fail
    refine wp_atEnd' (ex_solve w1 m b n N _ cM cB MA BA HT HM HB HL h0 (by omega) (by omega) d1 _ _ _ _ _ _ _ _ _ _ _ _ _ _ _ _ _ _ _ _ _ _ _ _ _ _ _ _ _ _ _ _ _ _ _ _ _ _ _ _ _ _ _ _ _ _ _ ?_)
    intro X Y u30 u31 u32 u33 u34 u35 u36 u37 u38 u39 u40 u41 u42 u43 wx hx
    rw [HSO.out] at hx ⊢
    have HX := Lib.hid hx
    clear hx d1
    cases so with
    | none =>
      go_wp2_with fail
      (first | go_ret2 | go_ret)
      exact ⟨_, rfl, ⟨none, 0, rfl, by simp, fun i x h => by simp at h⟩, HX1.out.trans HX.out.1⟩
    | some s =>
      go_wp2_with fail
      (first | go_ret2 | go_ret)
      exact ⟨_, rfl, HX.out.2, HX1.out.trans HX.out.1⟩
end Go.Proofs.YtdmljilcbndmfaaDoor

/- REBUILD in plain terms: choices, recipes, the least of them. No program in sight. -/
namespace Rb
open Gf Mx
/-- The lists of so many elements of a list, in order. -/
def choose : List Int → Nat → List (List Int)
  | _, 0 => [[]]
  | [], _ + 1 => []
  | x :: l, n + 1 => (choose l n).map (x :: ·) ++ choose l (n + 1)
theorem choose_zero (l : List Int) : choose l 0 = [[]] := by cases l <;> rfl
theorem choose_short : ∀ (l : List Int) (n : Nat), l.length < n → choose l n = []
  | l, 0, h => absurd h (by omega)
  | [], n + 1, _ => rfl
  | x :: l, n + 1, h => by
    simp only [List.length_cons] at h
    rw [choose, choose_short l n (by omega), choose_short l (n + 1) (by omega)]; rfl
theorem mem_choose : ∀ (l : List Int) (n : Nat) (s : List Int), s ∈ choose l n ↔ s.Sublist l ∧ s.length = n
  | l, 0, s => by
    rw [choose_zero, List.mem_singleton, List.length_eq_zero_iff]
    exact ⟨fun h => ⟨h ▸ List.nil_sublist l, h⟩, fun h => h.2⟩
  | [], n + 1, s => by
    simp only [choose, List.not_mem_nil, false_iff, List.sublist_nil, not_and]
    intro h; rw [h]; simp
  | x :: l, n + 1, s => by
    rw [choose, List.mem_append, List.mem_map, mem_choose l (n + 1) s]
    constructor
    · rintro (⟨t, ht, rfl⟩ | ⟨h1, h2⟩)
      · obtain ⟨h1, h2⟩ := (mem_choose l n t).mp ht
        exact ⟨h1.cons_cons x, by simp [h2]⟩
      · exact ⟨h1.cons x, h2⟩
    · rintro ⟨h1, h2⟩
      cases h1 with
      | cons _ h => exact Or.inr ⟨h, h2⟩
      | @cons_cons t _ _ h => exact Or.inl ⟨t, (mem_choose l n t).mpr ⟨h, by simpa using h2⟩, rfl⟩
/-- A recipe. -/
structure Rec where
  piece : Int
  src : List Int
  coef : List UInt8
def rowsAt (m : Mat) (f : List Int) : Mat := f.map fun k => m.getD k.toNat []
def keep (f : List Int) (x : List UInt8) : List (Int × UInt8) := (f.zip x).filter fun a => a.2 != 0
def made (p : Int) (f : List Int) (x : List UInt8) : Rec := ⟨p, (keep f x).map Prod.fst, (keep f x).map Prod.snd⟩
/-- The recipe of a piece from some pieces, if there is one. -/
def recipe (m : Mat) (p : Nat) (f : List Int) : Option Rec := (expr (rowsAt m f) (m.getD p [])).map (made p f)
def found (m : Mat) (p : Nat) (l : List Int) (many : Nat) : List Rec := (choose l many).filterMap (recipe m p)
/-- The recipes that read as few as possible, from so many on. -/
def leastFrom (m : Mat) (p : Nat) (l : List Int) : Nat → Nat → List Rec
  | 0, _ => []
  | fuel + 1, many => if found m p l many = [] then leastFrom m p l fuel (many + 1) else found m p l many
def least (m : Mat) (p : Nat) (l : List Int) : List Rec := leastFrom m p l l.length 1
end Rb

/- THE LEAST RECIPES in plain terms: none reads a piece in vain, they ascend, and fewer do not do. No program in sight. -/
namespace Rb
open Gf Mx
theorem rowsAt_length (m : Mat) (f : List Int) : (rowsAt m f).length = f.length := by simp [rowsAt]
theorem rowsAt_getD (m : Mat) (f : List Int) {k : Nat} (h : k < f.length) : (rowsAt m f).getD k [] = m.getD (f.getD k 0).toNat [] := by
  simp [rowsAt, List.getD_eq_getElem?_getD, h]
/-- One list comes before another one. -/
def Bf (a b : List Int) : Prop := ∃ i, i < a.length ∧ i < b.length ∧ (∀ j, j < i → a.getD j 0 = b.getD j 0) ∧ a.getD i 0 < b.getD i 0
theorem Bf.cons {a b : List Int} (x : Int) (h : Bf a b) : Bf (x :: a) (x :: b) := by
  obtain ⟨i, h1, h2, h3, h4⟩ := h
  refine ⟨i + 1, by simpa using h1, by simpa using h2, fun j hj => ?_, by simpa using h4⟩
  cases j with
  | zero => rfl
  | succ j => simpa using h3 j (by omega)
end Rb

/- CODES, in plain terms: a loss of data pieces that the local parities and the global ones repair. -/
namespace Gf
/-- The powers of the points. -/
def al (i k : Nat) : UInt8 := UInt8.ofNat (powN 2 ((i * k) % 255))
end Gf

/- BITS of sets, in plain terms. -/
namespace Cd
open Gf
theorem bit_test (s i : Nat) : bitAt s i = 1 ↔ s.testBit i = true := by
  unfold bitAt
  rw [Nat.testBit_eq_decide_div_mod_eq, decide_eq_true_eq]
theorem bit_01 (s i : Nat) : bitAt s i = 0 ∨ bitAt s i = 1 := by unfold bitAt; omega
theorem bit_or (s i j : Nat) : bitAt (s ||| 2 ^ i) j = 1 ↔ bitAt s j = 1 ∨ j = i := by
  rw [bit_test, bit_test, Nat.testBit_or, Nat.testBit_two_pow, Bool.or_eq_true, decide_eq_true_eq]
  exact or_congr Iff.rfl eq_comm
theorem bit_set : ∀ (g : List Int) (s j : Nat), (∀ i ∈ g, 0 ≤ i) → (bitAt (setOf s g) j = 1 ↔ bitAt s j = 1 ∨ (j : Int) ∈ g)
  | [], s, j, _ => by rw [setOf_nil]; simp
  | i :: g, s, j, h => by
    have e : setOf s (i :: g) = setOf (s ||| 2 ^ i.toNat) g := by unfold setOf; rfl
    rw [e, bit_set g _ j fun x hx => h x (by simp [hx]), bit_or, List.mem_cons, or_assoc]
    have h0 := h i (by simp)
    have : j = i.toNat ↔ (j : Int) = i := by omega
    rw [this]
end Cd

/- What the root words reach of other texts. -/
/- CODES, in plain terms: what a group's parity says, and which losses are repaired. -/
namespace Cd
open Gf Go.Proofs.YtdmljilcbndmfaaDoor
/-- What no error says of groups: each ascends, in bounds; none has a member of another. -/
theorem check_asc {d : Int} : ∀ {gs : List (List Int)} {s : Nat}, checkG d s gs = 0 → (∀ g ∈ gs, g ≠ [] ∧ (∀ i ∈ g, 0 ≤ i ∧ i < d ∧ bitAt s i.toNat = 0) ∧ g.Pairwise (· < ·)) ∧ gs.Pairwise (fun g h => ∀ i, i ∈ g → i ∉ h)
  | [], _, _ => ⟨fun g h => by (cases h), List.Pairwise.nil⟩
  | g :: r, s, h => by
    by_cases hg : g = []
    · rw [hg, checkG_nil] at h; cases h
    · cases hb : bad d s g with
      | true => rw [checkG_bad hg hb] at h; cases h
      | false =>
        rw [checkG_next hg hb] at h
        obtain ⟨h1, h2⟩ := check_asc h
        have hat : ∀ k, k < g.length → 0 ≤ g.getD k 0 ∧ g.getD k 0 < d ∧ (0 < k → g.getD (k - 1) 0 < g.getD k 0) ∧ bitAt s (g.getD k 0).toNat = 0 := fun k hk => by
          have := badAt_of hb hk
          rw [badAt_def] at this
          simp only [Bool.or_eq_false_iff, Bool.and_eq_false_iff, decide_eq_false_iff_not, beq_eq_false_iff_ne] at this
          have h01 := bit_01 s (g.getD k 0).toNat
          omega
        have hbd : ∀ i ∈ g, 0 ≤ i ∧ i < d ∧ bitAt s i.toNat = 0 := fun i hi => by
          obtain ⟨k, hk, rfl⟩ := List.getElem_of_mem hi
          have := hat k hk
          rw [List.getD_eq_getElem?_getD, List.getElem?_eq_getElem hk] at this
          exact ⟨this.1, this.2.1, this.2.2.2⟩
        have hset := bit_set g s
        refine ⟨fun x hx => ?_, ?_⟩
        · rcases List.mem_cons.1 hx with rfl | hx
          · refine ⟨hg, hbd, ?_⟩
            rw [List.pairwise_iff_getElem]
            intro i j hi hj hij
            have hstep : ∀ k, k + 1 < x.length → x.getD k 0 < x.getD (k + 1) 0 := fun k hk => (hat (k + 1) hk).2.2.1 (by omega)
            have hall : ∀ n, i + 1 + n < x.length → x.getD i 0 < x.getD (i + 1 + n) 0 := by
              intro n
              induction n with
              | zero => intro hn; exact hstep i hn
              | succ n ih => intro hn; exact Int.lt_trans (ih (by omega)) (hstep (i + 1 + n) hn)
            have := hall (j - i - 1) (by omega)
            rw [show i + 1 + (j - i - 1) = j from by omega] at this
            rw [List.getD_eq_getElem?_getD, List.getD_eq_getElem?_getD, List.getElem?_eq_getElem hi, List.getElem?_eq_getElem hj] at this
            exact this
          · obtain ⟨q1, q2, q3⟩ := h1 x hx
            refine ⟨q1, fun i hi => ?_, q3⟩
            obtain ⟨p1, p2, p3⟩ := q2 i hi
            refine ⟨p1, p2, ?_⟩
            rcases bit_01 s i.toNat with h0 | h0
            · exact h0
            · have := (hset i.toNat fun y hy => (hbd y hy).1).2 (.inl h0)
              omega
        · refine List.pairwise_cons.2 ⟨fun x hx i hi hix => ?_, h2⟩
          obtain ⟨p1, p2, p3⟩ := (h1 x hx).2.1 i hix
          have := (hset i.toNat fun y hy => (hbd y hy).1).2 (.inr (by rw [Int.toNat_of_nonneg p1]; exact hi))
          omega
variable {d gl : Int} {gs : List (List Int)}
theorem check_g (h : check d gs gl = 0) : checkG d 0 gs = 0 := by
  have hk := check_ok h
  rw [← check_groups (gl := gl) (by omega) (by omega)]
  exact h
end Cd

/- JOINT in plain terms: the least list of pieces from which all lost ones are made. No program in sight. -/
namespace Rb
open Gf Mx
/-- The recipes of some pieces from one list, if there are all. -/
def together (m : Mat) (f : List Int) : List Nat → Option (List Rec)
  | [] => some []
  | p :: ps => match recipe m p f with
    | none => none
    | some r => (together m f ps).map (r :: ·)
def jointIn (m : Mat) (ps : List Nat) : List (List Int) → Option (List Int × List Rec)
  | [] => none
  | f :: L => match together m f ps with
    | some rs => some (f, rs)
    | none => jointIn m ps L
def jointFrom (m : Mat) (ps : List Nat) (l : List Int) : Nat → Nat → Option (List Int × List Rec)
  | 0, _ => none
  | fuel + 1, many => match jointIn m ps (choose l many) with
    | some x => some x
    | none => jointFrom m ps l fuel (many + 1)
def joint (m : Mat) (ps : List Nat) (l : List Int) : Option (List Int × List Rec) := jointFrom m ps l (l.length + 1) 0
end Rb

/- WHAT IS AVAILABLE, and that more of it does not make the least recipes greater. No program in sight. -/
namespace Rb
open Gf Mx Cd
/-- The pieces that are not lost, but a given one. -/
def avail (n lost : Nat) (p : Int) : List Int := ((List.range n).filter fun k : Nat => decide (bitAt lost k = 0) && decide ((k : Int) ≠ p)).map fun k : Nat => (k : Int)
theorem mem_avail {n lost : Nat} {p i : Int} : i ∈ avail n lost p ↔ ∃ k, k < n ∧ i = (k : Int) ∧ bitAt lost k = 0 ∧ i ≠ p := by
  unfold avail
  rw [List.mem_map]
  constructor
  · rintro ⟨k, hk, rfl⟩
    have := List.mem_filter.mp hk
    have h2 := this.2
    rw [Bool.and_eq_true, decide_eq_true_eq, decide_eq_true_eq] at h2
    exact ⟨k, List.mem_range.mp this.1, rfl, h2.1, h2.2⟩
  · rintro ⟨k, hk, rfl, h1, h2⟩
    exact ⟨k, List.mem_filter.mpr ⟨List.mem_range.mpr hk, by rw [Bool.and_eq_true, decide_eq_true_eq, decide_eq_true_eq]; exact ⟨h1, h2⟩⟩, rfl⟩
theorem avail_bounds {n lost : Nat} {p i : Int} (h : i ∈ avail n lost p) : 0 ≤ i ∧ i < n := by
  obtain ⟨k, hk, rfl, _⟩ := mem_avail.mp h
  omega
theorem avail_length (n lost : Nat) (p : Int) : (avail n lost p).length ≤ n := by
  unfold avail
  rw [List.length_map]
  exact Nat.le_trans (List.length_filter_le _ _) (by simp)
end Rb

/- THE WALKS over rows and available of package rebuild. -/
namespace Rb
open Cd
/-- The error of a call for a code and a set of lost pieces. -/
def err0 (d gl : Int) (gs : List (List Int)) (lost : Int) : Int :=
  if check d gs gl ≠ 0 then check d gs gl else if 16 < (rowsOf d gs gl).length then 2 else if lost < 0 ∨ ((2 ^ (rowsOf d gs gl).length : Nat) : Int) ≤ lost then 1 else 0
theorem err0_bad {d gl : Int} {gs : List (List Int)} {lost : Int} (h : check d gs gl ≠ 0) : err0 d gl gs lost = check d gs gl := if_pos h
theorem err0_many {d gl : Int} {gs : List (List Int)} {lost : Int} (h : check d gs gl = 0) (h2 : 16 < (rowsOf d gs gl).length) : err0 d gl gs lost = 2 := by
  unfold err0; rw [if_neg (by omega), if_pos h2]
theorem err0_lost {d gl : Int} {gs : List (List Int)} {lost : Int} (h : check d gs gl = 0) (h2 : ¬ 16 < (rowsOf d gs gl).length) (h3 : lost < 0 ∨ ((2 ^ (rowsOf d gs gl).length : Nat) : Int) ≤ lost) : err0 d gl gs lost = 1 := by
  unfold err0; rw [if_neg (by omega), if_neg h2, if_pos h3]
theorem err0_ok {d gl : Int} {gs : List (List Int)} {lost : Int} (h : check d gs gl = 0) (h2 : ¬ 16 < (rowsOf d gs gl).length) (h3 : ¬ (lost < 0 ∨ ((2 ^ (rowsOf d gs gl).length : Nat) : Int) ≤ lost)) : err0 d gl gs lost = 0 := by
  unfold err0; rw [if_neg (by omega), if_neg h2, if_neg h3]
theorem err0_zero {d gl : Int} {gs : List (List Int)} {lost : Int} (h : err0 d gl gs lost = 0) : check d gs gl = 0 ∧ (rowsOf d gs gl).length ≤ 16 ∧ 0 ≤ lost ∧ lost < ((2 ^ (rowsOf d gs gl).length : Nat) : Int) := by
  unfold err0 at h
  by_cases h1 : check d gs gl ≠ 0
  · rw [if_pos h1] at h; exact absurd h h1
  · rw [if_neg h1] at h
    by_cases h2 : 16 < (rowsOf d gs gl).length
    · rw [if_pos h2] at h; cases h
    · rw [if_neg h2] at h
      by_cases h3 : lost < 0 ∨ ((2 ^ (rowsOf d gs gl).length : Nat) : Int) ≤ lost
      · rw [if_pos h3] at h; cases h
      · exact ⟨by omega, by omega, by omega, by omega⟩
/-- The rows that such a call works with. -/
def rows0 (d gl : Int) (gs : List (List Int)) (lost : Int) : Mx.Mat := if err0 d gl gs lost = 0 then rowsOf d gs gl else []
theorem rows0_ok {d gl : Int} {gs : List (List Int)} {lost : Int} (h : err0 d gl gs lost = 0) : rows0 d gl gs lost = rowsOf d gs gl := if_pos h
theorem rows0_no {d gl : Int} {gs : List (List Int)} {lost : Int} (h : err0 d gl gs lost ≠ 0) : rows0 d gl gs lost = [] := if_neg h
theorem avail_on {k lost : Nat} {p : Int} (h : bitAt lost k = 0) (h2 : (k : Int) ≠ p) : avail (k + 1) lost p = avail k lost p ++ [(k : Int)] := by
  unfold avail
  rw [List.range_succ, List.filter_append, List.map_append]
  simp [h, h2]
theorem avail_off {k lost : Nat} {p : Int} (h : ¬ (bitAt lost k = 0 ∧ (k : Int) ≠ p)) : avail (k + 1) lost p = avail k lost p := by
  unfold avail
  rw [List.range_succ, List.filter_append, List.map_append]
  have : [k].filter (fun k : Nat => decide (bitAt lost k = 0) && decide ((k : Int) ≠ p)) = [] := by
    rw [List.filter_cons_of_neg]
    · rfl
    · simp; intro a; by_cases e : (k : Int) = p
      · exact e
      · exact absurd ⟨a, e⟩ h
  rw [this]
  simp
attribute [irreducible] err0
end Rb
namespace Go.Proofs.YtdmljilcbndmfaaDoor
open Go.RowKit
theorem Rs.nil {α : Type} {R : World → Value → α → Prop} (w : World) : Rs R w (.slice none 0 0) [] := ⟨none, 0, rfl, by simp, fun i x h => by simp at h⟩
theorem bit_int16 (F r : Nat) (hF : F < 2 ^ 40) : bits .and .i64 ((F : Int) / 2 ^ r) 1 = ((Cd.bitAt F r : Nat) : Int) := by
  have hle : F / 2 ^ r ≤ F := Nat.div_le_self _ _
  have h40 : (2 : Nat) ^ 40 = 1099511627776 := by decide
  have := odd64 (F / 2 ^ r) (by omega)
  unfold Cd.bitAt
  rw [← this]
  simp
set_option maxHeartbeats 8000000 in
set_option maxRecDepth 100000 in
theorem bRows_any (d gl : Int) (gs : List (List Int)) (lost : Int) (G : Value) (w : World) (hT : Tab w) (hG : Rs (Rs RI) w G gs) :
    Calls Tryd.prog 39 #[.agg #[.int .i64 d, G, .int .i64 gl], .int .i64 lost] w fun e w' => ∃ v, e = .returned (.tuple #[v, .int .i64 (Rb.err0 d gl gs lost)]) ∧ Rs (Rs RB) w' v (Rb.rows0 d gl gs lost) ∧ Ext w w' := by
  have hx0 := (Ext.refl w).alloc (.cells #[.int .i64 d, G, .int .i64 gl] 24)
  have HX := Lib.hid (And.intro hx0 (And.intro (Rs.ext (Rs.ext RI.ext) _ _ _ _ hx0 hG) (hT.ext hx0)))
  obtain ⟨A, c, rfl, hl⟩ := hG.form
  clear hG hx0 hT
  go_enter Tryd.func39, Tryd.ntmps39
  go_wp2_with fail
  refine (cRows_any d gl gs _ _ HX.out.2.2 HX.out.2.1).mono ?_
  rintro e w1 ⟨v, rfl, hv, hx1⟩
  have HX1 := Lib.hid (HX.out.1.trans hx1)
  have HV := Lib.hid hv
  obtain ⟨RA, cR, rfl, _⟩ := hv.form
  clear hx1 hv
  by_cases h0 : Cd.check d gs gl = 0
  · have H0 := Lib.hid h0
    obtain ⟨n, hn⟩ : ∃ n, (Cd.rowsOf d gs gl).length = n := ⟨_, rfl⟩
    rw [hn, h0]
    have HN := Lib.hid hn
    by_cases h1 : 16 < n
    · have he : Rb.err0 d gl gs lost = 2 := Rb.err0_many h0 (by rw [hn]; exact h1)
      have HE := Lib.hid he
      clear h0 hn he
      go_wp2_with fail
      go_ret2
      exact ⟨_, by rw [HE.out]; rfl, by rw [Rb.rows0_no (by rw [HE.out]; decide)]; exact Rs.nil _, HX1.out⟩
    · obtain ⟨P, hP⟩ : ∃ P, 2 ^ n = P := ⟨_, rfl⟩
      have hP1 : P ≤ 65536 := by rw [← hP]; exact Nat.pow_le_pow_right (by decide) (show n ≤ 16 by omega)
      have hw := wrap_pow n (by omega)
      rw [hP] at hw
      have hw2 : IntKind.i64.wrap (2 ^ n) = (P : Int) := by unfold wrap64 at hw; rw [IntKind.wrap_i64]; exact hw
      have HP := Lib.hid hP
      clear h0 hn hP
      by_cases h2 : lost < 0
      · have he : Rb.err0 d gl gs lost = 1 := Rb.err0_lost H0.out (by rw [HN.out]; exact h1) (.inl h2)
        have HE := Lib.hid he
        clear he hw hw2
        go_wp2_with fail
        go_ret2
        exact ⟨_, by rw [HE.out]; rfl, by rw [Rb.rows0_no (by rw [HE.out]; decide)]; exact Rs.nil _, HX1.out⟩
      · by_cases h3 : (P : Int) ≤ lost
        · have he : Rb.err0 d gl gs lost = 1 := Rb.err0_lost H0.out (by rw [HN.out]; exact h1) (.inr (by rw [HN.out, HP.out]; exact h3))
          have HE := Lib.hid he
          clear he
          go_wp2_with fail
          clear hw hw2
          go_wp2_with fail
          go_ret2
          exact ⟨_, by rw [HE.out]; rfl, by rw [Rb.rows0_no (by rw [HE.out]; decide)]; exact Rs.nil _, HX1.out⟩
        · have he : Rb.err0 d gl gs lost = 0 := Rb.err0_ok H0.out (by rw [HN.out]; exact h1) (by rw [HN.out, HP.out]; omega)
          have HE := Lib.hid he
          clear he
          go_wp2_with fail
          clear hw hw2
          go_wp2_with fail
          go_ret2
          exact ⟨_, by rw [HE.out]; rfl, by rw [Rb.rows0_ok HE.out, ← HN.out]; exact HV.out, HX1.out⟩
  · have he : Rb.err0 d gl gs lost = Cd.check d gs gl := Rb.err0_bad h0
    have HE := Lib.hid (And.intro he h0)
    obtain ⟨k, hk⟩ : ∃ k, Cd.check d gs gl = k := ⟨_, rfl⟩
    rw [hk] at h0 HE ⊢
    have hb : (k != 0) = true := by rw [bne_iff_ne]; exact h0
    have hb2 : (k == 0) = false := by rw [beq_eq_false_iff_ne]; exact h0
    clear he hk h0
    go_wp2_with fail
    go_ret2
    exact ⟨_, by rw [HE.out.1]; rfl, by rw [Rb.rows0_no (by rw [HE.out.1]; exact HE.out.2)]; exact Rs.nil _, HX1.out⟩
set_option maxHeartbeats 8000000 in
set_option maxRecDepth 100000 in
theorem bAvail_any (n lost : Nat) (p : Int) (w : World) (hn : n ≤ 24) (hl : lost < 2 ^ 40) (hp : -1 ≤ p) (hp2 : p ≤ 1000) :
    Calls Tryd.prog 49 #[.int .i64 (n : Nat), .int .i64 (lost : Nat), .int .i64 p] w fun e w' => ∃ v, e = .returned v ∧ Rs RI w' v (Rb.avail n lost p) ∧ Ext w w' := by
  have HL := Lib.hid hl
  clear hl
  go_enter Tryd.func49, Tryd.ntmps49
  go_wp2_with fail
  go_loopw [7, 10] (fun vo vi wr => ∃ (k m c : Nat) (A : Option Addr), k ≤ n ∧ m ≤ k ∧ vi = .int .i64 (k : Nat) ∧ vo = .slice A m c ∧ Hid (m = (Rb.avail k lost p).length ∧ Owns w wr [⟨.slice A m c, 3, 1, m, (Rb.avail k lost p).map (.int .i64)⟩])) (fun _ vi _ => n - (intOf vi).toNat)
  case atStart => exact ⟨0, 0, 0, none, Nat.zero_le _, Nat.le_refl _, rfl, rfl, Lib.hid ⟨rfl, Owns.nilled (L := []) (Owns.start w (fun r h => by cases h))⟩⟩
  case round =>
    obtain ⟨k, m, c, A, hk, hm, rfl, rfl, HI⟩ := hrel
    by_cases hlt : k < n
    · have hb := bit_int16 lost k HL.out
      have HB := Lib.hid hb
      have hb2 : Cd.bitAt lost k < 2 := Nat.mod_lt _ (by decide)
      obtain ⟨b, hbe⟩ : ∃ b, Cd.bitAt lost k = b := ⟨_, rfl⟩
      rw [hbe] at hb hb2
      by_cases hb0 : b = 0
      · subst hb0
        by_cases hkp : (k : Int) = p
        · have hs := Rb.avail_off (lost := lost) (k := k) (p := p) (fun e => e.2 hkp)
          have HS := Lib.hid hs
          subst hkp
          clear hs hbe
          go_wp2_with fail
          clear hb
          go_roundw
          case rel => exact ⟨k + 1, m, c, A, by omega, by omega, by go_num, (by first | trivial | rfl), Lib.hid (by rw [HS.out]; exact HI.out)⟩
          case measure => simp [intOf]; omega
        · have hs := Rb.avail_on (lost := lost) (k := k) (p := p) hbe hkp
          have HS := Lib.hid hs
          have hne : ((k : Int) != p) = true := by rw [bne_iff_ne]; exact hkp
          have hne2 : ((k : Int) == p) = false := by rw [beq_eq_false_iff_ne]; exact hkp
          clear hs hbe
          go_wp2_with (refine wpl_append_owns (u := .int .i64 (k : Nat)) 27 3 rfl (.tmp 23) (.tmp 25) rfl Tryd.underlying27 info_int rfl HI.out.2.push1 0 rfl rfl rfl (cell_of_row _ _ 0 _ _ (0, 0) (heap_new _ _)) rfl (by omega) (by decide) ?_; intro g9 c9 w9 hO9 hg9)
          have hfin : Owns w w9 [⟨.slice (some ⟨g9, 0, none⟩) (m + 1) c9, 3, 1, m + 1, (Rb.avail (k + 1) lost p).map (.int .i64)⟩] := by
            refine Owns.front (M := [⟨.slice (some ⟨wr.heap.size, 0, none⟩) 1 1, 3, 1, 1, [.int .i64 (k : Nat)]⟩]) ?_
            rw [HS.out, List.map_append]
            exact hO9
          have HF := Lib.hid hfin
          clear hO9 hg9 hfin hb hne hne2 hkp
          go_wp2_with fail
          go_roundw
          case rel => exact ⟨k + 1, m + 1, c9, some ⟨g9, 0, none⟩, by omega, by omega, by go_num, (by first | trivial | rfl), Lib.hid ⟨by rw [HS.out, List.length_append, ← HI.out.1]; rfl, HF.out⟩⟩
          case measure => simp [intOf]; omega
      · have hs := Rb.avail_off (lost := lost) (k := k) (p := p) (fun e => hb0 (by rw [← hbe]; exact e.1))
        have HS := Lib.hid hs
        obtain rfl : b = 1 := by omega
        clear hs hbe hb0
        go_wp2_with fail
        clear hb
        go_roundw
        case rel => exact ⟨k + 1, m, c, A, by omega, by omega, by go_num, (by first | trivial | rfl), Lib.hid (by rw [HS.out]; exact HI.out)⟩
        case measure => simp [intOf]; omega
    · obtain rfl : n = k := by omega
      have hrs : Rs RI wr (.slice A m c) (Rb.avail n lost p) := by
        have hrd := HI.out.2.rd 0 (A := A) (n := m) (c := c) (e := 3) rfl
        refine ⟨A, c, by rw [← HI.out.1], by rw [← HI.out.1]; omega, fun i x hi => ?_⟩
        obtain ⟨ad, hA, _, hcell⟩ := hrd i (.int .i64 x) (by rw [List.getElem?_map, hi]; rfl)
        have hb := Rb.avail_bounds (List.mem_of_getElem? hi)
        exact ⟨ad, _, hA, hcell, rfl, by omega, by omega⟩
      have HR := Lib.hid hrs
      clear hrs
      go_wp2_with fail
      go_ret
      exact ⟨_, rfl, HR.out, HI.out.2.ext⟩
end Go.Proofs.YtdmljilcbndmfaaDoor

/- THE WALK over recipe of package rebuild. -/
namespace Rb
theorem keep_nil (f : List Int) : keep f [] = [] := by unfold keep; simp
theorem keep_succ {f : List Int} {x : List UInt8} {k : Nat} (h1 : k < f.length) (h2 : k < x.length) : keep (f.take (k + 1)) (x.take (k + 1)) = keep (f.take k) (x.take k) ++ (if x[k] = 0 then [] else [(f[k], x[k])]) := by
  unfold keep
  rw [List.take_succ_eq_append_getElem h1, List.take_succ_eq_append_getElem h2, List.zip_append (by simp; omega), List.filter_append]
  congr 1
  by_cases e : x[k] = 0
  · simp [e]
  · simp [e]
theorem zip_take : ∀ (f : List Int) (x : List UInt8), (f.take x.length).zip x = f.zip x
  | [], x => by simp
  | a :: f, [] => by simp
  | a :: f, b :: x => by simp [zip_take f x]
theorem keep_all (f : List Int) (x : List UInt8) : keep (f.take x.length) (x.take x.length) = keep f x := by
  unfold keep
  rw [List.take_length, zip_take]
theorem keep_few (f : List Int) (x : List UInt8) : (keep f x).length ≤ f.length := by
  unfold keep
  refine Nat.le_trans (List.length_filter_le _ _) ?_
  rw [List.length_zip]; omega
theorem recipe_made (m : Mx.Mat) (p : Nat) (f : List Int) : (recipe m p f).getD ⟨p, [], []⟩ = made p f ((Mx.expr (rowsAt m f) (m.getD p [])).getD []) := by
  unfold recipe
  cases Mx.expr (rowsAt m f) (m.getD p []) with
  | none => simp [made, keep_nil]
  | some x => rfl
theorem recipe_some (m : Mx.Mat) (p : Nat) (f : List Int) : (recipe m p f).isSome = (Mx.expr (rowsAt m f) (m.getD p [])).isSome := by
  unfold recipe
  cases Mx.expr (rowsAt m f) (m.getD p []) <;> rfl
end Rb
namespace Go.Proofs.YtdmljilcbndmfaaDoor
open Go.RowKit
theorem cell_far {w : World} {a b : Addr} (u : Value) (h : b.block ≠ a.block) : (w.setCell a u).cell? b = w.cell? b := by
  unfold World.cell?
  rw [heap_setCell_other w a b.block u (fun e => h e)]
/-- A slice that was made since w. -/
def Fresh (w w' : World) (v : Value) : Prop := ∀ b, v.ownBlock = some b → w.heap.size ≤ b ∧ b < w'.heap.size
/-- A value reads as a recipe. -/
def RRec (w : World) (v : Value) (r : Rb.Rec) : Prop := ∃ F C, v = .agg #[.int .i64 r.piece, F, C] ∧ Rs RI w F r.src ∧ Rs RB w C r.coef
theorem RRec.ext : Stable RRec := fun _ _ _ _ hx ⟨F, C, e, h1, h2⟩ => ⟨F, C, e, Rs.ext RI.ext _ _ _ _ hx h1, Rs.ext RB.ext _ _ _ _ hx h2⟩
theorem results_cell_tmp {P : Program} {fn : Func} {a b : Tmp} {t : TypeId} (h : fn.results = #[.cell a t, .tmp b]) {tmps : Array Value} {ad : Addr} {v : Value} {w : World} (ha : tmps.getD a undef = .pointer (some ad)) (hl : (loadVar t ad).run P w = .ok v w) :
    (results fn tmps).run P w = .ok (.tuple #[v, tmps.getD b undef]) w := by
  rw [Array.getD_eq_getD_getElem?] at ha
  simp [results, h, asAddr, ha, hl]
theorem Rs.of_ints {w : World} {A : Option Addr} {n c : Nat} {l : List Int} (h : Rd w A (l.map (.int .i64))) (hn : n = l.length) (hl : l.length ≤ 9223372036854775807) (hb : ∀ x ∈ l, -9223372036854775808 ≤ x ∧ x ≤ 9223372036854775807) : Rs RI w (.slice A n c) l := by
  subst hn
  exact ⟨A, c, rfl, hl, fun i x hi => by
    obtain ⟨ad, h1, _, h3⟩ := h i (.int .i64 x) (by rw [List.getElem?_map, hi]; rfl)
    exact ⟨ad, .int .i64 x, h1, h3, rfl, hb x (List.mem_of_getElem? hi)⟩⟩
noncomputable def rec_app_code : Code := ((Tryd.f42.body.bind (regionOf 13)).getD .skip)
def rec_app_dsts : List (Option Nat) := [some 54, some 55, some 56, some 57, some 58, some 59, some 60, some 61, some 62, some 63, some 64, some 65, some 66, some 67, none, some 68, none]
theorem rec_app_apart : apartD rec_app_dsts = true := by decide +kernel
set_option maxRecDepth 1000000 in
set_option maxHeartbeats 16000000 in
theorem rec_app (w0 wr : World) (B N k na cN cF cC p : Nat) (FA CA : Option Addr) (fd : Addr) (fk : Int) (x : UInt8) (fs cs : List Value) (rr : LRow) (hk : k < N) (hfk : w0.cell? (fd.add k) = some (.int .i64 fk)) (ha0 : na ≤ 1000) (HOO : Hid (Owns w0 wr.drew [⟨.slice (some ⟨B, 0, none⟩) 3 3, 30, 1, 3, [.int .i64 p, .slice FA na cF, .slice CA na cC]⟩, ⟨.slice FA na cF, 3, 1, na, fs⟩, ⟨.slice CA na cC, 5, 1, na, cs⟩, no, no, rr])) (c0 c1 c3 c4 c5 c6 c7 c8 c9 c10 c11 c12 c16 c17 c18 c19 c20 c21 c22 c23 c24 c25 c26 c27 c28 c29 c30 c31 c32 c33 c34 c35 c36 c37 c38 c39 c40 c41 c42 c43 c44 c45 c46 c47 c48 c49 c50 c51 c52 c53 c54 c55 c56 c57 c58 c59 c60 c61 c62 c63 c64 c65 c66 c67 c68 c69 c70 c71 c72 : Value) (df : List Deferred) (K : Act → World → Prop)
    (hK : ∀ (u54 u55 u56 u57 u58 u59 u60 u61 u62 u63 u64 u65 u66 u67 u68 : Value) (wx : World), (∃ g7 k7 g12 k12, Owns w0 wx [⟨.slice (some ⟨B, 0, none⟩) 3 3, 30, 1, 3, [.int .i64 p, .slice (some ⟨g7, 0, none⟩) (na + 1) k7, .slice (some ⟨g12, 0, none⟩) (na + 1) k12]⟩, ⟨.slice (some ⟨g7, 0, none⟩) (na + 1) k7, 3, 1, na + 1, fs ++ [.int .i64 fk]⟩, ⟨.slice (some ⟨g12, 0, none⟩) (na + 1) k12, 5, 1, na + 1, cs ++ [bv x]⟩, no, no, rr]) → K ⟨#[c0, c1, .slice (some fd) N cN, c3, c4, c5, c6, c7, c8, c9, c10, c11, c12, .pointer (some ⟨B, 0, none⟩), .int .i64 (k : Nat), bv x, c16, c17, c18, c19, c20, c21, c22, c23, c24, c25, c26, c27, c28, c29, c30, c31, c32, c33, c34, c35, c36, c37, c38, c39, c40, c41, c42, c43, c44, c45, c46, c47, c48, c49, c50, c51, c52, c53, u54, u55, u56, u57, u58, u59, u60, u61, u62, u63, u64, u65, u66, u67, u68, c69, c70, c71, c72], df⟩ wx) :
    Code.wp Tryd.prog rec_app_code (AtEnd K) ⟨#[c0, c1, .slice (some fd) N cN, c3, c4, c5, c6, c7, c8, c9, c10, c11, c12, .pointer (some ⟨B, 0, none⟩), .int .i64 (k : Nat), bv x, c16, c17, c18, c19, c20, c21, c22, c23, c24, c25, c26, c27, c28, c29, c30, c31, c32, c33, c34, c35, c36, c37, c38, c39, c40, c41, c42, c43, c44, c45, c46, c47, c48, c49, c50, c51, c52, c53, c54, c55, c56, c57, c58, c59, c60, c61, c62, c63, c64, c65, c66, c67, c68, c69, c70, c71, c72], df⟩ wr := by
  conv => arg 2; whnf
  refine region_inv (by kernel_rfl) [[], [0], [], [], [2, 3], [4], [5], [1, 6], [], [8], [], [10], [9, 11, 7], [0, 1, 2, 3, 4, 5, 6, 7, 8, 9], [13, 7, 12, 0, 1, 2, 3, 4, 5, 6, 7, 8, 9], [0, 1, 2, 3, 4, 5, 6, 7, 8, 9, 10, 11, 12, 13, 14], [15, 12, 14, 0, 1, 2, 3, 4, 5, 6, 7, 8, 9, 10, 11, 12, 13, 14]] (by kernel_rfl) [0, 1, 2, 3, 4, 5, 6, 7, 8, 9, 10, 11, 12, 13, 14, 15, 16] (by decide +kernel) (by decide +kernel) (by decide +kernel) (fun L a wc => ∃ g6 g7 k7 g11 g12 k12 : Nat, Inv rec_app_dsts [.pointer (some ⟨B, 1, none⟩), .slice FA na cF, .slice (some fd) N cN, .int .i64 (k : Nat), .pointer (some (fd.add k)), .int .i64 fk, .slice (some ⟨g6, 0, none⟩) 1 1, .slice (some ⟨g7, 0, none⟩) (na + 1) k7, .pointer (some ⟨B, 2, none⟩), .slice CA na cC, bv x, .slice (some ⟨g11, 0, none⟩) 1 1, .slice (some ⟨g12, 0, none⟩) (na + 1) k12, .pointer (some ⟨B, 1, none⟩), undef, .pointer (some ⟨B, 2, none⟩), undef] ⟨#[c0, c1, .slice (some fd) N cN, c3, c4, c5, c6, c7, c8, c9, c10, c11, c12, .pointer (some ⟨B, 0, none⟩), .int .i64 (k : Nat), bv x, c16, c17, c18, c19, c20, c21, c22, c23, c24, c25, c26, c27, c28, c29, c30, c31, c32, c33, c34, c35, c36, c37, c38, c39, c40, c41, c42, c43, c44, c45, c46, c47, c48, c49, c50, c51, c52, c53, c54, c55, c56, c57, c58, c59, c60, c61, c62, c63, c64, c65, c66, c67, c68, c69, c70, c71, c72], df⟩ L a ∧ Hid (Owns w0 wc [⟨.slice (some ⟨B, 0, none⟩) 3 3, 30, 1, 3, [.int .i64 p, if L 14 = true then .slice (some ⟨g7, 0, none⟩) (na + 1) k7 else .slice FA na cF, if L 16 = true then .slice (some ⟨g12, 0, none⟩) (na + 1) k12 else .slice CA na cC]⟩, (if L 7 = true then ⟨.slice (some ⟨g7, 0, none⟩) (na + 1) k7, 3, 1, na + 1, fs ++ [.int .i64 fk]⟩ else ⟨.slice FA na cF, 3, 1, na, fs⟩), (if L 12 = true then ⟨.slice (some ⟨g12, 0, none⟩) (na + 1) k12, 5, 1, na + 1, cs ++ [bv x]⟩ else ⟨.slice CA na cC, 5, 1, na, cs⟩), (if L 6 = true then ⟨.slice (some ⟨g6, 0, none⟩) 1 1, 3, 1, 1, [.int .i64 fk]⟩ else no), (if L 11 = true then ⟨.slice (some ⟨g11, 0, none⟩) 1 1, 5, 1, 1, [bv x]⟩ else no), rr])) ⟨0, 0, 0, 0, 0, 0, Inv.start, HOO⟩ ?_ ?_
  · refine ⟨?_, ?_, ?_, ?_, ?_, ?_, ?_, ?_, ?_, ?_, ?_, ?_, ?_, ?_, ?_, ?_, ?_, trivial⟩
    ·
      rintro L a wc ⟨g6, g7, k7, g11, g12, k12, hv, HO⟩ hL hc hd
      exact wpOp_value rfl rfl (ex_field rfl ((hv.fixed 13 (by decide)).trans rfl) (by go_simp)) ⟨g6, g7, k7, g11, g12, k12, hv.put rec_app_apart 0 rfl (lb rfl) (lb rfl) rfl, HO⟩
    ·
      rintro L a wc ⟨g6, g7, k7, g11, g12, k12, hv, HO⟩ hL hc hd
      have n14 : L 14 = false := Bool.eq_false_iff.2 fun h => Bool.false_ne_true (hL.symm.trans (hc 14 h 1 (by decide)))
      have e1 : wc.cell? ⟨B, 1, none⟩ = some (.slice FA na cF) := by have h := HO.out.cell 0 rfl 1 rfl; rw [if_neg (by simp [n14])] at h; exact h
      exact wpOp_value rfl rfl (ex_load rfl (hv.get 0 rfl rfl (hd 0 (by decide))) (by go_simp)) ⟨g6, g7, k7, g11, g12, k12, hv.put rec_app_apart 1 rfl (lb rfl) (lb rfl) rfl, HO⟩
    ·
      rintro L a wc ⟨g6, g7, k7, g11, g12, k12, hv, HO⟩ hL hc hd
      exact wpOp_value rfl rfl (ex_move rfl ((hv.fixed 2 (by decide)).trans rfl)) ⟨g6, g7, k7, g11, g12, k12, hv.put rec_app_apart 2 rfl (lb rfl) (lb rfl) rfl, HO⟩
    ·
      rintro L a wc ⟨g6, g7, k7, g11, g12, k12, hv, HO⟩ hL hc hd
      exact wpOp_value rfl rfl (ex_move rfl ((hv.fixed 14 (by decide)).trans rfl)) ⟨g6, g7, k7, g11, g12, k12, hv.put rec_app_apart 3 rfl (lb rfl) (lb rfl) rfl, HO⟩
    ·
      rintro L a wc ⟨g6, g7, k7, g11, g12, k12, hv, HO⟩ hL hc hd
      have b1 : (0 : Int) ≤ (k : Int) := by omega
      have b2 : (k : Int) < (N : Int) := by omega
      exact wpOp_value rfl rfl (ex_index rfl (hv.get 2 rfl rfl (hd 2 (by decide))) (hv.get 3 rfl rfl (hd 3 (by decide))) (by go_simp)) ⟨g6, g7, k7, g11, g12, k12, hv.put rec_app_apart 4 rfl (lb rfl) (lb rfl) rfl, HO⟩
    ·
      rintro L a wc ⟨g6, g7, k7, g11, g12, k12, hv, HO⟩ hL hc hd
      have cQ : wc.cell? (fd.add k) = some (.int .i64 fk) := HO.out.ext.cell hfk
      exact wpOp_value rfl rfl (ex_load rfl (hv.get 4 rfl rfl (hd 4 (by decide))) (by go_simp)) ⟨g6, g7, k7, g11, g12, k12, hv.put rec_app_apart 5 rfl (lb rfl) (lb rfl) rfl, HO⟩
    ·
      rintro L a wc ⟨g6, g7, k7, g11, g12, k12, hv, HO⟩ hL hc hd
      have n6 := hL
      have hn := HO.out.new 3 #[.int .i64 fk] 3 (by simp [maxLen])
      exact wpOp_value rfl rfl (ex_build rfl Tryd.underlying27 info_int (hv.get 5 rfl rfl (hd 5 (by decide))) rfl) ⟨wc.heap.size, g7, k7, g11, g12, k12, hv.put rec_app_apart 6 rfl (lb rfl) (lb rfl) rfl, Lib.hid hn⟩
    ·
      rintro L a wc ⟨g6, g7, k7, g11, g12, k12, hv, HO⟩ hL hc hd
      refine wpOp_append rfl rfl 27 3 rfl Tryd.underlying27 info_int rfl HO.out 1 (congrArg some (if_neg (by simp [hL]))) (hv.get 1 rfl rfl (hd 1 (by decide))) (hv.get 6 rfl rfl (hd 6 (by decide))) (HO.out.cell 3 (congrArg some (if_pos (hd 6 (by decide)))) 0 rfl) rfl (by omega) (by decide) ?_
      intro gg cc w2 hO2
      have n14 : L 14 = false := Bool.eq_false_iff.2 fun h => Bool.false_ne_true (hL.symm.trans (hc 14 h 7 (by decide)))
      have e14 : (if L 14 = true then (.slice (some ⟨g7, 0, none⟩) (na + 1) k7 : Value) else .slice FA na cF) = (if L 14 = true then .slice (some ⟨gg, 0, none⟩) (na + 1) cc else .slice FA na cF) := by rw [if_neg (by simp [n14]), if_neg (by simp [n14])]
      rw [e14] at hO2
      exact ⟨g6, gg, cc, g11, g12, k12, hv.put rec_app_apart 7 rfl (lb rfl) (lb rfl) rfl, Lib.hid hO2⟩
    ·
      rintro L a wc ⟨g6, g7, k7, g11, g12, k12, hv, HO⟩ hL hc hd
      exact wpOp_value rfl rfl (ex_field rfl ((hv.fixed 13 (by decide)).trans rfl) (by go_simp)) ⟨g6, g7, k7, g11, g12, k12, hv.put rec_app_apart 8 rfl (lb rfl) (lb rfl) rfl, HO⟩
    ·
      rintro L a wc ⟨g6, g7, k7, g11, g12, k12, hv, HO⟩ hL hc hd
      have n16 : L 16 = false := Bool.eq_false_iff.2 fun h => Bool.false_ne_true (hL.symm.trans (hc 16 h 9 (by decide)))
      have e2 : wc.cell? ⟨B, 2, none⟩ = some (.slice CA na cC) := by have h := HO.out.cell 0 rfl 2 rfl; rw [if_neg (by simp [n16])] at h; exact h
      exact wpOp_value rfl rfl (ex_load rfl (hv.get 8 rfl rfl (hd 8 (by decide))) (by go_simp)) ⟨g6, g7, k7, g11, g12, k12, hv.put rec_app_apart 9 rfl (lb rfl) (lb rfl) rfl, HO⟩
    ·
      rintro L a wc ⟨g6, g7, k7, g11, g12, k12, hv, HO⟩ hL hc hd
      exact wpOp_value rfl rfl (ex_move rfl ((hv.fixed 15 (by decide)).trans rfl)) ⟨g6, g7, k7, g11, g12, k12, hv.put rec_app_apart 10 rfl (lb rfl) (lb rfl) rfl, HO⟩
    ·
      rintro L a wc ⟨g6, g7, k7, g11, g12, k12, hv, HO⟩ hL hc hd
      have n11 := hL
      have hn := HO.out.new 4 #[bv x] 5 (by simp [maxLen])
      exact wpOp_value rfl rfl (ex_build rfl Tryd.underlying28 info_u8 (hv.get 10 rfl rfl (hd 10 (by decide))) rfl) ⟨g6, g7, k7, wc.heap.size, g12, k12, hv.put rec_app_apart 11 rfl (lb rfl) (lb rfl) rfl, Lib.hid hn⟩
    ·
      rintro L a wc ⟨g6, g7, k7, g11, g12, k12, hv, HO⟩ hL hc hd
      refine wpOp_append rfl rfl 28 5 rfl Tryd.underlying28 info_u8 rfl HO.out 2 (congrArg some (if_neg (by simp [hL]))) (hv.get 9 rfl rfl (hd 9 (by decide))) (hv.get 11 rfl rfl (hd 11 (by decide))) (HO.out.cell 4 (congrArg some (if_pos (hd 11 (by decide)))) 0 rfl) rfl (by omega) (by decide) ?_
      intro gg cc w2 hO2
      have n16 : L 16 = false := Bool.eq_false_iff.2 fun h => Bool.false_ne_true (hL.symm.trans (hc 16 h 12 (by decide)))
      have e16 : (if L 16 = true then (.slice (some ⟨g12, 0, none⟩) (na + 1) k12 : Value) else .slice CA na cC) = (if L 16 = true then .slice (some ⟨gg, 0, none⟩) (na + 1) cc else .slice CA na cC) := by rw [if_neg (by simp [n16]), if_neg (by simp [n16])]
      rw [e16] at hO2
      exact ⟨g6, g7, k7, g11, gg, cc, hv.put rec_app_apart 12 rfl (lb rfl) (lb rfl) rfl, Lib.hid hO2⟩
    ·
      rintro L a wc ⟨g6, g7, k7, g11, g12, k12, hv, HO⟩ hL hc hd
      exact wpOp_value rfl rfl (ex_field rfl ((hv.fixed 13 (by decide)).trans rfl) (by go_simp)) ⟨g6, g7, k7, g11, g12, k12, hv.put rec_app_apart 13 rfl (lb rfl) (lb rfl) rfl, HO⟩
    ·
      rintro L a wc ⟨g6, g7, k7, g11, g12, k12, hv, HO⟩ hL hc hd
      have f1 : wc.frozen? ⟨B, 1, none⟩ = false := HO.out.frozen 0 rfl 1
      have e1 : wc.cell? ⟨B, 1, none⟩ = some (if L 14 = true then .slice (some ⟨g7, 0, none⟩) (na + 1) k7 else .slice FA na cF) := HO.out.cell 0 rfl 1 rfl
      have hst := HO.out.store 0 rfl 1 (.slice (some ⟨g7, 0, none⟩) (na + 1) k7)
      exact wpOp_skip rfl rfl rfl (ex_store rfl (hv.get 13 rfl rfl (hd 13 (by decide))) (hv.get 7 rfl rfl (hd 7 (by decide))) (by go_simp)) ⟨g6, g7, k7, g11, g12, k12, hv.skip 14 rfl, Lib.hid hst⟩
    ·
      rintro L a wc ⟨g6, g7, k7, g11, g12, k12, hv, HO⟩ hL hc hd
      exact wpOp_value rfl rfl (ex_field rfl ((hv.fixed 13 (by decide)).trans rfl) (by go_simp)) ⟨g6, g7, k7, g11, g12, k12, hv.put rec_app_apart 15 rfl (lb rfl) (lb rfl) rfl, HO⟩
    ·
      rintro L a wc ⟨g6, g7, k7, g11, g12, k12, hv, HO⟩ hL hc hd
      have f2 : wc.frozen? ⟨B, 2, none⟩ = false := HO.out.frozen 0 rfl 2
      have e2 : wc.cell? ⟨B, 2, none⟩ = some (if L 16 = true then .slice (some ⟨g12, 0, none⟩) (na + 1) k12 else .slice CA na cC) := HO.out.cell 0 rfl 2 rfl
      have hst := HO.out.store 0 rfl 2 (.slice (some ⟨g12, 0, none⟩) (na + 1) k12)
      exact wpOp_skip rfl rfl rfl (ex_store rfl (hv.get 15 rfl rfl (hd 15 (by decide))) (hv.get 12 rfl rfl (hd 12 (by decide))) (by go_simp)) ⟨g6, g7, k7, g11, g12, k12, hv.skip 16 rfl, Lib.hid hst⟩
  · rintro L a wc ⟨g6, g7, k7, g11, g12, k12, hv, HO⟩ hall
    show K a wc
    have ha := act_lit a
    rw [hv.size, hv.defers] at ha
    have hl : ∀ f : Nat → Value, ((List.range (⟨#[c0, c1, .slice (some fd) N cN, c3, c4, c5, c6, c7, c8, c9, c10, c11, c12, .pointer (some ⟨B, 0, none⟩), .int .i64 (k : Nat), bv x, c16, c17, c18, c19, c20, c21, c22, c23, c24, c25, c26, c27, c28, c29, c30, c31, c32, c33, c34, c35, c36, c37, c38, c39, c40, c41, c42, c43, c44, c45, c46, c47, c48, c49, c50, c51, c52, c53, c54, c55, c56, c57, c58, c59, c60, c61, c62, c63, c64, c65, c66, c67, c68, c69, c70, c71, c72], df⟩ : Act).tmps.size).map f).toArray = #[f 0, f 1, f 2, f 3, f 4, f 5, f 6, f 7, f 8, f 9, f 10, f 11, f 12, f 13, f 14, f 15, f 16, f 17, f 18, f 19, f 20, f 21, f 22, f 23, f 24, f 25, f 26, f 27, f 28, f 29, f 30, f 31, f 32, f 33, f 34, f 35, f 36, f 37, f 38, f 39, f 40, f 41, f 42, f 43, f 44, f 45, f 46, f 47, f 48, f 49, f 50, f 51, f 52, f 53, f 54, f 55, f 56, f 57, f 58, f 59, f 60, f 61, f 62, f 63, f 64, f 65, f 66, f 67, f 68, f 69, f 70, f 71, f 72] := fun _ => rfl
    rw [hl] at ha
    simp only [hv.fixed 0 (by decide), hv.fixed 1 (by decide), hv.fixed 2 (by decide), hv.fixed 3 (by decide), hv.fixed 4 (by decide), hv.fixed 5 (by decide), hv.fixed 6 (by decide), hv.fixed 7 (by decide), hv.fixed 8 (by decide), hv.fixed 9 (by decide), hv.fixed 10 (by decide), hv.fixed 11 (by decide), hv.fixed 12 (by decide), hv.fixed 13 (by decide), hv.fixed 14 (by decide), hv.fixed 15 (by decide), hv.fixed 16 (by decide), hv.fixed 17 (by decide), hv.fixed 18 (by decide), hv.fixed 19 (by decide), hv.fixed 20 (by decide), hv.fixed 21 (by decide), hv.fixed 22 (by decide), hv.fixed 23 (by decide), hv.fixed 24 (by decide), hv.fixed 25 (by decide), hv.fixed 26 (by decide), hv.fixed 27 (by decide), hv.fixed 28 (by decide), hv.fixed 29 (by decide), hv.fixed 30 (by decide), hv.fixed 31 (by decide), hv.fixed 32 (by decide), hv.fixed 33 (by decide), hv.fixed 34 (by decide), hv.fixed 35 (by decide), hv.fixed 36 (by decide), hv.fixed 37 (by decide), hv.fixed 38 (by decide), hv.fixed 39 (by decide), hv.fixed 40 (by decide), hv.fixed 41 (by decide), hv.fixed 42 (by decide), hv.fixed 43 (by decide), hv.fixed 44 (by decide), hv.fixed 45 (by decide), hv.fixed 46 (by decide), hv.fixed 47 (by decide), hv.fixed 48 (by decide), hv.fixed 49 (by decide), hv.fixed 50 (by decide), hv.fixed 51 (by decide), hv.fixed 52 (by decide), hv.fixed 53 (by decide), hv.fixed 69 (by decide), hv.fixed 70 (by decide), hv.fixed 71 (by decide), hv.fixed 72 (by decide)] at ha
    rw [ha]
    have hO := HO.out
    simp only [hall 6 (by decide), hall 7 (by decide), hall 11 (by decide), hall 12 (by decide), hall 14 (by decide), hall 16 (by decide), if_true] at hO
    exact hK _ _ _ _ _ _ _ _ _ _ _ _ _ _ _ _ ⟨g7, k7, g12, k12, (hO.drop 3).drop 4⟩
set_option maxHeartbeats 16000000 in
set_option maxRecDepth 100000 in
theorem bRecipe_any (m : Mx.Mat) (p D : Nat) (f : List Int) (vm vf : Value) (w : World) (hT : Tab w) (hM : Rs (Rs RB) w vm m) (hF : Rs RI w vf f) (hw : ∀ r ∈ m, r.length = D) (h0 : 0 < D) (hD : D ≤ 48) (hm : m.length ≤ 48) (hf : f.length ≤ 48) (hp : p < m.length) (hfm : ∀ i ∈ f, 0 ≤ i ∧ i < (m.length : Int)) :
    Calls Tryd.prog 42 #[vm, .int .i64 (p : Nat), vf] w fun e w' => ∃ F C, e = .returned (.tuple #[.agg #[.int .i64 (p : Nat), F, C], .bool (Rb.recipe m p f).isSome]) ∧ Rs RI w' F ((Rb.recipe m p f).getD ⟨p, [], []⟩).src ∧ Rs RB w' C ((Rb.recipe m p f).getD ⟨p, [], []⟩).coef ∧ Fresh w w' F ∧ Fresh w w' C ∧ Ext w w' := by
  obtain ⟨MA, cM, rfl, hm64⟩ := hM.form
  obtain ⟨FA0, cN, rfl, hf64⟩ := hF.form
  obtain ⟨M, hMl⟩ : ∃ M, m.length = M := ⟨_, rfl⟩
  obtain ⟨N, hN⟩ : ∃ N, f.length = N := ⟨_, rfl⟩
  rw [hMl] at hm hp hfm hM ⊢
  rw [hN] at hf hF ⊢
  obtain ⟨ma, hma⟩ : ∃ ma, MA = some ma := by
    obtain ⟨ad, _, e, _, _⟩ := hM.at (i := p) (by omega)
    exact ⟨ad, e⟩
  subst hma
  have hrowl : ∀ i : Nat, i < M → (m.getD i []).length = D := fun i hi => hw _ (by rw [List.getD_eq_getElem?_getD, List.getElem?_eq_getElem (by omega)]; exact List.getElem_mem _)
  have hfb : ∀ j, j < N → 0 ≤ f.getD j 0 ∧ f.getD j 0 < (M : Int) := fun j hj => hfm _ (by rw [List.getD_eq_getElem?_getD, List.getElem?_eq_getElem (by omega)]; exact List.getElem_mem _)
  have HM := Lib.hid (And.intro hM (And.intro hMl (And.intro hrowl hfb)))
  have HF := Lib.hid (And.intro hF (And.intro hN hfm))
  have HT := Lib.hid hT
  obtain ⟨w1, hw1⟩ : ∃ w1, w.alloc (.cells #[.int .i64 0, .slice none 0 0, .slice none 0 0] 30) = w1 := ⟨_, rfl⟩
  obtain ⟨Q, hQ⟩ : ∃ Q, w.heap.size = Q := ⟨_, rfl⟩
  have hO1 : Owns w w1 [no, nilRow 3, nilRow 5, no, no, ⟨.slice (some ⟨Q, 0, none⟩) 3 3, 30, 1, 3, [.int .i64 0, .slice none 0 0, .slice none 0 0]⟩] := by
    rw [← hw1, ← hQ]
    exact (Owns.start w (L := [no, nilRow 3, nilRow 5, no, no, no]) (by intro r hr; simp only [List.mem_cons, List.not_mem_nil, or_false] at hr; rcases hr with rfl | rfl | rfl | rfl | rfl | rfl <;> exact ⟨rfl, rfl, rfl⟩)).new 5 #[.int .i64 0, .slice none 0 0, .slice none 0 0] 30 (by simp [maxLen])
  have H1 := Lib.hid hO1
  have HQ := Lib.hid (And.intro hQ hw1)
  obtain ⟨j0, hj, hy0, hy1, hy2⟩ := info_parts info_bytes
  have HZ := Lib.hid hy2
  clear hM hMl hF hN hT hw hm64 hf64 hrowl hfb hfm hO1 hy2 hw1
  go_enter Tryd.func42, Tryd.ntmps42
  go_wp2_with (refine wpList_make_full _ rfl (.tmp 17) (.tmp 17) 65 rfl w1.heap.size 28 j0 (.slice none 0 0) 1 Tryd.underlying65 hj hy0 hy1 _ _ _ _ N rfl rfl rfl rfl (by rw [HZ.out]; omega) (by unfold maxLen; omega) (by rw [← HQ.out.2]; exact Nat.le_refl _) ?_; intro w2 hown hgrow; rw [HQ.out.2] at hown hgrow ⊢)
  have hx2 : Ext w1 w2 := (Ext.refl w1).grown hgrow (fun k h => by cases h)
  obtain ⟨Q1, hQ1⟩ : ∃ Q1, w1.heap.size = Q1 := ⟨_, rfl⟩
  have hO2 : Owns w w2 [no, nilRow 3, nilRow 5, ⟨.slice (some ⟨Q1, 0, none⟩) N N, 28, 1, N, List.replicate N (Value.slice none 0 0)⟩, no, ⟨.slice (some ⟨Q, 0, none⟩) 3 3, 30, 1, 3, [.int .i64 0, .slice none 0 0, .slice none 0 0]⟩] := by
    refine H1.out.made 3 hx2 ?_
    rw [← hQ1, ← toList_madeCells_one]
    simpa [Value.cells] using hown
  have H2 := Lib.hid hO2
  try rw [hQ1]
  try rw [hQ]
  clear hown hgrow hx2 hO2 hQ1 hQ
  go_loopw [21] (fun vi wr => ∃ (k : Nat) (us : List Value), k ≤ N ∧ vi = .int .i64 (k : Nat) ∧ Hid (us.length = k ∧ (∀ j, j < k → Rs RB w (us.getD j undef) (m.getD (f.getD j 0).toNat [])) ∧ Owns w wr [no, nilRow 3, nilRow 5, ⟨.slice (some ⟨Q1, 0, none⟩) N N, 28, 1, N, us ++ List.replicate (N - us.length) (Value.slice none 0 0)⟩, no, ⟨.slice (some ⟨Q, 0, none⟩) 3 3, 30, 1, 3, [.int .i64 0, .slice none 0 0, .slice none 0 0]⟩])) (fun vi _ => N - (intOf vi).toNat)
  case atStart => exact ⟨0, [], Nat.zero_le _, rfl, Lib.hid ⟨rfl, fun j h => absurd h (by omega), H2.out⟩⟩
  case round =>
    obtain ⟨k, us, hk, rfl, HI⟩ := hrel
    by_cases hlt : k < N
    · have hkf : k < f.length := by rw [HF.out.2.1]; exact hlt
      obtain ⟨fd, u1, hfd, hc1, hu1⟩ := (Rs.ext RI.ext _ _ _ _ HI.out.2.2.ext HF.out.1).at hkf
      subst hfd
      have hue := hu1.1
      subst hue
      clear hu1
      have hfk : f.getD k 0 = f[k] := by rw [List.getD_eq_getElem?_getD, List.getElem?_eq_getElem hkf]; rfl
      have hb := HM.out.2.2.2 k hlt
      rw [hfk] at hb
      obtain ⟨i, hi⟩ : ∃ i : Nat, f[k] = (i : Int) := ⟨f[k].toNat, by omega⟩
      rw [hi] at hc1 hb hfk
      have hiM : i < M := by omega
      obtain ⟨ad, u2, had, hc2, hu2⟩ := (HM.out.1).at (i := i) (by rw [HM.out.2.1]; exact hiM)
      injection had with had
      subst had
      have hc2' := HI.out.2.2.ext.cell hc2
      have hrow : m[i]'(by rw [HM.out.2.1]; exact hiM) = m.getD i [] := by rw [List.getD_eq_getElem?_getD, List.getElem?_eq_getElem (by rw [HM.out.2.1]; exact hiM)]; rfl
      rw [hrow] at hu2
      obtain ⟨UA, cU, hu2f, _⟩ := hu2.form
      obtain ⟨ul, hul⟩ : ∃ ul, (m.getD i []).length = ul := ⟨_, rfl⟩
      rw [hul] at hu2f
      subst hu2f
      have HU := Lib.hid (And.intro hu2 hfk)
      have hcO : wr.cell? ⟨Q1, k, none⟩ = some (.slice none 0 0) := HI.out.2.2.cell 3 rfl k (by
        rw [List.getElem?_append_right (by rw [HI.out.1]; exact Nat.le_refl _), HI.out.1, Nat.sub_self, List.getElem?_replicate_of_lt (by omega)])
      have hfO : wr.frozen? ⟨Q1, k, none⟩ = false := HI.out.2.2.frozen 3 rfl k
      have hxs : (us ++ List.replicate (N - us.length) (Value.slice none 0 0)).set k (.slice UA ul cU) = (us ++ [.slice UA ul cU]) ++ List.replicate (N - (us ++ [Value.slice UA ul cU]).length) (Value.slice none 0 0) := by
        obtain ⟨d, hd⟩ : ∃ d, N = k + 1 + d := ⟨N - (k + 1), by omega⟩
        have e3 : (us ++ [Value.slice UA ul cU]).length = k + 1 := by simp [HI.out.1]
        rw [e3, List.set_append_right _ _ (by rw [HI.out.1]; exact Nat.le_refl _), HI.out.1, Nat.sub_self, hd, show k + 1 + d - k = d + 1 by omega, show k + 1 + d - (k + 1) = d by omega, List.replicate_succ, List.set_cons_zero, List.append_assoc]
        rfl
      have hst : Owns w (wr.setCell ⟨Q1, k, none⟩ (.slice UA ul cU)) [no, nilRow 3, nilRow 5, ⟨.slice (some ⟨Q1, 0, none⟩) N N, 28, 1, N, (us ++ [Value.slice UA ul cU]) ++ List.replicate (N - (us ++ [Value.slice UA ul cU]).length) (Value.slice none 0 0)⟩, no, ⟨.slice (some ⟨Q, 0, none⟩) 3 3, 30, 1, 3, [.int .i64 0, .slice none 0 0, .slice none 0 0]⟩] := by
        rw [← hxs]; exact HI.out.2.2.store 3 rfl k (.slice UA ul cU)
      have HST := Lib.hid hst
      clear hst hxs hu2 hrow hc2 hul hi hfk hb
      go_wp2_with fail
      clear hc1 hc2' hcO hfO
      go_roundw
      case rel =>
        refine ⟨k + 1, us ++ [.slice UA ul cU], by omega, by go_num, Lib.hid ⟨by simp [HI.out.1], fun j hj => ?_, HST.out⟩⟩
        by_cases e : j = k
        · subst e
          rw [List.getD_eq_getElem?_getD, List.getElem?_append_right (by rw [HI.out.1]; exact Nat.le_refl _), HI.out.1, Nat.sub_self, HU.out.2]
          exact HU.out.1
        · rw [List.getD_eq_getElem?_getD, List.getElem?_append_left (by rw [HI.out.1]; omega), ← List.getD_eq_getElem?_getD]
          exact HI.out.2.1 j (by omega)
      case measure => simp [intOf]; omega
    · obtain rfl : N = k := by omega
      have hlrow : Rs (Rs RB) wr (.slice (some ⟨Q1, 0, none⟩) N N) (Rb.rowsAt m f) := by
        have hrl : (Rb.rowsAt m f).length = N := by rw [Rb.rowsAt_length]; exact HF.out.2.1
        refine ⟨_, _, by rw [hrl], by omega, fun i x hi => ?_⟩
        obtain ⟨hi1, hi2⟩ := List.getElem?_eq_some_iff.1 hi
        rw [hrl] at hi1
        refine ⟨_, us.getD i undef, rfl, ?_, ?_⟩
        · have e : (⟨Q1, 0, none⟩ : Addr).add i = ⟨Q1, i, none⟩ := by unfold Addr.add; split <;> simp_all
          rw [e]
          refine HI.out.2.2.cell 3 rfl i ?_
          rw [List.getElem?_append_left (by rw [HI.out.1]; exact hi1), List.getD_eq_getElem?_getD, List.getElem?_eq_getElem (by rw [HI.out.1]; exact hi1)]
          rfl
        · have h1 := Rs.ext RB.ext _ _ _ _ HI.out.2.2.ext (HI.out.2.1 i hi1)
          have h2 := Rb.rowsAt_getD m f (k := i) (by rw [HF.out.2.1]; exact hi1)
          rw [List.getD_eq_getElem?_getD, hi] at h2
          have h3 : x = m.getD (f.getD i 0).toNat [] := h2
          rw [h3]; exact h1
      obtain ⟨ad, u2, had, hc2, hu2⟩ := (HM.out.1).at (i := p) (by rw [HM.out.2.1]; exact hp)
      injection had with had
      subst had
      have hc2' := HI.out.2.2.ext.cell hc2
      have hrow : m[p]'(by rw [HM.out.2.1]; exact hp) = m.getD p [] := by rw [List.getD_eq_getElem?_getD, List.getElem?_eq_getElem (by rw [HM.out.2.1]; exact hp)]; rfl
      rw [hrow] at hu2
      have hu3 := Rs.ext RB.ext _ _ _ _ HI.out.2.2.ext hu2
      have hpl := HM.out.2.2.1 p hp
      have hall : ∀ r ∈ Rb.rowsAt m f, r.length = (m.getD p []).length := fun r hr => by
        rw [hpl]
        obtain ⟨i, hi, rfl⟩ := List.mem_map.1 hr
        have := HF.out.2.2 i hi
        exact HM.out.2.2.1 i.toNat (by omega)
      have hN48 : (Rb.rowsAt m f).length ≤ 48 := by rw [Rb.rowsAt_length, HF.out.2.1]; exact hf
      have hcall := xExpress_any (Rb.rowsAt m f) (m.getD p []) _ u2 wr (HT.out.ext HI.out.2.2.ext) hlrow hu3 hall (by rw [hpl]; exact h0) (by rw [hpl]; exact hD) hN48
      have HC := Lib.hid hcall
      obtain ⟨UA, cU, hu2f, _⟩ := hu2.form
      rw [hpl] at hu2f
      subst hu2f
      have hO3 := HI.out.2.2.drop 3
      have H3 := Lib.hid hO3
      clear hlrow hc2 hrow hu2 hu3 hpl hall hcall hN48 hO3
      go_wp2_with fail
      refine HC.out.mono ?_
      rintro e w3 ⟨X, rfl, hX, hx3⟩
      have hmade := Rb.recipe_made m p f
      have hsome := Rb.recipe_some m p f
      have hxl : ((Mx.expr (Rb.rowsAt m f) (m.getD p [])).getD []).length ≤ N := by
        cases hE : Mx.expr (Rb.rowsAt m f) (m.getD p []) with
        | none => simp
        | some y =>
          have := (Mx.expr_some hE).1
          rw [Rb.rowsAt_length, HF.out.2.1] at this
          show y.length ≤ N
          omega
      obtain ⟨x, hx⟩ : ∃ x, (Mx.expr (Rb.rowsAt m f) (m.getD p [])).getD [] = x := ⟨_, rfl⟩
      obtain ⟨s, hs⟩ : ∃ s, (Mx.expr (Rb.rowsAt m f) (m.getD p [])).isSome = s := ⟨_, rfl⟩
      rw [hx] at hX hmade hxl
      rw [hs] at hsome ⊢
      obtain ⟨XA, cX, rfl, _⟩ := hX.form
      have HX := Lib.hid hX
      have HMA := Lib.hid (And.intro hmade hsome)
      have hO4 := H3.out.next hx3
      have hO5 : Owns w3 (w3.alloc (.cells #[.int .i64 (p : Nat), .slice none 0 0, .slice none 0 0] 30)) [⟨.slice (some ⟨w3.heap.size, 0, none⟩) 3 3, 30, 1, 3, [.int .i64 (p : Nat), .slice none 0 0, .slice none 0 0]⟩, nilRow 3, nilRow 5, no, no, no] :=
        (Owns.start w3 (L := [no, nilRow 3, nilRow 5, no, no, no]) (by intro r hr; simp only [List.mem_cons, List.not_mem_nil, or_false] at hr; rcases hr with rfl | rfl | rfl | rfl | rfl | rfl <;> exact ⟨rfl, rfl, rfl⟩)).new 0 #[.int .i64 (p : Nat), .slice none 0 0, .slice none 0 0] 30 (by simp [maxLen])
      have HO4 := Lib.hid hO4
      have HO5 := Lib.hid hO5
      have HF3 := Lib.hid (Rs.ext RI.ext _ _ _ _ hO4.ext HF.out.1)
      have hx5 : Ext w3 (w3.alloc (.cells #[.int .i64 (p : Nat), .slice none 0 0, .slice none 0 0] 30)) := (Ext.refl w3).alloc _
      have HX5 := Lib.hid hx5
      obtain ⟨e2, he2⟩ : ∃ e2 : Int, (if s = true then (0 : Int) else 8) = e2 := ⟨_, rfl⟩
      have HE2 := Lib.hid he2
      try rw [he2]
      clear hX hmade hsome hx hs hx3 hO4 hO5 hx5 HC he2 hc2'
      obtain ⟨wo, rfl⟩ : ∃ wo, wo = wr := ⟨_, rfl⟩
      go_wp2_with fail
      obtain ⟨w5, hw5⟩ : ∃ w5, w3.alloc (.cells #[.int .i64 (p : Nat), .slice none 0 0, .slice none 0 0] 30) = w5 := ⟨_, rfl⟩
      obtain ⟨B, hB⟩ : ∃ B, w3.heap.size = B := ⟨_, rfl⟩
      rw [hw5, hB] at HO5
      rw [hw5] at HX5
      rw [hw5, hB]
      clear hw5 hB
      go_loopw [47] (fun vi wr => ∃ (k na cF cC : Nat) (FA CA : Option Addr), k ≤ x.length ∧ vi = .int .i64 (k : Nat) ∧ na ≤ k ∧ Hid (na = (Rb.keep (f.take k) (x.take k)).length ∧ Owns w3 wr [⟨.slice (some ⟨B, 0, none⟩) 3 3, 30, 1, 3, [.int .i64 (p : Nat), .slice FA na cF, .slice CA na cC]⟩, ⟨.slice FA na cF, 3, 1, na, ((Rb.keep (f.take k) (x.take k)).map Prod.fst).map (.int .i64)⟩, ⟨.slice CA na cC, 5, 1, na, ((Rb.keep (f.take k) (x.take k)).map Prod.snd).map bv⟩, no, no, no])) (fun vi _ => x.length - (intOf vi).toNat)
      case atStart => exact ⟨0, 0, 0, 0, none, none, Nat.zero_le _, rfl, Nat.le_refl _, Lib.hid ⟨rfl, HO5.out⟩⟩
      case round =>
        obtain ⟨k, na, cF, cC, FA, CA, hk, rfl, hna, HI⟩ := hrel
        by_cases hlt : k < x.length
        · have hkN : k < N := by omega
          have hkf : k < f.length := by rw [HF.out.2.1]; exact hkN
          obtain ⟨xa, u1, hxa, hc1, hu1⟩ := (Rs.ext RB.ext _ _ _ _ HI.out.2.ext HX.out).at hlt
          subst hxa
          obtain rfl := hu1
          obtain ⟨fd, u2, hfd, hc2, hu2⟩ := HF3.out.at hkf
          subst hfd
          have hue := hu2.1
          subst hue
          have hs := Rb.keep_succ hkf hlt
          obtain ⟨y, hy⟩ : ∃ y, x[k] = y := ⟨_, rfl⟩
          obtain ⟨fk, hfk⟩ : ∃ fk, f[k] = fk := ⟨_, rfl⟩
          rw [hy] at hc1 hs
          rw [hfk] at hc2 hs
          have HS := Lib.hid hs
          obtain ⟨n, hn⟩ : ∃ n, x.length = n := ⟨_, rfl⟩
          rw [hn] at hlt hxl hk ⊢
          clear hs hy hfk hu2 hkf
          by_cases hy0 : y = 0
          · subst hy0
            have HS2 := Lib.hid (HS.out.trans (by rw [if_pos rfl, List.append_nil]))
            go_wp2_with fail
            clear hc1 hc2
            go_roundw
            case rel => exact ⟨k + 1, na, cF, cC, FA, CA, by omega, by go_num, by omega, Lib.hid (by rw [HS2.out]; exact HI.out)⟩
            case measure => simp [intOf]; omega
          · have HS2 := Lib.hid (HS.out.trans (by rw [if_neg hy0]))
            have hb0 : (((y.toNat : Nat) : Int) != 0) = true := by
              rw [bne_iff_ne]
              intro h
              exact hy0 (UInt8.toNat_inj.1 (by have : y.toNat = 0 := by omega
                                               exact this))
            have hb1 : (((y.toNat : Nat) : Int) == 0) = false := by
              rw [beq_eq_false_iff_ne]
              intro h
              exact hy0 (UInt8.toNat_inj.1 (by have : y.toNat = 0 := by omega
                                               exact this))
            clear hy0
            go_wp2_with fail
            refine wp_atEnd' (rec_app w3 wr B N k na cN cF cC p FA CA fd fk y _ _ no hkN hc2 (by omega) (Lib.hid HI.out.2.drew) _ _ _ _ _ _ _ _ _ _ _ _ _ _ _ _ _ _ _ _ _ _ _ _ _ _ _ _ _ _ _ _ _ _ _ _ _ _ _ _ _ _ _ _ _ _ _ _ _ _ _ _ _ _ _ _ _ _ _ _ _ _ _ _ _ _ _ _ _ _ _ ?_)
            rintro u54 u55 u56 u57 u58 u59 u60 u61 u62 u63 u64 u65 u66 u67 u68 wx ⟨g7, k7, g12, k12, hx⟩
            have HXX := Lib.hid hx
            clear hx hc1 hc2 hb0 hb1
            go_wp2_with fail
            go_roundw
            case rel => exact ⟨k + 1, na + 1, k7, k12, some ⟨g7, 0, none⟩, some ⟨g12, 0, none⟩, by omega, by go_num, by omega, Lib.hid ⟨by rw [HS2.out, List.length_append, ← HI.out.1]; rfl, by rw [HS2.out, List.map_append, List.map_append, List.map_append, List.map_append]; exact HXX.out⟩⟩
            case measure => simp [intOf]; omega
        · obtain rfl : k = x.length := by omega
          have hk2 : Rb.keep (f.take x.length) (x.take x.length) = Rb.keep f x := Rb.keep_all f x
          have hnl := HI.out.1
          have hO6 := HI.out.2
          rw [hk2] at hnl hO6
          have hO7 := HO4.out.next hO6.ext
          have b0 : wr.cell? ⟨B, 0, none⟩ = some (.int .i64 (p : Nat)) := hO6.cell 0 rfl 0 rfl
          have b1 : wr.cell? ⟨B, 1, none⟩ = some (.slice FA na cF) := hO6.cell 0 rfl 1 rfl
          have b2 : wr.cell? ⟨B, 2, none⟩ = some (.slice CA na cC) := hO6.cell 0 rfl 2 rfl
          have q0 : wr.cell? ⟨Q, 0, none⟩ = some (.int .i64 0) := hO7.cell 5 rfl 0 rfl
          have q1 : wr.cell? ⟨Q, 1, none⟩ = some (.slice none 0 0) := hO7.cell 5 rfl 1 rfl
          have q2 : wr.cell? ⟨Q, 2, none⟩ = some (.slice none 0 0) := hO7.cell 5 rfl 2 rfl
          have qf0 : wr.frozen? ⟨Q, 0, none⟩ = false := hO7.frozen 5 rfl 0
          have qf1 : wr.frozen? ⟨Q, 1, none⟩ = false := hO7.frozen 5 rfl 1
          have qf2 : wr.frozen? ⟨Q, 2, none⟩ = false := hO7.frozen 5 rfl 2
          have hfr : Rd wr FA (((Rb.keep f x).map Prod.fst).map (.int .i64)) := hO6.rd 1 rfl
          have hcr : Rd wr CA (((Rb.keep f x).map Prod.snd).map bv) := hO6.rd 2 rfl
          have HFR := Lib.hid (And.intro hfr hcr)
          have hO8 := ((hO7.store 5 rfl 0 (.int .i64 (p : Nat))).store 5 rfl 1 (.slice FA na cF)).store 5 rfl 2 (.slice CA na cC)
          have HO8 := Lib.hid hO8
          have HNL := Lib.hid hnl
          have hQ3 : Q < w3.heap.size := by
            have := (HO4.out.row 5 rfl).lt Q rfl
            exact this.2
          have hfa : ∀ ad : Addr, FA = some ad → ad.block ≠ Q := fun ad e => by
            have := (hO6.row 1 rfl).lt ad.block (by rw [e]; rfl)
            omega
          have hca : ∀ ad : Addr, CA = some ad → ad.block ≠ Q := fun ad e => by
            have := (hO6.row 2 rfl).lt ad.block (by rw [e]; rfl)
            omega
          have hfr' : Rd (((wr.setCell ⟨Q, 0, none⟩ (.int .i64 (p : Nat))).setCell ⟨Q, 1, none⟩ (.slice FA na cF)).setCell ⟨Q, 2, none⟩ (.slice CA na cC)) FA (((Rb.keep f x).map Prod.fst).map (.int .i64)) := fun j y hj => by
            obtain ⟨ad, e, hb, hc⟩ := hfr j y hj
            exact ⟨ad, e, by simpa using hb, by rw [cell_far _ (by rw [block_add]; exact hfa ad e), cell_far _ (by rw [block_add]; exact hfa ad e), cell_far _ (by rw [block_add]; exact hfa ad e)]; exact hc⟩
          have hcr' : Rd (((wr.setCell ⟨Q, 0, none⟩ (.int .i64 (p : Nat))).setCell ⟨Q, 1, none⟩ (.slice FA na cF)).setCell ⟨Q, 2, none⟩ (.slice CA na cC)) CA (((Rb.keep f x).map Prod.snd).map bv) := fun j y hj => by
            obtain ⟨ad, e, hb, hc⟩ := hcr j y hj
            exact ⟨ad, e, by simpa using hb, by rw [cell_far _ (by rw [block_add]; exact hca ad e), cell_far _ (by rw [block_add]; exact hca ad e), cell_far _ (by rw [block_add]; exact hca ad e)]; exact hc⟩
          have hfrF : Fresh w (((wr.setCell ⟨Q, 0, none⟩ (.int .i64 (p : Nat))).setCell ⟨Q, 1, none⟩ (.slice FA na cF)).setCell ⟨Q, 2, none⟩ (.slice CA na cC)) (.slice FA na cF) := fun b hb => by
            have := (hO6.row 1 rfl).lt b hb
            have h4 := HO4.out.ext.size
            refine ⟨by omega, by simpa using this.2⟩
          have hfrC : Fresh w (((wr.setCell ⟨Q, 0, none⟩ (.int .i64 (p : Nat))).setCell ⟨Q, 1, none⟩ (.slice FA na cF)).setCell ⟨Q, 2, none⟩ (.slice CA na cC)) (.slice CA na cC) := fun b hb => by
            have := (hO6.row 2 rfl).lt b hb
            have h4 := HO4.out.ext.size
            refine ⟨by omega, by simpa using this.2⟩
          have HFRS := Lib.hid (And.intro hfrF hfrC)
          have hrec : RRec (((wr.setCell ⟨Q, 0, none⟩ (.int .i64 (p : Nat))).setCell ⟨Q, 1, none⟩ (.slice FA na cF)).setCell ⟨Q, 2, none⟩ (.slice CA na cC)) (.agg #[.int .i64 (p : Nat), .slice FA na cF, .slice CA na cC]) (Rb.made p f x) := by
            have hle := Rb.keep_few f x
            have hle2 : na ≤ 48 := by rw [hnl]; have := HF.out.2.1; omega
            refine ⟨_, _, rfl, Rs.of_ints hfr' (by simp [Rb.made, hnl]) (by simp [Rb.made]; omega) (fun z hz => ?_), ?_⟩
            · obtain ⟨q, hq, rfl⟩ := List.mem_map.1 hz
              have h1 := (List.mem_filter.1 hq).1
              have h2 := HF.out.2.2 q.1 (List.of_mem_zip (a := q.1) (b := q.2) h1).1
              omega
            · have h1 := Rs.of_rd (c := cC) hcr' (by simp; omega)
              rw [List.length_map, ← hnl] at h1
              exact h1
          have HREC := Lib.hid hrec
          clear hk2 hnl hO6 hO7 hfr hcr hO8 hQ3 hfa hca hfr' hcr' hrec hfrF hfrC
          cases s with
          | true =>
            obtain rfl : (0 : Int) = e2 := HE2.out
            go_wp2_with fail
            refine bodyPost_ret (results_cell_tmp (v := .agg #[.int .i64 (p : Nat), .slice FA na cF, .slice CA na cC]) rfl rfl ?_) rfl ?_
            · go_simp
            obtain ⟨F2, C2, e, r1, r2⟩ := HREC.out
            injection e with e
            injection e with e
            injection e with _ e
            injection e with e1 e
            injection e with e2 _
            subst e1 e2
            exact ⟨_, _, by rw [HMA.out.2]; rfl, by rw [HMA.out.1]; exact r1, by rw [HMA.out.1]; exact r2, HFRS.out.1, HFRS.out.2, HO8.out.ext⟩
          | false =>
            obtain rfl : (8 : Int) = e2 := HE2.out
            go_wp2_with fail
            refine bodyPost_ret (results_cell_tmp (v := .agg #[.int .i64 (p : Nat), .slice FA na cF, .slice CA na cC]) rfl rfl ?_) rfl ?_
            · go_simp
            obtain ⟨F2, C2, e, r1, r2⟩ := HREC.out
            injection e with e
            injection e with e
            injection e with _ e
            injection e with e1 e
            injection e with e2 _
            subst e1 e2
            exact ⟨_, _, by rw [HMA.out.2]; rfl, by rw [HMA.out.1]; exact r1, by rw [HMA.out.1]; exact r2, HFRS.out.1, HFRS.out.2, HO8.out.ext⟩
end Go.Proofs.YtdmljilcbndmfaaDoor

/- THE WALKS over Sum and column of the specification of matrices. -/
namespace Mx
open Gf
/-- The first k numbers of a row to which a multiple of another one is added. -/
def addFew (by' : UInt8) (t x : List UInt8) (k : Nat) : List UInt8 := (List.range k).map fun j => x.getD j 0 ^^^ mul by' (t.getD j 0)
theorem addFew_succ (b : UInt8) (t x : List UInt8) (k : Nat) : addFew b t x (k + 1) = addFew b t x k ++ [x.getD k 0 ^^^ mul b (t.getD k 0)] := by unfold addFew; rw [List.range_succ, List.map_append]; rfl
theorem addFew_len (b : UInt8) (t x : List UInt8) (k : Nat) : (addFew b t x k).length = k := by simp [addFew]
/-- A column, from the first k rows. -/
def colFew (m : Mat) (c k : Nat) : List UInt8 := (List.range k).map fun j => cell m j c
theorem colFew_succ (m : Mat) (c k : Nat) : colFew m c (k + 1) = colFew m c k ++ [cell m k c] := by unfold colFew; rw [List.range_succ, List.map_append]; rfl
theorem colFew_len (m : Mat) (c k : Nat) : (colFew m c k).length = k := by simp [colFew]
end Mx
namespace Go.Proofs.YtdmljilcbndmfaaDoor
open Go.RowKit
/-- A list of bytes that a call has made: read as such, and new. -/
def NewB (w w' : World) (v : Value) (l : List UInt8) : Prop := Rs RB w' v l ∧ Ext w w' ∧ ∀ b, v.ownBlock = some b → w.heap.size ≤ b ∧ b < w'.heap.size
theorem NewB.of {w w' : World} {A : Option Addr} {n c : Nat} {l : List UInt8} (h : Owns w w' [⟨.slice A n c, 5, 1, n, l.map bv⟩]) (hn : n = l.length) (hl : n ≤ 1000000) : NewB w w' (.slice A n c) l := by
  subst hn
  refine ⟨?_, h.ext, fun b hb => (h.row 0 rfl).lt b hb⟩
  exact Rs.of_rd (h.rd 0 rfl) (by omega)
set_option maxHeartbeats 8000000 in
set_option maxRecDepth 100000 in
theorem s5Sum_any (a b : List UInt8) (x : UInt8) (va vb : Value) (w : World) (ha : Rs RB w va a) (hb : Rs RB w vb b) (hl : a.length ≤ b.length) (h48 : a.length ≤ 1000) :
    Calls Tryd.prog 114 #[va, bv x, vb] w fun e w' => ∃ v, e = .returned v ∧ NewB w w' v (Mx.addTo x b a) := by
  obtain ⟨AA, ca, rfl, _⟩ := ha.form
  obtain ⟨BA, cb, rfl, _⟩ := hb.form
  have HA := Lib.hid ha
  have HB := Lib.hid hb
  clear ha hb
  go_enter Tryd.func114, Tryd.ntmps114
  go_wp2_with fail
  go_loopw [7, 8] (fun vo vk wr => ∃ (k c : Nat) (A : Option Addr), k ≤ a.length ∧ vk = .int .i64 (k : Nat) ∧ vo = .slice A k c ∧ Hid (Owns w wr [⟨.slice A k c, 5, 1, k, (Mx.addFew x b a k).map bv⟩])) (fun _ vk _ => a.length - (intOf vk).toNat)
  case atStart => exact ⟨0, 0, none, Nat.zero_le _, rfl, rfl, Lib.hid (Owns.nilled (L := []) (Owns.start w (fun r h => by cases h)))⟩
  case round =>
    obtain ⟨k, c, A, hk, rfl, rfl, HI⟩ := hrel
    by_cases hlt : k < a.length
    · have hltb : k < b.length := by omega
      obtain ⟨ad, p, rfl, hca, hp⟩ := (Rs.ext RB.ext _ _ _ _ HI.out.ext HA.out).at hlt
      obtain rfl := hp
      obtain ⟨bd, q, rfl, hcb, hq⟩ := (Rs.ext RB.ext _ _ _ _ HI.out.ext HB.out).at hltb
      obtain rfl := hq
      have gp : a.getD k 0 = a[k] := by rw [List.getD_eq_getElem?_getD, List.getElem?_eq_getElem hlt]; rfl
      have gq : b.getD k 0 = b[k] := by rw [List.getD_eq_getElem?_getD, List.getElem?_eq_getElem hltb]; rfl
      have hs := Mx.addFew_succ x b a k
      rw [gp, gq] at hs
      obtain ⟨p, hpe⟩ : ∃ z, a[k] = z := ⟨_, rfl⟩
      obtain ⟨q, hqe⟩ : ∃ z, b[k] = z := ⟨_, rfl⟩
      rw [hpe] at hca hs
      rw [hqe] at hcb hs
      have HS := Lib.hid hs
      have hki : (k : Int) < (a.length : Int) := by omega
      have hkb : (k : Int) < (b.length : Int) := by omega
      clear gp gq hpe hqe hs
      go_wp2_with fail
      refine (rmul_u8 x q _).mono ?_
      rintro e w' ⟨rfl, rfl⟩
      have hx : bits .xor .u8 (p.toNat : Int) ((Gf.mul x q).toNat : Int) = ((p ^^^ Gf.mul x q).toNat : Int) := by
        rw [u8_xor_nat _ _ (Gf.lt8 _) (Gf.lt8 _), UInt8.toNat_xor]
      obtain ⟨z, hz⟩ : ∃ z, p ^^^ Gf.mul x q = z := ⟨_, rfl⟩
      obtain ⟨y, hy⟩ : ∃ y, Gf.mul x q = y := ⟨_, rfl⟩
      rw [hy] at hx hz ⊢
      rw [hz] at hx
      have HZ := Lib.hid (show Mx.addFew x b a (k + 1) = Mx.addFew x b a k ++ [z] by rw [HS.out, hy, hz])
      clear hz hy HS
      go_wp2_with (refine wpl_append_owns (u := bv z) 28 5 rfl (.tmp 22) (.tmp 29) rfl Tryd.underlying28 info_u8 rfl HI.out.push1 0 rfl rfl rfl (cell_of_row _ _ 0 _ _ (0, 0) (heap_new _ _)) rfl (by omega) (by decide) ?_; intro g9 c9 w9 hO9 hg9)
      have hfin : Owns w w9 [⟨.slice (some ⟨g9, 0, none⟩) (k + 1) c9, 5, 1, k + 1, (Mx.addFew x b a (k + 1)).map bv⟩] := by
        refine Owns.front (M := [⟨.slice (some ⟨wr.heap.size, 0, none⟩) 1 1, 5, 1, 1, [bv z]⟩]) ?_
        rw [HZ.out, List.map_append]
        exact hO9
      have HF := Lib.hid hfin
      clear hO9 hg9 hfin hca hcb hx
      go_wp2_with fail
      go_roundw
      case rel => exact ⟨k + 1, c9, some ⟨g9, 0, none⟩, by omega, by go_num, (by first | trivial | rfl), HF⟩
      case measure => simp [intOf]; omega
    · obtain rfl : a.length = k := by omega
      go_wp2_with fail
      go_ret
      exact ⟨_, rfl, NewB.of HI.out (Mx.addFew_len _ _ _ _).symm (by omega)⟩
set_option maxHeartbeats 8000000 in
set_option maxRecDepth 100000 in
theorem s5Column_any (m : Mx.Mat) (n c : Nat) (v : Value) (w : World) (hm : Rs (Rs RB) w v m) (hw : Mx.Rect n m) (hc : c < n) (h48 : m.length ≤ 1000) :
    Calls Tryd.prog 95 #[v, .int .i64 (c : Nat)] w fun e w' => ∃ v, e = .returned v ∧ NewB w w' v (Mx.colFew m c m.length) := by
  obtain ⟨PA, cP, rfl, _⟩ := hm.form
  have HM := Lib.hid hm
  have HW := Lib.hid hw
  clear hm hw
  go_enter Tryd.func95, Tryd.ntmps95
  go_wp2_with fail
  go_loopw [5, 6] (fun vo vk wr => ∃ (k cc : Nat) (A : Option Addr), k ≤ m.length ∧ vk = .int .i64 (k : Nat) ∧ vo = .slice A k cc ∧ Hid (Owns w wr [⟨.slice A k cc, 5, 1, k, (Mx.colFew m c k).map bv⟩])) (fun _ vk _ => m.length - (intOf vk).toNat)
  case atStart => exact ⟨0, 0, none, Nat.zero_le _, rfl, rfl, Lib.hid (Owns.nilled (L := []) (Owns.start w (fun r h => by cases h)))⟩
  case round =>
    obtain ⟨k, cc, A, hk, rfl, rfl, HI⟩ := hrel
    by_cases hlt : k < m.length
    · obtain ⟨a1, u1, rfl, hc1, hu1⟩ := (Rs.ext (Rs.ext RB.ext) _ _ _ _ HI.out.ext HM.out).at hlt
      obtain ⟨QA, cQ, rfl, hq64⟩ := hu1.form
      have hwk : m[k].length = n := by
        have := HW.out k hlt
        rw [Mx.row, List.getD_eq_getElem?_getD, List.getElem?_eq_getElem hlt] at this
        exact this
      obtain ⟨a2, u2, h0, hc2, hu2⟩ := hu1.at (i := c) (by omega)
      obtain rfl := h0
      obtain rfl := hu2
      have hcell : Mx.cell m k c = m[k][c] := by
        unfold Mx.cell Mx.row
        rw [getD_got hlt, getD_got (by omega)]
      rw [hwk] at hc1
      have hs := Mx.colFew_succ m c k
      rw [hcell] at hs
      obtain ⟨z, hz⟩ : ∃ x, m[k][c] = x := ⟨_, rfl⟩
      rw [hz] at hc2 hs
      have HZ := Lib.hid hs
      have hki : (k : Int) < (m.length : Int) := by omega
      have hkc : (c : Int) < (n : Int) := by omega
      clear hz hcell hu1 hs hwk hq64
      go_wp2_with (refine wpl_append_owns (u := bv z) 28 5 rfl (.tmp 13) (.tmp 21) rfl Tryd.underlying28 info_u8 rfl HI.out.push1 0 rfl rfl rfl (cell_of_row _ _ 0 _ _ (0, 0) (heap_new _ _)) rfl (by omega) (by decide) ?_; intro g9 c9 w9 hO9 hg9)
      have hfin : Owns w w9 [⟨.slice (some ⟨g9, 0, none⟩) (k + 1) c9, 5, 1, k + 1, (Mx.colFew m c (k + 1)).map bv⟩] := by
        refine Owns.front (M := [⟨.slice (some ⟨wr.heap.size, 0, none⟩) 1 1, 5, 1, 1, [bv z]⟩]) ?_
        rw [HZ.out, List.map_append]
        exact hO9
      have HF := Lib.hid hfin
      clear hO9 hg9 hfin hc1 hc2
      go_wp2_with fail
      go_roundw
      case rel => exact ⟨k + 1, c9, some ⟨g9, 0, none⟩, by omega, by go_num, (by first | trivial | rfl), HF⟩
      case measure => simp [intOf]; omega
    · obtain rfl : m.length = k := by omega
      go_wp2_with fail
      go_ret
      exact ⟨_, rfl, NewB.of HI.out (Mx.colFew_len _ _ _).symm (by omega)⟩
end Go.Proofs.YtdmljilcbndmfaaDoor

/- A REGION THAT DRAWS ITS ORDER, by an invariant (XInv), inside a fence: in the body of a range over a function. -/
namespace Go.Proofs.YtdmljilcbndmfaaDoor
open Go.RowKit Go.Shelf
section
variable {F : Fence} {n : Nat} {P : Program} {ops : Array Oper} {Q : Exit → Act → World → Prop} {md : Region.Mode}
theorem wpAnyIn_inv (I : Array Bool → Act → World → Prop)
    (hstep : ∀ listed a w i, I listed a w → i ∈ Region.ready md ops listed → wpOpIn F n P ops Q i (I (listed.setIfInBounds i true)) a w)
    (hend : ∀ listed a w, I listed a w → Region.ready md ops listed = [] → Q .normal a w) :
    ∀ (fuel : Nat) (listed : Array Bool) (a : Act) (w : World), undone listed ≤ fuel → I listed a w → wpAnyIn F n P md ops Q fuel listed a w := by
  have hun : ∀ (listed : Array Bool) (i : Nat), i ∈ Region.ready md ops listed → listed.getD i true = false := fun listed i hi => by
    unfold Region.ready at hi
    have := (List.mem_filter.1 hi).2
    simp only [Bool.and_eq_true, Bool.not_eq_true'] at this
    exact this.1
  intro fuel
  induction fuel with
  | zero =>
    intro listed a w hf hI
    have hr : Region.ready md ops listed = [] := by
      cases h : Region.ready md ops listed with
      | nil => rfl
      | cons i r =>
        exfalso
        have := undone_set (hun listed i (by rw [h]; simp))
        omega
    exact ⟨hr, hend _ _ _ hI hr⟩
  | succ fuel ih =>
    intro listed a w hf hI
    refine ⟨fun hr => hend _ _ _ hI hr, fun i hi => ?_⟩
    have h1 := undone_set (hun listed i hi)
    exact wpOpIn_mono (fun a w h => ih _ a w (by omega) h) (hstep _ _ _ _ hI hi)
def StepOkIn (F : Fence) (n : Nat) (P : Program) (ops : Array Oper) (Q : Exit → Act → World → Prop) (deps : List (List Nat)) (I : (Nat → Bool) → Act → World → Prop) (i : Nat) : Prop :=
  ∀ L a w, I L a w → L i = false → Closed deps L → (∀ j ∈ deps.getD i [], L j = true) → wpOpIn F n P ops Q i (I (upd L i)) a w
def StepsIn' (F : Fence) (n : Nat) (P : Program) (ops : Array Oper) (Q : Exit → Act → World → Prop) (deps : List (List Nat)) (I : (Nat → Bool) → Act → World → Prop) : Nat → Nat → Prop
  | _, 0 => True
  | m, k + 1 => StepOkIn F n P ops Q deps I m ∧ StepsIn' F n P ops Q deps I (m + 1) k
theorem StepsIn'.at {deps : List (List Nat)} {I : (Nat → Bool) → Act → World → Prop} : ∀ {k m i : Nat}, StepsIn' F n P ops Q deps I m k → m ≤ i → i < m + k → StepOkIn F n P ops Q deps I i
  | 0, m, i, _, h1, h2 => by omega
  | k + 1, m, i, h, h1, h2 => by
    by_cases he : i = m
    · rw [he]; exact h.1
    · exact StepsIn'.at h.2 (by omega) (by omega)
theorem region_invIn {id : Nat} {a : Act} {w : World} (hm : P.follows .mixedOrders = true) (deps : List (List Nat)) (hdeps : depsOf ops = deps) (ord : List Nat) (ht : topo deps ord [] = true) (ho : ((List.range deps.length).all fun i => ord.contains i) = true) (ho2 : (ord.all fun i => decide (i < deps.length)) = true)
    (I : (Nat → Bool) → Act → World → Prop) (h0 : I (fun _ => false) a { w with drawn := w.drawn + 1 })
    (hs : StepsIn' F n P ops Q deps I 0 deps.length)
    (hend : ∀ L a w, I L a w → (∀ i, i < deps.length → L i = true) → Q .normal a w) : (Code.region id ops true).wpIn F n P Q a w := by
  refine wpIn_region_any hm ?_
  have hlen : deps.length = ops.size := by rw [← hdeps]; simp [depsOf]
  have hdep : ∀ (i : Nat) (o : Oper), ops[i]? = some o → deps.getD i [] = (o.after.toList.filter (Region.binds .any)).map (·.on) := fun i o hi => by
    rw [← hdeps, depsOf, List.getD_eq_getElem?_getD, List.getElem?_map]
    rw [← Array.getElem?_toList] at hi
    rw [hi]
    rfl
  have hun : undone (Array.replicate ops.size false) ≤ ops.size := by
    unfold undone
    have := List.countP_le_length (p := (· == false)) (l := (Array.replicate ops.size false).toList)
    simpa using this
  refine wpAnyIn_inv (fun listed a w => listed.size = ops.size ∧ Closed deps (fun j => listed.getD j false) ∧ I (fun j => listed.getD j false) a w) ?_ ?_ ops.size _ _ _ hun ?_
  · rintro listed a w i ⟨hsz, hc, hI⟩ hi
    obtain ⟨h1, h2, h3⟩ := ready_spec hi
    have hL : listed.getD i false = false := by
      rw [Array.getD_eq_getD_getElem?] at h2 ⊢
      rw [Array.getElem?_eq_getElem (by omega)] at h2 ⊢
      exact h2
    obtain ⟨o, hoi⟩ : ∃ o, ops[i]? = some o := ⟨_, Array.getElem?_eq_getElem h1⟩
    have hd : ∀ j ∈ deps.getD i [], listed.getD j false = true := fun j hj => by
      rw [hdep i o hoi] at hj
      obtain ⟨e, he, rfl⟩ := List.mem_map.1 hj
      exact h3 o hoi e (by simpa using (List.mem_filter.1 he).1) (List.mem_filter.1 he).2
    have hu : (fun j => (listed.setIfInBounds i true).getD j false) = upd (fun j => listed.getD j false) i := by
      funext j
      unfold upd
      by_cases hji : j = i
      · subst hji
        rw [if_pos rfl, Array.getD_eq_getD_getElem?, Array.getElem?_setIfInBounds_self_of_lt (by omega)]
        rfl
      · rw [if_neg hji]
        exact getD_set_ne false (Ne.symm hji)
    have hstep := StepsIn'.at hs (Nat.zero_le i) (by omega) (fun j => listed.getD j false) a w hI hL hc hd
    refine wpOpIn_mono ?_ hstep
    intro a' w' hI'
    refine ⟨by rw [Array.size_setIfInBounds]; exact hsz, ?_, by rw [hu]; exact hI'⟩
    rw [hu]
    intro k hk j hj
    unfold upd at hk ⊢
    by_cases hki : k = i
    · subst hki
      split
      · rfl
      · exact hd j hj
    · rw [if_neg hki] at hk
      split
      · rfl
      · exact hc k hk j hj
  · rintro listed a w ⟨hsz, hc, hI⟩ hr
    refine hend _ a w hI ?_
    have hall : ∀ i, i < deps.length → (∀ j ∈ deps.getD i [], listed.getD j false = true) → listed.getD i false = true := by
      intro i hi hdi
      by_cases hL : listed.getD i false = true
      · exact hL
      · exfalso
        have hmem : i ∈ Region.ready .any ops listed := by
          rw [mem_ready]
          obtain ⟨o, hoi⟩ : ∃ o, ops[i]? = some o := ⟨_, Array.getElem?_eq_getElem (by omega)⟩
          refine ⟨?_, o, hoi, fun e he hbn => hdi e.on (by rw [hdep i o hoi]; exact List.mem_map.2 ⟨e, List.mem_filter.2 ⟨by simpa using he, hbn⟩, rfl⟩)⟩
          rw [Array.getD_eq_getD_getElem?] at hL ⊢
          rw [Array.getElem?_eq_getElem (by omega)] at hL ⊢
          simpa using hL
        rw [hr] at hmem
        cases hmem
    intro i hi
    refine topo_all (L := fun j => listed.getD j false) hall ord [] ht (fun i hi => by simpa using List.all_eq_true.1 ho2 i hi) (fun j hj => by cases hj) i ?_
    have := List.all_eq_true.1 ho i (by simpa using hi)
    simpa using this
  · refine ⟨by simp, fun i hi => ?_, ?_⟩
    · simp [Array.getElem?_replicate] at hi
      split at hi <;> simp at hi
    · have e : (fun j => (Array.replicate ops.size false).getD j false) = fun _ => false := by
        funext j
        simp [Array.getElem?_replicate]
        split <;> simp
      rw [e]
      exact h0
theorem wpIn_atEnd' {c : Code} {Q : Exit → Act → World → Prop} {a : Act} {w : World} (h : Code.wpIn F n P c (AtEnd fun a w => Q .normal a w) a w) : Code.wpIn F n P c Q a w :=
  Code.wpIn_mono (fun e a w hr => by
    cases e with
    | normal => exact hr
    | _ => exact (hr : False).elim) h
theorem wpOpIn_skip {i : Nat} {o : Oper} {a : Act} {w w' : World} {K : Act → World → Prop} (hF : ∀ f, F.fn f) (hi : ops[i]? = some o) (hg : o.guard = none) (hdf : ∀ c, o.op ≠ .defer c) (hd : o.dst = none) (hr : (execOp a.eval o).run P w = .ok .skip w') (hK : K a w') : wpOpIn F n P ops Q i K a w := by
  have hw : Region.wanted o (yielded ops a.tmps) = true := by simp [Region.wanted, hg]
  unfold wpOpIn
  simp only [hi, hw, if_true, Oper.wpIn, Oper.semAt_plain F _ _ hdf, hr, Oper.uponIn, hd, Act.put]
  exact ⟨fun f _ => hF f, hK⟩
theorem wpOpIn_val {i : Nat} {o : Oper} {a : Act} {w w' : World} {K : Act → World → Prop} {v : Value} (hF : ∀ f, F.fn f) (hi : ops[i]? = some o) (hw : Region.wanted o (yielded ops a.tmps) = true) (hdf : ∀ c, o.op ≠ .defer c) (hr : (execOp a.eval o).run P w = .ok (.value v) w') (hK : K (a.put o.dst v) w') : wpOpIn F n P ops Q i K a w := by
  unfold wpOpIn
  simp only [hi, hw, if_true, Oper.wpIn, Oper.semAt_plain F _ _ hdf, hr, Oper.uponIn]
  exact ⟨fun f _ => hF f, hK⟩
end
end Go.Proofs.YtdmljilcbndmfaaDoor

/- MARKS: what ranges over functions leave among the deferred calls of a function, each taken up when it returns. -/
namespace Go.Proofs.YtdmljilcbndmfaaDoor
open Go.RowKit Go.Shelf
/-- Marks whose blocks lie from lo on, below hi, each open. -/
def MarksOk (lo hi : Nat) (w : World) : List Deferred → Prop
  | [] => True
  | d :: ds => (∃ D, d = { target := .collected D, args := #[] } ∧ lo ≤ D ∧ D < hi ∧ w.heap[D]? = some (.deferred (some [])) ∧ ∀ d' ∈ ds, d'.target ≠ .collected D) ∧ MarksOk lo hi w ds
theorem MarksOk.kept {lo hi hi' : Nat} {w w' : World} : ∀ {ds : List Deferred}, MarksOk lo hi w ds → hi ≤ hi' → (∀ D, lo ≤ D → D < hi → w.heap[D]? = some (.deferred (some [])) → w'.heap[D]? = some (.deferred (some []))) → MarksOk lo hi' w' ds
  | [], _, _, _ => trivial
  | d :: ds, ⟨⟨D, h1, h2, h3, h4, h5⟩, h⟩, hh, hk => ⟨⟨D, h1, h2, by omega, hk D h2 h3 h4, h5⟩, MarksOk.kept h hh hk⟩
theorem MarksOk.lt {lo hi : Nat} {w : World} : ∀ {ds : List Deferred}, MarksOk lo hi w ds → ∀ d ∈ ds, ∃ D, d.target = .collected D ∧ D < hi
  | [], _, _, h => by cases h
  | d :: ds, ⟨⟨D, h1, h2, h3, h4, h5⟩, h⟩, e, he => by
    rcases List.mem_cons.1 he with rfl | he
    · exact ⟨D, by rw [h1], h3⟩
    · exact MarksOk.lt h e he
theorem MarksOk.push {lo hi D : Nat} {w w' : World} {ds : List Deferred} (h : MarksOk lo hi w ds) (hk : ∀ D, lo ≤ D → D < hi → w.heap[D]? = some (.deferred (some [])) → w'.heap[D]? = some (.deferred (some []))) (hlo : lo ≤ D) (hD : hi ≤ D) (hw : w'.heap[D]? = some (.deferred (some []))) : MarksOk lo (D + 1) w' ({ target := .collected D, args := #[] } :: ds) :=
  ⟨⟨D, rfl, hlo, by omega, hw, fun d' hd' he => by
    obtain ⟨D', h1, h2⟩ := h.lt d' hd'
    rw [h1] at he
    injection he with he
    omega⟩, h.kept (by omega) hk⟩
theorem MarksOk.ext {lo hi : Nat} {w w' : World} {ds : List Deferred} (h : MarksOk lo hi w ds) (hx : Ext w w') : MarksOk lo hi w' ds := h.kept (Nat.le_refl _) fun _ _ _ hD => hx.heap hD
theorem ownFrom_marks {β : Type} {lo hi B : Nat} {ds : List Deferred} (hB : hi ≤ B) : OwnFrom B (fun (_ : β) W => MarksOk lo hi W ds) :=
  fun _ W W' row hs hg hr => hs.kept (Nat.le_refl _) fun D _ h2 h3 => by
    refine (hg.block D (Array.getElem?_eq_some_iff.1 h3).1 fun e => ?_).trans h3
    have := (hr D e.symm).1
    omega
theorem Ext.keepsOthers {W W' : World} (h : Ext W W') : KeepsOthers W W' := ⟨h.size, fun _ _ hk _ => h.heap hk⟩
end Go.Proofs.YtdmljilcbndmfaaDoor

/- RANGE OVER A FUNCTION WHOSE ELEMENTS LIE IN MEMORY: the iterator says of each element that it reads in the world of its round (V); the body is walked for such elements alone. -/
namespace Go.Proofs.YtdmljilcbndmfaaDoor
open Go.RowKit
/-- What lies in cells stays. -/
def KeepsC (A B : World) : Prop := ∀ (a : Addr) (v : Value), A.cell? a = some v → B.cell? a = some v
theorem KeepsC.refl (A : World) : KeepsC A A := fun _ _ h => h
theorem KeepsC.trans {A B C : World} (h : KeepsC A B) (k : KeepsC B C) : KeepsC A C := fun a v e => k a v (h a v e)
theorem KeepsC.of_ext {A B : World} (h : Ext A B) : KeepsC A B := fun _ _ e => h.cell e
/-- An iterator that yields elements of which V holds in the world of the round. -/
def SeqV {α : Type} (F : Fence) (n : Nat) (P : Program) (g : Nat) (lb : Array Value) (encs : α → Array Value) (V : α → World → Prop) (G : World → Prop) (Kp : World → World → Prop) (S Sp : List α → Prop) (N : Nat) (w : World) : Prop :=
  ∀ (l : Nat) (J Jx : List α → World → Prop) (W : World), Below w.heap.size w W → AbidesFrom W.heap.size J → (∀ pre W1, J pre W1 → G W1) →
    (∀ pre x W1, J pre W1 → V x W1 → pre.length < N → YieldAt F (n - 1) P l (encs x) W1 fun e W' =>
      (e = .returned (.bool true) ∧ J (pre ++ [x]) W' ∧ Kp W1 W') ∨ (e = .returned (.bool false) ∧ Jx (pre ++ [x]) W')) →
    J [] W →
    CallsIn F n P g (#[.func (.yield l) #[] #[]] ++ lb) W fun e W' => (∃ v, e = .returned v) ∧ ((∃ xs, S xs ∧ J xs W') ∨ (∃ pre, Sp pre ∧ Jx pre W'))
section
variable {F : Fence} {n : Nat} {P : Program}
theorem wpIn_rangeV {α : Type} {g : Operand} {ps : Array Tmp} {assign body : Code} {Q : Exit → Act → World → Prop} {a : Act} {w : World}
    (hro : F.round = none) (h1 : 1 ≤ n) {gf : Nat} {lb : Array Value} (hg : a.eval g = .func (.func gf) #[] lb) (hFg : F.fn gf) (eg : ∀ args w, (callFunc gf args).run P w = .ok (.enter gf args) w)
    {encs : α → Array Value} {V : α → World → Prop} {G : World → Prop} {Kp : World → World → Prop} {S Sp : List α → Prop} {N : Nat} (hseq : SeqV F (n - 1) P gf lb encs V G Kp S Sp N w)
    (hKt : ∀ {A B C : World}, Kp A B → Kp B C → Kp A C) (hKb : ∀ (W : World) (l : Nat) (o o' : Obj), w.heap.size ≤ l → W.heap[l]? = some o → o.isCells = false → Kp W (W.putObj l o'))
    (hV : ∀ (x : α) (W : World) (l : Nat) (o o' : Obj), w.heap.size ≤ l → V x W → W.heap[l]? = some o → o.isCells = false → V x (W.putObj l o')) (hps : ∀ x, (encs x).size = ps.size)
    (I : List α → World → Prop) (Ix : Code → List α → World → Prop) (hG : ∀ pre W, I pre W → G W) (hI : OwnFrom w.heap.size I) (hIx : ∀ c, OwnFrom w.heap.size (Ix c)) (h0 : I [] w) (a₁ : α → Act)
    (hassign : ∀ (l : Nat) (x : α) (W : World) (K : Act → World → Prop), K (a₁ x) W →
      assign.wpIn (F.inRound l) (n - 1 - 1) P (Exit.then K (fun _ _ _ => False)) { tmps := (ps.zip (encs x)).foldl (fun t (p, v) => t.setIfInBounds p v) a.tmps, defers := [] } W)
    (hbody : ∀ (l : Nat) (pre : List α) (x : α) (W : World), I pre W → V x W → pre.length < N → body.wpIn (F.inRound l) (n - 1 - 1) P (ownPostK Kp I Ix (pre ++ [x]) W) (a₁ x) W)
    (hdone : ∀ (D : Nat) (xs : List α) (W : World), w.heap.size ≤ D → S xs → I xs W → W.heap[D]? = some (.deferred (some [])) → Q .normal { a with defers := { target := .collected D, args := #[] } :: a.defers } W)
    (hstop : ∀ (D : Nat) (c : Code) (pre : List α) (W : World), w.heap.size ≤ D → Sp pre → Ix c pre W → W.heap[D]? = some (.deferred (some [])) → c.wpIn F n P Q { a with defers := { target := .collected D, args := #[] } :: a.defers } W) :
    (Code.rangeFunc g ps assign body).wpIn F n P Q a w := by
  refine wpIn_rangeFunc fun fn hfn => ?_
  rw [hro]
  obtain ⟨B, hB⟩ : ∃ B, w.heap.size = B := ⟨_, rfl⟩
  obtain ⟨rec, hrec⟩ : ∃ rec : LoopState → Option Code → Loop, rec = fun st pe => { state := st, pending := pe, fn, tmps := a.tmps, params := ps, assign, body, defers := B } := ⟨_, rfl⟩
  -- the world when the iterator is called: two blocks more
  obtain ⟨W1, hW1⟩ : ∃ W1, (w.alloc (.deferred (some []))).alloc (.loop (rec .ready none)) = W1 := ⟨_, rfl⟩
  have hx1 : Below w.heap.size w W1 := by rw [← hW1]; exact (((Below.refl _ w).alloc (Nat.le_refl _) _).alloc (by simp) _)
  have hs1 : W1.heap.size = B + 2 := by rw [← hW1, ← hB]; simp
  have hL1 : W1.heap[B + 1]? = some (.loop (rec .ready none)) := by
    rw [← hW1, ← hB]; have := World.alloc_heap_new (w.alloc (.deferred (some []))) (.loop (rec .ready none)); rwa [World.size_alloc] at this
  have hD1 : W1.heap[B]? = some (.deferred (some [])) := by
    rw [← hW1, ← hB]; exact (Below.heap_alloc _ _ _ (by simp)).trans (World.alloc_heap_new w _)
  rw [hB] at hI hIx hKb hV hdone hstop
  have hI1 : I [] W1 := by rw [← hW1]; exact hI.alloc _ (hI.alloc _ h0)
  have hgo : (Instr.endLoop (B + 1)).run P = (Instr.endLoop (B + 1)).run P := rfl
  refine ⟨B + 1, [{ target := .collected B, args := #[] }], W1, { target := .fn (.func gf) lb, args := #[.func (.yield (B + 1)) #[] #[]] }, W1, gf,
    #[.func (.yield (B + 1)) #[] #[]] ++ lb, W1, ?_, ?_, ?_, ?_, fun _ => h1, ?_⟩
  · have h := run_enterLoop_outer (P := P) fn a.tmps ps assign body (w := w)
    rw [← hW1, hrec, ← hB]
    exact run_enterLoop_outer _ _ _ _ _
  · simp only [resolve, hg]
    simp [go_sem]
  · intro f' hf'; simp [Target.leads] at hf'; subst hf'; exact hFg
  · simp [invoke, go_sem, eg]
  -- the two facts of the loop's own, beside the caller's
  have walk : ∀ {A A' : World} {row : Option Nat}, A.grownBy A' row → (∀ r, row = some r → W1.heap.size ≤ r ∧ ∃ o : Obj, A.heap[r]? = some o ∧ o.isWalk = true) →
      ∀ (k : Nat) (o : Obj), A.heap[k]? = some o → o.isWalk = false → A'.heap[k]? = some o := fun hg' hr k o hk ho => (grownBy_keeps hg' (fun r e => (hr r e).2) hk ho).trans hk
  have cells : ∀ {A : World} {row : Option Nat}, (∀ r, row = some r → W1.heap.size ≤ r ∧ ∃ o : Obj, A.heap[r]? = some o ∧ o.isWalk = true) → ∀ r, row = some r → B ≤ r ∧ ∃ o : Obj, A.heap[r]? = some o ∧ o.isCells = false := fun hr r e => by
    obtain ⟨h, o, ho, hw⟩ := hr r e
    exact ⟨by omega, o, ho, Obj.not_cells_of_walk hw⟩
  refine (hseq (B + 1) (fun pre W => I pre W ∧ W.heap[B + 1]? = some (.loop (rec .ready none)) ∧ W.heap[B]? = some (.deferred (some [])))
    (fun pre W => ∃ c, Ix c pre W ∧ W.heap[B + 1]? = some (.loop (rec .done (some c))) ∧ W.heap[B]? = some (.deferred (some []))) W1 hx1
    (fun s A A' row hs hg' hr => ⟨hI s A A' row hs.1 hg' (cells hr), walk hg' hr _ _ hs.2.1 rfl, walk hg' hr _ _ hs.2.2 rfl⟩) (fun pre W h => hG pre W h.1) ?_ ⟨hI1, hL1, hD1⟩).mono ?_
  · rintro pre x W ⟨hi, hl, hd⟩ hv hln
    have hlt : B + 1 < W.heap.size := (Array.getElem?_eq_some_iff.1 hl).1
    have hy := run_yield (P := P) (args := encs x) hl (by rw [hrec]; exact hps x)
    rw [hrec] at hy
    obtain ⟨Wb, hWb⟩ : ∃ Wb, W.putObj (B + 1) (.loop { rec .ready none with state := .busy }) = Wb := ⟨_, rfl⟩
    have hlb : Wb.heap[B + 1]? = some (.loop { rec .ready none with state := .busy }) := by rw [← hWb]; exact World.putObj_heap_same hlt
    have hdb : Wb.heap[B]? = some (.deferred (some [])) := by rw [← hWb]; exact (World.putObj_heap_other (by omega)).trans hd
    have hkb : Kp W Wb := by rw [← hWb]; exact hKb _ _ _ _ (by omega) hl rfl
    have hib : I pre Wb := by rw [← hWb]; exact hI.putObj _ hi (by omega) hl rfl
    have hvb : V x Wb := by rw [← hWb]; exact hV _ _ _ _ _ (by omega) hv hl rfl
    refine ⟨fn, _, assign, body, hy, roundIn_of_wpIn hfn (hassign _ x W _ ⟨_, (run_beginRound hl (by rw [hrec])).trans (by rw [hWb]), wpIn_mono (hbody _ pre x Wb hib hvb hln) ?_⟩)⟩
    have fin : ∀ (jump : Option Code) (W3 : World), KeepsOthers Wb W3 →
        (Instr.endRound (B + 1) jump).run P W3 = .ok (.bool jump.isNone) (W3.putObj (B + 1) (.loop (rec (if jump.isNone then .ready else .done) jump))) ∧
        W3.heap[B + 1]? = some (.loop { rec .ready none with state := .busy }) ∧
        (W3.putObj (B + 1) (.loop (rec (if jump.isNone then .ready else .done) jump))).heap[B + 1]? = some (.loop (rec (if jump.isNone then .ready else .done) jump)) ∧
        (W3.putObj (B + 1) (.loop (rec (if jump.isNone then .ready else .done) jump))).heap[B]? = some (.deferred (some [])) := fun jump W3 hk3 => by
      have h3 := hk3.same _ _ hlb rfl
      have hr := run_endRound (P := P) jump h3
      rw [hrec] at hr h3 ⊢
      exact ⟨hr, h3, World.putObj_heap_same (Array.getElem?_eq_some_iff.1 h3).1, (World.putObj_heap_other (by omega)).trans (hk3.same _ _ hdb rfl)⟩
    have out : ∀ (c : Code) (W3 : World), KeepsOthers Wb W3 → Ix c (pre ++ [x]) W3 → ∃ v W4, (Instr.endRound (B + 1) (some c)).run P W3 = .ok v W4 ∧ ((Ending.returned v = .returned (.bool true) ∧ (I (pre ++ [x]) W4 ∧ W4.heap[B + 1]? = some (.loop (rec .ready none)) ∧ W4.heap[B]? = some (.deferred (some []))) ∧ Kp W W4) ∨ (Ending.returned v = .returned (.bool false) ∧ ∃ c, Ix c (pre ++ [x]) W4 ∧ W4.heap[B + 1]? = some (.loop (rec .done (some c))) ∧ W4.heap[B]? = some (.deferred (some [])))) := fun c W3 hk3 hi3 => by
      obtain ⟨hr, h3, h4, h5⟩ := fin (some c) W3 hk3
      exact ⟨_, _, hr, .inr ⟨rfl, c, (hIx c).putObj _ hi3 (by omega) h3 rfl, h4, h5⟩⟩
    rintro e a3 W3 hp
    cases e with
    | normal =>
      obtain ⟨hk3, hkp3, hi3⟩ := hp
      obtain ⟨hr, h3, h4, h5⟩ := fin none W3 hk3
      exact ⟨_, _, hr, .inl ⟨rfl, ⟨hI.putObj _ hi3 (by omega) h3 rfl, h4, h5⟩, hKt (hKt hkb hkp3) (hKb _ _ _ _ (by omega) h3 rfl)⟩⟩
    | ret => exact out .ret W3 hp.1 hp.2
    | exit id => exact out (.exit id) W3 hp.1 hp.2
    | goto t => exact out (.goto t) W3 hp.1 hp.2
    | panic ch => exact hp.elim
    | outgrown => exact hp.elim
  · rintro e W2 ⟨⟨v, rfl⟩, (⟨xs, hS, hi, hl, hd⟩ | ⟨pre, hSp, c, hi, hl, hd⟩)⟩
    · have hr := run_endLoop (P := P) hl (by rw [hrec]; simp)
      rw [hrec] at hr
      exact ⟨none, _, hr, hdone _ xs _ (Nat.le_refl _) hS (hI.putObj _ hi (by omega) hl rfl) ((World.putObj_heap_other (by omega)).trans hd)⟩
    · have hr := run_endLoop (P := P) hl (by rw [hrec]; simp)
      rw [hrec] at hr
      exact ⟨some c, _, hr, hstop _ c pre _ (Nat.le_refl _) hSp ((hIx c).putObj _ hi (by omega) hl rfl) ((World.putObj_heap_other (by omega)).trans hd)⟩
end
end Go.Proofs.YtdmljilcbndmfaaDoor

/- THE DRAWN REGION of the closure that calls itself in choices of package rebuild; what an iterator's body may turn. -/
namespace Go.Proofs.YtdmljilcbndmfaaDoor
open Go.RowKit Go.Shelf
theorem ent_grow : ∀ args w, (callFunc 78 args).run Tryd.prog w = .ok (.enter 78 args) w := enters_of Tryd.func78 (by kernel_rfl) rfl
theorem wpOpIn_callw {Fe : Fence} {n : Nat} {P : Program} {ops : Array Oper} {Q : Exit → Act → World → Prop} {i : Nat} {o : Oper} {a : Act} {w w1 : World} {K : Act → World → Prop} {f : FuncId} {args : Array Value} {R : Value → World → Prop} (hF : ∀ f, Fe.fn f) (hD : Fe.depth = none) (hi : ops[i]? = some o) (hw : Region.wanted o (yielded ops a.tmps) = true) (hdf : ∀ c, o.op ≠ .defer c) (hr : (execOp a.eval o).run P w = .ok (.enter f args) w1)
    (h : CallsIn Fe (n - 1) P f args w1 fun e w' => ∃ v, e = .returned v ∧ R v w') (hK : ∀ v w', R v w' → K (a.put o.dst v) w') : wpOpIn Fe n P ops Q i K a w := by
  unfold wpOpIn
  simp only [hi, hw, if_true, Oper.wpIn, Oper.semAt_plain Fe _ _ hdf, hr, Oper.uponIn]
  refine ⟨fun f _ => hF f, ⟨fun hh => absurd hh (by rw [hD]; simp), h.mono ?_⟩⟩
  rintro e w' ⟨v, rfl, hv⟩
  exact hK v w' hv
theorem map2m {a : Act} {x y : Operand} {u v : Value} {cap : Array Value} (h : a.eval x = u) (h2 : a.eval y = v) : #[x, y].map a.eval ++ cap = #[u, v] ++ cap := by simp [h, h2]
/-- 'x[:len(x):len(x)]'. -/
theorem run_full {P : Program} {w : World} (t e : TypeId) (hu : P.underlying t = some (.slice e)) (hsz : (P.info? e).map (·.size) = some 1) (A : Option Addr) (n c : Nat) (hc : n ≤ c) (hA : A = none → c = 0) :
    (Instr.sliceAt t (.slice A n c) none (some (.int .i64 (n : Int))) (some (.int .i64 (n : Int)))).run P w = .ok (.slice A n n) w := by
  have e1 : (0 : Int) ≤ (n : Int) ∧ (n : Int) ≤ (c : Int) := by omega
  cases hq : P.info? e with
  | none => simp [hq] at hsz
  | some i =>
    have hi : i.size = 1 := by simpa [hq] using hsz
    cases A with
    | none =>
      have := hA rfl
      subst this
      obtain rfl : n = 0 := by omega
      simp [Instr.sliceAt, Instr.slice, Instr.sliceBounds, Instr.sliceBound, asIntOf, run_underlying hu, sizeOf, typeInfo, hq]
    | some ad =>
      simp [Instr.sliceAt, Instr.slice, Instr.sliceBounds, Instr.sliceBound, asIntOf, run_underlying hu, sizeOf, typeInfo, hq, e1, hc]
      intro _
      exact addr_zero ad
theorem owned_out {w' : World} {B e n : Nat} {v : Value} {xs : List Value} (h : w'.ownsRow B e 1 v (n + 1) xs) : ∃ (A : Option Addr) (c : Nat), v = .slice A (n + 1) c ∧ Rd w' A xs ∧ (∃ ad, A = some ad ∧ B ≤ ad.block ∧ ad.block < w'.heap.size) ∧ n + 1 ≤ c := by
  obtain ⟨A, c, rfl⟩ := own_form h
  refine ⟨A, c, rfl, own_rd h, ?_⟩
  rcases h.2 with ⟨h2, h0⟩ | ⟨g, cap, cur, hv, hB, hg, hc, hm, r⟩
  · omega
  · injection hv with e1 e2 e3
    subst e1 e3
    exact ⟨⟨_, rfl, hB, lt_of_block hg⟩, hc⟩
/-- 'append(x[:n:n], u)': a new row. -/
theorem run_append_anew {P : Program} {w : World} (t ty e : TypeId) {z : Value} {bytes : Nat} (ht : P.underlying t = some (.slice e)) (hi : (P.info? e).map (fun i => (i.zero, i.size, i.bytes)) = some (some z, 1, bytes)) (hz : z.cells.size = 1)
    (A : Option Addr) (n : Nat) (xs : List Value) (hn : xs.length = n) (hrd : Rd w A xs) (hA : A = none → n = 0) (g : Nat) (u : Value) (hg : w.cell? ⟨g, 0, none⟩ = some u) (h1 : u.oneCell' = true) (hm : n < 1000000) (hb : bytes ≤ 100) :
    ∃ A' c' w', (Builtin.append_ #[t, t] ty #[.slice A n n, .slice (some ⟨g, 0, none⟩) 1 1]).run P w = .ok (.slice A' (n + 1) c') w' ∧ Rd w' A' (xs ++ [u]) ∧ Ext w w' ∧ (∃ ad, A' = some ad ∧ w.heap.size ≤ ad.block ∧ ad.block < w'.heap.size) ∧ n + 1 ≤ c' := by
  have hnews : ∀ j y, [u][j]? = some y → w.cell? ((⟨g, 0, none⟩ : Addr).add j) = some y := fun j y hj => by
    match j, hj with
    | 0, hj => simp at hj; subst hj; exact hg
  have hone : ∀ y ∈ [u], y.oneCell' = true := fun y hy => by simp at hy; subst hy; exact h1
  have hbb : (n + 1) * bytes ≤ (n + 1) * 100 := Nat.mul_le_mul_left _ hb
  cases A with
  | none =>
    obtain rfl := hA rfl
    obtain rfl : xs = [] := List.eq_nil_of_length_eq_zero hn
    have h0 : Owns w w [⟨.slice none 0 0, e, 1, 0, []⟩] := Owns.start w (fun r hr => by simp at hr; subst hr; exact ⟨rfl, rfl, rfl⟩)
    obtain ⟨g', cap, w', hr, h2, h3, h4⟩ := run_append_owns (P := P) t ty e ht hi hz (by decide) h0 0 rfl ⟨g, 0, none⟩ 1 1 [u] rfl hnews hone (by decide) (by simp [maxLen]) (by omega)
    obtain ⟨A2, c2, e1, h5, h6, h7⟩ := owned_out (h2.row 0 rfl)
    injection e1 with e1 e2 e3
    subst e1 e3
    exact ⟨_, _, w', hr, h5, h3, h6, h7⟩
  | some ad =>
    obtain ⟨i, hi0, hiz, hi1, hi2⟩ := info_parts hi
    obtain ⟨v', w', hr, h2, h3⟩ := run_append_arg_grows (P := P) w t ty e i z 1 bytes ht hi0 hiz hi1 hi2 hz (by decide) ad n n xs (by omega) (fun j y hj => by
      obtain ⟨ad2, e, _, h⟩ := hrd j y hj
      injection e with e
      subst e
      exact h) ⟨g, 0, none⟩ 1 1 [u] rfl hnews (by omega) (by unfold maxLen; omega) (by omega)
    obtain ⟨A2, c2, rfl, h5, h6, h7⟩ := owned_out h2
    exact ⟨_, _, w', hr, h5, (Ext.refl w).grown h3 (fun k h => by cases h), h6, h7⟩
theorem ex_append2 {P : Program} {o : Oper} {a : Act} {w w' : World} (t : TypeId) {s x : Operand} {u v r : Value} (ho : o.op = .call { callee := .builtin .append, args := #[s, x], argTypes := #[t, t] }) (hs : a.eval s = u) (hx : a.eval x = v) (hr : (Builtin.append_ #[t, t] o.type #[u, v]).run P w = .ok r w') : (execOp a.eval o).run P w = .ok (.value r) w' := by
  unfold execOp
  simp only [ho, resolve, invoke, builtin, Sem.run_bind, Sem.run_pure, Result.andThen_ok, List.map_toArray, List.map_cons, List.map_nil, hs, hx, hr]
noncomputable def ch_call_code : Code := ((Tryd.f78.body.bind (regionOf 6)).getD .skip)
def ch_call_dsts : List (Option Nat) := [some 29, some 30, some 31, some 32, some 33, some 34, some 35, some 36, some 37, some 38, some 39, some 40, some 41, some 42, some 43, some 44, some 45]
theorem ch_call_apart : apartD ch_call_dsts = true := by decide +kernel
set_option maxRecDepth 1000000 in
set_option maxHeartbeats 16000000 in
theorem ch_call (R : Bool → World → Prop) (m NB YB LB GB k ll lc n cs : Nat) (A : Option Addr) (ld : Addr) (lk : Int) (s0 : List Int) (wr : World) (hk : k < ll) (hk2 : k ≤ 1000) (hn : n < 1000000) (hnc : n ≤ cs) (hA : A = none → cs = 0) (hA2 : A = none → n = 0) (hsl : s0.length = n) (HS : Hid (Rd wr A (s0.map (.int .i64)))) (hGB : wr.cell? ⟨GB, 0, none⟩ = some (.func (.func 78) #[] #[.pointer (some ⟨NB, 0, none⟩), .pointer (some ⟨YB, 0, none⟩), .pointer (some ⟨LB, 0, none⟩), .pointer (some ⟨GB, 0, none⟩)])) (hLB : wr.cell? ⟨LB, 0, none⟩ = some (.slice (some ld) ll lc)) (hLK : wr.cell? (ld.add k) = some (.int .i64 lk)) (hy : ∀ A2 cz w1, Ext wr w1 → Rd w1 A2 (s0.map (.int .i64) ++ [.int .i64 lk]) → (∃ ad, A2 = some ad ∧ wr.heap.size ≤ ad.block ∧ ad.block < w1.heap.size) → n + 1 ≤ cz → CallsIn Fence.wide (m - 1) Tryd.prog 78 (#[.slice A2 (n + 1) cz, .int .i64 (k + 1 : Nat)] ++ #[.pointer (some ⟨NB, 0, none⟩), .pointer (some ⟨YB, 0, none⟩), .pointer (some ⟨LB, 0, none⟩), .pointer (some ⟨GB, 0, none⟩)]) w1 fun e w' => ∃ v, e = .returned v ∧ ∃ b, v = .bool b ∧ R b w') (c1 c2 c3 c6 c7 c8 c10 c11 c12 c13 c14 c15 c16 c17 c18 c19 c20 c21 c22 c23 c24 c25 c26 c27 c28 c29 c30 c31 c32 c33 c34 c35 c36 c37 c38 c39 c40 c41 c42 c43 c44 c45 : Value) (df : List Deferred) (K : Act → World → Prop)
    (hK : ∀ (b : Bool) (u29 u30 u31 u32 u33 u34 u35 u36 u37 u38 u39 u40 u41 u42 u43 u44 : Value) (wx : World), R b wx → K ⟨#[.slice A n cs, c1, c2, c3, .pointer (some ⟨LB, 0, none⟩), .pointer (some ⟨GB, 0, none⟩), c6, c7, c8, .int .i64 (k : Nat), c10, c11, c12, c13, c14, c15, c16, c17, c18, c19, c20, c21, c22, c23, c24, c25, c26, c27, c28, u29, u30, u31, u32, u33, u34, u35, u36, u37, u38, u39, u40, u41, u42, u43, u44, .bool (!b)], df⟩ wx) :
    Code.wpIn Fence.wide m Tryd.prog ch_call_code (AtEnd K) ⟨#[.slice A n cs, c1, c2, c3, .pointer (some ⟨LB, 0, none⟩), .pointer (some ⟨GB, 0, none⟩), c6, c7, c8, .int .i64 (k : Nat), c10, c11, c12, c13, c14, c15, c16, c17, c18, c19, c20, c21, c22, c23, c24, c25, c26, c27, c28, c29, c30, c31, c32, c33, c34, c35, c36, c37, c38, c39, c40, c41, c42, c43, c44, c45], df⟩ wr := by
  conv => arg 4; whnf
  refine region_invIn (by kernel_rfl) [[], [], [], [2], [], [4], [1, 3, 5], [], [], [7, 8], [9], [10], [6, 11], [], [13], [0, 12, 14, 12], [15]] (by kernel_rfl) [0, 1, 2, 3, 4, 5, 6, 7, 8, 9, 10, 11, 12, 13, 14, 15, 16] (by decide +kernel) (by decide +kernel) (by decide +kernel) (fun L a wc => ∃ (g : Nat) (A2 : Option Addr) (cz : Nat) (b : Bool), Inv ch_call_dsts [.func (.func 78) #[] #[.pointer (some ⟨NB, 0, none⟩), .pointer (some ⟨YB, 0, none⟩), .pointer (some ⟨LB, 0, none⟩), .pointer (some ⟨GB, 0, none⟩)], .slice A n cs, .slice A n cs, .int .i64 (n : Nat), .slice A n cs, .int .i64 (n : Nat), .slice A n n, .slice (some ld) ll lc, .int .i64 (k : Nat), .pointer (some (ld.add k)), .int .i64 lk, .slice (some ⟨g, 0, none⟩) 1 1, .slice A2 (n + 1) cz, .int .i64 (k : Nat), .int .i64 (k + 1 : Nat), .bool b, .bool (!b)] ⟨#[.slice A n cs, c1, c2, c3, .pointer (some ⟨LB, 0, none⟩), .pointer (some ⟨GB, 0, none⟩), c6, c7, c8, .int .i64 (k : Nat), c10, c11, c12, c13, c14, c15, c16, c17, c18, c19, c20, c21, c22, c23, c24, c25, c26, c27, c28, c29, c30, c31, c32, c33, c34, c35, c36, c37, c38, c39, c40, c41, c42, c43, c44, c45], df⟩ L a ∧ Hid (if L 15 = true then R b wc else (Ext wr wc ∧ (L 11 = true → wc.cell? ⟨g, 0, none⟩ = some (.int .i64 lk)) ∧ (L 12 = true → Rd wc A2 (s0.map (.int .i64) ++ [.int .i64 lk]) ∧ (∃ ad, A2 = some ad ∧ wr.heap.size ≤ ad.block ∧ ad.block < wc.heap.size) ∧ n + 1 ≤ cz)))) ⟨0, none, 0, false, Inv.start, Lib.hid ⟨(Ext.refl wr).drew, fun h => (by cases h), fun h => by cases h⟩⟩ ?_ ?_
  · refine ⟨?_, ?_, ?_, ?_, ?_, ?_, ?_, ?_, ?_, ?_, ?_, ?_, ?_, ?_, ?_, ?_, ?_, trivial⟩
    ·
      rintro L a wc ⟨g, A2, cz, b, hv, HO⟩ hL hc hd
      have n15 : L 15 = false := Bool.eq_false_iff.2 fun h => Bool.false_ne_true (hL.symm.trans (hc 15 h 0 (by decide)))
      have hO := HO.out
      rw [if_neg (by simp [n15])] at hO
      have e0 : wc.cell? ⟨GB, 0, none⟩ = some (.func (.func 78) #[] #[.pointer (some ⟨NB, 0, none⟩), .pointer (some ⟨YB, 0, none⟩), .pointer (some ⟨LB, 0, none⟩), .pointer (some ⟨GB, 0, none⟩)]) := hO.1.cell hGB
      exact wpOpIn_val (fun _ => trivial) rfl rfl (by intro c h; cases h) (ex_load rfl ((hv.fixed 5 (by decide)).trans rfl) (by go_simp)) ⟨g, A2, cz, b, hv.put ch_call_apart 0 rfl (lb rfl) (lb rfl) rfl, HO⟩
    ·
      rintro L a wc ⟨g, A2, cz, b, hv, HO⟩ hL hc hd
      exact wpOpIn_val (fun _ => trivial) rfl rfl (by intro c h; cases h) (ex_move rfl ((hv.fixed 0 (by decide)).trans rfl)) ⟨g, A2, cz, b, hv.put ch_call_apart 1 rfl (lb rfl) (lb rfl) rfl, HO⟩
    ·
      rintro L a wc ⟨g, A2, cz, b, hv, HO⟩ hL hc hd
      exact wpOpIn_val (fun _ => trivial) rfl rfl (by intro c h; cases h) (ex_move rfl ((hv.fixed 0 (by decide)).trans rfl)) ⟨g, A2, cz, b, hv.put ch_call_apart 2 rfl (lb rfl) (lb rfl) rfl, HO⟩
    ·
      rintro L a wc ⟨g, A2, cz, b, hv, HO⟩ hL hc hd
      exact wpOpIn_val (fun _ => trivial) rfl rfl (by intro c h; cases h) (ex_len rfl (hv.get 2 rfl rfl (hd 2 (by decide))) (by go_simp)) ⟨g, A2, cz, b, hv.put ch_call_apart 3 rfl (lb rfl) (lb rfl) rfl, HO⟩
    ·
      rintro L a wc ⟨g, A2, cz, b, hv, HO⟩ hL hc hd
      exact wpOpIn_val (fun _ => trivial) rfl rfl (by intro c h; cases h) (ex_move rfl ((hv.fixed 0 (by decide)).trans rfl)) ⟨g, A2, cz, b, hv.put ch_call_apart 4 rfl (lb rfl) (lb rfl) rfl, HO⟩
    ·
      rintro L a wc ⟨g, A2, cz, b, hv, HO⟩ hL hc hd
      exact wpOpIn_val (fun _ => trivial) rfl rfl (by intro c h; cases h) (ex_len rfl (hv.get 4 rfl rfl (hd 4 (by decide))) (by go_simp)) ⟨g, A2, cz, b, hv.put ch_call_apart 5 rfl (lb rfl) (lb rfl) rfl, HO⟩
    ·
      rintro L a wc ⟨g, A2, cz, b, hv, HO⟩ hL hc hd
      exact wpOpIn_val (fun _ => trivial) rfl rfl (by intro c h; cases h) (ex_slice rfl (by simp only [Option.map_some, Option.map_none, (hv.get 1 rfl rfl (hd 1 (by decide))), (hv.get 3 rfl rfl (hd 3 (by decide))), (hv.get 5 rfl rfl (hd 5 (by decide)))]; exact run_full 27 3 Tryd.underlying27 (by kernel_rfl) A n cs hnc hA)) ⟨g, A2, cz, b, hv.put ch_call_apart 6 rfl (lb rfl) (lb rfl) rfl, HO⟩
    ·
      rintro L a wc ⟨g, A2, cz, b, hv, HO⟩ hL hc hd
      have n15 : L 15 = false := Bool.eq_false_iff.2 fun h => Bool.false_ne_true (hL.symm.trans (hc 9 (hc 10 (hc 11 (hc 12 (hc 15 h 12 (by decide)) 11 (by decide)) 10 (by decide)) 9 (by decide)) 7 (by decide)))
      have hO := HO.out
      rw [if_neg (by simp [n15])] at hO
      have e0 : wc.cell? ⟨LB, 0, none⟩ = some (.slice (some ld) ll lc) := hO.1.cell hLB
      exact wpOpIn_val (fun _ => trivial) rfl rfl (by intro c h; cases h) (ex_load rfl ((hv.fixed 4 (by decide)).trans rfl) (by go_simp)) ⟨g, A2, cz, b, hv.put ch_call_apart 7 rfl (lb rfl) (lb rfl) rfl, HO⟩
    ·
      rintro L a wc ⟨g, A2, cz, b, hv, HO⟩ hL hc hd
      exact wpOpIn_val (fun _ => trivial) rfl rfl (by intro c h; cases h) (ex_move rfl ((hv.fixed 9 (by decide)).trans rfl)) ⟨g, A2, cz, b, hv.put ch_call_apart 8 rfl (lb rfl) (lb rfl) rfl, HO⟩
    ·
      rintro L a wc ⟨g, A2, cz, b, hv, HO⟩ hL hc hd
      have b1 : (0 : Int) ≤ (k : Int) := by omega
      have b2 : (k : Int) < (ll : Int) := by omega
      exact wpOpIn_val (fun _ => trivial) rfl rfl (by intro c h; cases h) (ex_index rfl (hv.get 7 rfl rfl (hd 7 (by decide))) (hv.get 8 rfl rfl (hd 8 (by decide))) (by go_simp)) ⟨g, A2, cz, b, hv.put ch_call_apart 9 rfl (lb rfl) (lb rfl) rfl, HO⟩
    ·
      rintro L a wc ⟨g, A2, cz, b, hv, HO⟩ hL hc hd
      have n15 : L 15 = false := Bool.eq_false_iff.2 fun h => Bool.false_ne_true (hL.symm.trans (hc 11 (hc 12 (hc 15 h 12 (by decide)) 11 (by decide)) 10 (by decide)))
      have hO := HO.out
      rw [if_neg (by simp [n15])] at hO
      have e0 : wc.cell? (ld.add k) = some (.int .i64 lk) := hO.1.cell hLK
      exact wpOpIn_val (fun _ => trivial) rfl rfl (by intro c h; cases h) (ex_load rfl (hv.get 9 rfl rfl (hd 9 (by decide))) (by go_simp)) ⟨g, A2, cz, b, hv.put ch_call_apart 10 rfl (lb rfl) (lb rfl) rfl, HO⟩
    ·
      rintro L a wc ⟨g, A2, cz, b, hv, HO⟩ hL hc hd
      have n15 : L 15 = false := Bool.eq_false_iff.2 fun h => Bool.false_ne_true (hL.symm.trans (hc 12 (hc 15 h 12 (by decide)) 11 (by decide)))
      have hO := HO.out
      rw [if_neg (by simp [n15])] at hO
      have n12 : L 12 = false := Bool.eq_false_iff.2 fun h => Bool.false_ne_true (hL.symm.trans (hc 12 h 11 (by decide)))
      have hx := (Ext.refl wc).alloc (.cells #[.int .i64 lk] 3)
      exact wpOpIn_val (fun _ => trivial) rfl rfl (by intro c h; cases h) (ex_build rfl Tryd.underlying27 info_int (hv.get 10 rfl rfl (hd 10 (by decide))) rfl) ⟨wc.heap.size, A2, cz, b, hv.put ch_call_apart 11 rfl (lb rfl) (lb rfl) rfl, Lib.hid (by rw [if_neg (show ¬ (upd L 11 15 = true) from by simp [upd, n15])]; exact ⟨hO.1.trans hx, fun _ => cell_of_row _ _ 0 _ _ (0, 0) (heap_new _ _), fun h => absurd h (by simp [upd, n12])⟩)⟩
    ·
      rintro L a wc ⟨g, A2, cz, b, hv, HO⟩ hL hc hd
      have n15 : L 15 = false := Bool.eq_false_iff.2 fun h => Bool.false_ne_true (hL.symm.trans (hc 15 h 12 (by decide)))
      have hO := HO.out
      rw [if_neg (by simp [n15])] at hO
      have hg := hO.2.1 (hd 11 (by decide))
      obtain ⟨A3, c3, w2, hr, h5, h6, h7, h8⟩ := run_append_anew (P := Tryd.prog) (w := wc) 27 27 3 Tryd.underlying27 info_int rfl A n (s0.map (.int .i64)) (by rw [List.length_map]; exact hsl) (Rd.ext HS.out hO.1) hA2 g (.int .i64 lk) hg rfl hn (by decide)
      exact wpOpIn_val (fun _ => trivial) rfl rfl (by intro c h; cases h) (ex_append2 27 rfl (hv.get 6 rfl rfl (hd 6 (by decide))) (hv.get 11 rfl rfl (hd 11 (by decide))) hr) ⟨g, A3, c3, b, hv.put ch_call_apart 12 rfl (lb rfl) (lb rfl) rfl, Lib.hid (by rw [if_neg (show ¬ (upd L 12 15 = true) from by simp [upd, n15])]; exact ⟨hO.1.trans h6, fun _ => h6.cell hg, fun _ => ⟨h5, (by obtain ⟨ad, e, q1, q2⟩ := h7; exact ⟨ad, e, Nat.le_trans hO.1.size q1, q2⟩), h8⟩⟩)⟩
    ·
      rintro L a wc ⟨g, A2, cz, b, hv, HO⟩ hL hc hd
      exact wpOpIn_val (fun _ => trivial) rfl rfl (by intro c h; cases h) (ex_move rfl ((hv.fixed 9 (by decide)).trans rfl)) ⟨g, A2, cz, b, hv.put ch_call_apart 13 rfl (lb rfl) (lb rfl) rfl, HO⟩
    ·
      rintro L a wc ⟨g, A2, cz, b, hv, HO⟩ hL hc hd
      have hwr : IntKind.i64.wrap ((k : Int) + 1) = (k : Int) + 1 := by rw [IntKind.wrap_i64]; omega
      have hcc : ((k + 1 : Nat) : Int) = (k : Int) + 1 := rfl
      exact wpOpIn_val (fun _ => trivial) rfl rfl (by intro c h; cases h) (ex_bin rfl (hv.get 13 rfl rfl (hd 13 (by decide))) rfl (by go_simp)) ⟨g, A2, cz, b, hv.put ch_call_apart 14 rfl (lb rfl) (lb rfl) rfl, HO⟩
    ·
      rintro L a wc ⟨g, A2, cz, b, hv, HO⟩ hL hc hd
      have hO := HO.out
      rw [if_neg (by simp [hL])] at hO
      obtain ⟨q1, q2, q3⟩ := hO.2.2 (hd 12 (by decide))
      refine wpOpIn_callw (fun _ => trivial) rfl rfl rfl (by intro c h; cases h) (ex_call rfl (hv.get 0 rfl rfl (hd 0 (by decide))) (map2m (hv.get 12 rfl rfl (hd 12 (by decide))) (hv.get 14 rfl rfl (hd 14 (by decide)))) (ent_grow _ _)) (hy A2 cz wc hO.1 q1 q2 q3) ?_
      rintro v w' ⟨b', rfl, hR⟩
      have n16 : L 16 = false := Bool.eq_false_iff.2 fun h => Bool.false_ne_true (hL.symm.trans (hc 16 h 15 (by decide)))
      have hv := hv.reset 16 n16 (.bool (!b'))
      exact ⟨g, A2, cz, b', hv.put ch_call_apart 15 rfl (lb rfl) (lb rfl) rfl, Lib.hid (by rw [if_pos (show upd L 15 15 = true from by simp [upd])]; exact hR)⟩
    ·
      rintro L a wc ⟨g, A2, cz, b, hv, HO⟩ hL hc hd
      exact wpOpIn_val (fun _ => trivial) rfl rfl (by intro c h; cases h) (ex_un rfl (hv.get 15 rfl rfl (hd 15 (by decide))) (by go_simp)) ⟨g, A2, cz, b, hv.put ch_call_apart 16 rfl (lb rfl) (lb rfl) rfl, HO⟩
  · rintro L a wc ⟨g, A2, cz, b, hv, HO⟩ hall
    show K a wc
    have ha := act_lit a
    rw [hv.size, hv.defers] at ha
    have hl : ∀ f : Nat → Value, ((List.range (⟨#[.slice A n cs, c1, c2, c3, .pointer (some ⟨LB, 0, none⟩), .pointer (some ⟨GB, 0, none⟩), c6, c7, c8, .int .i64 (k : Nat), c10, c11, c12, c13, c14, c15, c16, c17, c18, c19, c20, c21, c22, c23, c24, c25, c26, c27, c28, c29, c30, c31, c32, c33, c34, c35, c36, c37, c38, c39, c40, c41, c42, c43, c44, c45], df⟩ : Act).tmps.size).map f).toArray = #[f 0, f 1, f 2, f 3, f 4, f 5, f 6, f 7, f 8, f 9, f 10, f 11, f 12, f 13, f 14, f 15, f 16, f 17, f 18, f 19, f 20, f 21, f 22, f 23, f 24, f 25, f 26, f 27, f 28, f 29, f 30, f 31, f 32, f 33, f 34, f 35, f 36, f 37, f 38, f 39, f 40, f 41, f 42, f 43, f 44, f 45] := fun _ => rfl
    rw [hl] at ha
    simp only [hv.fixed 0 (by decide), hv.fixed 1 (by decide), hv.fixed 2 (by decide), hv.fixed 3 (by decide), hv.fixed 4 (by decide), hv.fixed 5 (by decide), hv.fixed 6 (by decide), hv.fixed 7 (by decide), hv.fixed 8 (by decide), hv.fixed 9 (by decide), hv.fixed 10 (by decide), hv.fixed 11 (by decide), hv.fixed 12 (by decide), hv.fixed 13 (by decide), hv.fixed 14 (by decide), hv.fixed 15 (by decide), hv.fixed 16 (by decide), hv.fixed 17 (by decide), hv.fixed 18 (by decide), hv.fixed 19 (by decide), hv.fixed 20 (by decide), hv.fixed 21 (by decide), hv.fixed 22 (by decide), hv.fixed 23 (by decide), hv.fixed 24 (by decide), hv.fixed 25 (by decide), hv.fixed 26 (by decide), hv.fixed 27 (by decide), hv.fixed 28 (by decide), hv.get 16 (d := 45) rfl rfl (hall 16 (by decide))] at ha
    rw [ha]
    have h := HO.out
    rw [if_pos (hall 15 (by decide))] at h
    exact hK b _ _ _ _ _ _ _ _ _ _ _ _ _ _ _ _ wc h
end Go.Proofs.YtdmljilcbndmfaaDoor

/- THE WALKS over choices of package rebuild and its closures. -/
namespace Rb
theorem choose_step {L : List Int} {k n : Nat} (h : k < L.length) : choose (L.drop k) (n + 1) = (choose (L.drop (k + 1)) n).map (L[k] :: ·) ++ choose (L.drop (k + 1)) (n + 1) := by
  rw [List.drop_eq_getElem_cons h]; rfl
theorem choose_len : ∀ (l : List Int) (n : Nat), (choose l n).length ≤ 2 ^ l.length
  | l, 0 => by rw [choose_zero]; exact Nat.one_le_two_pow
  | [], n + 1 => by simp [choose]
  | x :: r, n + 1 => by
    have h1 := choose_len r n
    have h2 := choose_len r (n + 1)
    show ((choose r n).map (x :: ·) ++ choose r (n + 1)).length ≤ 2 ^ (r.length + 1)
    rw [List.length_append, List.length_map, Nat.pow_succ]
    omega
theorem choose_over {L : List Int} {k n : Nat} (h : L.length < k + n) (hk : k ≤ L.length) : choose (L.drop k) n = [] := choose_short _ _ (by rw [List.length_drop]; omega)
end Rb
namespace Go.Proofs.YtdmljilcbndmfaaDoor
open Go.RowKit Go.Shelf
attribute [local go_sem] Oper.semAt_some
/-- The blocks that a round's body may turn: a variable's, and those of the row that it names. -/
def ownB (bo : Nat) (W : World) (b : Nat) : Prop := b = bo ∨ ∃ g n c, W.cell? ⟨bo, 0, none⟩ = some (.slice (some ⟨g, 0, none⟩) n c) ∧ b = g
def Good (bo : Nat) (W : World) : Prop := (∃ v, W.cell? ⟨bo, 0, none⟩ = some v) ∧ ∀ b, ownB bo W b → b < W.heap.size
theorem ownB_ext {bo b : Nat} {W W' : World} (hG : Good bo W) (hx : Ext W W') (h : ownB bo W' b) : ownB bo W b := by
  obtain ⟨v, hv⟩ := hG.1
  rcases h with h | ⟨g, n, c, h1, h2⟩
  · exact .inl h
  · have := hx.cell hv
    rw [h1] at this
    injection this with this
    exact .inr ⟨g, n, c, by rw [hv, ← this], h2⟩
theorem Good.ext {bo : Nat} {W W' : World} (hG : Good bo W) (hx : Ext W W') : Good bo W' := by
  refine ⟨?_, fun b hb => Nat.lt_of_lt_of_le (hG.2 b (ownB_ext hG hx hb)) hx.size⟩
  obtain ⟨v, hv⟩ := hG.1
  exact ⟨v, hx.cell hv⟩
/-- What a round keeps. -/
structure KeepB (bo : Nat) (A B : World) : Prop where
  size : A.heap.size ≤ B.heap.size
  cell : ∀ (a : Addr) (v : Value), ¬ ownB bo A a.block → A.cell? a = some v → B.cell? a = some v
  own : ∀ b, ownB bo B b → ownB bo A b ∨ A.heap.size ≤ b
theorem KeepB.of_ext {bo : Nat} {A B : World} (hG : Good bo A) (hx : Ext A B) : KeepB bo A B := ⟨hx.size, fun _ _ _ h => hx.cell h, fun _ h => .inl (ownB_ext hG hx h)⟩
theorem KeepB.put {bo : Nat} {W : World} {l : Nat} {o : Obj} (o' : Obj) (hne : bo ≠ l) (h : W.heap[l]? = some o) (hc : o.isCells = false) : KeepB bo W (W.putObj l o') := by
  have hb : (W.putObj l o').cell? ⟨bo, 0, none⟩ = W.cell? ⟨bo, 0, none⟩ := by
    unfold World.cell?
    rw [World.putObj_heap_other hne]
  refine ⟨by simp [World.putObj], fun a v _ e => cell_kept e (grownBy_putObj' W l o') (fun r er => by cases er; exact ⟨_, h, hc⟩), fun b hb2 => .inl ?_⟩
  rcases hb2 with h2 | ⟨g, n, c, h1, h2⟩
  · exact .inl h2
  · rw [hb] at h1
    exact .inr ⟨g, n, c, h1, h2⟩
theorem KeepB.not_own {bo : Nat} {A B : World} (h : KeepB bo A B) {b : Nat} (h1 : b < A.heap.size) (h2 : ¬ ownB bo A b) : ¬ ownB bo B b := fun e => by
  rcases h.own b e with h3 | h3
  · exact h2 h3
  · omega
theorem KeepB.trans {bo : Nat} {A B C : World} (h : KeepB bo A B) (k : KeepB bo B C) : KeepB bo A C := by
  refine ⟨Nat.le_trans h.size k.size, fun a v h1 h2 => k.cell a v (h.not_own (lt_of_cell h2) h1) (h.cell a v h1 h2), fun b hb => ?_⟩
  rcases k.own b hb with h1 | h1
  · exact h.own b h1
  · have := h.size; exact .inr (by omega)
/-- A list that lies in no block that the body may turn. -/
structure RIf (bo : Nat) (W : World) (A : Option Addr) (c : Nat) (f : List Int) : Prop where
  rd : Rs RI W (.slice A f.length c) f
  far : ∀ ad, A = some ad → ad.block < W.heap.size ∧ ¬ ownB bo W ad.block
structure RIo (bo : Nat) (W : World) (A : Option Addr) (c : Nat) (f : List Int) : Prop extends RIf bo W A c f where
  cap : f.length ≤ c
  nil : A = none → c = 0
theorem RIf.keep {bo : Nat} {W W' : World} {A : Option Addr} {c : Nat} {f : List Int} (h : RIf bo W A c f) (k : KeepB bo W W') : RIf bo W' A c f := by
  refine ⟨?_, fun ad e => ⟨Nat.lt_of_lt_of_le (h.far ad e).1 k.size, k.not_own (h.far ad e).1 (h.far ad e).2⟩⟩
  obtain ⟨A', c', e, hl, hr⟩ := h.rd
  injection e with e1 e2 e3
  subst e1 e3
  refine ⟨A, c, rfl, hl, fun i x hi => ?_⟩
  obtain ⟨ad, u, h1, h2, h3⟩ := hr i x hi
  exact ⟨ad, u, h1, k.cell _ _ (by rw [block_add]; exact (h.far ad h1).2) h2, h3⟩
theorem RIo.keep {bo : Nat} {W W' : World} {A : Option Addr} {c : Nat} {f : List Int} (h : RIo bo W A c f) (k : KeepB bo W W') : RIo bo W' A c f := ⟨h.toRIf.keep k, h.cap, h.nil⟩
/-- A list, as a range over choices yields it. -/
structure Lst where
  A : Option Addr
  c : Nat
  f : List Int
def encL (x : Lst) : Array Value := #[.slice x.A x.f.length x.c]
def lstV (bo : Nat) (L : List Int) (many : Nat) (x : Lst) (W : World) : Prop := RIo bo W x.A x.c x.f ∧ (∀ i ∈ x.f, i ∈ L) ∧ x.f.length = many
theorem YieldAt.anyDepth {m : Nat} (m' : Nat) {P : Program} {l : Nat} {args : Array Value} {W : World} {R : Ending → World → Prop} (h : YieldAt Fence.wide m P l args W R) : YieldAt Fence.wide m' P l args W R := by
  obtain ⟨fn, tmps, assign, body, hy, hR⟩ := h
  exact ⟨fn, tmps, assign, body, hy, hR.1, fun c cs _ => hR.2 c cs (fun d h => by cases h)⟩
/-- The cells that the closure reads. -/
structure GrowAt (bo : Nat) (W : World) (l NB YB LB GB many : Nat) (LA : Option Addr) (lc : Nat) (L : List Int) : Prop where
  nb : W.cell? ⟨NB, 0, none⟩ = some (.int .i64 (many : Nat))
  yb : W.cell? ⟨YB, 0, none⟩ = some (.func (.yield l) #[] #[])
  lb : W.cell? ⟨LB, 0, none⟩ = some (.slice LA L.length lc)
  gb : W.cell? ⟨GB, 0, none⟩ = some (.func (.func 78) #[] #[.pointer (some ⟨NB, 0, none⟩), .pointer (some ⟨YB, 0, none⟩), .pointer (some ⟨LB, 0, none⟩), .pointer (some ⟨GB, 0, none⟩)])
  n1 : ¬ ownB bo W NB
  n2 : ¬ ownB bo W YB
  n3 : ¬ ownB bo W LB
  n4 : ¬ ownB bo W GB
  l : RIf bo W LA lc L
theorem GrowAt.keep {bo : Nat} {W W' : World} {l NB YB LB GB many : Nat} {LA : Option Addr} {lc : Nat} {L : List Int} (h : GrowAt bo W l NB YB LB GB many LA lc L) (k : KeepB bo W W') : GrowAt bo W' l NB YB LB GB many LA lc L :=
  ⟨k.cell _ _ h.n1 h.nb, k.cell _ _ h.n2 h.yb, k.cell _ _ h.n3 h.lb, k.cell _ _ h.n4 h.gb, k.not_own (lt_of_cell h.nb) h.n1, k.not_own (lt_of_cell h.yb) h.n2, k.not_own (lt_of_cell h.lb) h.n3, k.not_own (lt_of_cell h.gb) h.n4, h.l.keep k⟩
/-- What the closure returns. -/
def GrowOut (bo : Nat) (J Jx : List Lst → World → Prop) (pre : List Lst) (T : List (List Int)) (W : World) (b : Bool) (W' : World) : Prop :=
  (b = true ∧ ∃ q : List Lst, q.map (·.f) = T ∧ J (pre ++ q) W' ∧ KeepB bo W W') ∨ (b = false ∧ ∃ q : List Lst, q.map (·.f) <+: T ∧ Jx (pre ++ q) W')
theorem rd_ints {w : World} {A : Option Addr} {n c : Nat} {xs : List Int} (h : Rs RI w (.slice A n c) xs) : Rd w A (xs.map (.int .i64)) := fun k x hx => by
  rw [List.getElem?_map] at hx
  obtain ⟨y, hy, rfl⟩ := Option.map_eq_some_iff.1 hx
  obtain ⟨hi, rfl⟩ := List.getElem?_eq_some_iff.1 hy
  obtain ⟨ad, u, h1, h2, h3, _⟩ := h.at hi
  subst h3
  exact ⟨ad, h1, by have := lt_of_cell h2; rwa [block_add] at this, h2⟩
set_option maxHeartbeats 8000000 in
set_option maxRecDepth 100000 in
theorem grow_in (l bo N : Nat) (J Jx : List Lst → World → Prop) (hJe : ∀ pre W W', J pre W → Ext W W' → J pre W') (hJG : ∀ pre W, J pre W → Good bo W) (NB YB LB GB many lc : Nat) (LA : Option Addr) (L : List Int) (hL : L.length ≤ 1000) (hmany : many ≤ 1000)
    (hY : ∀ m pre x W, J pre W → lstV bo L many x W → pre.length < N → YieldAt Fence.wide m Tryd.prog l (encL x) W fun e W' => (e = .returned (.bool true) ∧ J (pre ++ [x]) W' ∧ KeepB bo W W') ∨ (e = .returned (.bool false) ∧ Jx (pre ++ [x]) W')) :
    ∀ (n m : Nat) (s : List Int) (A : Option Addr) (c fr : Nat) (pre : List Lst) (W : World), s.length + n = many → (∀ i ∈ s, i ∈ L) → fr ≤ L.length → GrowAt bo W l NB YB LB GB many LA lc L → RIo bo W A c s → J pre W → pre.length + (Rb.choose (L.drop fr) n).length ≤ N →
      CallsIn Fence.wide m Tryd.prog 78 (#[.slice A s.length c, .int .i64 (fr : Nat)] ++ #[.pointer (some ⟨NB, 0, none⟩), .pointer (some ⟨YB, 0, none⟩), .pointer (some ⟨LB, 0, none⟩), .pointer (some ⟨GB, 0, none⟩)]) W fun e W' => ∃ v, e = .returned v ∧ ∃ b, v = .bool b ∧ GrowOut bo J Jx pre ((Rb.choose (L.drop fr) n).map (s ++ ·)) W b W'
  | 0, m, s, A, c, fr, pre, W, hs, hsL, hfr, hM, hR, hJ, hN => by
    have hy := hY (m - 1) pre ⟨A, c, s⟩ W hJ ⟨hR, hsL, by show s.length = many; omega⟩ (by rw [Rb.choose_zero] at hN; simp at hN; omega)
    obtain ⟨fn, tmps, assign, body, hyy, hRR⟩ := hy
    have m1 := hM.nb
    have m2 := hM.yb
    unfold encL at hyy
    dsimp only at hyy
    have hT : (Rb.choose (L.drop fr) 0).map (s ++ ·) = [s] := by rw [Rb.choose_zero]; simp
    rw [hT]
    have HRR := Lib.hid hRR
    obtain ⟨k, hk⟩ : ∃ k, s.length = k := ⟨_, rfl⟩
    rw [hk] at hyy hs ⊢
    obtain rfl : k = many := by omega
    clear hRR hM hR hJ hY hJe hJG hT hk hs hsL hN
    refine callsIn_of_wp Tryd.func78 rfl trivial ?_ rfl
    simp only [Tryd.ntmps78, List.size_toArray, List.length_cons, List.length_nil, Nat.reduceAdd, Nat.reduceSub, Array.replicate_succ, Array.replicate_zero, List.push_toArray, List.append_toArray, List.nil_append, List.cons_append]
    gi_wp2
    refine ⟨fun h => (by cases h), HRR.out.mono ?_⟩
    rintro e W1 (⟨rfl, hJ1, hk1⟩ | ⟨rfl, hx1⟩)
    · have HJ1 := Lib.hid (And.intro hJ1 hk1)
      clear hJ1 hk1 m1 m2 hyy
      gi_wp2
      go_ret
      exact ⟨_, rfl, true, rfl, .inl ⟨rfl, [⟨A, c, s⟩], rfl, HJ1.out.1, HJ1.out.2⟩⟩
    · have HX := Lib.hid hx1
      clear hx1 m1 m2 hyy
      gi_wp2
      go_ret
      exact ⟨_, rfl, false, rfl, .inr ⟨rfl, [⟨A, c, s⟩], List.prefix_refl _, HX.out⟩⟩
  | n + 1, m, s, A, c, fr, pre, W, hs, hsL, hfr, hM, hR, hJ, hN => by
    have IH := Lib.hid (grow_in l bo N J Jx hJe hJG NB YB LB GB many lc LA L hL hmany hY n)
    have m1 := hM.nb
    have HM := Lib.hid hM
    have HR := Lib.hid hR
    have HSL := Lib.hid hsL
    have HJ := Lib.hid (And.intro hJe hJG)
    have HJ0 := Lib.hid hJ
    have HNN := Lib.hid hN
    obtain ⟨T, hT⟩ : ∃ T, (Rb.choose (L.drop fr) (n + 1)).map (s ++ ·) = T := ⟨_, rfl⟩
    rw [hT]
    have HT := Lib.hid hT
    obtain ⟨k, hk⟩ : ∃ k, s.length = k := ⟨_, rfl⟩
    have HK := Lib.hid hk
    obtain ⟨ll, hll⟩ : ∃ ll, L.length = ll := ⟨_, rfl⟩
    have HLL := Lib.hid hll
    rw [hll] at hL hfr
    rw [hk] at hs ⊢
    have hne : ((k : Int) == (many : Int)) = false := by rw [beq_eq_false_iff_ne]; omega
    clear hM hR hJ hY hJe hJG hT hk hll hsL hN
    refine callsIn_of_wp Tryd.func78 rfl trivial ?_ rfl
    simp only [Tryd.ntmps78, List.size_toArray, List.length_cons, List.length_nil, Nat.reduceAdd, Nat.reduceSub, Array.replicate_succ, Array.replicate_zero, List.push_toArray, List.append_toArray, List.nil_append, List.cons_append]
    gi_wp2
    clear m1 hne
    gi_loopw [9] (fun vk wr => ∃ (j : Nat) (q : List Lst), fr ≤ j ∧ j ≤ ll ∧ vk = .int .i64 (j : Nat) ∧ Hid (q.map (·.f) ++ (Rb.choose (L.drop j) (n + 1)).map (s ++ ·) = T ∧ J (pre ++ q) wr ∧ KeepB bo W wr)) (fun vk _ => ll + 1 - (intOf vk).toNat)
    case atStart => exact ⟨fr, [], Nat.le_refl _, hfr, rfl, Lib.hid ⟨by rw [← HT.out]; rfl, by simpa using HJ0.out, KeepB.of_ext (HJ.out.2 _ _ HJ0.out) (Ext.refl _)⟩⟩
    case round =>
      obtain ⟨j, q, hj, hjl, rfl, HI⟩ := hrel
      have hm := HM.out.keep HI.out.2.2
      have m1 := hm.nb
      have m3 := hm.lb
      have m4 := hm.gb
      rw [HLL.out] at m3
      have hr := HR.out.keep HI.out.2.2
      by_cases hlt : j + n + 1 ≤ ll
      · have hjl2 : j < L.length := by rw [HLL.out]; omega
        have hstep := Rb.choose_step (n := n) hjl2
        obtain ⟨ld, u1, hld, hc1, hu1⟩ := hm.l.rd.at hjl2
        subst hld
        obtain ⟨hue, hb1, hb2⟩ := hu1
        subst hue
        obtain ⟨lk, hlk⟩ : ∃ lk, L[j] = lk := ⟨_, rfl⟩
        rw [hlk] at hc1 hb1 hb2 hstep
        have hlkL : lk ∈ L := by rw [← hlk]; exact List.getElem_mem _
        have hrd : Rd wr A (s.map (.int .i64)) := rd_ints hr.rd
        have hgood := HJ.out.2 _ _ HI.out.2.1
        have hcall : ∀ A2 cz w1, Ext wr w1 → Rd w1 A2 (s.map (.int .i64) ++ [.int .i64 lk]) → (∃ ad, A2 = some ad ∧ wr.heap.size ≤ ad.block ∧ ad.block < w1.heap.size) → k + 1 ≤ cz → CallsIn Fence.wide (m - 1) Tryd.prog 78 (#[.slice A2 (k + 1) cz, .int .i64 (j + 1 : Nat)] ++ #[.pointer (some ⟨NB, 0, none⟩), .pointer (some ⟨YB, 0, none⟩), .pointer (some ⟨LB, 0, none⟩), .pointer (some ⟨GB, 0, none⟩)]) w1 fun e w' => ∃ v, e = .returned v ∧ ∃ b, v = .bool b ∧ GrowOut bo J Jx (pre ++ q) ((Rb.choose (L.drop (j + 1)) n).map ((s ++ [lk]) ++ ·)) wr b w' := fun A2 cz w1 hx h1 h2 h3 => by
          have hl2 : (s ++ [lk]).length = k + 1 := by rw [List.length_append, HK.out]; rfl
          have hkk := KeepB.of_ext hgood hx
          have hro : RIo bo w1 A2 cz (s ++ [lk]) := by
            refine ⟨⟨Rs.of_ints (by rw [List.map_append]; exact h1) rfl (by rw [hl2]; omega) (fun x hx => ?_), fun ad e => ?_⟩, by rw [hl2]; exact h3, fun e => ?_⟩
            · rcases List.mem_append.1 hx with h | h
              · obtain ⟨i, hi, rfl⟩ := List.getElem_of_mem h
                obtain ⟨_, _, _, _, h4⟩ := hr.rd.at hi
                exact h4.2
              · simp at h; subst h; exact ⟨hb1, hb2⟩
            · obtain ⟨ad2, e2, q1, q2⟩ := h2
              rw [e] at e2
              injection e2 with e2
              subst e2
              exact ⟨q2, fun ho => by have := hgood.2 _ (ownB_ext hgood hx ho); omega⟩
            · obtain ⟨ad2, e2, _⟩ := h2
              rw [e] at e2; cases e2
          have hlen : (pre ++ q).length + (Rb.choose (L.drop (j + 1)) n).length ≤ N := by
            have h9 := HNN.out
            have h8 := congrArg List.length HI.out.1
            rw [← HT.out, hstep] at h8
            simp only [List.length_append, List.length_map] at h8 ⊢
            omega
          have hc := IH.out (m - 1) (s ++ [lk]) A2 cz (j + 1) (pre ++ q) w1 (by rw [hl2]; omega) (fun i hi => by
            rcases List.mem_append.1 hi with h | h
            · exact HSL.out i h
            · simp at h; subst h; exact hlkL) (by omega) (hm.keep hkk) hro (HJ.out.1 _ _ _ HI.out.2.1 hx) hlen
          rw [hl2] at hc
          refine hc.mono ?_
          rintro e w' ⟨v, rfl, b, rfl, ho⟩
          refine ⟨_, rfl, b, rfl, ?_⟩
          rcases ho with ⟨rfl, q2, h4, h5, h6⟩ | ⟨rfl, q2, h4, h5⟩
          · exact .inl ⟨rfl, q2, h4, h5, hkk.trans h6⟩
          · exact .inr ⟨rfl, q2, h4, h5⟩
        have HC := Lib.hid hcall
        have HRD := Lib.hid hrd
        have HST := Lib.hid hstep
        have hcap := hr.cap
        have hnil := hr.nil
        rw [HK.out] at hcap
        have hnil2 : A = none → k = 0 := fun e => by have := hnil e; omega
        have hcond : (j : Int) ≤ (ll : Int) - (many : Int) + (k : Int) := by omega
        have hk6 : k < 1000000 := by omega
        have HN := Lib.hid (And.intro hnil hnil2)
        clear hm hr hrd hgood hcall hstep hlk hlkL hb1 hb2 hjl2 hnil hnil2
        gi_wp2
        refine wpIn_atEnd' (ch_call (GrowOut bo J Jx (pre ++ q) ((Rb.choose (L.drop (j + 1)) n).map ((s ++ [lk]) ++ ·)) wr) m NB YB LB GB j ll lc k c A ld lk s wr (by omega) (by omega) hk6 hcap HN.out.1 HN.out.2 HK.out HRD m4 m3 hc1 HC.out _ _ _ _ _ _ _ _ _ _ _ _ _ _ _ _ _ _ _ _ _ _ _ _ _ _ _ _ _ _ _ _ _ _ _ _ _ _ _ _ _ _ _ _ ?_)
        intro b u29 u30 u31 u32 u33 u34 u35 u36 u37 u38 u39 u40 u41 u42 u43 u44 wx hR2
        have hmap : ∀ q2 : List Lst, q2.map (·.f) = (Rb.choose (L.drop (j + 1)) n).map ((s ++ [lk]) ++ ·) → (q ++ q2).map (·.f) ++ (Rb.choose (L.drop (j + 1)) (n + 1)).map (s ++ ·) = T := fun q2 h => by
          rw [List.map_append, h, List.append_assoc]
          have := HI.out.1
          rw [HST.out, List.map_append, List.map_map] at this
          rw [← this]
          congr 2
          refine List.map_congr_left fun x _ => ?_
          simp
        have HMP := Lib.hid hmap
        rcases hR2 with ⟨rfl, q2, hq2, hJ2, hk2⟩ | ⟨rfl, q2, hq2, hx2⟩
        · have HQ := Lib.hid (And.intro hq2 (And.intro hJ2 hk2))
          clear hq2 hJ2 hk2 m1 m3 m4 hc1 hmap hcond
          gi_wp2
          go_roundw
          case rel => exact ⟨j + 1, q ++ q2, by omega, by omega, by go_num, Lib.hid ⟨HMP.out q2 HQ.out.1, by have := HQ.out.2.1; rwa [List.append_assoc] at this, HI.out.2.2.trans HQ.out.2.2⟩⟩
          case measure => simp [intOf]; omega
        · have HQ := Lib.hid (And.intro hq2 hx2)
          clear hq2 hx2 m1 m3 m4 hc1 hmap hcond
          gi_wp2
          go_ret
          refine ⟨_, rfl, .inl ⟨rfl, .inr ⟨rfl, q ++ q2, ?_, by have := HQ.out.2; rwa [List.append_assoc] at this⟩⟩⟩
          rw [← HI.out.1, HST.out, List.map_append, List.map_append, List.map_map]
          refine (List.prefix_append_right_inj _).2 ?_
          obtain ⟨z, hz⟩ := HQ.out.1
          refine ⟨z ++ (Rb.choose (L.drop (j + 1)) (n + 1)).map (s ++ ·), ?_⟩
          rw [← List.append_assoc, hz]
          congr 1
          refine List.map_congr_left fun x _ => ?_
          simp
      · have hno : Rb.choose (L.drop j) (n + 1) = [] := Rb.choose_over (by rw [HLL.out]; omega) (by rw [HLL.out]; exact hjl)
        have HNO := Lib.hid hno
        have hcond : ¬ (j : Int) ≤ (ll : Int) - (many : Int) + (k : Int) := by omega
        clear hno hm hr
        gi_wp2
        go_ret
        refine ⟨_, rfl, .inr ⟨rfl, .inl ⟨rfl, q, ?_, HI.out.2.1, HI.out.2.2⟩⟩⟩
        rw [← HI.out.1, HNO.out, List.map_nil, List.append_nil]
theorem Ext.grownNone {W W' : World} (h : Ext W W') : W.grownBy W' none := ⟨h.os, h.tape, h.output, h.size, fun k hk _ => h.block k hk⟩
set_option maxHeartbeats 8000000 in
set_option maxRecDepth 100000 in
theorem choices1_seq (m bo LB NB many lc : Nat) (LA : Option Addr) (L : List Int) (w : World) (hL : L.length ≤ 1000) (hmany : many ≤ 1000) (hG : Good bo w) (hn : w.cell? ⟨NB, 0, none⟩ = some (.int .i64 (many : Nat))) (hl : w.cell? ⟨LB, 0, none⟩ = some (.slice LA L.length lc)) (h1 : ¬ ownB bo w NB) (h2 : ¬ ownB bo w LB) (hr : RIf bo w LA lc L) :
    SeqV Fence.wide m Tryd.prog 77 #[.pointer (some ⟨NB, 0, none⟩), .pointer (some ⟨LB, 0, none⟩)] encL (lstV bo L many) (Good bo) (KeepB bo) (fun xs => xs.map (·.f) = Rb.choose L many) (fun pre => pre.map (·.f) <+: Rb.choose L many) (Rb.choose L many).length w := by
  intro l J Jx W hW hJ hJG hY h0
  have hxW : Ext w W := hW
  have hx2 := ((Ext.refl W).alloc (.cells #[.func (.yield l) #[] #[]] 119)).alloc (.cells #[.func (.func 78) #[] #[.pointer (some ⟨NB, 0, none⟩), .pointer (some ⟨W.heap.size, 0, none⟩), .pointer (some ⟨LB, 0, none⟩), .pointer (some ⟨W.heap.size + 1, 0, none⟩)]] 120)
  obtain ⟨W2, hW2⟩ : ∃ W2, (W.alloc (.cells #[.func (.yield l) #[] #[]] 119)).alloc (.cells #[.func (.func 78) #[] #[.pointer (some ⟨NB, 0, none⟩), .pointer (some ⟨W.heap.size, 0, none⟩), .pointer (some ⟨LB, 0, none⟩), .pointer (some ⟨W.heap.size + 1, 0, none⟩)]] 120) = W2 := ⟨_, rfl⟩
  rw [hW2] at hx2
  have hJe : ∀ pre W1 W3, J pre W1 → Ext W1 W3 → J pre W3 := fun pre W1 W3 h hx => hJ pre _ _ none h hx.grownNone (fun r e => by cases e)
  have hJ2 : J [] W2 := hJe _ _ _ h0 hx2
  have hgW := hJG _ _ h0
  have hg2 := hJG _ _ hJ2
  have nw : ∀ b, b < w.heap.size → ¬ ownB bo w b → ¬ ownB bo W2 b := fun b _ h e => h (ownB_ext hG (hxW.trans hx2) e)
  have nn : ∀ b, W.heap.size ≤ b → ¬ ownB bo W2 b := fun b h e => by
    have := hgW.2 b (ownB_ext hgW hx2 e)
    omega
  have hxw := hxW.trans hx2
  have hM : GrowAt bo W2 l NB W.heap.size LB (W.heap.size + 1) many LA lc L := by
    refine ⟨hxw.cell hn, ?_, hxw.cell hl, ?_, nw _ (lt_of_cell hn) h1, nn _ (Nat.le_refl _), nw _ (lt_of_cell hl) h2, nn _ (Nat.le_succ _), hr.keep (KeepB.of_ext hG hxw)⟩
    · rw [← hW2]; exact ((Ext.refl _).alloc _).cell (cell_of_row _ _ 0 _ _ (0, 0) (heap_new _ _))
    · rw [← hW2]
      have h := cell_of_row ((W.alloc (.cells #[.func (.yield l) #[] #[]] 119)).alloc (.cells #[.func (.func 78) #[] #[.pointer (some ⟨NB, 0, none⟩), .pointer (some ⟨W.heap.size, 0, none⟩), .pointer (some ⟨LB, 0, none⟩), .pointer (some ⟨W.heap.size + 1, 0, none⟩)]] 120)) _ 0 _ _ (0, 0) (heap_new _ _)
      rw [World.size_alloc] at h
      exact h
  have hro : RIo bo W2 none 0 [] := ⟨⟨⟨none, 0, rfl, by simp, fun i x h => (by simp at h)⟩, fun ad e => (by cases e)⟩, Nat.le_refl _, fun _ => rfl⟩
  have hcall := fun m' => grow_in l bo (Rb.choose L many).length J Jx hJe hJG NB W.heap.size LB (W.heap.size + 1) many lc LA L hL hmany (fun m' pre x W1 h h2 h3 => YieldAt.anyDepth m' (hY pre x W1 h h2 h3)) many m' [] none 0 0 [] W2 (by simp) (fun i h => by cases h) (Nat.zero_le _) hM hro hJ2 (by simp)
  have HC := Lib.hid hcall
  have c2 := hM.gb
  rw [← hW2] at c2
  have HW2 := Lib.hid hW2
  clear hJ hJG hY h0 hJ2 hcall hM hx2 hn hl hr hW hW2 hxW hJe hgW hg2 nw nn hxw hro hG h1 h2
  have hsf : ∀ (w : World) (a : Addr) (f : Fn) (cap : Array Value), (store a (.func f #[] cap)).run Tryd.prog w = stored Tryd.prog w a (.func f #[] cap) .plain := fun w a f cap => run_store _ w a _ _ rfl
  refine callsIn_of_wp Tryd.func77 rfl trivial ?_ rfl
  simp only [Tryd.ntmps77, List.size_toArray, List.length_cons, List.length_nil, Nat.reduceAdd, Nat.reduceSub, Array.replicate_succ, Array.replicate_zero, List.push_toArray, List.append_toArray, List.nil_append, List.cons_append]
  gi_wp2
  refine ⟨trivial, fun h => (by cases h), ?_⟩
  rw [HW2.out]
  refine (HC.out (m - 1)).mono ?_
  intro e W' h
  obtain ⟨v, rfl, b, rfl, hout⟩ := h
  clear HC HW2 c2 hsf
  have HO := Lib.hid hout
  clear hout
  dsimp only
  gi_wp2
  go_end0
  refine ⟨⟨_, rfl⟩, ?_⟩
  have he : (Rb.choose (L.drop 0) many).map (([] : List Int) ++ ·) = Rb.choose L many := by simp
  rcases HO.out with ⟨_, q, hq, hJq, _⟩ | ⟨_, q, hq, hJq⟩
  · rw [he] at hq; exact .inl ⟨q, hq, by simpa using hJq⟩
  · rw [he] at hq; exact .inr ⟨q, hq, by simpa using hJq⟩
set_option maxHeartbeats 8000000 in
theorem bChoices_any (n many c : Nat) (A : Option Addr) (w : World) :
    Calls Tryd.prog 50 #[.slice A n c, .int .i64 (many : Nat)] w fun e w' => e = .returned (.func (.func 77) #[] #[.pointer (some ⟨w.heap.size + 1, 0, none⟩), .pointer (some ⟨w.heap.size, 0, none⟩)]) ∧ w'.cell? ⟨w.heap.size + 1, 0, none⟩ = some (.int .i64 (many : Nat)) ∧ w'.cell? ⟨w.heap.size, 0, none⟩ = some (.slice A n c) ∧ Ext w w' := by
  have hx := ((Ext.refl w).alloc (.cells #[.slice A n c] 27)).alloc (.cells #[.int .i64 (many : Nat)] 3)
  have HX := Lib.hid hx
  clear hx
  go_enter Tryd.func50, Tryd.ntmps50
  go_wp2_with fail
  go_ret
  refine ⟨rfl, ?_, ?_, HX.out⟩
  · go_simp
  · go_simp
end Go.Proofs.YtdmljilcbndmfaaDoor

/- RECIPES IN MEMORY: a row of them that a call's own variable names; one more; what a round keeps. -/
namespace Go.Proofs.YtdmljilcbndmfaaDoor
open Go.RowKit Go.Shelf
/-- A recipe, and the two slices that bear it. -/
abbrev RV := Rb.Rec × Value × Value
def rcells (l : List RV) : List Value := l.flatMap fun x => [.int .i64 x.1.piece, x.2.1, x.2.2]
theorem rcells_snoc (l : List RV) (y : RV) : rcells (l ++ [y]) = rcells l ++ [.int .i64 y.1.piece, y.2.1, y.2.2] := by simp [rcells]
theorem rcells_at : ∀ (l : List RV) (i : Nat) (x : RV), l[i]? = some x → (rcells l)[i * 3]? = some (.int .i64 x.1.piece) ∧ (rcells l)[i * 3 + 1]? = some x.2.1 ∧ (rcells l)[i * 3 + 2]? = some x.2.2
  | [], i, x, h => by simp at h
  | y :: l, 0, x, h => by simp at h; subst h; exact ⟨rfl, rfl, rfl⟩
  | y :: l, i + 1, x, h => by
    have h1 := rcells_at l i x (by simpa using h)
    rw [show (i + 1) * 3 = i * 3 + 1 + 1 + 1 by omega]
    exact h1
/-- A list of recipes, read. -/
def RRs (w : World) (v : Value) (l : List Rb.Rec) : Prop :=
  ∃ (A : Option Addr) (c : Nat), v = .slice A l.length c ∧ l.length ≤ 9223372036854775807 ∧ ∀ i r, l[i]? = some r → ∃ ad F C, A = some ad ∧ w.cell? (ad.add (i * 3)) = some (.int .i64 r.piece) ∧ w.cell? ⟨(ad.add (i * 3)).block, (ad.add (i * 3)).off + 1, none⟩ = some F ∧ w.cell? ⟨(ad.add (i * 3)).block, (ad.add (i * 3)).off + 2, none⟩ = some C ∧ Rs RI w F r.src ∧ Rs RB w C r.coef
theorem RRs.ext : Stable RRs := fun _ _ _ _ hx ⟨A, c, e, hl, h⟩ => ⟨A, c, e, hl, fun i r hi => by
  obtain ⟨ad, F, C, h1, h2, h3, h4, h5, h6⟩ := h i r hi
  exact ⟨ad, F, C, h1, hx.cell h2, hx.cell h3, hx.cell h4, Rs.ext RI.ext _ _ _ _ hx h5, Rs.ext RB.ext _ _ _ _ hx h6⟩⟩
theorem RRs.form {w : World} {v : Value} {l : List Rb.Rec} (h : RRs w v l) : ∃ A c, v = .slice A l.length c ∧ l.length ≤ 9223372036854775807 := by
  obtain ⟨A, c, e, hl, _⟩ := h
  exact ⟨A, c, e, hl⟩
theorem RRs.nil (w : World) : RRs w (.slice none 0 0) [] := ⟨none, 0, rfl, by simp, fun i r h => by simp at h⟩
theorem RRs.at {w : World} {A : Option Addr} {n c : Nat} {l : List Rb.Rec} (h : RRs w (.slice A n c) l) {i : Nat} (hi : i < l.length) : ∃ ad F C, A = some ad ∧ w.cell? (ad.add (i * 3)) = some (.int .i64 l[i].piece) ∧ w.cell? ⟨(ad.add (i * 3)).block, (ad.add (i * 3)).off + 1, none⟩ = some F ∧ w.cell? ⟨(ad.add (i * 3)).block, (ad.add (i * 3)).off + 2, none⟩ = some C ∧ Rs RI w F l[i].src ∧ Rs RB w C l[i].coef := by
  obtain ⟨A', c', e, _, h⟩ := h
  injection e with e1 e2 e3
  subst e1
  exact h i _ (List.getElem?_eq_getElem hi)
/-- A recipe whose slices a round does not turn. -/
structure ROk (bo : Nat) (W : World) (x : RV) : Prop where
  f : Rs RI W x.2.1 x.1.src
  c : Rs RB W x.2.2 x.1.coef
  far : ∀ b, x.2.1.ownBlock = some b ∨ x.2.2.ownBlock = some b → b < W.heap.size ∧ ¬ ownB bo W b
theorem Rs.keepB {α : Type} {R : World → Value → α → Prop} (hR : ∀ W W' v x, R W v x → R W' v x) {bo : Nat} {W W' : World} {v : Value} {xs : List α} (h : Rs R W v xs) (hf : ∀ b, v.ownBlock = some b → ¬ ownB bo W b) (k : KeepB bo W W') : Rs R W' v xs := by
  obtain ⟨A, c, rfl, hl, h⟩ := h
  refine ⟨A, c, rfl, hl, fun i x hi => ?_⟩
  obtain ⟨ad, u, h1, h2, h3⟩ := h i x hi
  exact ⟨ad, u, h1, k.cell _ _ (by rw [block_add]; exact hf ad.block (by rw [h1]; rfl)) h2, hR _ _ _ _ h3⟩
theorem ROk.keep {bo : Nat} {W W' : World} {x : RV} (h : ROk bo W x) (k : KeepB bo W W') : ROk bo W' x :=
  ⟨h.f.keepB (fun _ _ _ _ h => h) (fun b e => (h.far b (.inl e)).2) k, h.c.keepB (fun _ _ _ _ h => h) (fun b e => (h.far b (.inr e)).2) k, fun b e => ⟨Nat.lt_of_lt_of_le (h.far b e).1 k.size, k.not_own (h.far b e).1 (h.far b e).2⟩⟩
/-- The rows of a variable bo and of the recipes that it names. -/
def outRows (bo : Nat) (A : Option Addr) (c : Nat) (x : List RV) : List LRow := [⟨.slice (some ⟨bo, 0, none⟩) 1 1, 34, 1, 1, [.slice A x.length c]⟩, ⟨.slice A x.length c, 30, 3, x.length, rcells x⟩]
structure OutAt (bo : Nat) (wb W : World) (A : Option Addr) (c : Nat) (x : List RV) : Prop where
  owns : Owns wb W (outRows bo A c x)
  ok : ∀ y ∈ x, ROk bo W y
  new : ∀ y ∈ x, ∀ b, y.2.1.ownBlock = some b ∨ y.2.2.ownBlock = some b → wb.heap.size ≤ b
theorem OutAt.box {bo : Nat} {wb W : World} {A : Option Addr} {c : Nat} {x : List RV} (h : OutAt bo wb W A c x) : W.cell? ⟨bo, 0, none⟩ = some (.slice A x.length c) := h.owns.cell 0 rfl 0 rfl
theorem OutAt.good {bo : Nat} {wb W : World} {A : Option Addr} {c : Nat} {x : List RV} (h : OutAt bo wb W A c x) : Good bo W := by
  refine ⟨⟨_, h.box⟩, fun b hb => ?_⟩
  rcases hb with rfl | ⟨g, n, k, h1, rfl⟩
  · exact lt_of_cell h.box
  · rw [h.box] at h1
    injection h1 with h1
    injection h1 with h1 h2 h3
    exact ((h.owns.row 1 rfl).lt b (by rw [h1]; rfl)).2
theorem OutAt.next {bo : Nat} {wb W W' : World} {A : Option Addr} {c : Nat} {x : List RV} (h : OutAt bo wb W A c x) (hx : Ext W W') : OutAt bo wb W' A c x := ⟨h.owns.next hx, fun y hy => (h.ok y hy).keep (KeepB.of_ext h.good hx), h.new⟩
/-- The list that stands there, read. -/
theorem OutAt.rs {bo : Nat} {wb W : World} {A : Option Addr} {c : Nat} {x : List RV} (h : OutAt bo wb W A c x) (hl : x.length ≤ 1000000) : RRs W (.slice A x.length c) (x.map (·.1)) := by
  have hr := h.owns.row 1 rfl
  refine ⟨A, c, by rw [List.length_map], by rw [List.length_map]; omega, fun i r hi => ?_⟩
  rw [List.getElem?_map] at hi
  obtain ⟨y, hy, rfl⟩ := Option.map_eq_some_iff.1 hi
  obtain ⟨c0, c1, c2⟩ := rcells_at x i y hy
  have hil : i < x.length := (List.getElem?_eq_some_iff.1 hy).1
  rcases hr.2 with ⟨_, h0⟩ | ⟨g, cap, cur, hv, _⟩
  · omega
  · injection hv with e1 e2 e3
    subst e1
    have k0 := hr.cellAt (g := g) (i * 3) (by omega)
    have k1 := hr.cellAt (g := g) (i * 3 + 1) (by omega)
    have k2 := hr.cellAt (g := g) (i * 3 + 2) (by omega)
    have hok := h.ok y (List.mem_of_getElem? hy)
    refine ⟨⟨g, 0, none⟩, y.2.1, y.2.2, rfl, ?_, ?_, ?_, hok.f, hok.c⟩
    · rw [Addr.add_lit, Nat.zero_add, k0]; exact c0
    · rw [Addr.add_lit]
      show W.cell? ⟨g, 0 + i * 3 + 1, none⟩ = _
      rw [Nat.zero_add, k1]; exact c1
    · rw [Addr.add_lit]
      show W.cell? ⟨g, 0 + i * 3 + 2, none⟩ = _
      rw [Nat.zero_add, k2]; exact c2
theorem rs_set3 {α : Type} {R : World → Value → α → Prop} (hR : ∀ W W' v x, R W v x → R W' v x) {w : World} {Q : Nat} {u0 u1 u2 v : Value} {xs : List α} (h : Rs R w v xs) (hf : ∀ b, v.ownBlock = some b → b ≠ Q) : Rs R (((w.setCell ⟨Q, 0, none⟩ u0).setCell ⟨Q, 1, none⟩ u1).setCell ⟨Q, 2, none⟩ u2) v xs := by
  obtain ⟨A, c, rfl, hl, h⟩ := h
  refine ⟨A, c, rfl, hl, fun i x hi => ?_⟩
  obtain ⟨ad, u, h1, h2, h3⟩ := h i x hi
  have hne : (ad.add i).block ≠ Q := by rw [block_add]; exact hf ad.block (by rw [h1]; rfl)
  exact ⟨ad, u, h1, by rw [cell_far _ hne, cell_far _ hne, cell_far _ hne]; exact h2, hR _ _ _ _ h3⟩
/-- The row of a list of recipes, and the slices of each, lie from lo on. -/
def NewRs (lo : Nat) (w : World) (v : Value) : Prop := ∀ (ad : Addr) (n c : Nat), v = .slice (some ad) n c → lo ≤ ad.block ∧ ∀ i, i < n → ∀ F C, w.cell? ⟨(ad.add (i * 3)).block, (ad.add (i * 3)).off + 1, none⟩ = some F → w.cell? ⟨(ad.add (i * 3)).block, (ad.add (i * 3)).off + 2, none⟩ = some C → ∀ b, F.ownBlock = some b ∨ C.ownBlock = some b → lo ≤ b
theorem NewRs.nil (lo : Nat) (w : World) : NewRs lo w (.slice none 0 0) := fun ad n c e => by injection e with e; cases e
theorem NewRs.low {lo lo' : Nat} {w : World} {v : Value} (h : NewRs lo w v) (hl : lo' ≤ lo) : NewRs lo' w v := fun ad n c e => ⟨Nat.le_trans hl (h ad n c e).1, fun i hi F C h1 h2 b hb => Nat.le_trans hl ((h ad n c e).2 i hi F C h1 h2 b hb)⟩
theorem OutAt.news {bo : Nat} {wb W : World} {A : Option Addr} {c : Nat} {x : List RV} (h : OutAt bo wb W A c x) : NewRs wb.heap.size W (.slice A x.length c) := by
  intro ad n c' e
  injection e with e1 e2 e3
  subst e1 e2
  have hr := h.owns.row 1 rfl
  refine ⟨(hr.lt ad.block rfl).1, fun i hi F C h1 h2 b hb => ?_⟩
  rcases hr.2 with ⟨e, _⟩ | ⟨g, cap, cur, hv, _⟩
  · cases e
  · injection hv with e1 e2 e3
    injection e1 with e1
    subst e1
    obtain ⟨_, c1, c2⟩ := rcells_at x i x[i] (List.getElem?_eq_getElem hi)
    have k1 := hr.cellAt (g := g) (i * 3 + 1) (by omega)
    have k2 := hr.cellAt (g := g) (i * 3 + 2) (by omega)
    rw [Addr.add_lit] at h1 h2
    have e1 : W.cell? ⟨g, i * 3 + 1, none⟩ = some F := by
      have : W.cell? ⟨g, 0 + i * 3 + 1, none⟩ = some F := h1
      rwa [Nat.zero_add] at this
    have e2 : W.cell? ⟨g, i * 3 + 2, none⟩ = some C := by
      have : W.cell? ⟨g, 0 + i * 3 + 2, none⟩ = some C := h2
      rwa [Nat.zero_add] at this
    rw [k1, c1] at e1
    rw [k2, c2] at e2
    injection e1 with e1
    injection e2 with e2
    rw [← e1, ← e2] at hb
    exact h.new x[i] (List.getElem_mem _) b hb
theorem NewRs.keep {lo : Nat} {w w' : World} {v : Value} {l : List Rb.Rec} (h : NewRs lo w v) (hr : RRs w v l) (k : KeepsC w w') : NewRs lo w' v := by
  intro ad n c e
  refine ⟨(h ad n c e).1, fun i hi F C h1 h2 b hb => ?_⟩
  obtain ⟨A, c2, e2, _, h3⟩ := hr
  rw [e] at e2
  injection e2 with e3 e4 e5
  subst e4
  obtain ⟨ad2, F2, C2, e6, _, h5, h6, _⟩ := h3 i l[i] (List.getElem?_eq_getElem hi)
  rw [e6] at e3
  injection e3 with e3
  subst e3
  rw [k _ _ h5] at h1
  rw [k _ _ h6] at h2
  injection h1 with h1
  injection h2 with h2
  exact (h _ _ _ e).2 i hi F2 C2 h5 h6 b (by rw [h1, h2]; exact hb)
/-- What is owned stays owned while what lies in cells stays. -/
theorem Owns.cells {w0 W W' : World} {L : List LRow} (h : Owns w0 W L) (hx : Ext w0 W') (hk : ∀ (g : Nat) (cs : Array Value) (T : TypeId) (fz : Nat × Nat), W.heap[g]? = some (Obj.cells cs T fz) → W'.heap[g]? = some (Obj.cells cs T fz)) : Owns w0 W' L where
  ext := hx
  ok i r hr := by
    have h1 := h.ok i r hr
    refine ⟨h1.1, ?_⟩
    rcases h1.2 with h2 | ⟨g, cap, cur, hv, hB, hh, rest⟩
    · exact .inl h2
    · exact .inr ⟨g, cap, cur, hv, hB, hk _ _ _ _ hh, rest⟩
  far := h.far
/-- A block that holds no cells turns: what a round may turn is as it was. -/
theorem KeepB.turn {bo : Nat} {W W' : World} {row : Option Nat} (hg : W.grownBy W' row) (hr : ∀ r, row = some r → ∃ o : Obj, W.heap[r]? = some o ∧ o.isCells = false) (hG : Good bo W) : KeepB bo W W' := by
  have hc : ∀ (a : Addr) (v : Value), W.cell? a = some v → W'.cell? a = some v := fun a v h => cell_kept h hg hr
  refine ⟨hg.size, fun a v _ h => hc a v h, fun b hb => .inl ?_⟩
  obtain ⟨v, hv⟩ := hG.1
  rcases hb with h | ⟨g, n, c, h1, h2⟩
  · exact .inl h
  · have := hc _ _ hv
    rw [h1] at this
    injection this with this
    exact .inr ⟨g, n, c, by rw [hv, ← this], h2⟩
theorem OutAt.turn {bo : Nat} {wb W W' : World} {A : Option Addr} {c : Nat} {x : List RV} {row : Option Nat} (h : OutAt bo wb W A c x) (hg : W.grownBy W' row) (hr : ∀ r, row = some r → wb.heap.size ≤ r ∧ ∃ o : Obj, W.heap[r]? = some o ∧ o.isCells = false) : OutAt bo wb W' A c x := by
  refine ⟨h.owns.cells (h.owns.ext.grown hg (fun k e => (hr k e).1)) (fun g cs T fz hgc => ?_), fun y hy => (h.ok y hy).keep (KeepB.turn hg (fun r e => (hr r e).2) h.good), h.new⟩
  refine (hg.block g (lt_of_block hgc) (fun e => ?_)).trans hgc
  obtain ⟨_, o, ho, hn⟩ := hr g e.symm
  rw [hgc] at ho
  injection ho with ho
  subst ho
  cases hn
theorem info_rec : (Tryd.prog.info? 30).map (fun i => (i.zero, i.size, i.bytes)) = some (some (.agg #[.int .i64 0, .slice none 0 0, .slice none 0 0]), 3, 56) := by kernel_rfl
set_option maxRecDepth 100000 in
/-- 'out = append(out, r)' inside a fence, r laid in a row of its own. -/
theorem wplIn_append_rec {Fe : Fence} {fn : Nat} {bo : Nat} {wb w : World} {A : Option Addr} {c : Nat} {x : List RV} {y : RV} {ops : Array Oper} {rest : List Oper} {o : Oper} {a : Act} {Q : Exit → Act → World → Prop} (hgd : o.guard = none) (s z : Operand)
    (ho : o.op = .call { callee := .builtin .append, args := #[s, z], argTypes := #[34, 34] })
    (h : OutAt bo wb w A c x) (hs : a.eval s = .slice A x.length c) {g0 : Nat} (hx : a.eval z = .slice (some ⟨g0, 0, none⟩) 1 1) (h0 : w.cell? ⟨g0, 0, none⟩ = some (.int .i64 y.1.piece)) (h1 : w.cell? ⟨g0, 1, none⟩ = some y.2.1) (h2 : w.cell? ⟨g0, 2, none⟩ = some y.2.2)
    (hy : ROk bo w y) (hnew : ∀ b, y.2.1.ownBlock = some b ∨ y.2.2.ownBlock = some b → wb.heap.size ≤ b) (hm : x.length < 1000000)
    (hK : ∀ g cap w', w'.cell? ⟨bo, 0, none⟩ = some (.slice A x.length c) → w'.frozen? ⟨bo, 0, none⟩ = false → Hid (OutAt bo wb (w'.setCell ⟨bo, 0, none⟩ (.slice (some ⟨g, 0, none⟩) (x.length + 1) cap)) (some ⟨g, 0, none⟩) cap (x ++ [y]) ∧ KeepB bo w (w'.setCell ⟨bo, 0, none⟩ (.slice (some ⟨g, 0, none⟩) (x.length + 1) cap)) ∧ KeepsOthers w (w'.setCell ⟨bo, 0, none⟩ (.slice (some ⟨g, 0, none⟩) (x.length + 1) cap))) → wpListIn Fe fn Tryd.prog ops Q rest (a.put o.dst (.slice (some ⟨g, 0, none⟩) (x.length + 1) cap)) w') :
    wpListIn Fe fn Tryd.prog ops Q (o :: rest) a w := by
  refine wpListIn_plain hgd fun K hK' => ?_
  obtain ⟨F, hF⟩ : ∃ F, y.2.1 = F := ⟨_, rfl⟩
  obtain ⟨C, hC⟩ : ∃ C, y.2.2 = C := ⟨_, rfl⟩
  obtain ⟨FA, fc, hFv, _⟩ := hy.f.form
  obtain ⟨CA, cc, hCv, _⟩ := hy.c.form
  have hnews : ∀ j u, [Value.int .i64 y.1.piece, y.2.1, y.2.2][j]? = some u → w.cell? ((⟨g0, 0, none⟩ : Addr).add j) = some u := fun j u hj => by
    match j, hj with
    | 0, hj => simp at hj; subst hj; exact h0
    | 1, hj => simp at hj; subst hj; exact h1
    | 2, hj => simp at hj; subst hj; exact h2
  have hone : ∀ u ∈ [Value.int .i64 y.1.piece, y.2.1, y.2.2], u.oneCell' = true := fun u hu => by
    simp at hu
    rcases hu with rfl | rfl | rfl
    · rfl
    · rw [hFv]; rfl
    · rw [hCv]; rfl
  obtain ⟨i, hi0, hiz, hi1, hi2⟩ := info_parts info_rec
  have hown := h.owns.row 1 rfl
  obtain ⟨g, cap, w', hr, r1, r2, r3, r4⟩ := run_append_lies (P := Tryd.prog) w 34 o.type wb.heap.size 30 i _ 3 56 Tryd.underlying34 hi0 hiz hi1 hi2 rfl (by decide) _ _ _ hown ⟨g0, 0, none⟩ 1 1 [.int .i64 y.1.piece, y.2.1, y.2.2] rfl hnews hone (by decide) (by unfold maxLen; omega) (by omega) h.owns.ext.size _ rfl
  rw [← rcells_snoc] at r1
  have hg := h.good
  -- the variable's row lies elsewhere
  have hbg : ∀ b, (Value.slice A x.length c).ownBlock = some b → b ≠ bo := fun b e he => by
    have hf := h.owns.far 0 1 _ _ (by decide) rfl rfl
    rcases hf with hf | hf
    · cases hf
    · exact hf (by rw [e, he]; rfl)
  have hbb : bo < w.heap.size := hg.2 bo (.inl rfl)
  have hbk : w'.heap[bo]? = w.heap[bo]? := r2.block bo hbb (fun e => hbg bo e.symm rfl)
  have hgne : g ≠ bo := by
    rcases r3 with r3 | r3
    · exact hbg g r3
    · omega
  have hbox' : w'.cell? ⟨bo, 0, none⟩ = some (.slice A x.length c) := by
    have := h.box
    unfold World.cell? at this ⊢
    rw [hbk]; exact this
  have hfro : w'.frozen? ⟨bo, 0, none⟩ = false := by
    have := h.owns.frozen 0 rfl 0
    unfold World.frozen? at this ⊢
    rw [hbk]; exact this
  have hx1 : Ext wb w' := h.owns.ext.grown r2 (fun k hk => own_ge hown k hk)
  have hO2 : Owns wb w' [⟨.slice (some ⟨bo, 0, none⟩) 1 1, 34, 1, 1, [.slice A x.length c]⟩, ⟨.slice (some ⟨g, 0, none⟩) (x.length + 1) cap, 30, 3, x.length + 1, rcells (x ++ [y])⟩] :=
    h.owns.put 1 ⟨.slice (some ⟨g, 0, none⟩) (x.length + 1) cap, 30, 3, x.length + 1, rcells (x ++ [y])⟩ hx1 r1 (fun j r hj hrr g' hg' => by
      match j, hj, hrr with
      | 0, _, hrr =>
        simp [outRows] at hrr
        subst hrr
        simp [Value.ownBlock] at hg'
        subst hg'
        exact hbk
      | j + 2, _, hrr => simp [outRows] at hrr) (fun j r hj hrr => by
      match j, hj, hrr with
      | 0, _, hrr =>
        simp [outRows] at hrr
        subst hrr
        exact .inr (by simp [Value.ownBlock]; exact fun e => hgne e)
      | j + 2, _, hrr => simp [outRows] at hrr)
  have hO3 := hO2.store 0 rfl 0 (.slice (some ⟨g, 0, none⟩) (x.length + 1) cap)
  obtain ⟨w3, hw3⟩ : ∃ w3, w'.setCell ⟨bo, 0, none⟩ (.slice (some ⟨g, 0, none⟩) (x.length + 1) cap) = w3 := ⟨_, rfl⟩
  rw [hw3] at hO3
  have hkeep : KeepB bo w w3 := by
    refine ⟨?_, fun ad v hn hv => ?_, fun b hb => ?_⟩
    · rw [← hw3]; have := r2.size; simpa using this
    · have hne : ad.block ≠ bo := fun e => hn (.inl e)
      rw [← hw3, cell_far _ hne]
      have hne2 : some ad.block ≠ (Value.slice A x.length c).ownBlock := fun e => by
        refine hn (.inr ?_)
        cases A with
        | none => cases e
        | some a0 =>
          have hbk0 : a0 = ⟨a0.block, 0, none⟩ := by
            rcases hown.2 with ⟨q, _⟩ | ⟨g9, cap9, cur9, hv9, _⟩
            · cases q
            · injection hv9 with e1
              injection e1 with e1
              rw [e1]
          injection e with e
          exact ⟨a0.block, x.length, c, by rw [h.box, ← hbk0], e⟩
      unfold World.cell? at hv ⊢
      rw [r2.block ad.block (by
        have : w.cell? ad = some v := hv
        exact lt_of_cell this) hne2]
      exact hv
    · have hb3 : w3.cell? ⟨bo, 0, none⟩ = some (.slice (some ⟨g, 0, none⟩) (x.length + 1) cap) := hO3.cell 0 rfl 0 rfl
      rcases hb with rfl | ⟨g', n', c', e1, rfl⟩
      · exact .inl (.inl rfl)
      · rw [hb3] at e1
        injection e1 with e1
        injection e1 with e1 _ _
        injection e1 with e1
        injection e1 with e1
        rcases r3 with r3 | r3
        · cases A with
          | none => cases r3
          | some a0 =>
            have hbk0 : a0 = ⟨a0.block, 0, none⟩ := by
              rcases hown.2 with ⟨q, _⟩ | ⟨g9, cap9, cur9, hv9, _⟩
              · cases q
              · injection hv9 with e1
                injection e1 with e1
                rw [e1]
            injection r3 with r3
            exact .inl (.inr ⟨a0.block, x.length, c, by rw [h.box, ← hbk0], by rw [← e1, ← r3]⟩)
        · exact .inr (by omega)
  have hothers : KeepsOthers w w3 := by
    rw [← hw3]
    refine KeepsOthers.trans ⟨r2.size, fun k ob hk hn => ?_⟩ (KeepsOthers.setCell _ _ _)
    refine (r2.block k (Array.getElem?_eq_some_iff.1 hk).1 (fun e => ?_)).trans hk
    rcases hown.2 with ⟨q, _⟩ | ⟨g9, cap9, cur9, hv9, _, hg9, _⟩
    · rw [q] at e; cases e
    · rw [hv9] at e
      injection e with e
      subst e
      rw [hk] at hg9
      injection hg9 with hg9
      subst hg9
      cases hn
  have hlen : (x ++ [y]).length = x.length + 1 := by simp
  have hout : OutAt bo wb w3 (some ⟨g, 0, none⟩) cap (x ++ [y]) := by
    refine ⟨?_, fun q hq => ?_, fun q hq => ?_⟩
    · unfold outRows; rw [hlen]; exact hO3
    · rcases List.mem_append.1 hq with hq | hq
      · exact (h.ok q hq).keep hkeep
      · rw [List.mem_singleton.1 hq]; exact hy.keep hkeep
    · rcases List.mem_append.1 hq with hq | hq
      · exact h.new q hq
      · rw [List.mem_singleton.1 hq]; exact hnew
  unfold Oper.wpIn
  refine ⟨?_, ?_⟩
  · simp [Oper.about, ho, resolve, Target.leads, Sem.run_pure]
  · rw [Oper.semAt_plain Fe _ _ (by rw [ho]; intro c hc'; cases hc')]
    simp [execOp, ho, resolve, invoke, builtin, hs, hx, hr, Result.andThen]
    exact hK' _ _ (hK g cap w' hbox' hfro (by rw [hw3]; exact ⟨hout, hkeep, hothers⟩))
/-- The function returns: each mark is taken up; what lies in cells stays. -/
theorem leaves_marksK {F : Fence} {n lo : Nat} {P : Program} {fn : Func} {tmps : Array Value} {R : Ending → World → Prop} : ∀ {ds : List Deferred} {hi : Nat} {w : World}, MarksOk lo hi w ds →
    (∀ w', Below lo w w' → KeepsC w w' → LeavesIn F n P fn tmps R [] .returning w') → LeavesInM F n P fn tmps R ds .returning w
  | [], _, w, _, hR => hR w (Below.refl _ _) (KeepsC.refl _)
  | d :: ds, hi, w, ⟨⟨D, h1, h2, h3, h4, h5⟩, h⟩, hR => by
    refine ⟨by simp, .inl ⟨D, _, by rw [h1], run_takeDeferred h4, ?_⟩⟩
    have hb : Below lo w (w.putObj D (.deferred none)) := (Below.refl lo w).grown (grownBy_putObj' w D (.deferred none)) (by
      have hlt := (Array.getElem?_eq_some_iff.1 h4).1
      omega) (fun k e => by cases e; exact h2)
    have hkc : KeepsC w (w.putObj D (.deferred none)) := fun a v e => cell_kept e (grownBy_putObj' w D (.deferred none)) (fun r er => by cases er; exact ⟨_, h4, rfl⟩)
    have hm : MarksOk lo hi (w.putObj D (.deferred none)) ds := by
      have hne : ∀ d' ∈ ds, d'.target ≠ .collected D := h5
      clear h1 h5 hR
      induction ds with
      | nil => trivial
      | cons e ds ih =>
        obtain ⟨⟨D', g1, g2, g3, g4, g5⟩, g⟩ := h
        refine ⟨⟨D', g1, g2, g3, ?_, g5⟩, ih g fun d' hd' => hne d' (List.mem_cons_of_mem _ hd')⟩
        refine (World.putObj_heap_other (fun he => hne e List.mem_cons_self ?_)).trans g4
        rw [g1, he]
    exact leaves_marksK hm fun w' hw' hk' => hR w' (hb.trans hw') (hkc.trans hk')
theorem Rs.keepC {α : Type} {R : World → Value → α → Prop} (hR : ∀ W W' v x, KeepsC W W' → R W v x → R W' v x) {W W' : World} {v : Value} {xs : List α} (h : Rs R W v xs) (k : KeepsC W W') : Rs R W' v xs := by
  obtain ⟨A, c, rfl, hl, h⟩ := h
  refine ⟨A, c, rfl, hl, fun i x hi => ?_⟩
  obtain ⟨ad, u, h1, h2, h3⟩ := h i x hi
  exact ⟨ad, u, h1, k _ _ h2, hR _ _ _ _ k h3⟩
theorem RRs.keepC {W W' : World} {v : Value} {l : List Rb.Rec} (h : RRs W v l) (k : KeepsC W W') : RRs W' v l := by
  obtain ⟨A, c, rfl, hl, h⟩ := h
  refine ⟨A, c, rfl, hl, fun i r hi => ?_⟩
  obtain ⟨ad, F, C, h1, h2, h3, h4, h5, h6⟩ := h i r hi
  exact ⟨ad, F, C, h1, k _ _ h2, k _ _ h3, k _ _ h4, h5.keepC (fun _ _ _ _ _ h => h) k, h6.keepC (fun _ _ _ _ _ h => h) k⟩
end Go.Proofs.YtdmljilcbndmfaaDoor
