/- What the program's functions do, step by step: part B of the texts for this claim; no condition beyond what each theorem states. -/
import Derived.StillTailTactics
import Derived.Deep.RegionHeld3
import Derived.Deep.RegionWith
import Derived.Deep.RegionLaw
import Derived.RegionTactic
import Derived.BigRegion
import Derived.Laws.CopyOwn
import Derived.Test.YtdmljilcbndmfaaDoorRbJoiBunA
/- THE WALK over grid of package matrix. -/
namespace Go.Proofs.YtdmljilcbndmfaaDoor
open Go.RowKit
theorem wp_atEnd' {P : Program} {c : Code} {Q : Exit → Act → World → Prop} {a : Act} {w : World} (h : Code.wp P c (AtEnd fun a w => Q .normal a w) a w) : Code.wp P c Q a w :=
  Code.wp_mono (fun e a w hr => by
    cases e with
    | normal => exact hr
    | _ => exact (hr : False).elim) h
noncomputable def gr_put_code : Code := ((Tryd.f69.body.bind (regionOf 9)).getD .skip)
def gr_put_dsts : List (Option Nat) := [some 30, some 31, some 32, some 33, some 34, some 35, some 36, some 37, some 38, some 39, none]
theorem gr_put_apart : apartD gr_put_dsts = true := by decide +kernel
set_option maxRecDepth 1000000 in
set_option maxHeartbeats 16000000 in
theorem gr_put (wr : World) (O H n c i k : Nat) (F : FuncId) (cap : Array Value) (b : UInt8) (u0 : Value) (hi : i < n) (hk : k < c) (hE : ∀ args w, (callFunc F args).run Tryd.prog w = .ok (.enter F args) w) (hO : wr.cell? ⟨O, i, none⟩ = some (.slice (some ⟨H, 0, none⟩) c c)) (hH : wr.cell? ⟨H, k, none⟩ = some u0) (hF : wr.frozen? ⟨H, k, none⟩ = false) (hC : Calls Tryd.prog F (#[.int .i64 (i : Nat), .int .i64 (k : Nat)] ++ cap) wr.drew fun e w' => e = .returned (bv b) ∧ wr.drew = w') (c0 c1 c3 c4 c5 c6 c10 c11 c12 c13 c14 c15 c16 c17 c18 c19 c20 c21 c22 c23 c24 c25 c26 c27 c28 c29 c30 c31 c32 c33 c34 c35 c36 c37 c38 c39 c40 c41 c42 : Value) (df : List Deferred) (K : Act → World → Prop)
    (hK : ∀  (u30 u31 u32 u33 u34 u35 u36 u37 u38 u39 : Value) (wx : World), wx = (wr.drew).setCell ⟨H, k, none⟩ (bv b) → K ⟨#[c0, c1, .func (.func F) #[] cap, c3, c4, c5, c6, .slice (some ⟨O, 0, none⟩) n n, .int .i64 (i : Nat), .int .i64 (k : Nat), c10, c11, c12, c13, c14, c15, c16, c17, c18, c19, c20, c21, c22, c23, c24, c25, c26, c27, c28, c29, u30, u31, u32, u33, u34, u35, u36, u37, u38, u39, c40, c41, c42], df⟩ wx) :
    Code.wp Tryd.prog gr_put_code (AtEnd K) ⟨#[c0, c1, .func (.func F) #[] cap, c3, c4, c5, c6, .slice (some ⟨O, 0, none⟩) n n, .int .i64 (i : Nat), .int .i64 (k : Nat), c10, c11, c12, c13, c14, c15, c16, c17, c18, c19, c20, c21, c22, c23, c24, c25, c26, c27, c28, c29, c30, c31, c32, c33, c34, c35, c36, c37, c38, c39, c40, c41, c42], df⟩ wr := by
  conv => arg 2; whnf
  refine region_inv (by kernel_rfl) [[], [], [0, 1], [2], [], [], [], [], [5, 6, 7], [3, 4, 0, 1, 2, 3, 4, 5, 6, 7, 8], [9, 8, 8, 0, 1, 2, 3, 4, 5, 6, 7, 8]] (by kernel_rfl) [0, 1, 2, 3, 4, 5, 6, 7, 8, 9, 10] (by decide +kernel) (by decide +kernel) (by decide +kernel) (fun L a wc => Inv gr_put_dsts [.slice (some ⟨O, 0, none⟩) n n, .int .i64 (i : Nat), .pointer (some ⟨O, i, none⟩), .slice (some ⟨H, 0, none⟩) c c, .int .i64 (k : Nat), .func (.func F) #[] cap, .int .i64 (i : Nat), .int .i64 (k : Nat), bv b, .pointer (some ⟨H, k, none⟩), undef] ⟨#[c0, c1, .func (.func F) #[] cap, c3, c4, c5, c6, .slice (some ⟨O, 0, none⟩) n n, .int .i64 (i : Nat), .int .i64 (k : Nat), c10, c11, c12, c13, c14, c15, c16, c17, c18, c19, c20, c21, c22, c23, c24, c25, c26, c27, c28, c29, c30, c31, c32, c33, c34, c35, c36, c37, c38, c39, c40, c41, c42], df⟩ L a ∧ Hid ((L 10 = false → wc = wr.drew) ∧ (L 10 = true → wc = (wr.drew).setCell ⟨H, k, none⟩ (bv b)))) ⟨Inv.start, Lib.hid ⟨fun _ => rfl, fun h => by cases h⟩⟩ ?_ ?_
  · refine ⟨?_, ?_, ?_, ?_, ?_, ?_, ?_, ?_, ?_, ?_, ?_, trivial⟩
    ·
      rintro L a wc ⟨hv, HO⟩ hL hc hd
      exact wpOp_val rfl rfl (ex_move rfl ((hv.fixed 7 (by decide)).trans rfl)) ⟨hv.put gr_put_apart 0 rfl (lb rfl) (lb rfl) rfl, HO⟩
    ·
      rintro L a wc ⟨hv, HO⟩ hL hc hd
      exact wpOp_val rfl rfl (ex_move rfl ((hv.fixed 8 (by decide)).trans rfl)) ⟨hv.put gr_put_apart 1 rfl (lb rfl) (lb rfl) rfl, HO⟩
    ·
      rintro L a wc ⟨hv, HO⟩ hL hc hd
      have u1 : (0 : Int) ≤ (i : Int) := by omega
      have u2 : (i : Int) < (n : Int) := by omega
      exact wpOp_val rfl rfl (ex_index rfl (hv.get 0 rfl rfl (hd 0 (by decide))) (hv.get 1 rfl rfl (hd 1 (by decide))) (by go_simp)) ⟨hv.put gr_put_apart 2 rfl (lb rfl) (lb rfl) rfl, HO⟩
    ·
      rintro L a wc ⟨hv, HO⟩ hL hc hd
      have hw0 : wc = wr.drew := HO.out.1 (Bool.eq_false_iff.2 fun h => Bool.false_ne_true (hL.symm.trans (hc 10 h 3 (by decide))))
      have h0 : wc.cell? ⟨O, i, none⟩ = some (.slice (some ⟨H, 0, none⟩) c c) := (by rw [hw0]; exact hO)
      exact wpOp_val rfl rfl (ex_load rfl (hv.get 2 rfl rfl (hd 2 (by decide))) (by go_simp)) ⟨hv.put gr_put_apart 3 rfl (lb rfl) (lb rfl) rfl, HO⟩
    ·
      rintro L a wc ⟨hv, HO⟩ hL hc hd
      exact wpOp_val rfl rfl (ex_move rfl ((hv.fixed 9 (by decide)).trans rfl)) ⟨hv.put gr_put_apart 4 rfl (lb rfl) (lb rfl) rfl, HO⟩
    ·
      rintro L a wc ⟨hv, HO⟩ hL hc hd
      exact wpOp_val rfl rfl (ex_move rfl ((hv.fixed 2 (by decide)).trans rfl)) ⟨hv.put gr_put_apart 5 rfl (lb rfl) (lb rfl) rfl, HO⟩
    ·
      rintro L a wc ⟨hv, HO⟩ hL hc hd
      exact wpOp_val rfl rfl (ex_move rfl ((hv.fixed 8 (by decide)).trans rfl)) ⟨hv.put gr_put_apart 6 rfl (lb rfl) (lb rfl) rfl, HO⟩
    ·
      rintro L a wc ⟨hv, HO⟩ hL hc hd
      exact wpOp_val rfl rfl (ex_move rfl ((hv.fixed 9 (by decide)).trans rfl)) ⟨hv.put gr_put_apart 7 rfl (lb rfl) (lb rfl) rfl, HO⟩
    ·
      rintro L a wc ⟨hv, HO⟩ hL hc hd
      have hw0 : wc = wr.drew := HO.out.1 (Bool.eq_false_iff.2 fun h => Bool.false_ne_true (hL.symm.trans (hc 10 h 8 (by decide))))
      refine wpOp_call (R := fun v w1 => v = bv b ∧ wc = w1) rfl rfl (ex_call rfl (hv.get 5 rfl rfl (hd 5 (by decide))) (by simp only [List.map_toArray, List.map_cons, List.map_nil, (hv.get 6 rfl rfl (hd 6 (by decide))), (hv.get 7 rfl rfl (hd 7 (by decide)))]; rfl) (hE _ _)) (by rw [hw0]; exact (hC).mono (fun e w' h => ⟨_, h.1, rfl, h.2⟩)) ?_
      rintro v w' ⟨rfl, rfl⟩
      exact ⟨hv.put gr_put_apart 8 rfl (lb rfl) (lb rfl) rfl, HO⟩
    ·
      rintro L a wc ⟨hv, HO⟩ hL hc hd
      have u1 : (0 : Int) ≤ (k : Int) := by omega
      have u2 : (k : Int) < (c : Int) := by omega
      exact wpOp_val rfl rfl (ex_index rfl (hv.get 3 rfl rfl (hd 3 (by decide))) (hv.get 4 rfl rfl (hd 4 (by decide))) (by go_simp)) ⟨hv.put gr_put_apart 9 rfl (lb rfl) (lb rfl) rfl, HO⟩
    ·
      rintro L a wc ⟨hv, HO⟩ hL hc hd
      have hw0 : wc = wr.drew := HO.out.1 hL
      have c0 := hH
      have f0 : wc.frozen? ⟨H, k, none⟩ = false := by rw [hw0]; exact hF
      have c1 : wc.cell? ⟨H, k, none⟩ = some (u0) := by rw [hw0]; exact c0
      exact wpOp_skip rfl rfl rfl (ex_store (w' := wc.setCell ⟨H, k, none⟩ (bv b)) rfl (hv.get 9 rfl rfl (hd 9 (by decide))) (hv.get 8 rfl rfl (hd 8 (by decide))) (by clear hw0 c0; go_simp)) ⟨hv.skip 10 rfl, Lib.hid ⟨fun h => absurd h (by simp [upd]), fun _ => by rw [hw0]⟩⟩
  · rintro L a wc ⟨hv, HO⟩ hall
    show K a wc
    have ha := act_lit a
    rw [hv.size, hv.defers] at ha
    have hl : ∀ f : Nat → Value, ((List.range (⟨#[c0, c1, .func (.func F) #[] cap, c3, c4, c5, c6, .slice (some ⟨O, 0, none⟩) n n, .int .i64 (i : Nat), .int .i64 (k : Nat), c10, c11, c12, c13, c14, c15, c16, c17, c18, c19, c20, c21, c22, c23, c24, c25, c26, c27, c28, c29, c30, c31, c32, c33, c34, c35, c36, c37, c38, c39, c40, c41, c42], df⟩ : Act).tmps.size).map f).toArray = #[f 0, f 1, f 2, f 3, f 4, f 5, f 6, f 7, f 8, f 9, f 10, f 11, f 12, f 13, f 14, f 15, f 16, f 17, f 18, f 19, f 20, f 21, f 22, f 23, f 24, f 25, f 26, f 27, f 28, f 29, f 30, f 31, f 32, f 33, f 34, f 35, f 36, f 37, f 38, f 39, f 40, f 41, f 42] := fun _ => rfl
    rw [hl] at ha
    simp only [hv.fixed 0 (by decide), hv.fixed 1 (by decide), hv.fixed 2 (by decide), hv.fixed 3 (by decide), hv.fixed 4 (by decide), hv.fixed 5 (by decide), hv.fixed 6 (by decide), hv.fixed 7 (by decide), hv.fixed 8 (by decide), hv.fixed 9 (by decide), hv.fixed 10 (by decide), hv.fixed 11 (by decide), hv.fixed 12 (by decide), hv.fixed 13 (by decide), hv.fixed 14 (by decide), hv.fixed 15 (by decide), hv.fixed 16 (by decide), hv.fixed 17 (by decide), hv.fixed 18 (by decide), hv.fixed 19 (by decide), hv.fixed 20 (by decide), hv.fixed 21 (by decide), hv.fixed 22 (by decide), hv.fixed 23 (by decide), hv.fixed 24 (by decide), hv.fixed 25 (by decide), hv.fixed 26 (by decide), hv.fixed 27 (by decide), hv.fixed 28 (by decide), hv.fixed 29 (by decide), hv.fixed 40 (by decide), hv.fixed 41 (by decide), hv.fixed 42 (by decide)] at ha
    rw [ha]
    exact hK _ _ _ _ _ _ _ _ _ _ wc (HO.out.2 (hall 10 (by decide)))

/-- The rows of bytes in blocks hs, at the places of an outer row of n slices; X are other rows. -/
def gridRows (O n : Nat) (hs : List Nat) (m : List (List UInt8)) : List LRow :=
  ⟨.slice (some ⟨O, 0, none⟩) n n, 28, 1, n, (inner hs m).map (fun r : LRow => r.v) ++ List.replicate (n - m.length) (Value.slice none 0 0)⟩ :: inner hs m
theorem inner_length {hs : List Nat} {m : List (List UInt8)} (h : hs.length = m.length) : (inner hs m).length = m.length := by unfold inner; simp; omega
theorem inner_at {hs : List Nat} {m : List (List UInt8)} {i : Nat} (h1 : i < hs.length) (h2 : i < m.length) : (inner hs m)[i]? = some (inner1 hs[i] m[i]) := by
  unfold inner
  rw [List.getElem?_eq_getElem (by simp; omega), List.getElem_zipWith]
/-- A grid in memory reads as its rows. -/
theorem grid_rs {w0 w : World} {O : Nat} {hs : List Nat} {m : List (List UInt8)} {X : List LRow} (hl : hs.length = m.length) (h : Owns w0 w (gridRows O m.length hs m ++ X)) (hw : ∀ r ∈ m, r.length ≤ 9223372036854775807) (hn : m.length ≤ 9223372036854775807) :
    Rs (Rs RB) w (.slice (some ⟨O, 0, none⟩) m.length m.length) m := by
  refine ⟨_, _, rfl, hn, fun i r hi => ?_⟩
  obtain ⟨hi', hr⟩ := List.getElem?_eq_some_iff.1 hi
  have hin : (inner hs m)[i]? = some (inner1 (hs[i]'(by omega)) r) := by rw [← hr]; exact inner_at (by omega) hi'
  have hcl : (inner hs m).map (fun r : LRow => r.v) ++ List.replicate (m.length - m.length) (Value.slice none 0 0) = (inner hs m).map (fun r : LRow => r.v) := by rw [Nat.sub_self]; simp
  have hrd : Rd w (some ⟨O, 0, none⟩) ((inner hs m).map (fun r : LRow => r.v)) := by
    rw [← hcl]
    exact h.rd 0 rfl
  obtain ⟨ad, hA, _, hc⟩ := hrd i _ (by rw [List.getElem?_map, hin]; rfl)
  refine ⟨ad, _, hA, hc, ?_⟩
  refine Rs.of_rd ?_ (hw r (List.mem_of_getElem? hi))
  refine h.rd (i + 1) (A := some ⟨hs[i]'(by omega), 0, none⟩) (n := r.length) (c := r.length) (e := 5) ?_
  have : (gridRows O m.length hs m ++ X)[i + 1]? = (inner hs m)[i]? := by
    unfold gridRows
    rw [List.cons_append, List.getElem?_cons_succ, List.getElem?_append_left (by rw [inner_length hl]; exact hi')]
  rw [this]
  simpa [inner1] using hin
def tabled (n c : Nat) (g : Nat → Nat → UInt8) : List (List UInt8) := (List.range n).map fun i => (List.range c).map (g i)
theorem tabled_length (n c : Nat) (g : Nat → Nat → UInt8) : (tabled n c g).length = n := by simp [tabled]
theorem tabled_succ (n c : Nat) (g : Nat → Nat → UInt8) : tabled (n + 1) c g = tabled n c g ++ [(List.range c).map (g n)] := by simp [tabled, List.range_succ]
theorem tabled_wide {n c : Nat} {g : Nat → Nat → UInt8} {r : List UInt8} (h : r ∈ tabled n c g) : r.length = c := by
  obtain ⟨i, _, rfl⟩ := List.mem_map.1 h
  simp
set_option maxHeartbeats 8000000 in
set_option maxRecDepth 100000 in
theorem xGrid_any (n c : Nat) (F : FuncId) (cap : Array Value) (g : Nat → Nat → UInt8) (w : World) (hn : n ≤ 1000) (hc : c ≤ 1000)
    (hE : ∀ args w, (callFunc F args).run Tryd.prog w = .ok (.enter F args) w)
    (hF : ∀ i k, i < n → k < c → ∀ w', Ext w w' → Calls Tryd.prog F (#[.int .i64 (i : Nat), .int .i64 (k : Nat)] ++ cap) w' fun e w'' => e = .returned (bv (g i k)) ∧ w' = w'') :
    Calls Tryd.prog 69 #[.int .i64 (n : Nat), .int .i64 (c : Nat), .func (.func F) #[] cap] w fun e w' => ∃ v, e = .returned v ∧ Rs (Rs RB) w' v (tabled n c g) ∧ Ext w w' := by
  have HF := Lib.hid hF
  clear hF
  obtain ⟨i0, hi, hz0, hz1, hz2⟩ := info_parts info_u8
  obtain ⟨j0, hj, hy0, hy1, hy2⟩ := info_parts info_bytes
  have HZ := Lib.hid (And.intro hz2 hy2)
  clear hz2 hy2
  go_enter Tryd.func69, Tryd.ntmps69
  go_wp2_with (refine wpList_make_full _ rfl (.tmp 10) (.tmp 10) 65 rfl w.heap.size 28 j0 (Value.slice none 0 0) 1 Tryd.underlying65 hj hy0 hy1 _ _ _ _ n rfl rfl rfl rfl (by rw [HZ.out.2]; omega) (by unfold maxLen; omega) (Nat.le_refl _) ?_; intro w1 hown hgrow)
  have hx : Ext w w1 := (Ext.refl w).grown hgrow (fun k h => by cases h)
  have hO1 : Owns w w1 (gridRows w.heap.size n [] (tabled 0 c g)) := by
    have h0 := (Owns.start w (L := []) (fun r h => by cases h)).behind hx (v := .slice (some ⟨w.heap.size, 0, none⟩) n n) (e := 28) (s := 1) (n := n) (xs := List.replicate n (Value.slice none 0 0)) (by
      rw [← toList_madeCells_one]
      simpa [Value.cells] using hown)
    simpa [gridRows, inner, tabled] using h0
  have H0 := Lib.hid hO1
  clear hown hgrow hx hO1
  go_loopw [8, 14] (fun vj vi wr => ∃ (i : Nat) (hs : List Nat), i ≤ n ∧ vi = .int .i64 (i : Nat) ∧ Hid (hs.length = i ∧ Owns w wr (gridRows w.heap.size n hs (tabled i c g)))) (fun _ vi _ => n - (intOf vi).toNat)
  case atStart => exact ⟨0, [], Nat.zero_le _, rfl, Lib.hid ⟨rfl, H0.out⟩⟩
  case round =>
    obtain ⟨i, hs, hin, rfl, HI⟩ := hrel
    by_cases hlt : i < n
    · have hcO : wr.cell? ⟨w.heap.size, i, none⟩ = some (Value.slice none 0 0) := HI.out.2.cell 0 rfl i (by
        rw [List.getElem?_append_right (by rw [List.length_map, inner_length (by rw [HI.out.1, tabled_length]), tabled_length]; exact Nat.le_refl _)]
        rw [List.length_map, inner_length (by rw [HI.out.1, tabled_length]), tabled_length, Nat.sub_self, List.getElem?_replicate_of_lt (by omega)])
      have hfO : wr.frozen? ⟨w.heap.size, i, none⟩ = false := HI.out.2.frozen 0 rfl i
      go_wp2_with (refine wpList_make_full _ rfl (.tmp 19) (.tmp 19) 28 rfl wr.heap.size 5 i0 (.int .u8 0) 1 Tryd.underlying28 hi hz0 hz1 _ _ _ _ c rfl rfl rfl rfl (by rw [HZ.out.1]; omega) (by unfold maxLen; omega) (Nat.le_refl _) ?_; intro w2 hown hgrow; have hx2 : Ext wr w2 := (Ext.refl wr).grown hgrow (fun k h => by cases h); have hcO2 := hx2.cell hcO; have hfO2 : w2.frozen? ⟨w.heap.size, i, none⟩ = false := (HI.out.2.next hx2).frozen 0 rfl i)
      have hrl : hs.length = (tabled i c g).length := by rw [HI.out.1, tabled_length]
      have hO3 : Owns w (w2.setCell ⟨w.heap.size, i, none⟩ (.slice (some ⟨wr.heap.size, 0, none⟩) c c)) (⟨.slice (some ⟨w.heap.size, 0, none⟩) n n, 28, 1, n, ((inner hs (tabled i c g)).map (fun r : LRow => r.v) ++ List.replicate (n - (tabled i c g).length) (Value.slice none 0 0)).set i (.slice (some ⟨wr.heap.size, 0, none⟩) c c)⟩ :: (inner hs (tabled i c g) ++ [⟨.slice (some ⟨wr.heap.size, 0, none⟩) c c, 5, 1, c, part c 0 (g i)⟩])) := by
        have hown' : w2.ownsRow wr.heap.size 5 1 (.slice (some ⟨wr.heap.size, 0, none⟩) c c) c (part c 0 (g i)) := by
          rw [part_zero, ← toList_madeCells_one]
          simpa [Value.cells] using hown
        have h1 := (HI.out.2.behind hx2 hown').store 0 rfl i (.slice (some ⟨wr.heap.size, 0, none⟩) c c)
        simpa [gridRows] using h1
      obtain ⟨w3, hw3⟩ : ∃ w3, w2.setCell ⟨w.heap.size, i, none⟩ (.slice (some ⟨wr.heap.size, 0, none⟩) c c) = w3 := ⟨_, rfl⟩
      rw [hw3] at hO3
      have hc3 : w3.cell? ⟨w.heap.size, i, none⟩ = some (.slice (some ⟨wr.heap.size, 0, none⟩) c c) := hO3.cell 0 rfl i (by rw [List.getElem?_set_self (by rw [List.length_append, List.length_map, inner_length hrl, tabled_length]; simp; omega)])
      have H3 := Lib.hid (And.intro hO3 hw3)
      clear hown hgrow hcO hfO hcO2 hfO2 hO3
      rw [hw3]
      obtain ⟨h, hh⟩ : ∃ h, wr.heap.size = h := ⟨_, rfl⟩
      rw [hh] at hc3 H3 ⊢
      clear hw3
      obtain ⟨wo, rfl⟩ : ∃ wo, wo = wr := ⟨_, rfl⟩
      go_wp2_with fail
      go_loopw [9, 27] (fun vj vi wi => ∃ k : Nat, k ≤ c ∧ vi = .int .i64 (k : Nat) ∧ Hid (Owns w wi (⟨.slice (some ⟨w.heap.size, 0, none⟩) n n, 28, 1, n, ((inner hs (tabled i c g)).map (fun r : LRow => r.v) ++ List.replicate (n - (tabled i c g).length) (Value.slice none 0 0)).set i (.slice (some ⟨h, 0, none⟩) c c)⟩ :: (inner hs (tabled i c g) ++ [⟨.slice (some ⟨h, 0, none⟩) c c, 5, 1, c, part c k (g i)⟩])))) (fun _ vi _ => c - (intOf vi).toNat)
      case atStart => exact ⟨0, Nat.zero_le _, rfl, Lib.hid H3.out.1⟩
      case round =>
        obtain ⟨k, hkc, rfl, HK⟩ := hrel
        have hOut : wr.cell? ⟨w.heap.size, i, none⟩ = some (.slice (some ⟨h, 0, none⟩) c c) := HK.out.cell 0 rfl i (by rw [List.getElem?_set_self (by rw [List.length_append, List.length_map, inner_length hrl, tabled_length]; simp; omega)])
        have hlast : (⟨.slice (some ⟨w.heap.size, 0, none⟩) n n, 28, 1, n, ((inner hs (tabled i c g)).map (fun r : LRow => r.v) ++ List.replicate (n - (tabled i c g).length) (Value.slice none 0 0)).set i (.slice (some ⟨h, 0, none⟩) c c)⟩ :: (inner hs (tabled i c g) ++ [(⟨.slice (some ⟨h, 0, none⟩) c c, 5, 1, c, part c k (g i)⟩ : LRow)]))[i + 1]? = some ⟨.slice (some ⟨h, 0, none⟩) c c, 5, 1, c, part c k (g i)⟩ := by
          rw [List.getElem?_cons_succ, List.getElem?_append_right (by rw [inner_length hrl, tabled_length]; exact Nat.le_refl _), inner_length hrl, tabled_length, Nat.sub_self]
          rfl
        by_cases hlk : k < c
        · have hcell : wr.cell? ⟨h, k, none⟩ = some (.int .u8 0) := HK.out.cell (i + 1) hlast k (by
            unfold part
            rw [List.getElem?_append_right (by simp), List.getElem?_replicate_of_lt (by simp; omega)])
          have hfro : wr.frozen? ⟨h, k, none⟩ = false := HK.out.frozen (i + 1) hlast k
          have hcall := HF.out i k hlt hlk wr.drew (HK.out.ext.drew)
          have hst := (HK.out.store (i + 1) hlast k (bv (g i k))).drew
          have HST := Lib.hid hst
          clear hst hlast
          go_wp2_with fail
          refine wp_atEnd' (gr_put wr w.heap.size h n c i k F cap (g i k) (.int .u8 0) hlt hlk hE hOut hcell hfro hcall _ _ _ _ _ _ _ _ _ _ _ _ _ _ _ _ _ _ _ _ _ _ _ _ _ _ _ _ _ _ _ _ _ _ _ _ _ _ _ _ _ ?_)
          rintro u30 u31 u32 u33 u34 u35 u36 u37 u38 u39 wx rfl
          clear hOut hcell hfro hcall
          go_wp2_with fail
          go_roundw
          case rel =>
            refine ⟨k + 1, by omega, by go_num, Lib.hid ?_⟩
            have e := HST.out
            have h2 : ∀ x y : LRow, (inner hs (tabled i c g) ++ [x]).set i y = inner hs (tabled i c g) ++ [y] := fun x y => by rw [List.set_append_right _ _ (by rw [inner_length hrl, tabled_length]; exact Nat.le_refl _), inner_length hrl, tabled_length, Nat.sub_self, List.set_cons_zero]
            rw [List.set_cons_succ, h2, part_set _ hlk] at e
            exact e
          case measure => simp [intOf]; omega
        · obtain rfl : k = c := by omega
          have hdone : Owns w wr (gridRows w.heap.size n (hs ++ [h]) (tabled (i + 1) k g)) := by
            have hK := HK.out
            rw [part_full] at hK
            have hi1 : inner1 h ((List.range k).map (g i)) = ⟨.slice (some ⟨h, 0, none⟩) k k, 5, 1, k, ((List.range k).map (g i)).map bv⟩ := by unfold inner1; simp
            rw [← hi1] at hK
            unfold gridRows
            rw [tabled_succ, inner_snoc hrl]
            have e2 : ((inner hs (tabled i k g)).map (fun r : LRow => r.v) ++ List.replicate (n - (tabled i k g).length) (Value.slice none 0 0)).set i (.slice (some ⟨h, 0, none⟩) k k) = (inner hs (tabled i k g) ++ [inner1 h ((List.range k).map (g i))]).map (fun r : LRow => r.v) ++ List.replicate (n - (tabled i k g ++ [(List.range k).map (g i)]).length) (Value.slice none 0 0) := by
              have e3 : (tabled i k g ++ [(List.range k).map (g i)]).length = i + 1 := by simp [tabled_length]
              obtain ⟨d, hd⟩ : ∃ d, n = i + 1 + d := ⟨n - (i + 1), by omega⟩
              rw [List.set_append_right _ _ (by rw [List.length_map, inner_length hrl, tabled_length]; exact Nat.le_refl _), List.length_map, inner_length hrl, e3, tabled_length, Nat.sub_self, hd, show i + 1 + d - i = d + 1 by omega, show i + 1 + d - (i + 1) = d by omega, List.replicate_succ, hi1]
              simp
            rw [← e2]
            exact hK
          have HD := Lib.hid hdone
          clear hdone hlast
          go_wp2_with fail
          go_roundw
          case rel => exact ⟨i + 1, hs ++ [h], by omega, by go_num, Lib.hid ⟨by rw [List.length_append, HI.out.1]; rfl, HD.out⟩⟩
          case measure => simp [intOf]; omega
    · obtain rfl : i = n := by omega
      have hrl : hs.length = (tabled i c g).length := by rw [HI.out.1, tabled_length]
      have hO := HI.out.2
      have hrs : Rs (Rs RB) wr (.slice (some ⟨w.heap.size, 0, none⟩) i i) (tabled i c g) := by
        have h1 := grid_rs (X := []) (O := w.heap.size) (w0 := w) hrl (by rw [tabled_length, List.append_nil]; exact hO) (fun r hr => by rw [tabled_wide hr]; omega) (by rw [tabled_length]; omega)
        rw [tabled_length] at h1
        exact h1
      have HR := Lib.hid (And.intro hrs hO.ext)
      clear hO hrs
      go_wp2_with fail
      go_ret
      exact ⟨_, rfl, HR.out⟩
end Go.Proofs.YtdmljilcbndmfaaDoor

/- A MATRIX IN THE CALL'S OWN MEMORY: an outer row of slices, and the rows of bytes: what its cells are, a store, two rows that change places. -/
namespace Mx
/-- A list whose first k elements have been computed anew. -/
def half (f : Nat → UInt8) (x : List UInt8) (k : Nat) : List UInt8 := (List.range x.length).map fun i => if i < k then f i else x.getD i 0
theorem half_length (f : Nat → UInt8) (x : List UInt8) (k : Nat) : (half f x k).length = x.length := by simp [half]
theorem half_get {f : Nat → UInt8} {x : List UInt8} {k i : Nat} (h : i < x.length) : (half f x k).getD i 0 = if i < k then f i else x.getD i 0 := by
  unfold half
  rw [List.getD_eq_getElem?_getD, List.getElem?_map, List.getElem?_range h]
  rfl
theorem half_zero (f : Nat → UInt8) (x : List UInt8) : half f x 0 = x := by
  refine List.ext_getElem (half_length _ _ _) fun i h1 h2 => ?_
  have := half_get (f := f) (k := 0) h2
  rw [if_neg (by omega)] at this
  rw [List.getD_eq_getElem?_getD, List.getD_eq_getElem?_getD, List.getElem?_eq_getElem h1, List.getElem?_eq_getElem h2] at this
  exact this
theorem half_full (f : Nat → UInt8) (x : List UInt8) : half f x x.length = (List.range x.length).map f := by
  unfold half
  refine List.map_congr_left fun i hi => ?_
  rw [if_pos (List.mem_range.1 hi)]
theorem half_set {f : Nat → UInt8} {x : List UInt8} {k : Nat} : (half f x k).set k (f k) = half f x (k + 1) := by
  refine List.ext_getElem (by simp [half_length]) fun i h1 h2 => ?_
  have hi : i < x.length := by rw [half_length] at h2; exact h2
  have a := half_get (f := f) (k := k) hi
  have b := half_get (f := f) (k := k + 1) hi
  rw [List.getD_eq_getElem?_getD, List.getElem?_eq_getElem (by rw [half_length]; exact hi)] at a b
  simp only [Option.getD_some] at a b
  rw [List.getElem_set, b, a]
  by_cases e : k = i
  · subst e; rw [if_pos rfl, if_pos (by omega)]
  · rw [if_neg e]
    by_cases l : i < k
    · rw [if_pos l, if_pos (by omega)]
    · rw [if_neg l, if_neg (by omega)]
/-- The rows before i are cleaned. -/
def cleanTo (r c : Nat) (t : List UInt8) (m : Mat) : Nat → Mat
  | 0 => m
  | i + 1 => (cleanTo r c t m i).set i (cleanRow r c t i (row m i))
theorem cleanTo_length (r c : Nat) (t : List UInt8) (m : Mat) : ∀ i, (cleanTo r c t m i).length = m.length
  | 0 => rfl
  | i + 1 => by rw [cleanTo, List.length_set, cleanTo_length r c t m i]
theorem row_set {m : Mat} {i j : Nat} {x : List UInt8} (h : i < m.length) : row (m.set i x) j = if j = i then x else row m j := by
  unfold row
  rw [List.getD_eq_getElem?_getD, List.getD_eq_getElem?_getD, List.getElem?_set]
  by_cases e : i = j
  · subst e; simp [h]
  · rw [if_neg e, if_neg (fun h => e h.symm)]
theorem cleanTo_row (r c : Nat) (t : List UInt8) (m : Mat) {j : Nat} : ∀ i, i ≤ m.length → row (cleanTo r c t m i) j = if j < i then cleanRow r c t j (row m j) else row m j
  | 0, _ => by rw [if_neg (by omega)]; rfl
  | i + 1, h => by
    rw [cleanTo, row_set (by rw [cleanTo_length]; omega), cleanTo_row r c t m i (by omega)]
    by_cases e : j = i
    · subst e; rw [if_pos rfl, if_pos (by omega)]
    · rw [if_neg e]
      by_cases l : j < i
      · rw [if_pos l, if_pos (by omega)]
      · rw [if_neg l, if_neg (by omega)]
theorem ext_row {a b : Mat} (hl : a.length = b.length) (h : ∀ i, i < a.length → row a i = row b i) : a = b := by
  refine List.ext_getElem hl fun i h1 h2 => ?_
  have := h i h1
  unfold row at this
  rw [List.getD_eq_getElem?_getD, List.getD_eq_getElem?_getD, List.getElem?_eq_getElem h1, List.getElem?_eq_getElem h2] at this
  exact this
theorem row_at {m : Mat} {i : Nat} (h : i < m.length) : row m i = m[i] := by
  unfold row
  rw [List.getD_eq_getElem?_getD, List.getElem?_eq_getElem h]
  rfl
/-- All rows are cleaned. -/
theorem cleanTo_full {m : Mat} {r c : Nat} (t : List UInt8) (hr : r < m.length) : cleanTo r c t (m.set r t) m.length = clean m r c t := by
  refine ext_row (by rw [cleanTo_length, List.length_set, clean_length]) fun i hi => ?_
  rw [cleanTo_length, List.length_set] at hi
  rw [cleanTo_row _ _ _ _ _ (by rw [List.length_set]; exact Nat.le_refl _), if_pos hi, clean_row _ _ _ _ hi, row_set hr]
  by_cases e : i = r
  · rw [if_pos e]; unfold cleanRow; rw [if_pos e, if_pos e]
  · rw [if_neg e]
end Mx
namespace Go.Proofs.YtdmljilcbndmfaaDoor
open Go.RowKit
section
variable {w0 w : World} {O n : Nat} {hs : List Nat} {m : List (List UInt8)} {X : List LRow}
theorem getD_nat {l : List Nat} {i : Nat} (h : i < l.length) : l.getD i 0 = l[i] := by
  rw [List.getD_eq_getElem?_getD, List.getElem?_eq_getElem h]; rfl
theorem inner_row (hl : hs.length = m.length) {i : Nat} (hi : i < m.length) : (inner hs m)[i]? = some (inner1 (hs.getD i 0) (Mx.row m i)) := by
  rw [inner_at (by omega) hi, getD_nat (by omega), Mx.row_at hi]
theorem grid_row (hl : hs.length = m.length) {i : Nat} (hi : i < m.length) : (gridRows O n hs m ++ X)[i + 1]? = some (inner1 (hs.getD i 0) (Mx.row m i)) := by
  unfold gridRows
  rw [List.cons_append, List.getElem?_cons_succ, List.getElem?_append_left (by rw [inner_length hl]; exact hi), inner_row hl hi]
theorem grid_outer (hl : hs.length = m.length) (h : Owns w0 w (gridRows O n hs m ++ X)) {i : Nat} (hi : i < m.length) :
    w.cell? ⟨O, i, none⟩ = some (.slice (some ⟨hs.getD i 0, 0, none⟩) (Mx.row m i).length (Mx.row m i).length) := by
  refine h.cell 0 rfl i ?_
  rw [List.getElem?_append_left (by rw [List.length_map, inner_length hl]; exact hi), List.getElem?_map, inner_row hl hi]
  rfl
theorem grid_cell (hl : hs.length = m.length) (h : Owns w0 w (gridRows O n hs m ++ X)) {i j : Nat} (hi : i < m.length) (hj : j < (Mx.row m i).length) :
    w.cell? ⟨hs.getD i 0, j, none⟩ = some (bv (Mx.cell m i j)) := by
  refine h.cell (i + 1) (grid_row hl hi) j ?_
  rw [List.getElem?_map, List.getElem?_eq_getElem hj]
  unfold Mx.cell
  rw [List.getD_eq_getElem?_getD, List.getElem?_eq_getElem hj]
  rfl
theorem grid_frozen (hl : hs.length = m.length) (h : Owns w0 w (gridRows O n hs m ++ X)) {i j : Nat} (hi : i < m.length) : w.frozen? ⟨hs.getD i 0, j, none⟩ = false :=
  h.frozen (i + 1) (grid_row hl hi) j
theorem grid_set (hl : hs.length = m.length) {i : Nat} {x : List UInt8} (hi : i < m.length) (hx : x.length = (Mx.row m i).length) : gridRows O n hs (m.set i x) = (gridRows O n hs m).set (i + 1) (inner1 (hs.getD i 0) x) := by
  have hin : inner hs (m.set i x) = (inner hs m).set i (inner1 (hs.getD i 0) x) := by
    refine List.ext_getElem? fun j => ?_
    by_cases hj : j < m.length
    · rw [List.getElem?_set, inner_row (by rw [List.length_set]; exact hl) (by rw [List.length_set]; exact hj), Mx.row_set hi]
      by_cases e : i = j
      · subst e; rw [if_pos rfl, if_pos rfl, if_pos (by rw [inner_length hl]; exact hj)]
      · rw [if_neg (fun h => e h.symm), if_neg e, inner_row hl hj]
    · rw [List.getElem?_eq_none (by rw [inner_length (by rw [List.length_set]; exact hl), List.length_set]; omega), List.getElem?_eq_none (by rw [List.length_set, inner_length hl]; omega)]
  unfold gridRows
  rw [List.set_cons_succ, hin, List.length_set]
  congr 2
  congr 1
  rw [List.map_set]
  refine (List.ext_getElem? fun j => ?_)
  rw [List.getElem?_set]
  by_cases e : i = j
  · subst e
    rw [if_pos rfl, if_pos (by rw [List.length_map, inner_length hl]; exact hi), List.getElem?_map, inner_row hl hi]
    simp [inner1, hx]
  · rw [if_neg e]
/-- A byte is stored. -/
theorem grid_store (hl : hs.length = m.length) (h : Owns w0 w (gridRows O n hs m ++ X)) {i j : Nat} (hi : i < m.length) (b : UInt8) :
    Owns w0 (w.setCell ⟨hs.getD i 0, j, none⟩ (bv b)) (gridRows O n hs (m.set i ((Mx.row m i).set j b)) ++ X) := by
  have h1 := h.store (i + 1) (grid_row hl hi) j (bv b)
  have hlen : (gridRows O n hs m).length = m.length + 1 := by unfold gridRows; simp [inner_length hl]
  rw [grid_set hl hi (by simp)]
  rw [List.set_append_left _ _ (by omega)] at h1
  have e : inner1 (hs.getD i 0) ((Mx.row m i).set j b) = ⟨.slice (some ⟨hs.getD i 0, 0, none⟩) (Mx.row m i).length (Mx.row m i).length, 5, 1, (Mx.row m i).length, ((Mx.row m i).map bv).set j (bv b)⟩ := by
    unfold inner1; rw [List.length_set, List.map_set]
  rw [e]
  exact h1
def swapH (hs : List Nat) (r k : Nat) : List Nat := (hs.set r (hs.getD k 0)).set k (hs.getD r 0)
theorem swapH_length (hs : List Nat) (r k : Nat) : (swapH hs r k).length = hs.length := by simp [swapH]
theorem inner_set (hl : hs.length = m.length) {i : Nat} {g : Nat} {x : List UInt8} (hi : i < m.length) : inner (hs.set i g) (m.set i x) = (inner hs m).set i (inner1 g x) := by
  refine List.ext_getElem? fun j => ?_
  by_cases hj : j < m.length
  · rw [List.getElem?_set, inner_row (by rw [List.length_set, List.length_set]; exact hl) (by rw [List.length_set]; exact hj), Mx.row_set hi]
    by_cases e : i = j
    · subst e
      rw [if_pos rfl, if_pos rfl, if_pos (by rw [inner_length hl]; exact hj), List.getD_eq_getElem?_getD, List.getElem?_set_self (by omega)]
      rfl
    · rw [if_neg (fun h => e h.symm), if_neg e, inner_row hl hj, List.getD_eq_getElem?_getD, List.getElem?_set_ne e, ← List.getD_eq_getElem?_getD]
  · rw [List.getElem?_eq_none (by rw [inner_length (by rw [List.length_set, List.length_set]; exact hl), List.length_set]; omega), List.getElem?_eq_none (by rw [List.length_set, inner_length hl]; omega)]
theorem inner_swap (hl : hs.length = m.length) {r k : Nat} (hr : r < m.length) (hk : k < m.length) :
    inner (swapH hs r k) (Mx.swap m r k) = ((inner hs m).set r (inner1 (hs.getD k 0) (Mx.row m k))).set k (inner1 (hs.getD r 0) (Mx.row m r)) := by
  unfold swapH Mx.swap
  rw [inner_set (by rw [List.length_set, List.length_set]; exact hl) (by rw [List.length_set]; exact hk), inner_set hl hr]
/-- Two rows change places. -/
theorem grid_swap (hl : hs.length = m.length) (hn : m.length = n) (h : Owns w0 w (gridRows O n hs m ++ X)) {r k : Nat} (hr : r < m.length) (hk : k < m.length) :
    Owns w0 ((w.setCell ⟨O, r, none⟩ (inner1 (hs.getD k 0) (Mx.row m k)).v).setCell ⟨O, k, none⟩ (inner1 (hs.getD r 0) (Mx.row m r)).v) (gridRows O n (swapH hs r k) (Mx.swap m r k) ++ X) := by
  have h1 := (h.store 0 rfl r (inner1 (hs.getD k 0) (Mx.row m k)).v).store 0 rfl k (inner1 (hs.getD r 0) (Mx.row m r)).v
  refine h1.perm ?_
  unfold gridRows
  rw [inner_swap hl hr hk, Mx.swap_length, hn, Nat.sub_self]
  simp only [List.replicate_zero, List.append_nil, List.cons_append, List.set_cons_zero, List.map_set]
  refine List.Perm.cons _ (List.Perm.append_right _ ?_)
  have hr' : r < (inner hs m).length := by rw [inner_length hl]; exact hr
  have hk' : k < (inner hs m).length := by rw [inner_length hl]; exact hk
  have er : (inner hs m)[r] = inner1 (hs.getD r 0) (Mx.row m r) := by
    have := inner_row hl hr
    rw [List.getElem?_eq_getElem hr'] at this
    exact Option.some.inj this
  have ek : (inner hs m)[k] = inner1 (hs.getD k 0) (Mx.row m k) := by
    have := inner_row hl hk
    rw [List.getElem?_eq_getElem hk'] at this
    exact Option.some.inj this
  rw [← er, ← ek]
  exact (List.set_set_perm hr' hk').symm
end
end Go.Proofs.YtdmljilcbndmfaaDoor

/- THE WALK over (*stairs).add. -/
namespace Cd
end Cd
namespace Go.Proofs.YtdmljilcbndmfaaDoor
open Go.RowKit

/-- 'append(out, xs...)' of a region's list of operations, any number of elements. -/
theorem wpl_append_all {P : Program} {w0 w : World} {L : List LRow} {ops : Array Oper} {rest : List Oper} {o : Oper} {a : Act} {Q : Exit → Act → World → Prop} (t e : TypeId) (hgd : o.guard = none) (s x : Operand)
    (ho : o.op = .call { callee := .builtin .append, args := #[s, x], argTypes := #[t, t] })
    {z : Value} {bytes : Nat} (ht : P.underlying t = some (.slice e)) (hi : (P.info? e).map (fun i => (i.zero, i.size, i.bytes)) = some (some z, 1, bytes)) (hzs : z.cells.size = 1)
    (h : Owns w0 w L) (i : Nat) {v : Value} {n : Nat} {xs : List Value} (hL : L[i]? = some ⟨v, e, 1, n, xs⟩) (hs : a.eval s = v) {ad : Addr} {m c : Nat} {news : List Value}
    (hx : a.eval x = .slice (some ad) m c) (hl : news.length = m) (hnews : ∀ j u, news[j]? = some u → w.cell? (ad.add j) = some u) (h1 : ∀ u ∈ news, u.oneCell' = true) (hm : 0 < m) (hn : n + m < 100000000000) (hb : bytes ≤ 100)
    (hK : ∀ g cap w', Owns w0 w' (L.set i ⟨.slice (some ⟨g, 0, none⟩) (n + m) cap, e, 1, n + m, xs ++ news⟩) → w.grownBy w' v.ownBlock → wpList P ops Q rest (a.put o.dst (.slice (some ⟨g, 0, none⟩) (n + m) cap)) w') :
    wpList P ops Q (o :: rest) a w := by
  refine wpList_plain hgd fun K hK' => ?_
  have hbb : (n + m) * bytes ≤ (n + m) * 100 := Nat.mul_le_mul_left _ hb
  obtain ⟨g, cap, w', hr, h2, _, h3⟩ := run_append_owns (P := P) t o.type e ht hi hzs (by decide) h i hL ad m c news (by omega) hnews h1 hm (by unfold maxLen; omega) (by omega)
  unfold Oper.wp execOp
  simp only [ho, resolve, invoke, builtin, Sem.run_bind, Sem.run_pure, Result.andThen_ok, List.map_toArray, List.map_cons, List.map_nil, hs, hx, hr]
  exact hK' _ _ (hK g cap w' h2 h3)

abbrev sv (p : List UInt8) : Value := .string (sb p)
theorem inv_u8 (a : UInt8) (w : World) (hT : Tab w) : Calls Tryd.prog 100 #[bv a] w fun e w' => e = .returned (.tuple #[bv (Gf.inv a), .int .i64 (Gf.noneI (a.toNat : Int))]) ∧ w = w' := by
  refine (inv_any (a.toNat : Int) w hT (by omega) (by have := Gf.lt8 a; omega)).mono ?_
  rintro e w' ⟨rfl, rfl⟩
  refine ⟨?_, rfl⟩
  rw [Int.toNat_natCast, ← Gf.inv_toNat]
/-- Rows of bytes that a call has made, of whatever room. -/
def innerC1 (h : Nat × Nat) (r : List UInt8) : LRow := ⟨.slice (some ⟨h.1, 0, none⟩) r.length h.2, 5, 1, r.length, r.map bv⟩
def innerC (hs : List (Nat × Nat)) (rs : List (List UInt8)) : List LRow := List.zipWith innerC1 hs rs
theorem innerC_snoc {hs : List (Nat × Nat)} {rs : List (List UInt8)} (h : hs.length = rs.length) (g : Nat × Nat) (r : List UInt8) : innerC (hs ++ [g]) (rs ++ [r]) = innerC hs rs ++ [innerC1 g r] := by
  unfold innerC
  rw [List.zipWith_append h]
  rfl
/-- The stairs that a call has made. -/
def StairsOut (w0 w : World) (P : Nat) (rows parts : List (List UInt8)) (n : Nat) : Prop :=
  ∃ (A B : Option Addr) (cA cB : Nat) (hs : List (Nat × Nat)), hs.length = rows.length ∧ parts.length = rows.length ∧
    Owns w0 w (⟨.slice (some ⟨P, 0, none⟩) 1 1, 133, 3, 1, [.slice A rows.length cA, .slice B rows.length cB, .int .i64 n]⟩ :: ⟨.slice A rows.length cA, 28, 1, rows.length, (innerC hs rows).map (·.v)⟩ :: ⟨.slice B rows.length cB, 9, 1, rows.length, parts.map sv⟩ :: innerC hs rows)
theorem StairsOut.ext {w0 w : World} {P n : Nat} {rs ps : List (List UInt8)} (h : StairsOut w0 w P rs ps n) : Ext w0 w := by
  obtain ⟨A, B, cA, cB, hs, h1, h2, h⟩ := h
  exact h.ext
theorem StairsOut.next {w0 w w' : World} {P n : Nat} {rs ps : List (List UInt8)} (h : StairsOut w0 w P rs ps n) (hx : Ext w w') : StairsOut w0 w' P rs ps n := by
  obtain ⟨A, B, cA, cB, hs, h1, h2, h⟩ := h
  exact ⟨A, B, cA, cB, hs, h1, h2, h.next hx⟩
theorem StairsOut.of {w0 w : World} {P m n g c cA cB : Nat} {A B : Option Addr} {rows parts : List (List UInt8)} {r q : List UInt8} {hs : List (Nat × Nat)} {X Y : LRow} (hl : hs.length = rows.length) (hp : parts.length = rows.length) (hm : r.length = m)
    (h : Owns w0 w (⟨.slice (some ⟨P, 0, none⟩) 1 1, 133, 3, 1, [.slice A (rows.length + 1) cA, .slice B (rows.length + 1) cB, .int .i64 n]⟩ :: ⟨.slice A (rows.length + 1) cA, 28, 1, rows.length + 1, (innerC hs rows).map (·.v) ++ [.slice (some ⟨g, 0, none⟩) m c]⟩ :: ⟨.slice B (rows.length + 1) cB, 9, 1, rows.length + 1, parts.map sv ++ [sv q]⟩ :: X :: Y :: (innerC hs rows ++ [innerC1 (g, c) r]))) :
    StairsOut w0 w P (rows ++ [r]) (parts ++ [q]) n := by
  subst hm
  refine ⟨A, B, cA, cB, hs ++ [(g, c)], by simp [hl], by simp [hp], ?_⟩
  have h2 := h.sublist (L' := _ :: _ :: _ :: (innerC hs rows ++ [innerC1 (g, c) r])) (((List.Sublist.refl _).cons Y |>.cons X).cons_cons _ |>.cons_cons _ |>.cons_cons _)
  rw [innerC_snoc hl]
  simp only [List.length_append, List.length_cons, List.length_nil, List.map_append, List.map_cons, List.map_nil]
  exact h2
theorem Owns.two {w0 w : World} {x y z : LRow} {Y : List LRow} (h : Owns w0 w (x :: y :: z :: Y)) : Owns w0 w (x :: y :: z :: no :: no :: Y) := by
  refine h.wider.wider.perm ?_
  show (x :: y :: z :: (Y ++ [no] ++ [no])).Perm (x :: y :: z :: ([no, no] ++ Y))
  rw [List.append_assoc]
  exact (((List.perm_append_comm).cons _).cons _).cons _
/-- r less its multiples of rows; the part that belongs to it. -/
def redPart (p : List UInt8) (r x q : List UInt8) : List UInt8 := if r.getD (Gf.firstNZ x) 0 = 0 then p else Gf.sum p (Gf.scale (r.getD (Gf.firstNZ x) 0) q)
def redTo (rows parts : List (List UInt8)) (r p : List UInt8) : Nat → List UInt8 × List UInt8
  | 0 => (r, p)
  | k + 1 => (Gf.redRow (redTo rows parts r p k).1 (rows.getD k []), redPart (redTo rows parts r p k).2 (redTo rows parts r p k).1 (rows.getD k []) (parts.getD k []))
/-- r after k of its elements were turned by x. -/
def halfRow (r x : List UInt8) (k : Nat) : List UInt8 := (List.range r.length).map fun i => if i < k then r.getD i 0 ^^^ Gf.mul (r.getD (Gf.firstNZ x) 0) (x.getD i 0) else r.getD i 0

theorem redTo_length (rows parts : List (List UInt8)) (r p : List UInt8) : ∀ k, (redTo rows parts r p k).1.length = r.length
  | 0 => rfl
  | k + 1 => by rw [redTo, Gf.redRow_length, redTo_length]
theorem redPart_zero {p r x q : List UInt8} (h : r.getD (Gf.firstNZ x) 0 = 0) : redPart p r x q = p := if_pos h
theorem redPart_nz {p r x q : List UInt8} (h : r.getD (Gf.firstNZ x) 0 ≠ 0) : redPart p r x q = Gf.sum p (Gf.scale (r.getD (Gf.firstNZ x) 0) q) := if_neg h
theorem redTo_take (rows parts : List (List UInt8)) (r p : List UInt8) : ∀ k, k ≤ rows.length → (redTo rows parts r p k).1 = Gf.reduce (rows.take k) r
  | 0, _ => rfl
  | k + 1, h => by
    have hk : k < rows.length := by omega
    rw [redTo]
    show Gf.redRow _ _ = _
    rw [redTo_take rows parts r p k (by omega), List.take_succ_eq_append_getElem hk, Gf.reduce, Gf.reduce, List.foldl_append, List.getD_eq_getElem?_getD, List.getElem?_eq_getElem hk]
    rfl
theorem redTo_full (rows parts : List (List UInt8)) (r p : List UInt8) : (redTo rows parts r p rows.length).1 = Gf.reduce rows r := by
  rw [redTo_take rows parts r p _ (Nat.le_refl _), List.take_length]
/-- What belongs to the row that is added. -/
def newPart (rows parts : List (List UInt8)) (l p : List UInt8) : List UInt8 := Gf.scale (Gf.inv ((Gf.reduce rows l).getD (Gf.firstNZ (Gf.reduce rows l)) 0)) (redTo rows parts l p rows.length).2
/-- The stairs with a row more, if it is no combination of them. -/
def addTo (rows parts : List (List UInt8)) (l p : List UInt8) : List (List UInt8) × List (List UInt8) :=
  match Gf.addRow rows l with
  | none => (rows, parts)
  | some t => (rows ++ [t], parts ++ [newPart rows parts l p])
theorem addTo_none {rows parts : List (List UInt8)} {l p : List UInt8} (h : Gf.addRow rows l = none) : addTo rows parts l p = (rows, parts) := by unfold addTo; rw [h]
theorem addTo_some {rows parts : List (List UInt8)} {l p t : List UInt8} (h : Gf.addRow rows l = some t) : addTo rows parts l p = (rows ++ [t], parts ++ [newPart rows parts l p]) := by unfold addTo; rw [h]
attribute [irreducible] redPart halfRow addTo

end Go.Proofs.YtdmljilcbndmfaaDoor

/- THE WALKS over collect (without pieces) and Recoverable. -/
namespace Cd
/-- The first k rows that are in a set. -/
def pickTo (rows : List (List UInt8)) (m k : Nat) : List (List UInt8) := (List.range k).filterMap fun i => if bitAt m i = 1 then rows[i]? else none
def pick (rows : List (List UInt8)) (m : Nat) : List (List UInt8) := pickTo rows m rows.length
end Cd
namespace Go.Proofs.YtdmljilcbndmfaaDoor
open Go.RowKit
/-- A block of three cells, as one element of three cells. -/
theorem Owns.one3 {w0 w : World} {g e : Nat} {xs : List Value} {L : List LRow} (h : Owns w0 w (⟨.slice (some ⟨g, 0, none⟩) 3 3, e, 1, 3, xs⟩ :: L)) : Owns w0 w (⟨.slice (some ⟨g, 0, none⟩) 1 1, e, 3, 1, xs⟩ :: L) where
  ext := h.ext
  ok i r hr := by
    cases i with
    | zero =>
      simp at hr
      subst hr
      have h0 := h.ok 0 _ rfl
      refine ⟨h0.1, ?_⟩
      rcases h0.2 with ⟨h2, h3⟩ | ⟨g', cap, cur, hv, hB, hh, h1, h2, h3, h4⟩
      · cases h2
      · injection hv with e1 e2 e3
        injection e1 with e1
        injection e1 with e1
        subst e1 e3
        exact .inr ⟨g, 1, cur, rfl, hB, hh, Nat.le_refl 1, by unfold maxLen; omega, by simpa using h3, by simpa using h4⟩
    | succ i => exact h.ok (i + 1) r hr
  far i j a b hij ha hb := by
    cases i with
    | zero =>
      cases j with
      | zero => exact absurd rfl hij
      | succ j =>
        simp at ha
        subst ha
        exact h.far 0 (j + 1) ⟨.slice (some ⟨g, 0, none⟩) 3 3, e, 1, 3, xs⟩ b (by omega) rfl hb
    | succ i =>
      cases j with
      | zero =>
        simp at hb
        subst hb
        exact h.far (i + 1) 0 a ⟨.slice (some ⟨g, 0, none⟩) 3 3, e, 1, 3, xs⟩ (by omega) ha rfl
      | succ j => exact h.far (i + 1) (j + 1) a b hij ha hb
theorem StairsOut.start {w : World} {n : Nat} : StairsOut w (w.alloc (.cells #[.slice none 0 0, .slice none 0 0, .int .i64 n] 133)) w.heap.size [] [] n := by
  refine ⟨none, none, 0, 0, [], rfl, rfl, ?_⟩
  have h1 := (Owns.start w (L := [no, nilRow 28, nilRow 9]) (by intro r hr; simp [no, nilRow] at hr; rcases hr with rfl | rfl | rfl <;> simp)).new 0 #[.slice none 0 0, .slice none 0 0, .int .i64 n] 133 (by simp [maxLen])
  exact h1.one3
end Go.Proofs.YtdmljilcbndmfaaDoor

/- CODES, in plain terms: pieces that fit data, and how they are solved for it. No program in sight. -/
namespace Cd
open Gf Go.Proofs.YtdmljilcbndmfaaDoor
/-- The bytes p are what a row makes of data pieces D, L bytes each. -/
def Fits (d L : Nat) (D : Nat → Nat → UInt8) (r p : List UInt8) : Prop := p.length = L ∧ ∀ x, x < L → p.getD x 0 = sm d fun i => mul (r.getD i 0) (D i x)
theorem sum_get (s t : List UInt8) (x : Nat) : (sum s t).getD x 0 = s.getD x 0 ^^^ t.getD x 0 := by
  rcases Nat.lt_or_ge x (max s.length t.length) with h | h
  · exact getD_map_range _ _ h
  · have h1 : s.length ≤ x := by omega
    have h2 : t.length ≤ x := by omega
    rw [getD_out (l := s) h1, getD_out (l := t) h2, getD_out (by simp [sum]; omega)]
    rfl
theorem sum_len (s t : List UInt8) : (sum s t).length = max s.length t.length := by simp [sum]
theorem scale_len (c : UInt8) (s : List UInt8) : (scale c s).length = s.length := by simp [scale]
theorem scale_get (c : UInt8) (s : List UInt8) {x : Nat} (h : x < s.length) : (scale c s).getD x 0 = mul c (s.getD x 0) := by
  unfold scale
  rw [List.getD_eq_getElem?_getD, List.getElem?_map, List.getD_eq_getElem?_getD, List.getElem?_eq_getElem h]
  rfl
theorem Fits.plus {d L : Nat} {D : Nat → Nat → UInt8} {r p x q : List UInt8} (h : Fits d L D r p) (hx : Fits d L D x q) (f : UInt8) {t : List UInt8} (ht : ∀ i, i < d → t.getD i 0 = r.getD i 0 ^^^ mul f (x.getD i 0)) :
    Fits d L D t (sum p (scale f q)) := by
  refine ⟨by rw [sum_len, scale_len, h.1, hx.1]; simp, fun k hk => ?_⟩
  rw [sum_get, scale_get _ _ (by rw [hx.1]; exact hk), h.2 k hk, hx.2 k hk, sm_mul, ← sm_add]
  refine sm_congr fun i hi => ?_
  rw [ht i hi, xor_mul, mul_assoc]
theorem Fits.congr {d L : Nat} {D : Nat → Nat → UInt8} {r p t : List UInt8} (h : Fits d L D r p) (ht : ∀ i, i < d → t.getD i 0 = r.getD i 0) : Fits d L D t p :=
  ⟨h.1, fun k hk => by rw [h.2 k hk]; exact sm_congr fun i hi => by rw [ht i hi]⟩
theorem Fits.scaled {d L : Nat} {D : Nat → Nat → UInt8} {r p : List UInt8} (h : Fits d L D r p) (c : UInt8) : Fits d L D (r.map (mul c)) (scale c p) := by
  refine ⟨by rw [scale_len, h.1], fun k hk => ?_⟩
  rw [scale_get _ _ (by rw [h.1]; exact hk), h.2 k hk, sm_mul]
  refine sm_congr fun i hi => ?_
  rw [getD_map_mul, mul_assoc]
theorem Fits.red {d L : Nat} {D : Nat → Nat → UInt8} {r p x q : List UInt8} (h : Fits d L D r p) (hx : Fits d L D x q) (hr : r.length = d) : Fits d L D (redRow r x) (redPart p r x q) := by
  by_cases hf : r.getD (firstNZ x) 0 = 0
  · rw [redPart_zero hf, redRow_same hf]; exact h
  · rw [redPart_nz hf]
    exact h.plus hx _ fun i hi => redRow_get r x (by omega)
theorem Fits.redTo {d L : Nat} {D : Nat → Nat → UInt8} {S Ps : List (List UInt8)} {r p : List UInt8} (h : Fits d L D r p) (hr : r.length = d) (hS : ∀ k, k < S.length → Fits d L D (S.getD k []) (Ps.getD k [])) :
    ∀ k, k ≤ S.length → Fits d L D (redTo S Ps r p k).1 (redTo S Ps r p k).2
  | 0, _ => h
  | k + 1, hk => (Fits.redTo h hr hS k (by omega)).red (hS k (by omega)) (by rw [redTo_length, hr])
theorem getD_app {α : Type} (l : List α) (x y : α) (k : Nat) : (l ++ [x]).getD k y = if k = l.length then x else l.getD k y := by
  rw [List.getD_eq_getElem?_getD, List.getD_eq_getElem?_getD, List.getElem?_append]
  split
  · rename_i h
    rw [if_neg (by omega)]
  · rename_i h
    split
    · rename_i h2
      rw [h2]; simp
    · rename_i h2
      rw [List.getElem?_eq_none (by simp; omega), List.getElem?_eq_none (by omega)]
theorem Fits.add {d L : Nat} {D : Nat → Nat → UInt8} {S Ps : List (List UInt8)} {l p : List UInt8} (hl : l.length = d) (hp : Ps.length = S.length) (h : Fits d L D l p) (hS : ∀ k, k < S.length → Fits d L D (S.getD k []) (Ps.getD k [])) :
    ∀ k, k < (addTo S Ps l p).1.length → Fits d L D ((addTo S Ps l p).1.getD k []) ((addTo S Ps l p).2.getD k []) := by
  cases ha : addRow S l with
  | none => rw [addTo_none ha]; exact hS
  | some t =>
    rw [addTo_some ha]
    intro k hk
    rw [getD_app, getD_app, hp]
    by_cases hk2 : k = S.length
    · rw [if_pos hk2, if_pos hk2]
      have h1 := Fits.redTo h hl hS S.length (Nat.le_refl _)
      rw [redTo_full] at h1
      unfold addRow at ha
      split at ha
      · cases ha
      · injection ha with ha
        subst ha
        exact h1.scaled _
    · rw [if_neg hk2, if_neg hk2]
      exact hS k (by simp at hk; omega)
/-- All parts have L bytes. -/
def Even (L : Nat) (Ps : List (List UInt8)) : Prop := ∀ p ∈ Ps, p.length = L
theorem Even.get {L : Nat} {Ps : List (List UInt8)} (h : Even L Ps) {k : Nat} (hk : k < Ps.length) : (Ps.getD k []).length = L := by
  rw [List.getD_eq_getElem?_getD, List.getElem?_eq_getElem hk]
  exact h _ (List.getElem_mem hk)
/-- collect's stairs and their parts, after k rows. -/
def colTo (n : Nat) (rows : List (List UInt8)) (m : Nat) (pieces : List (List UInt8)) : Nat → List (List UInt8) × List (List UInt8)
  | 0 => ([], [])
  | k + 1 => if bitAt m k = 1 ∧ (colTo n rows m pieces k).1.length < n then addTo (colTo n rows m pieces k).1 (colTo n rows m pieces k).2 (rows.getD k []) (pieces.getD k []) else colTo n rows m pieces k
def col (n : Nat) (rows : List (List UInt8)) (m : Nat) (pieces : List (List UInt8)) : List (List UInt8) × List (List UInt8) := colTo n rows m pieces rows.length
/- The rows in the order of their first places. -/
theorem nodup_few : ∀ (n : Nat) (l : List Nat), l.Nodup → (∀ x ∈ l, x < n) → l.length ≤ n
  | 0, l, _, h => by
    cases l with
    | nil => simp
    | cons x r => exact absurd (h x (by simp)) (by omega)
  | n + 1, l, hn, h => by
    by_cases hm : n ∈ l
    · have h1 := nodup_few n (l.erase n) (hn.erase n) fun x hx => by
        have h2 := (hn.mem_erase_iff).1 hx
        have := h x h2.2
        omega
      rw [List.length_erase_of_mem hm] at h1
      omega
    · have := nodup_few n l hn fun x hx => by
        have := h x hx
        have : x ≠ n := fun e => hm (e ▸ hx)
        omega
      omega
theorem nodup_all {n : Nat} {l : List Nat} (hn : l.Nodup) (h : ∀ x ∈ l, x < n) (hl : l.length = n) {y : Nat} (hy : y < n) : y ∈ l := by
  by_cases hm : y ∈ l
  · exact hm
  · have := nodup_few n (y :: l) (List.nodup_cons.2 ⟨hm, hn⟩) fun x hx => by
      rcases List.mem_cons.1 hx with h1 | h1
      · rw [h1]; exact hy
      · exact h x h1
    simp at this
    omega
theorem firsts_nodup {n : Nat} {S : List (List UInt8)} (h : Stairs n S) : (S.map firstNZ).Nodup := by
  rw [List.nodup_iff_pairwise_ne, List.pairwise_map]
  have h2 : S.Pairwise fun x y => y ∈ S ∧ y.getD (firstNZ x) 0 = 0 := by
    rw [List.pairwise_iff_getElem]
    intro i j hi hj hij
    exact ⟨List.getElem_mem hj, List.pairwise_iff_getElem.1 h.tri i j hi hj hij⟩
  refine h2.imp ?_
  rintro x y ⟨hy, h1⟩ he
  rw [he, h.one y hy] at h1
  exact absurd h1 (by decide)
theorem Stairs.at {n : Nat} {S : List (List UInt8)} (h : Stairs n S) (hn : S.length = n) {a : Nat} (ha : a < n) : ∃ k, k < S.length ∧ firstNZ (S.getD k []) = a := by
  have h1 := nodup_all (firsts_nodup h) (fun x hx => by
    obtain ⟨y, hy, rfl⟩ := List.mem_map.1 hx
    exact h.nz y hy) (by rw [List.length_map, hn]) ha
  obtain ⟨y, hy, rfl⟩ := List.mem_map.1 h1
  obtain ⟨k, hk, rfl⟩ := List.getElem_of_mem hy
  exact ⟨k, hk, by rw [List.getD_eq_getElem?_getD, List.getElem?_eq_getElem hk]; rfl⟩
/-- The numbers under k of the rows whose first place is a. -/
def atTo (S : List (List UInt8)) (a k : Nat) : List Nat := (List.range k).filter fun i => firstNZ (S.getD i []) == a
/-- The numbers of the rows, by their first places. -/
def ordTo (S : List (List UInt8)) (a : Nat) : List Nat := (List.range a).flatMap fun b => atTo S b S.length
/-- Parts or rows in an order. -/
def byOrd (S : List (List UInt8)) (o : List Nat) : List (List UInt8) := o.map fun k => S.getD k []
/- Solving rows in the form of a triangle. -/
/-- A part less what is known of it: of the first i elements of its row. -/
def solRow (r : List UInt8) (a : Nat) (out : List (List UInt8)) (p : List UInt8) : Nat → List UInt8
  | 0 => p
  | i + 1 => if i ≠ a ∧ r.getD i 0 ≠ 0 then sum (solRow r a out p i) (scale (r.getD i 0) (out.getD i [])) else solRow r a out p i
/-- The data pieces after the rows k and more. -/
def solTo (T Ps : List (List UInt8)) (n : Nat) : Nat → List (List UInt8)
  | 0 => List.replicate n []
  | j + 1 => (solTo T Ps n j).set (firstNZ (T.getD (T.length - 1 - j) [])) (solRow (T.getD (T.length - 1 - j) []) (firstNZ (T.getD (T.length - 1 - j) [])) (solTo T Ps n j) (Ps.getD (T.length - 1 - j) []) (T.getD (T.length - 1 - j) []).length)
def sol (T Ps : List (List UInt8)) (n : Nat) : List (List UInt8) := solTo T Ps n T.length
/-- Rows in the form of a triangle, with ones. -/
structure Tri (n : Nat) (T : List (List UInt8)) : Prop where
  len : T.length = n
  wide : ∀ k, k < n → (T.getD k []).length = n
  first : ∀ k, k < n → firstNZ (T.getD k []) = k
  one : ∀ k, k < n → (T.getD k []).getD k 0 = 1
theorem getD_set {α : Type} {l : List α} {k j : Nat} {x y : α} (hk : k < l.length) : (l.set k x).getD j y = if j = k then x else l.getD j y := by
  rw [List.getD_eq_getElem?_getD, List.getElem?_set]
  by_cases h : k = j
  · subst h
    rw [if_pos rfl, if_pos rfl, if_pos hk]; rfl
  · rw [if_neg h, if_neg (Ne.symm h), List.getD_eq_getElem?_getD]
end Cd

/- CODES, in plain terms: what Encode and Decode compute, and that a chunk comes back. No program in sight. -/
namespace Cd
open Gf Go.Proofs.YtdmljilcbndmfaaDoor
def sizeN (d n : Nat) : Nat := (n + d - 1) / d
/-- The bytes of each piece of a chunk of n bytes. -/
def sizeOf (d gl : Int) (gs : List (List Int)) (n : Int) : Int := if n < 0 ∨ 4096 < n ∨ check d gs gl ≠ 0 then 0 else (n + d - 1) / d
/-- A chunk, filled up with zeros. -/
def fill (len : Nat) (data : List UInt8) : List UInt8 := data ++ List.replicate (len - data.length) 0
def cutAt (size : Nat) (full : List UInt8) (i : Nat) : List UInt8 := (full.drop (i * size)).take size
/-- The data pieces of a chunk. -/
def cuts (d : Nat) (data : List UInt8) : List (List UInt8) := (List.range d).map (cutAt (sizeN d data.length) (fill (d * sizeN d data.length) data))
/-- The pieces that rows make of data pieces. -/
def encRows (rows parts : List (List UInt8)) : List (List UInt8) := rows.map fun r => combS r parts
def encode (d gl : Int) (gs : List (List Int)) (data : List UInt8) : List (List UInt8) := encRows (rowsOf d gs gl) (cuts d.toNat data)
/-- Both results of Encode. -/
def encL (d gl : Int) (gs : List (List Int)) (data : List UInt8) : List (List UInt8) := if check d gs gl = 0 ∧ data.length ≤ 4096 then encode d gl gs data else []
/-- The data pieces, solved from a set of pieces. -/
def solved (d gl : Int) (gs : List (List Int)) (m : Nat) (pieces : List (List UInt8)) : List (List UInt8) :=
  sol (byOrd (col d.toNat (rowsOf d gs gl) m pieces).1 (ordTo (col d.toNat (rowsOf d gs gl) m pieces).1 d.toNat)) (byOrd (col d.toNat (rowsOf d gs gl) m pieces).2 (ordTo (col d.toNat (rowsOf d gs gl) m pieces).1 d.toNat)) d.toNat
section
variable {d gl : Int} {gs : List (List Int)} {n m : Int} {pieces : List (List UInt8)}
end
section
variable {d gl : Int} {gs : List (List Int)}
theorem rowsOf_len (h : check d gs gl = 0) : ((rowsOf d gs gl).length : Int) = d + gs.length + gl := by
  have hk := check_ok h
  rw [rowsOf_ok h, rows_len]
  omega
end
end Cd

/- THE WALKS over Combine of package gf. -/
namespace Go.Proofs.YtdmljilcbndmfaaDoor
open Go.RowKit

/-- Combine's closure: the byte at one place of the combination. -/
theorem comb1_any (k P1 P2 : Nat) (coef : List UInt8) (parts : List (List UInt8)) (A B : Option Addr) (n ca cb : Nat) (w : World) (hT : Tab w) (hn : n = coef.length) (hn' : n = parts.length)
    (hl : n ≤ 140737488351232) (hk : ∀ i, i < n → k < (parts.getD i []).length)
    (h1 : w.cell? ⟨P1, 0, none⟩ = some (.slice A n ca)) (h2 : w.cell? ⟨P2, 0, none⟩ = some (.slice B n cb)) (hA : Rd w A (coef.map bv)) (hB : Rd w B (parts.map fun p => .string (sb p))) :
    Calls Tryd.prog 81 #[.int .i64 k, .pointer (some ⟨P1, 0, none⟩), .pointer (some ⟨P2, 0, none⟩)] w fun e w' => e = .returned (bv (Gf.comb coef parts k coef.length)) ∧ Ext w w' := by
  have HT := Lib.hid hT
  have HA := Lib.hid hA
  have HB := Lib.hid hB
  have HK := Lib.hid hk
  have HN := Lib.hid (And.intro hn hn')
  clear hT hA hB hk hn hn'
  go_enter Tryd.func81, Tryd.ntmps81
  go_wp2_with fail
  go_loop [5, 10] (fun vx vi => ∃ i : Nat, i ≤ n ∧ vi = .int .i64 i ∧ vx = bv (Gf.comb coef parts k i)) (fun _ vi => n - (intOf vi).toNat)
  case atStart => exact ⟨0, Nat.zero_le _, rfl, rfl⟩
  case round =>
    obtain ⟨i, hi, rfl, rfl⟩ := hrel
    by_cases hlt : i < n
    · have hlc : i < coef.length := by rw [← HN.out.1]; exact hlt
      have hlp : i < parts.length := by rw [← HN.out.2]; exact hlt
      obtain ⟨ad, rfl, _, ha⟩ := HA.out.at (k := i) (by simpa using hlc)
      obtain ⟨bd, rfl, _, hb⟩ := HB.out.at (k := i) (by simpa using hlp)
      rw [List.getElem_map] at ha hb
      have hkk : k < (sb parts[i]).size := by
        have := HK.out i hlt
        rw [List.getD_eq_getElem?_getD, List.getElem?_eq_getElem hlp] at this
        simpa using this
      have hstep : Gf.comb coef parts k (i + 1) = Gf.comb coef parts k i ^^^ Gf.mul coef[i] ((sb parts[i])[k]'hkk) := by
        rw [Gf.comb, get_bl, List.getD_eq_getElem?_getD, List.getElem?_eq_getElem hlc, List.getD_eq_getElem?_getD (l := parts), List.getElem?_eq_getElem hlp, List.getD_eq_getElem?_getD]
        simp only [Option.getD_some]
        rw [List.getElem?_eq_getElem (by simpa using hkk)]
        rfl
      have hx : bits .xor .u8 ((Gf.comb coef parts k i).toNat : Int) ((Gf.mul coef[i] ((sb parts[i])[k]'hkk)).toNat : Int) = ((Gf.comb coef parts k (i + 1)).toNat : Int) := by
        rw [u8_xor_nat _ _ (Gf.lt8 _) (Gf.lt8 _), hstep, UInt8.toNat_xor]
      have HX := Lib.hid hx
      clear hx hstep
      go_wp2_with fail
      refine (mul_u8 _ _ _ HT.out).mono ?_
      rintro e w' ⟨rfl, rfl⟩
      go_wp2_with fail
      go_round
      case rel => exact ⟨i + 1, by omega, by go_num, by rw [HX.out]⟩
      case measure => simp [intOf]; omega
    · obtain rfl : i = n := by omega
      have HI := Lib.hid HN.out.1
      go_wp2_with fail
      go_ret
      exact ⟨by rw [← HI.out]; rfl, Ext.refl _⟩

theorem enters81 : ∀ args w, (callFunc 81 args).run Tryd.prog w = .ok (.enter 81 args) w := enters_of Tryd.func81 (by kernel_rfl) rfl

theorem combine_ne (A B : Option Addr) (n m ca cb : Nat) (w : World) (hne : n ≠ m) :
    Calls Tryd.prog 55 #[.slice A n ca, .slice B m cb] w fun e w' => e = .returned (.tuple #[.string (sb []), .int .i64 1]) ∧ Ext w w' := by
  have h1 : ((n : Int) != (m : Int)) = true := by rw [bne_iff_ne]; omega
  clear hne
  go_enter Tryd.func55, Tryd.ntmps55
  go_wp2_with fail
  go_ret2
  exact ⟨rfl, ((Ext.refl _).alloc _).alloc _⟩
/-- The length that Combine has taken after i parts. -/
def headN (parts : List (List UInt8)) (i : Nat) : Nat := if i = 0 then 0 else (parts.headD []).length
theorem combine_eq (coef : List UInt8) (parts : List (List UInt8)) (A B : Option Addr) (n ca cb : Nat) (w : World) (hT : Tab w) (hn : n = coef.length) (hn' : n = parts.length)
    (hl : n ≤ 140737488351232) (hs : ∀ p ∈ parts, p.length ≤ 140737488351232) (hA : Rd w A (coef.map bv)) (hB : Rd w B (parts.map fun p => .string (sb p))) :
    Calls Tryd.prog 55 #[.slice A n ca, .slice B n cb] w fun e w' => e = .returned (.tuple #[.string (sb (Gf.combS coef parts)), .int .i64 (Gf.combE coef parts)]) ∧ Ext w w' := by
  have HT := Lib.hid hT
  have HA := Lib.hid hA
  have HB := Lib.hid hB
  have HS := Lib.hid hs
  have HN := Lib.hid (And.intro hn hn')
  clear hT hA hB hs hn hn'
  go_enter Tryd.func55, Tryd.ntmps55
  go_wp2_with fail
  have hW : Ext w ((w.alloc (.cells #[.slice A n ca] 28)).alloc (.cells #[.slice B n cb] 54)) := ((Ext.refl w).alloc _).alloc _
  have HW := Lib.hid hW
  clear hW
  go_loop [6, 16] (fun vn vi => ∃ i : Nat, i ≤ n ∧ vi = .int .i64 i ∧ vn = .int .i64 (headN parts i : Nat) ∧ Hid (∀ j, j < i → (parts.getD j []).length = (parts.headD []).length)) (fun _ vi => n - (intOf vi).toNat)
  case atStart => exact ⟨0, Nat.zero_le _, rfl, rfl, fun j hj => absurd hj (by omega)⟩
  case round =>
    obtain ⟨i, hi, rfl, rfl, HJ⟩ := hrel
    by_cases hlt : i < n
    · have hlp : i < parts.length := by rw [← HN.out.2]; exact hlt
      obtain ⟨bd, rfl, _, hb⟩ := (HB.out.ext HW.out).at (k := i) (by simpa using hlp)
      rw [List.getElem_map] at hb
      have hsz : parts[i].length ≤ 140737488351232 := HS.out _ (List.getElem_mem _)
      have hgd : parts.getD i [] = parts[i] := by rw [List.getD_eq_getElem?_getD, List.getElem?_eq_getElem hlp]; rfl
      have HG := Lib.hid hgd
      clear hgd
      by_cases h0 : i = 0
      · subst h0
        have hb0 : ((w.alloc (.cells #[.slice A n ca] 28)).alloc (.cells #[.slice (some bd) n cb] 54)).cell? bd = some (.string (sb parts[0])) := hb
        have hh : (parts.headD []).length = parts[0].length := by
          cases parts with
          | nil => simp at hlp
          | cons a l => rfl
        have HH := Lib.hid hh
        clear hh
        go_wp2_with fail
        go_round
        case rel => exact ⟨1, by omega, by go_num, by rw [headN, if_neg (by omega), HH.out], fun j hj => by
          obtain rfl : j = 0 := by omega
          rw [HH.out, HG.out]⟩
        case measure => simp [intOf]; omega
      · have hn0 : headN parts i = (parts.headD []).length := if_neg h0
        have HN0 := Lib.hid hn0
        clear hn0
        by_cases he : parts[i].length = (parts.headD []).length
        · have e1 : ((parts[i].length : Int) != (headN parts i : Int)) = false := by
            rw [HN0.out, he]; simp
          have e2 : ((i : Int) == 0) = false := by rw [beq_eq_false_iff_ne]; omega
          have HE := Lib.hid he
          have H0 := Lib.hid h0
          clear he h0
          go_wp2_with fail
          go_round
          case rel => exact ⟨i + 1, by omega, by go_num, by rw [HN0.out, headN, if_neg (by omega)], fun j hj => by
            by_cases hji : j = i
            · rw [hji, HG.out, HE.out]
            · exact HJ.out j (by omega)⟩
          case measure => simp [intOf]; omega
        · have e1 : ((parts[i].length : Int) != (headN parts i : Int)) = true := by
            rw [HN0.out, bne_iff_ne]; omega
          have e2 : ((i : Int) == 0) = false := by rw [beq_eq_false_iff_ne]; omega
          have hno : Gf.combOk coef parts = false := by
            rw [Bool.eq_false_iff]
            intro h
            unfold Gf.combOk at h
            rw [Bool.and_eq_true, List.all_eq_true] at h
            exact he (by simpa using h.2 _ (List.getElem_mem hlp))
          have HO := Lib.hid hno
          clear he h0 hno
          go_wp2_with fail
          go_ret2
          exact ⟨by rw [Gf.combS_no HO.out, Gf.combE_no HO.out]; rfl, HW.out⟩
    · obtain rfl : i = n := by omega
      have hok : Gf.combOk coef parts = true := by
        unfold Gf.combOk
        rw [Bool.and_eq_true, List.all_eq_true]
        refine ⟨by simp [← HN.out.1, ← HN.out.2], fun p hp => ?_⟩
        obtain ⟨j, hj, rfl⟩ := List.getElem_of_mem hp
        have := HJ.out j (by rw [HN.out.2]; exact hj)
        rw [List.getD_eq_getElem?_getD, List.getElem?_eq_getElem hj] at this
        simpa using this
      have hhd : headN parts i = (parts.headD []).length := by
        unfold headN
        split
        · rename_i h
          have := HN.out.2
          rw [h] at this
          cases parts with
          | nil => rfl
          | cons a l => simp at this
        · rfl
      have hle : headN parts i ≤ 140737488351232 := by
        rw [hhd]
        cases parts with
        | nil => simp
        | cons a l => exact HS.out a (by simp)
      have HO := Lib.hid hok
      have HD := Lib.hid hhd
      clear hok hhd
      go_wp2_with fail
      refine (build_any (headN parts i) hle _ _ (fun k => Gf.comb coef parts k coef.length) _ enters81 ?_).mono ?_
      · intro k hk w' hx
        refine comb1_any k _ _ coef parts A B i ca cb w' ((HT.out.ext HW.out).ext hx) HN.out.1 HN.out.2 hl (fun j hj => ?_) (hx.cell (by go_simp)) (hx.cell (by go_simp)) ((HA.out.ext HW.out).ext hx) ((HB.out.ext HW.out).ext hx)
        rw [HJ.out j hj, ← HD.out]
        exact hk
      rintro e w1 ⟨rfl, hx⟩
      go_wp2_with fail
      go_ret2
      refine ⟨?_, HW.out.trans hx⟩
      rw [Gf.combS_ok HO.out, Gf.combE_ok HO.out, Gf.combine, ← HD.out]
      rfl
/-- What Combine returns. -/
theorem combine_any (coef : List UInt8) (parts : List (List UInt8)) (A B : Option Addr) (n m ca cb : Nat) (w : World) (hT : Tab w) (hn : n = coef.length) (hm : m = parts.length)
    (hl : n ≤ 140737488351232) (hs : ∀ p ∈ parts, p.length ≤ 140737488351232) (hA : Rd w A (coef.map bv)) (hB : Rd w B (parts.map fun p => .string (sb p))) :
    Calls Tryd.prog 55 #[.slice A n ca, .slice B m cb] w fun e w' => e = .returned (.tuple #[.string (sb (Gf.combS coef parts)), .int .i64 (Gf.combE coef parts)]) ∧ Ext w w' := by
  by_cases h : n = m
  · subst h
    exact combine_eq coef parts A B n ca cb w hT hn hm hl hs hA hB
  · have h' := Gf.combOk_ne (coef := coef) (parts := parts) (by omega)
    rw [Gf.combS_no h', Gf.combE_no h']
    exact combine_ne A B n m ca cb w h
end Go.Proofs.YtdmljilcbndmfaaDoor

/- THE WALKS over Size and Encode. -/
namespace Go.Proofs.YtdmljilcbndmfaaDoor
open Go.RowKit
/- COPY FROM A STRING, and a part of a slice. -/
section
variable {P : Program} {w0 w : World} {L : List LRow}
theorem Owns.copied (h : Owns w0 w L) (i : Nat) {g n c e : Nat} {xs : List Value} (hi : L[i]? = some ⟨.slice (some ⟨g, 0, none⟩) n c, e, 1, n, xs⟩) (l : List UInt8) (hl : l.length ≤ n) :
    ∃ cur, w.heap[g]? = some (.cells cur e (0, 0)) ∧ l.length ≤ cur.size ∧ Owns w0 (w.setRow g (l.map bv ++ cur.toList.drop l.length).toArray) (L.set i ⟨.slice (some ⟨g, 0, none⟩) n c, e, 1, n, l.map bv ++ xs.drop l.length⟩) := by
  have h1 := h.row i hi
  have hB := (h1.lt g rfl).1
  rcases h1.2 with ⟨h2, _⟩ | ⟨g', cap, cur, hv, _, hg, hc, hm, hs, ht⟩
  · cases h2
  · injection hv with e1 e2 e3
    injection e1 with e1
    injection e1 with e1
    subst e1 e3
    rw [Nat.mul_one] at hs ht
    refine ⟨cur, hg, by omega, h.put i _ ?_ ?_ ?_ ?_⟩
    · exact below_setRow h.ext hB _
    · refine ⟨?_, .inr ⟨g, c, (l.map bv ++ cur.toList.drop l.length).toArray, rfl, hB, setRow_heap w g _ _ e _ hg, hc, hm, ?_, ?_⟩⟩
      · have := h1.1
        simp
        omega
      · simp
        omega
      · show List.take (n * 1) _ = _
        rw [Nat.mul_one, List.toList_toArray, List.take_append, List.take_of_length_le (by simpa using hl), ← ht, List.length_map, List.drop_take]
    · intro j r hj hr g' hg'
      have hf := h.far j i _ _ hj hr hi
      refine setRow_other w g g' _ ?_
      rintro rfl
      rcases hf with h2 | h2
      · rw [hg'] at h2; cases h2
      · exact h2 hg'
    · intro j r hj hr
      have := h.far i j _ _ (Ne.symm hj) hi hr
      exact this
end
end Go.Proofs.YtdmljilcbndmfaaDoor

/- THE DRAWN REGIONS of reduce of package matrix. -/
namespace Go.Proofs.YtdmljilcbndmfaaDoor
open Go.RowKit
theorem xor_u8 (y z : UInt8) : bits .xor .u8 ((y.toNat : Nat) : Int) ((z.toNat : Nat) : Int) = (((y ^^^ z).toNat : Nat) : Int) := by
  rw [u8_xor_nat _ _ (Gf.lt8 _) (Gf.lt8 _), UInt8.toNat_xor]
theorem size_u8 : (Tryd.prog.info? 5).map (·.size) = some 1 := by kernel_rfl
theorem run_copy_op {P : Program} {o : Oper} {a : Act} {w w' : World} {d s : Operand} (dT sT : TypeId) {u v r : Value} {ty : TypeId} (hd : a.eval d = u) (hs : a.eval s = v) (hr : (Builtin.copy_ #[dT, sT] ty #[u, v]).run P w = .ok r w')
    (ho : o.op = .call { callee := .builtin .copy, args := #[d, s], argTypes := #[dT, sT] } := by rfl) (hty : o.type = ty := by rfl) : (execOp a.eval o).run P w = .ok (.value r) w' := by
  subst hty
  unfold execOp
  simp only [ho, resolve, invoke, builtin, Sem.run_bind, Sem.run_pure, Result.andThen_ok, List.map_toArray, List.map_cons, List.map_nil, hd, hs, hr]
noncomputable def rd_mul_code : Code := ((Tryd.f89.body.bind (regionOf 22)).getD .skip)
def rd_mul_dsts : List (Option Nat) := [some 98, some 99, some 100, some 101, some 102, some 103, some 104, some 105, some 106, some 107, some 108, some 109, some 110, some 111, some 112, none]
theorem rd_mul_apart : apartD rd_mul_dsts = true := by decide +kernel
set_option maxRecDepth 1000000 in
set_option maxHeartbeats 16000000 in
theorem rd_mul (wr : World) (O N n r j H : Nat) (a0 x : UInt8) (hr : r < N) (hj : j < n) (hO : wr.cell? ⟨O, r, none⟩ = some (.slice (some ⟨H, 0, none⟩) n n)) (hH : wr.cell? ⟨H, j, none⟩ = some (bv x)) (hF : wr.frozen? ⟨H, j, none⟩ = false) (HT : Hid (Tab wr)) (c0 c1 c2 c3 c5 c6 c7 c9 c11 c13 c14 c15 c16 c17 c18 c19 c20 c21 c22 c23 c24 c25 c26 c27 c28 c29 c30 c31 c32 c33 c34 c35 c36 c37 c38 c39 c40 c41 c42 c43 c44 c45 c46 c47 c48 c49 c50 c51 c52 c53 c54 c55 c56 c57 c58 c59 c60 c61 c62 c63 c64 c65 c66 c67 c68 c69 c70 c71 c72 c73 c74 c75 c76 c77 c78 c79 c80 c81 c82 c83 c84 c85 c86 c87 c88 c89 c90 c91 c92 c93 c94 c95 c96 c97 c98 c99 c100 c101 c102 c103 c104 c105 c106 c107 c108 c109 c110 c111 c112 c113 c114 c115 c116 c117 c118 c119 c120 c121 c122 c123 c124 c125 c126 c127 c128 c129 c130 c131 c132 c133 c134 c135 c136 c137 c138 c139 c140 c141 c142 c143 c144 c145 c146 c147 c148 c149 c150 c151 c152 c153 c154 c155 c156 c157 c158 c159 c160 c161 c162 c163 c164 c165 c166 c167 c168 c169 c170 : Value) (df : List Deferred) (K : Act → World → Prop)
    (hK : ∀  (u98 u99 u100 u101 u102 u103 u104 u105 u106 u107 u108 u109 u110 u111 u112 : Value) (wx : World), wx = (wr.drew).setCell ⟨H, j, none⟩ (bv (Gf.mul x a0)) → K ⟨#[c0, c1, c2, c3, .slice (some ⟨O, 0, none⟩) N N, c5, c6, c7, .int .i64 (r : Nat), c9, bv a0, c11, .int .i64 (j : Nat), c13, c14, c15, c16, c17, c18, c19, c20, c21, c22, c23, c24, c25, c26, c27, c28, c29, c30, c31, c32, c33, c34, c35, c36, c37, c38, c39, c40, c41, c42, c43, c44, c45, c46, c47, c48, c49, c50, c51, c52, c53, c54, c55, c56, c57, c58, c59, c60, c61, c62, c63, c64, c65, c66, c67, c68, c69, c70, c71, c72, c73, c74, c75, c76, c77, c78, c79, c80, c81, c82, c83, c84, c85, c86, c87, c88, c89, c90, c91, c92, c93, c94, c95, c96, c97, u98, u99, u100, u101, u102, u103, u104, u105, u106, u107, u108, u109, u110, u111, u112, c113, c114, c115, c116, c117, c118, c119, c120, c121, c122, c123, c124, c125, c126, c127, c128, c129, c130, c131, c132, c133, c134, c135, c136, c137, c138, c139, c140, c141, c142, c143, c144, c145, c146, c147, c148, c149, c150, c151, c152, c153, c154, c155, c156, c157, c158, c159, c160, c161, c162, c163, c164, c165, c166, c167, c168, c169, c170], df⟩ wx) :
    Code.wp Tryd.prog rd_mul_code (AtEnd K) ⟨#[c0, c1, c2, c3, .slice (some ⟨O, 0, none⟩) N N, c5, c6, c7, .int .i64 (r : Nat), c9, bv a0, c11, .int .i64 (j : Nat), c13, c14, c15, c16, c17, c18, c19, c20, c21, c22, c23, c24, c25, c26, c27, c28, c29, c30, c31, c32, c33, c34, c35, c36, c37, c38, c39, c40, c41, c42, c43, c44, c45, c46, c47, c48, c49, c50, c51, c52, c53, c54, c55, c56, c57, c58, c59, c60, c61, c62, c63, c64, c65, c66, c67, c68, c69, c70, c71, c72, c73, c74, c75, c76, c77, c78, c79, c80, c81, c82, c83, c84, c85, c86, c87, c88, c89, c90, c91, c92, c93, c94, c95, c96, c97, c98, c99, c100, c101, c102, c103, c104, c105, c106, c107, c108, c109, c110, c111, c112, c113, c114, c115, c116, c117, c118, c119, c120, c121, c122, c123, c124, c125, c126, c127, c128, c129, c130, c131, c132, c133, c134, c135, c136, c137, c138, c139, c140, c141, c142, c143, c144, c145, c146, c147, c148, c149, c150, c151, c152, c153, c154, c155, c156, c157, c158, c159, c160, c161, c162, c163, c164, c165, c166, c167, c168, c169, c170], df⟩ wr := by
  conv => arg 2; whnf
  refine region_inv (by kernel_rfl) [[], [], [0, 1], [2], [], [], [], [5, 6], [7], [], [8, 9], [10], [], [11, 12], [3, 4, 0, 1, 2, 3, 4, 5, 6, 7, 8, 9, 10, 11, 12, 13], [14, 13, 13, 0, 1, 2, 3, 4, 5, 6, 7, 8, 9, 10, 11, 12, 13]] (by kernel_rfl) [0, 1, 2, 3, 4, 5, 6, 7, 8, 9, 10, 11, 12, 13, 14, 15] (by decide +kernel) (by decide +kernel) (by decide +kernel) (fun L a wc => Inv rd_mul_dsts [.slice (some ⟨O, 0, none⟩) N N, .int .i64 (r : Nat), .pointer (some ⟨O, r, none⟩), .slice (some ⟨H, 0, none⟩) n n, .int .i64 (j : Nat), .slice (some ⟨O, 0, none⟩) N N, .int .i64 (r : Nat), .pointer (some ⟨O, r, none⟩), .slice (some ⟨H, 0, none⟩) n n, .int .i64 (j : Nat), .pointer (some ⟨H, j, none⟩), bv x, bv a0, bv (Gf.mul x a0), .pointer (some ⟨H, j, none⟩), undef] ⟨#[c0, c1, c2, c3, .slice (some ⟨O, 0, none⟩) N N, c5, c6, c7, .int .i64 (r : Nat), c9, bv a0, c11, .int .i64 (j : Nat), c13, c14, c15, c16, c17, c18, c19, c20, c21, c22, c23, c24, c25, c26, c27, c28, c29, c30, c31, c32, c33, c34, c35, c36, c37, c38, c39, c40, c41, c42, c43, c44, c45, c46, c47, c48, c49, c50, c51, c52, c53, c54, c55, c56, c57, c58, c59, c60, c61, c62, c63, c64, c65, c66, c67, c68, c69, c70, c71, c72, c73, c74, c75, c76, c77, c78, c79, c80, c81, c82, c83, c84, c85, c86, c87, c88, c89, c90, c91, c92, c93, c94, c95, c96, c97, c98, c99, c100, c101, c102, c103, c104, c105, c106, c107, c108, c109, c110, c111, c112, c113, c114, c115, c116, c117, c118, c119, c120, c121, c122, c123, c124, c125, c126, c127, c128, c129, c130, c131, c132, c133, c134, c135, c136, c137, c138, c139, c140, c141, c142, c143, c144, c145, c146, c147, c148, c149, c150, c151, c152, c153, c154, c155, c156, c157, c158, c159, c160, c161, c162, c163, c164, c165, c166, c167, c168, c169, c170], df⟩ L a ∧ Hid ((L 15 = false → wc = wr.drew) ∧ (L 15 = true → wc = (wr.drew).setCell ⟨H, j, none⟩ (bv (Gf.mul x a0))))) ⟨Inv.start, Lib.hid ⟨fun _ => rfl, fun h => by cases h⟩⟩ ?_ ?_
  · refine ⟨?_, ?_, ?_, ?_, ?_, ?_, ?_, ?_, ?_, ?_, ?_, ?_, ?_, ?_, ?_, ?_, trivial⟩
    ·
      rintro L a wc ⟨hv, HO⟩ hL hc hd
      exact wpOp_val rfl rfl (ex_move rfl ((hv.fixed 4 (by decide)).trans rfl)) ⟨hv.put rd_mul_apart 0 rfl (lb rfl) (lb rfl) rfl, HO⟩
    ·
      rintro L a wc ⟨hv, HO⟩ hL hc hd
      exact wpOp_val rfl rfl (ex_move rfl ((hv.fixed 8 (by decide)).trans rfl)) ⟨hv.put rd_mul_apart 1 rfl (lb rfl) (lb rfl) rfl, HO⟩
    ·
      rintro L a wc ⟨hv, HO⟩ hL hc hd
      have u1 : (0 : Int) ≤ (r : Int) := by omega
      have u2 : (r : Int) < (N : Int) := by omega
      exact wpOp_val rfl rfl (ex_index rfl (hv.get 0 rfl rfl (hd 0 (by decide))) (hv.get 1 rfl rfl (hd 1 (by decide))) (by go_simp)) ⟨hv.put rd_mul_apart 2 rfl (lb rfl) (lb rfl) rfl, HO⟩
    ·
      rintro L a wc ⟨hv, HO⟩ hL hc hd
      have hw0 : wc = wr.drew := HO.out.1 (Bool.eq_false_iff.2 fun h => Bool.false_ne_true (hL.symm.trans (hc 15 h 3 (by decide))))
      have h0 : wc.cell? ⟨O, r, none⟩ = some (.slice (some ⟨H, 0, none⟩) n n) := (by rw [hw0]; exact hO)
      exact wpOp_val rfl rfl (ex_load rfl (hv.get 2 rfl rfl (hd 2 (by decide))) (by go_simp)) ⟨hv.put rd_mul_apart 3 rfl (lb rfl) (lb rfl) rfl, HO⟩
    ·
      rintro L a wc ⟨hv, HO⟩ hL hc hd
      exact wpOp_val rfl rfl (ex_move rfl ((hv.fixed 12 (by decide)).trans rfl)) ⟨hv.put rd_mul_apart 4 rfl (lb rfl) (lb rfl) rfl, HO⟩
    ·
      rintro L a wc ⟨hv, HO⟩ hL hc hd
      exact wpOp_val rfl rfl (ex_move rfl ((hv.fixed 4 (by decide)).trans rfl)) ⟨hv.put rd_mul_apart 5 rfl (lb rfl) (lb rfl) rfl, HO⟩
    ·
      rintro L a wc ⟨hv, HO⟩ hL hc hd
      exact wpOp_val rfl rfl (ex_move rfl ((hv.fixed 8 (by decide)).trans rfl)) ⟨hv.put rd_mul_apart 6 rfl (lb rfl) (lb rfl) rfl, HO⟩
    ·
      rintro L a wc ⟨hv, HO⟩ hL hc hd
      have u1 : (0 : Int) ≤ (r : Int) := by omega
      have u2 : (r : Int) < (N : Int) := by omega
      exact wpOp_val rfl rfl (ex_index rfl (hv.get 5 rfl rfl (hd 5 (by decide))) (hv.get 6 rfl rfl (hd 6 (by decide))) (by go_simp)) ⟨hv.put rd_mul_apart 7 rfl (lb rfl) (lb rfl) rfl, HO⟩
    ·
      rintro L a wc ⟨hv, HO⟩ hL hc hd
      have hw0 : wc = wr.drew := HO.out.1 (Bool.eq_false_iff.2 fun h => Bool.false_ne_true (hL.symm.trans (hc 15 h 8 (by decide))))
      have h0 : wc.cell? ⟨O, r, none⟩ = some (.slice (some ⟨H, 0, none⟩) n n) := (by rw [hw0]; exact hO)
      exact wpOp_val rfl rfl (ex_load rfl (hv.get 7 rfl rfl (hd 7 (by decide))) (by go_simp)) ⟨hv.put rd_mul_apart 8 rfl (lb rfl) (lb rfl) rfl, HO⟩
    ·
      rintro L a wc ⟨hv, HO⟩ hL hc hd
      exact wpOp_val rfl rfl (ex_move rfl ((hv.fixed 12 (by decide)).trans rfl)) ⟨hv.put rd_mul_apart 9 rfl (lb rfl) (lb rfl) rfl, HO⟩
    ·
      rintro L a wc ⟨hv, HO⟩ hL hc hd
      have u1 : (0 : Int) ≤ (j : Int) := by omega
      have u2 : (j : Int) < (n : Int) := by omega
      exact wpOp_val rfl rfl (ex_index rfl (hv.get 8 rfl rfl (hd 8 (by decide))) (hv.get 9 rfl rfl (hd 9 (by decide))) (by go_simp)) ⟨hv.put rd_mul_apart 10 rfl (lb rfl) (lb rfl) rfl, HO⟩
    ·
      rintro L a wc ⟨hv, HO⟩ hL hc hd
      have hw0 : wc = wr.drew := HO.out.1 (Bool.eq_false_iff.2 fun h => Bool.false_ne_true (hL.symm.trans (hc 15 h 11 (by decide))))
      have h0 : wc.cell? ⟨H, j, none⟩ = some (bv x) := (by rw [hw0]; exact hH)
      exact wpOp_val rfl rfl (ex_load rfl (hv.get 10 rfl rfl (hd 10 (by decide))) (by go_simp)) ⟨hv.put rd_mul_apart 11 rfl (lb rfl) (lb rfl) rfl, HO⟩
    ·
      rintro L a wc ⟨hv, HO⟩ hL hc hd
      exact wpOp_val rfl rfl (ex_move rfl ((hv.fixed 10 (by decide)).trans rfl)) ⟨hv.put rd_mul_apart 12 rfl (lb rfl) (lb rfl) rfl, HO⟩
    ·
      rintro L a wc ⟨hv, HO⟩ hL hc hd
      have hw0 : wc = wr.drew := HO.out.1 (Bool.eq_false_iff.2 fun h => Bool.false_ne_true (hL.symm.trans (hc 15 h 13 (by decide))))
      refine wpOp_call (R := fun v w1 => v = bv (Gf.mul x a0) ∧ wc = w1) rfl rfl (ex_call rfl rfl (map2c (hv.get 11 rfl rfl (hd 11 (by decide))) (hv.get 12 rfl rfl (hd 12 (by decide)))) (enters_of Tryd.func82 (by kernel_rfl) rfl _ _)) (by rw [hw0]; exact (mul_u8 x a0 wr.drew HT.out).mono (fun e w' h => ⟨_, h.1, rfl, h.2⟩)) ?_
      rintro v w' ⟨rfl, rfl⟩
      exact ⟨hv.put rd_mul_apart 13 rfl (lb rfl) (lb rfl) rfl, HO⟩
    ·
      rintro L a wc ⟨hv, HO⟩ hL hc hd
      have u1 : (0 : Int) ≤ (j : Int) := by omega
      have u2 : (j : Int) < (n : Int) := by omega
      exact wpOp_val rfl rfl (ex_index rfl (hv.get 3 rfl rfl (hd 3 (by decide))) (hv.get 4 rfl rfl (hd 4 (by decide))) (by go_simp)) ⟨hv.put rd_mul_apart 14 rfl (lb rfl) (lb rfl) rfl, HO⟩
    ·
      rintro L a wc ⟨hv, HO⟩ hL hc hd
      have hw0 : wc = wr.drew := HO.out.1 hL
      have f0 : wc.frozen? ⟨H, j, none⟩ = false := by rw [hw0]; exact hF
      have c1 : wc.cell? ⟨H, j, none⟩ = some (bv x) := by rw [hw0]; exact hH
      exact wpOp_skip rfl rfl rfl (ex_store (w' := wc.setCell ⟨H, j, none⟩ (bv (Gf.mul x a0))) rfl (hv.get 14 rfl rfl (hd 14 (by decide))) (hv.get 13 rfl rfl (hd 13 (by decide))) (by clear hw0; go_simp)) ⟨hv.skip 15 rfl, Lib.hid ⟨fun h => absurd h (by simp [upd]), fun _ => by rw [hw0]⟩⟩
  · rintro L a wc ⟨hv, HO⟩ hall
    show K a wc
    have ha := act_lit a
    rw [hv.size, hv.defers] at ha
    have hl : ∀ f : Nat → Value, ((List.range (⟨#[c0, c1, c2, c3, .slice (some ⟨O, 0, none⟩) N N, c5, c6, c7, .int .i64 (r : Nat), c9, bv a0, c11, .int .i64 (j : Nat), c13, c14, c15, c16, c17, c18, c19, c20, c21, c22, c23, c24, c25, c26, c27, c28, c29, c30, c31, c32, c33, c34, c35, c36, c37, c38, c39, c40, c41, c42, c43, c44, c45, c46, c47, c48, c49, c50, c51, c52, c53, c54, c55, c56, c57, c58, c59, c60, c61, c62, c63, c64, c65, c66, c67, c68, c69, c70, c71, c72, c73, c74, c75, c76, c77, c78, c79, c80, c81, c82, c83, c84, c85, c86, c87, c88, c89, c90, c91, c92, c93, c94, c95, c96, c97, c98, c99, c100, c101, c102, c103, c104, c105, c106, c107, c108, c109, c110, c111, c112, c113, c114, c115, c116, c117, c118, c119, c120, c121, c122, c123, c124, c125, c126, c127, c128, c129, c130, c131, c132, c133, c134, c135, c136, c137, c138, c139, c140, c141, c142, c143, c144, c145, c146, c147, c148, c149, c150, c151, c152, c153, c154, c155, c156, c157, c158, c159, c160, c161, c162, c163, c164, c165, c166, c167, c168, c169, c170], df⟩ : Act).tmps.size).map f).toArray = #[f 0, f 1, f 2, f 3, f 4, f 5, f 6, f 7, f 8, f 9, f 10, f 11, f 12, f 13, f 14, f 15, f 16, f 17, f 18, f 19, f 20, f 21, f 22, f 23, f 24, f 25, f 26, f 27, f 28, f 29, f 30, f 31, f 32, f 33, f 34, f 35, f 36, f 37, f 38, f 39, f 40, f 41, f 42, f 43, f 44, f 45, f 46, f 47, f 48, f 49, f 50, f 51, f 52, f 53, f 54, f 55, f 56, f 57, f 58, f 59, f 60, f 61, f 62, f 63, f 64, f 65, f 66, f 67, f 68, f 69, f 70, f 71, f 72, f 73, f 74, f 75, f 76, f 77, f 78, f 79, f 80, f 81, f 82, f 83, f 84, f 85, f 86, f 87, f 88, f 89, f 90, f 91, f 92, f 93, f 94, f 95, f 96, f 97, f 98, f 99, f 100, f 101, f 102, f 103, f 104, f 105, f 106, f 107, f 108, f 109, f 110, f 111, f 112, f 113, f 114, f 115, f 116, f 117, f 118, f 119, f 120, f 121, f 122, f 123, f 124, f 125, f 126, f 127, f 128, f 129, f 130, f 131, f 132, f 133, f 134, f 135, f 136, f 137, f 138, f 139, f 140, f 141, f 142, f 143, f 144, f 145, f 146, f 147, f 148, f 149, f 150, f 151, f 152, f 153, f 154, f 155, f 156, f 157, f 158, f 159, f 160, f 161, f 162, f 163, f 164, f 165, f 166, f 167, f 168, f 169, f 170] := fun _ => rfl
    rw [hl] at ha
    simp only [hv.fixed 0 (by decide), hv.fixed 1 (by decide), hv.fixed 2 (by decide), hv.fixed 3 (by decide), hv.fixed 4 (by decide), hv.fixed 5 (by decide), hv.fixed 6 (by decide), hv.fixed 7 (by decide), hv.fixed 8 (by decide), hv.fixed 9 (by decide), hv.fixed 10 (by decide), hv.fixed 11 (by decide), hv.fixed 12 (by decide), hv.fixed 13 (by decide), hv.fixed 14 (by decide), hv.fixed 15 (by decide), hv.fixed 16 (by decide), hv.fixed 17 (by decide), hv.fixed 18 (by decide), hv.fixed 19 (by decide), hv.fixed 20 (by decide), hv.fixed 21 (by decide), hv.fixed 22 (by decide), hv.fixed 23 (by decide), hv.fixed 24 (by decide), hv.fixed 25 (by decide), hv.fixed 26 (by decide), hv.fixed 27 (by decide), hv.fixed 28 (by decide), hv.fixed 29 (by decide), hv.fixed 30 (by decide), hv.fixed 31 (by decide), hv.fixed 32 (by decide), hv.fixed 33 (by decide), hv.fixed 34 (by decide), hv.fixed 35 (by decide), hv.fixed 36 (by decide), hv.fixed 37 (by decide), hv.fixed 38 (by decide), hv.fixed 39 (by decide), hv.fixed 40 (by decide), hv.fixed 41 (by decide), hv.fixed 42 (by decide), hv.fixed 43 (by decide), hv.fixed 44 (by decide), hv.fixed 45 (by decide), hv.fixed 46 (by decide), hv.fixed 47 (by decide), hv.fixed 48 (by decide), hv.fixed 49 (by decide), hv.fixed 50 (by decide), hv.fixed 51 (by decide), hv.fixed 52 (by decide), hv.fixed 53 (by decide), hv.fixed 54 (by decide), hv.fixed 55 (by decide), hv.fixed 56 (by decide), hv.fixed 57 (by decide), hv.fixed 58 (by decide), hv.fixed 59 (by decide), hv.fixed 60 (by decide), hv.fixed 61 (by decide), hv.fixed 62 (by decide), hv.fixed 63 (by decide), hv.fixed 64 (by decide), hv.fixed 65 (by decide), hv.fixed 66 (by decide), hv.fixed 67 (by decide), hv.fixed 68 (by decide), hv.fixed 69 (by decide), hv.fixed 70 (by decide), hv.fixed 71 (by decide), hv.fixed 72 (by decide), hv.fixed 73 (by decide), hv.fixed 74 (by decide), hv.fixed 75 (by decide), hv.fixed 76 (by decide), hv.fixed 77 (by decide), hv.fixed 78 (by decide), hv.fixed 79 (by decide), hv.fixed 80 (by decide), hv.fixed 81 (by decide), hv.fixed 82 (by decide), hv.fixed 83 (by decide), hv.fixed 84 (by decide), hv.fixed 85 (by decide), hv.fixed 86 (by decide), hv.fixed 87 (by decide), hv.fixed 88 (by decide), hv.fixed 89 (by decide), hv.fixed 90 (by decide), hv.fixed 91 (by decide), hv.fixed 92 (by decide), hv.fixed 93 (by decide), hv.fixed 94 (by decide), hv.fixed 95 (by decide), hv.fixed 96 (by decide), hv.fixed 97 (by decide), hv.fixed 113 (by decide), hv.fixed 114 (by decide), hv.fixed 115 (by decide), hv.fixed 116 (by decide), hv.fixed 117 (by decide), hv.fixed 118 (by decide), hv.fixed 119 (by decide), hv.fixed 120 (by decide), hv.fixed 121 (by decide), hv.fixed 122 (by decide), hv.fixed 123 (by decide), hv.fixed 124 (by decide), hv.fixed 125 (by decide), hv.fixed 126 (by decide), hv.fixed 127 (by decide), hv.fixed 128 (by decide), hv.fixed 129 (by decide), hv.fixed 130 (by decide), hv.fixed 131 (by decide), hv.fixed 132 (by decide), hv.fixed 133 (by decide), hv.fixed 134 (by decide), hv.fixed 135 (by decide), hv.fixed 136 (by decide), hv.fixed 137 (by decide), hv.fixed 138 (by decide), hv.fixed 139 (by decide), hv.fixed 140 (by decide), hv.fixed 141 (by decide), hv.fixed 142 (by decide), hv.fixed 143 (by decide), hv.fixed 144 (by decide), hv.fixed 145 (by decide), hv.fixed 146 (by decide), hv.fixed 147 (by decide), hv.fixed 148 (by decide), hv.fixed 149 (by decide), hv.fixed 150 (by decide), hv.fixed 151 (by decide), hv.fixed 152 (by decide), hv.fixed 153 (by decide), hv.fixed 154 (by decide), hv.fixed 155 (by decide), hv.fixed 156 (by decide), hv.fixed 157 (by decide), hv.fixed 158 (by decide), hv.fixed 159 (by decide), hv.fixed 160 (by decide), hv.fixed 161 (by decide), hv.fixed 162 (by decide), hv.fixed 163 (by decide), hv.fixed 164 (by decide), hv.fixed 165 (by decide), hv.fixed 166 (by decide), hv.fixed 167 (by decide), hv.fixed 168 (by decide), hv.fixed 169 (by decide), hv.fixed 170 (by decide)] at ha
    rw [ha]
    exact hK _ _ _ _ _ _ _ _ _ _ _ _ _ _ _ wc (HO.out.2 (hall 15 (by decide)))
noncomputable def rd_xor_code : Code := ((Tryd.f89.body.bind (regionOf 32)).getD .skip)
def rd_xor_dsts : List (Option Nat) := [some 141, some 142, some 143, some 144, some 145, some 146, some 147, some 148, some 149, some 150, some 151, some 152, some 153, some 154, some 155, some 156, some 157, some 158, none]
theorem rd_xor_apart : apartD rd_xor_dsts = true := by decide +kernel
set_option maxRecDepth 1000000 in
set_option maxHeartbeats 16000000 in
theorem rd_xor (wr : World) (O N n r i j H G : Nat) (b0 x y z : UInt8) (HZ : Hid (y ^^^ Gf.mul b0 x = z)) (hr : r < N) (hi : i < N) (hj : j < n) (hO : wr.cell? ⟨O, r, none⟩ = some (.slice (some ⟨H, 0, none⟩) n n)) (hP : wr.cell? ⟨O, i, none⟩ = some (.slice (some ⟨G, 0, none⟩) n n)) (hH : wr.cell? ⟨H, j, none⟩ = some (bv x)) (hG : wr.cell? ⟨G, j, none⟩ = some (bv y)) (hF : wr.frozen? ⟨G, j, none⟩ = false) (HT : Hid (Tab wr)) (c0 c1 c2 c3 c5 c6 c7 c9 c10 c11 c12 c16 c17 c18 c19 c20 c21 c22 c23 c24 c25 c26 c27 c28 c29 c30 c31 c32 c33 c34 c35 c36 c37 c38 c39 c40 c41 c42 c43 c44 c45 c46 c47 c48 c49 c50 c51 c52 c53 c54 c55 c56 c57 c58 c59 c60 c61 c62 c63 c64 c65 c66 c67 c68 c69 c70 c71 c72 c73 c74 c75 c76 c77 c78 c79 c80 c81 c82 c83 c84 c85 c86 c87 c88 c89 c90 c91 c92 c93 c94 c95 c96 c97 c98 c99 c100 c101 c102 c103 c104 c105 c106 c107 c108 c109 c110 c111 c112 c113 c114 c115 c116 c117 c118 c119 c120 c121 c122 c123 c124 c125 c126 c127 c128 c129 c130 c131 c132 c133 c134 c135 c136 c137 c138 c139 c140 c141 c142 c143 c144 c145 c146 c147 c148 c149 c150 c151 c152 c153 c154 c155 c156 c157 c158 c159 c160 c161 c162 c163 c164 c165 c166 c167 c168 c169 c170 : Value) (df : List Deferred) (K : Act → World → Prop)
    (hK : ∀  (u141 u142 u143 u144 u145 u146 u147 u148 u149 u150 u151 u152 u153 u154 u155 u156 u157 u158 : Value) (wx : World), wx = (wr.drew).setCell ⟨G, j, none⟩ (bv z) → K ⟨#[c0, c1, c2, c3, .slice (some ⟨O, 0, none⟩) N N, c5, c6, c7, .int .i64 (r : Nat), c9, c10, c11, c12, .int .i64 (i : Nat), bv b0, .int .i64 (j : Nat), c16, c17, c18, c19, c20, c21, c22, c23, c24, c25, c26, c27, c28, c29, c30, c31, c32, c33, c34, c35, c36, c37, c38, c39, c40, c41, c42, c43, c44, c45, c46, c47, c48, c49, c50, c51, c52, c53, c54, c55, c56, c57, c58, c59, c60, c61, c62, c63, c64, c65, c66, c67, c68, c69, c70, c71, c72, c73, c74, c75, c76, c77, c78, c79, c80, c81, c82, c83, c84, c85, c86, c87, c88, c89, c90, c91, c92, c93, c94, c95, c96, c97, c98, c99, c100, c101, c102, c103, c104, c105, c106, c107, c108, c109, c110, c111, c112, c113, c114, c115, c116, c117, c118, c119, c120, c121, c122, c123, c124, c125, c126, c127, c128, c129, c130, c131, c132, c133, c134, c135, c136, c137, c138, c139, c140, u141, u142, u143, u144, u145, u146, u147, u148, u149, u150, u151, u152, u153, u154, u155, u156, u157, u158, c159, c160, c161, c162, c163, c164, c165, c166, c167, c168, c169, c170], df⟩ wx) :
    Code.wp Tryd.prog rd_xor_code (AtEnd K) ⟨#[c0, c1, c2, c3, .slice (some ⟨O, 0, none⟩) N N, c5, c6, c7, .int .i64 (r : Nat), c9, c10, c11, c12, .int .i64 (i : Nat), bv b0, .int .i64 (j : Nat), c16, c17, c18, c19, c20, c21, c22, c23, c24, c25, c26, c27, c28, c29, c30, c31, c32, c33, c34, c35, c36, c37, c38, c39, c40, c41, c42, c43, c44, c45, c46, c47, c48, c49, c50, c51, c52, c53, c54, c55, c56, c57, c58, c59, c60, c61, c62, c63, c64, c65, c66, c67, c68, c69, c70, c71, c72, c73, c74, c75, c76, c77, c78, c79, c80, c81, c82, c83, c84, c85, c86, c87, c88, c89, c90, c91, c92, c93, c94, c95, c96, c97, c98, c99, c100, c101, c102, c103, c104, c105, c106, c107, c108, c109, c110, c111, c112, c113, c114, c115, c116, c117, c118, c119, c120, c121, c122, c123, c124, c125, c126, c127, c128, c129, c130, c131, c132, c133, c134, c135, c136, c137, c138, c139, c140, c141, c142, c143, c144, c145, c146, c147, c148, c149, c150, c151, c152, c153, c154, c155, c156, c157, c158, c159, c160, c161, c162, c163, c164, c165, c166, c167, c168, c169, c170], df⟩ wr := by
  conv => arg 2; whnf
  refine region_inv (by kernel_rfl) [[], [], [0, 1], [2], [], [3, 4], [5], [], [], [], [8, 9], [10], [], [11, 12], [13], [7, 14], [6, 15], [3, 4, 0, 1, 2, 3, 4, 5, 6, 7, 8, 9, 10, 11, 12, 13, 14, 15, 16], [17, 16, 15, 0, 1, 2, 3, 4, 5, 6, 7, 8, 9, 10, 11, 12, 13, 14, 15, 16]] (by kernel_rfl) [0, 1, 2, 3, 4, 5, 6, 7, 8, 9, 10, 11, 12, 13, 14, 15, 16, 17, 18] (by decide +kernel) (by decide +kernel) (by decide +kernel) (fun L a wc => Inv rd_xor_dsts [.slice (some ⟨O, 0, none⟩) N N, .int .i64 (i : Nat), .pointer (some ⟨O, i, none⟩), .slice (some ⟨G, 0, none⟩) n n, .int .i64 (j : Nat), .pointer (some ⟨G, j, none⟩), bv y, bv b0, .slice (some ⟨O, 0, none⟩) N N, .int .i64 (r : Nat), .pointer (some ⟨O, r, none⟩), .slice (some ⟨H, 0, none⟩) n n, .int .i64 (j : Nat), .pointer (some ⟨H, j, none⟩), bv x, bv (Gf.mul b0 x), bv z, .pointer (some ⟨G, j, none⟩), undef] ⟨#[c0, c1, c2, c3, .slice (some ⟨O, 0, none⟩) N N, c5, c6, c7, .int .i64 (r : Nat), c9, c10, c11, c12, .int .i64 (i : Nat), bv b0, .int .i64 (j : Nat), c16, c17, c18, c19, c20, c21, c22, c23, c24, c25, c26, c27, c28, c29, c30, c31, c32, c33, c34, c35, c36, c37, c38, c39, c40, c41, c42, c43, c44, c45, c46, c47, c48, c49, c50, c51, c52, c53, c54, c55, c56, c57, c58, c59, c60, c61, c62, c63, c64, c65, c66, c67, c68, c69, c70, c71, c72, c73, c74, c75, c76, c77, c78, c79, c80, c81, c82, c83, c84, c85, c86, c87, c88, c89, c90, c91, c92, c93, c94, c95, c96, c97, c98, c99, c100, c101, c102, c103, c104, c105, c106, c107, c108, c109, c110, c111, c112, c113, c114, c115, c116, c117, c118, c119, c120, c121, c122, c123, c124, c125, c126, c127, c128, c129, c130, c131, c132, c133, c134, c135, c136, c137, c138, c139, c140, c141, c142, c143, c144, c145, c146, c147, c148, c149, c150, c151, c152, c153, c154, c155, c156, c157, c158, c159, c160, c161, c162, c163, c164, c165, c166, c167, c168, c169, c170], df⟩ L a ∧ Hid ((L 18 = false → wc = wr.drew) ∧ (L 18 = true → wc = (wr.drew).setCell ⟨G, j, none⟩ (bv z)))) ⟨Inv.start, Lib.hid ⟨fun _ => rfl, fun h => by cases h⟩⟩ ?_ ?_
  · refine ⟨?_, ?_, ?_, ?_, ?_, ?_, ?_, ?_, ?_, ?_, ?_, ?_, ?_, ?_, ?_, ?_, ?_, ?_, ?_, trivial⟩
    ·
      rintro L a wc ⟨hv, HO⟩ hL hc hd
      exact wpOp_val rfl rfl (ex_move rfl ((hv.fixed 4 (by decide)).trans rfl)) ⟨hv.put rd_xor_apart 0 rfl (lb rfl) (lb rfl) rfl, HO⟩
    ·
      rintro L a wc ⟨hv, HO⟩ hL hc hd
      exact wpOp_val rfl rfl (ex_move rfl ((hv.fixed 13 (by decide)).trans rfl)) ⟨hv.put rd_xor_apart 1 rfl (lb rfl) (lb rfl) rfl, HO⟩
    ·
      rintro L a wc ⟨hv, HO⟩ hL hc hd
      have u1 : (0 : Int) ≤ (i : Int) := by omega
      have u2 : (i : Int) < (N : Int) := by omega
      exact wpOp_val rfl rfl (ex_index rfl (hv.get 0 rfl rfl (hd 0 (by decide))) (hv.get 1 rfl rfl (hd 1 (by decide))) (by go_simp)) ⟨hv.put rd_xor_apart 2 rfl (lb rfl) (lb rfl) rfl, HO⟩
    ·
      rintro L a wc ⟨hv, HO⟩ hL hc hd
      have hw0 : wc = wr.drew := HO.out.1 (Bool.eq_false_iff.2 fun h => Bool.false_ne_true (hL.symm.trans (hc 18 h 3 (by decide))))
      have h0 : wc.cell? ⟨O, i, none⟩ = some (.slice (some ⟨G, 0, none⟩) n n) := (by rw [hw0]; exact hP)
      exact wpOp_val rfl rfl (ex_load rfl (hv.get 2 rfl rfl (hd 2 (by decide))) (by go_simp)) ⟨hv.put rd_xor_apart 3 rfl (lb rfl) (lb rfl) rfl, HO⟩
    ·
      rintro L a wc ⟨hv, HO⟩ hL hc hd
      exact wpOp_val rfl rfl (ex_move rfl ((hv.fixed 15 (by decide)).trans rfl)) ⟨hv.put rd_xor_apart 4 rfl (lb rfl) (lb rfl) rfl, HO⟩
    ·
      rintro L a wc ⟨hv, HO⟩ hL hc hd
      have u1 : (0 : Int) ≤ (j : Int) := by omega
      have u2 : (j : Int) < (n : Int) := by omega
      exact wpOp_val rfl rfl (ex_index rfl (hv.get 3 rfl rfl (hd 3 (by decide))) (hv.get 4 rfl rfl (hd 4 (by decide))) (by go_simp)) ⟨hv.put rd_xor_apart 5 rfl (lb rfl) (lb rfl) rfl, HO⟩
    ·
      rintro L a wc ⟨hv, HO⟩ hL hc hd
      have hw0 : wc = wr.drew := HO.out.1 (Bool.eq_false_iff.2 fun h => Bool.false_ne_true (hL.symm.trans (hc 18 h 6 (by decide))))
      have h0 : wc.cell? ⟨G, j, none⟩ = some (bv y) := (by rw [hw0]; exact hG)
      exact wpOp_val rfl rfl (ex_load rfl (hv.get 5 rfl rfl (hd 5 (by decide))) (by go_simp)) ⟨hv.put rd_xor_apart 6 rfl (lb rfl) (lb rfl) rfl, HO⟩
    ·
      rintro L a wc ⟨hv, HO⟩ hL hc hd
      exact wpOp_val rfl rfl (ex_move rfl ((hv.fixed 14 (by decide)).trans rfl)) ⟨hv.put rd_xor_apart 7 rfl (lb rfl) (lb rfl) rfl, HO⟩
    ·
      rintro L a wc ⟨hv, HO⟩ hL hc hd
      exact wpOp_val rfl rfl (ex_move rfl ((hv.fixed 4 (by decide)).trans rfl)) ⟨hv.put rd_xor_apart 8 rfl (lb rfl) (lb rfl) rfl, HO⟩
    ·
      rintro L a wc ⟨hv, HO⟩ hL hc hd
      exact wpOp_val rfl rfl (ex_move rfl ((hv.fixed 8 (by decide)).trans rfl)) ⟨hv.put rd_xor_apart 9 rfl (lb rfl) (lb rfl) rfl, HO⟩
    ·
      rintro L a wc ⟨hv, HO⟩ hL hc hd
      have u1 : (0 : Int) ≤ (r : Int) := by omega
      have u2 : (r : Int) < (N : Int) := by omega
      exact wpOp_val rfl rfl (ex_index rfl (hv.get 8 rfl rfl (hd 8 (by decide))) (hv.get 9 rfl rfl (hd 9 (by decide))) (by go_simp)) ⟨hv.put rd_xor_apart 10 rfl (lb rfl) (lb rfl) rfl, HO⟩
    ·
      rintro L a wc ⟨hv, HO⟩ hL hc hd
      have hw0 : wc = wr.drew := HO.out.1 (Bool.eq_false_iff.2 fun h => Bool.false_ne_true (hL.symm.trans (hc 18 h 11 (by decide))))
      have h0 : wc.cell? ⟨O, r, none⟩ = some (.slice (some ⟨H, 0, none⟩) n n) := (by rw [hw0]; exact hO)
      exact wpOp_val rfl rfl (ex_load rfl (hv.get 10 rfl rfl (hd 10 (by decide))) (by go_simp)) ⟨hv.put rd_xor_apart 11 rfl (lb rfl) (lb rfl) rfl, HO⟩
    ·
      rintro L a wc ⟨hv, HO⟩ hL hc hd
      exact wpOp_val rfl rfl (ex_move rfl ((hv.fixed 15 (by decide)).trans rfl)) ⟨hv.put rd_xor_apart 12 rfl (lb rfl) (lb rfl) rfl, HO⟩
    ·
      rintro L a wc ⟨hv, HO⟩ hL hc hd
      have u1 : (0 : Int) ≤ (j : Int) := by omega
      have u2 : (j : Int) < (n : Int) := by omega
      exact wpOp_val rfl rfl (ex_index rfl (hv.get 11 rfl rfl (hd 11 (by decide))) (hv.get 12 rfl rfl (hd 12 (by decide))) (by go_simp)) ⟨hv.put rd_xor_apart 13 rfl (lb rfl) (lb rfl) rfl, HO⟩
    ·
      rintro L a wc ⟨hv, HO⟩ hL hc hd
      have hw0 : wc = wr.drew := HO.out.1 (Bool.eq_false_iff.2 fun h => Bool.false_ne_true (hL.symm.trans (hc 18 h 14 (by decide))))
      have h0 : wc.cell? ⟨H, j, none⟩ = some (bv x) := (by rw [hw0]; exact hH)
      exact wpOp_val rfl rfl (ex_load rfl (hv.get 13 rfl rfl (hd 13 (by decide))) (by go_simp)) ⟨hv.put rd_xor_apart 14 rfl (lb rfl) (lb rfl) rfl, HO⟩
    ·
      rintro L a wc ⟨hv, HO⟩ hL hc hd
      have hw0 : wc = wr.drew := HO.out.1 (Bool.eq_false_iff.2 fun h => Bool.false_ne_true (hL.symm.trans (hc 18 h 15 (by decide))))
      refine wpOp_call (R := fun v w1 => v = bv (Gf.mul b0 x) ∧ wc = w1) rfl rfl (ex_call rfl rfl (map2c (hv.get 7 rfl rfl (hd 7 (by decide))) (hv.get 14 rfl rfl (hd 14 (by decide)))) (enters_of Tryd.func82 (by kernel_rfl) rfl _ _)) (by rw [hw0]; exact (mul_u8 b0 x wr.drew HT.out).mono (fun e w' h => ⟨_, h.1, rfl, h.2⟩)) ?_
      rintro v w' ⟨rfl, rfl⟩
      exact ⟨hv.put rd_xor_apart 15 rfl (lb rfl) (lb rfl) rfl, HO⟩
    ·
      rintro L a wc ⟨hv, HO⟩ hL hc hd
      have hxr : bits .xor .u8 ((y.toNat : Nat) : Int) (((Gf.mul b0 x).toNat : Nat) : Int) = ((z.toNat : Nat) : Int) := by rw [← HZ.out]; exact xor_u8 y (Gf.mul b0 x)
      exact wpOp_val rfl rfl (ex_bin rfl (hv.get 6 rfl rfl (hd 6 (by decide))) (hv.get 15 rfl rfl (hd 15 (by decide))) (by go_simp)) ⟨hv.put rd_xor_apart 16 rfl (lb rfl) (lb rfl) rfl, HO⟩
    ·
      rintro L a wc ⟨hv, HO⟩ hL hc hd
      have u1 : (0 : Int) ≤ (j : Int) := by omega
      have u2 : (j : Int) < (n : Int) := by omega
      exact wpOp_val rfl rfl (ex_index rfl (hv.get 3 rfl rfl (hd 3 (by decide))) (hv.get 4 rfl rfl (hd 4 (by decide))) (by go_simp)) ⟨hv.put rd_xor_apart 17 rfl (lb rfl) (lb rfl) rfl, HO⟩
    ·
      rintro L a wc ⟨hv, HO⟩ hL hc hd
      have hw0 : wc = wr.drew := HO.out.1 hL
      have f0 : wc.frozen? ⟨G, j, none⟩ = false := by rw [hw0]; exact hF
      have c1 : wc.cell? ⟨G, j, none⟩ = some (bv y) := by rw [hw0]; exact hG
      exact wpOp_skip rfl rfl rfl (ex_store (w' := wc.setCell ⟨G, j, none⟩ (bv z)) rfl (hv.get 17 rfl rfl (hd 17 (by decide))) (hv.get 16 rfl rfl (hd 16 (by decide))) (by clear hw0; go_simp)) ⟨hv.skip 18 rfl, Lib.hid ⟨fun h => absurd h (by simp [upd]), fun _ => by rw [hw0]⟩⟩
  · rintro L a wc ⟨hv, HO⟩ hall
    show K a wc
    have ha := act_lit a
    rw [hv.size, hv.defers] at ha
    have hl : ∀ f : Nat → Value, ((List.range (⟨#[c0, c1, c2, c3, .slice (some ⟨O, 0, none⟩) N N, c5, c6, c7, .int .i64 (r : Nat), c9, c10, c11, c12, .int .i64 (i : Nat), bv b0, .int .i64 (j : Nat), c16, c17, c18, c19, c20, c21, c22, c23, c24, c25, c26, c27, c28, c29, c30, c31, c32, c33, c34, c35, c36, c37, c38, c39, c40, c41, c42, c43, c44, c45, c46, c47, c48, c49, c50, c51, c52, c53, c54, c55, c56, c57, c58, c59, c60, c61, c62, c63, c64, c65, c66, c67, c68, c69, c70, c71, c72, c73, c74, c75, c76, c77, c78, c79, c80, c81, c82, c83, c84, c85, c86, c87, c88, c89, c90, c91, c92, c93, c94, c95, c96, c97, c98, c99, c100, c101, c102, c103, c104, c105, c106, c107, c108, c109, c110, c111, c112, c113, c114, c115, c116, c117, c118, c119, c120, c121, c122, c123, c124, c125, c126, c127, c128, c129, c130, c131, c132, c133, c134, c135, c136, c137, c138, c139, c140, c141, c142, c143, c144, c145, c146, c147, c148, c149, c150, c151, c152, c153, c154, c155, c156, c157, c158, c159, c160, c161, c162, c163, c164, c165, c166, c167, c168, c169, c170], df⟩ : Act).tmps.size).map f).toArray = #[f 0, f 1, f 2, f 3, f 4, f 5, f 6, f 7, f 8, f 9, f 10, f 11, f 12, f 13, f 14, f 15, f 16, f 17, f 18, f 19, f 20, f 21, f 22, f 23, f 24, f 25, f 26, f 27, f 28, f 29, f 30, f 31, f 32, f 33, f 34, f 35, f 36, f 37, f 38, f 39, f 40, f 41, f 42, f 43, f 44, f 45, f 46, f 47, f 48, f 49, f 50, f 51, f 52, f 53, f 54, f 55, f 56, f 57, f 58, f 59, f 60, f 61, f 62, f 63, f 64, f 65, f 66, f 67, f 68, f 69, f 70, f 71, f 72, f 73, f 74, f 75, f 76, f 77, f 78, f 79, f 80, f 81, f 82, f 83, f 84, f 85, f 86, f 87, f 88, f 89, f 90, f 91, f 92, f 93, f 94, f 95, f 96, f 97, f 98, f 99, f 100, f 101, f 102, f 103, f 104, f 105, f 106, f 107, f 108, f 109, f 110, f 111, f 112, f 113, f 114, f 115, f 116, f 117, f 118, f 119, f 120, f 121, f 122, f 123, f 124, f 125, f 126, f 127, f 128, f 129, f 130, f 131, f 132, f 133, f 134, f 135, f 136, f 137, f 138, f 139, f 140, f 141, f 142, f 143, f 144, f 145, f 146, f 147, f 148, f 149, f 150, f 151, f 152, f 153, f 154, f 155, f 156, f 157, f 158, f 159, f 160, f 161, f 162, f 163, f 164, f 165, f 166, f 167, f 168, f 169, f 170] := fun _ => rfl
    rw [hl] at ha
    simp only [hv.fixed 0 (by decide), hv.fixed 1 (by decide), hv.fixed 2 (by decide), hv.fixed 3 (by decide), hv.fixed 4 (by decide), hv.fixed 5 (by decide), hv.fixed 6 (by decide), hv.fixed 7 (by decide), hv.fixed 8 (by decide), hv.fixed 9 (by decide), hv.fixed 10 (by decide), hv.fixed 11 (by decide), hv.fixed 12 (by decide), hv.fixed 13 (by decide), hv.fixed 14 (by decide), hv.fixed 15 (by decide), hv.fixed 16 (by decide), hv.fixed 17 (by decide), hv.fixed 18 (by decide), hv.fixed 19 (by decide), hv.fixed 20 (by decide), hv.fixed 21 (by decide), hv.fixed 22 (by decide), hv.fixed 23 (by decide), hv.fixed 24 (by decide), hv.fixed 25 (by decide), hv.fixed 26 (by decide), hv.fixed 27 (by decide), hv.fixed 28 (by decide), hv.fixed 29 (by decide), hv.fixed 30 (by decide), hv.fixed 31 (by decide), hv.fixed 32 (by decide), hv.fixed 33 (by decide), hv.fixed 34 (by decide), hv.fixed 35 (by decide), hv.fixed 36 (by decide), hv.fixed 37 (by decide), hv.fixed 38 (by decide), hv.fixed 39 (by decide), hv.fixed 40 (by decide), hv.fixed 41 (by decide), hv.fixed 42 (by decide), hv.fixed 43 (by decide), hv.fixed 44 (by decide), hv.fixed 45 (by decide), hv.fixed 46 (by decide), hv.fixed 47 (by decide), hv.fixed 48 (by decide), hv.fixed 49 (by decide), hv.fixed 50 (by decide), hv.fixed 51 (by decide), hv.fixed 52 (by decide), hv.fixed 53 (by decide), hv.fixed 54 (by decide), hv.fixed 55 (by decide), hv.fixed 56 (by decide), hv.fixed 57 (by decide), hv.fixed 58 (by decide), hv.fixed 59 (by decide), hv.fixed 60 (by decide), hv.fixed 61 (by decide), hv.fixed 62 (by decide), hv.fixed 63 (by decide), hv.fixed 64 (by decide), hv.fixed 65 (by decide), hv.fixed 66 (by decide), hv.fixed 67 (by decide), hv.fixed 68 (by decide), hv.fixed 69 (by decide), hv.fixed 70 (by decide), hv.fixed 71 (by decide), hv.fixed 72 (by decide), hv.fixed 73 (by decide), hv.fixed 74 (by decide), hv.fixed 75 (by decide), hv.fixed 76 (by decide), hv.fixed 77 (by decide), hv.fixed 78 (by decide), hv.fixed 79 (by decide), hv.fixed 80 (by decide), hv.fixed 81 (by decide), hv.fixed 82 (by decide), hv.fixed 83 (by decide), hv.fixed 84 (by decide), hv.fixed 85 (by decide), hv.fixed 86 (by decide), hv.fixed 87 (by decide), hv.fixed 88 (by decide), hv.fixed 89 (by decide), hv.fixed 90 (by decide), hv.fixed 91 (by decide), hv.fixed 92 (by decide), hv.fixed 93 (by decide), hv.fixed 94 (by decide), hv.fixed 95 (by decide), hv.fixed 96 (by decide), hv.fixed 97 (by decide), hv.fixed 98 (by decide), hv.fixed 99 (by decide), hv.fixed 100 (by decide), hv.fixed 101 (by decide), hv.fixed 102 (by decide), hv.fixed 103 (by decide), hv.fixed 104 (by decide), hv.fixed 105 (by decide), hv.fixed 106 (by decide), hv.fixed 107 (by decide), hv.fixed 108 (by decide), hv.fixed 109 (by decide), hv.fixed 110 (by decide), hv.fixed 111 (by decide), hv.fixed 112 (by decide), hv.fixed 113 (by decide), hv.fixed 114 (by decide), hv.fixed 115 (by decide), hv.fixed 116 (by decide), hv.fixed 117 (by decide), hv.fixed 118 (by decide), hv.fixed 119 (by decide), hv.fixed 120 (by decide), hv.fixed 121 (by decide), hv.fixed 122 (by decide), hv.fixed 123 (by decide), hv.fixed 124 (by decide), hv.fixed 125 (by decide), hv.fixed 126 (by decide), hv.fixed 127 (by decide), hv.fixed 128 (by decide), hv.fixed 129 (by decide), hv.fixed 130 (by decide), hv.fixed 131 (by decide), hv.fixed 132 (by decide), hv.fixed 133 (by decide), hv.fixed 134 (by decide), hv.fixed 135 (by decide), hv.fixed 136 (by decide), hv.fixed 137 (by decide), hv.fixed 138 (by decide), hv.fixed 139 (by decide), hv.fixed 140 (by decide), hv.fixed 159 (by decide), hv.fixed 160 (by decide), hv.fixed 161 (by decide), hv.fixed 162 (by decide), hv.fixed 163 (by decide), hv.fixed 164 (by decide), hv.fixed 165 (by decide), hv.fixed 166 (by decide), hv.fixed 167 (by decide), hv.fixed 168 (by decide), hv.fixed 169 (by decide), hv.fixed 170 (by decide)] at ha
    rw [ha]
    exact hK _ _ _ _ _ _ _ _ _ _ _ _ _ _ _ _ _ _ wc (HO.out.2 (hall 18 (by decide)))
noncomputable def rd_swap_code : Code := ((Tryd.f89.body.bind (regionOf 17)).getD .skip)
def rd_swap_dsts : List (Option Nat) := [some 65, some 66, some 67, some 68, some 69, some 70, some 71, some 72, some 73, some 74, some 75, some 76, some 77, none, some 78, none]
theorem rd_swap_apart : apartD rd_swap_dsts = true := by decide +kernel
set_option maxRecDepth 1000000 in
set_option maxHeartbeats 16000000 in
theorem rd_swap (wr : World) (O N r k H G n1 n2 : Nat) (hr : r < N) (hk : k < N) (hO : wr.cell? ⟨O, r, none⟩ = some (.slice (some ⟨H, 0, none⟩) n1 n1)) (hP : wr.cell? ⟨O, k, none⟩ = some (.slice (some ⟨G, 0, none⟩) n2 n2)) (hF : wr.frozen? ⟨O, r, none⟩ = false) (hP2 : ((wr.drew).setCell ⟨O, r, none⟩ (.slice (some ⟨G, 0, none⟩) n2 n2)).cell? ⟨O, k, none⟩ = some (.slice (some ⟨G, 0, none⟩) n2 n2)) (hF2 : ((wr.drew).setCell ⟨O, r, none⟩ (.slice (some ⟨G, 0, none⟩) n2 n2)).frozen? ⟨O, k, none⟩ = false) (c0 c1 c2 c3 c5 c6 c7 c10 c11 c12 c13 c14 c15 c16 c17 c18 c19 c20 c21 c22 c23 c24 c25 c26 c27 c28 c29 c30 c31 c32 c33 c34 c35 c36 c37 c38 c39 c40 c41 c42 c43 c44 c45 c46 c47 c48 c49 c50 c51 c52 c53 c54 c55 c56 c57 c58 c59 c60 c61 c62 c63 c64 c65 c66 c67 c68 c69 c70 c71 c72 c73 c74 c75 c76 c77 c78 c79 c80 c81 c82 c83 c84 c85 c86 c87 c88 c89 c90 c91 c92 c93 c94 c95 c96 c97 c98 c99 c100 c101 c102 c103 c104 c105 c106 c107 c108 c109 c110 c111 c112 c113 c114 c115 c116 c117 c118 c119 c120 c121 c122 c123 c124 c125 c126 c127 c128 c129 c130 c131 c132 c133 c134 c135 c136 c137 c138 c139 c140 c141 c142 c143 c144 c145 c146 c147 c148 c149 c150 c151 c152 c153 c154 c155 c156 c157 c158 c159 c160 c161 c162 c163 c164 c165 c166 c167 c168 c169 c170 : Value) (df : List Deferred) (K : Act → World → Prop)
    (hK : ∀  (u65 u66 u67 u68 u69 u70 u71 u72 u73 u74 u75 u76 u77 u78 : Value) (wx : World), wx = ((wr.drew).setCell ⟨O, r, none⟩ (.slice (some ⟨G, 0, none⟩) n2 n2)).setCell ⟨O, k, none⟩ (.slice (some ⟨H, 0, none⟩) n1 n1) → K ⟨#[c0, c1, c2, c3, .slice (some ⟨O, 0, none⟩) N N, c5, c6, c7, .int .i64 (r : Nat), .int .i64 (k : Nat), c10, c11, c12, c13, c14, c15, c16, c17, c18, c19, c20, c21, c22, c23, c24, c25, c26, c27, c28, c29, c30, c31, c32, c33, c34, c35, c36, c37, c38, c39, c40, c41, c42, c43, c44, c45, c46, c47, c48, c49, c50, c51, c52, c53, c54, c55, c56, c57, c58, c59, c60, c61, c62, c63, c64, u65, u66, u67, u68, u69, u70, u71, u72, u73, u74, u75, u76, u77, u78, c79, c80, c81, c82, c83, c84, c85, c86, c87, c88, c89, c90, c91, c92, c93, c94, c95, c96, c97, c98, c99, c100, c101, c102, c103, c104, c105, c106, c107, c108, c109, c110, c111, c112, c113, c114, c115, c116, c117, c118, c119, c120, c121, c122, c123, c124, c125, c126, c127, c128, c129, c130, c131, c132, c133, c134, c135, c136, c137, c138, c139, c140, c141, c142, c143, c144, c145, c146, c147, c148, c149, c150, c151, c152, c153, c154, c155, c156, c157, c158, c159, c160, c161, c162, c163, c164, c165, c166, c167, c168, c169, c170], df⟩ wx) :
    Code.wp Tryd.prog rd_swap_code (AtEnd K) ⟨#[c0, c1, c2, c3, .slice (some ⟨O, 0, none⟩) N N, c5, c6, c7, .int .i64 (r : Nat), .int .i64 (k : Nat), c10, c11, c12, c13, c14, c15, c16, c17, c18, c19, c20, c21, c22, c23, c24, c25, c26, c27, c28, c29, c30, c31, c32, c33, c34, c35, c36, c37, c38, c39, c40, c41, c42, c43, c44, c45, c46, c47, c48, c49, c50, c51, c52, c53, c54, c55, c56, c57, c58, c59, c60, c61, c62, c63, c64, c65, c66, c67, c68, c69, c70, c71, c72, c73, c74, c75, c76, c77, c78, c79, c80, c81, c82, c83, c84, c85, c86, c87, c88, c89, c90, c91, c92, c93, c94, c95, c96, c97, c98, c99, c100, c101, c102, c103, c104, c105, c106, c107, c108, c109, c110, c111, c112, c113, c114, c115, c116, c117, c118, c119, c120, c121, c122, c123, c124, c125, c126, c127, c128, c129, c130, c131, c132, c133, c134, c135, c136, c137, c138, c139, c140, c141, c142, c143, c144, c145, c146, c147, c148, c149, c150, c151, c152, c153, c154, c155, c156, c157, c158, c159, c160, c161, c162, c163, c164, c165, c166, c167, c168, c169, c170], df⟩ wr := by
  conv => arg 2; whnf
  refine region_inv (by kernel_rfl) [[], [], [], [], [], [], [4, 5], [6], [], [], [8, 9], [10], [0, 1, 0, 1, 4, 5, 6, 7, 11], [12, 7, 0, 1, 4, 5, 6, 7, 11], [2, 3, 0, 1, 2, 3, 4, 5, 6, 7, 8, 9, 10, 11, 12, 13], [14, 11, 13, 0, 1, 2, 3, 4, 5, 6, 7, 8, 9, 10, 11, 12, 13]] (by kernel_rfl) [0, 1, 2, 3, 4, 5, 6, 7, 8, 9, 10, 11, 12, 13, 14, 15] (by decide +kernel) (by decide +kernel) (by decide +kernel) (fun L a wc => Inv rd_swap_dsts [.slice (some ⟨O, 0, none⟩) N N, .int .i64 (r : Nat), .slice (some ⟨O, 0, none⟩) N N, .int .i64 (k : Nat), .slice (some ⟨O, 0, none⟩) N N, .int .i64 (k : Nat), .pointer (some ⟨O, k, none⟩), .slice (some ⟨G, 0, none⟩) n2 n2, .slice (some ⟨O, 0, none⟩) N N, .int .i64 (r : Nat), .pointer (some ⟨O, r, none⟩), .slice (some ⟨H, 0, none⟩) n1 n1, .pointer (some ⟨O, r, none⟩), undef, .pointer (some ⟨O, k, none⟩), undef] ⟨#[c0, c1, c2, c3, .slice (some ⟨O, 0, none⟩) N N, c5, c6, c7, .int .i64 (r : Nat), .int .i64 (k : Nat), c10, c11, c12, c13, c14, c15, c16, c17, c18, c19, c20, c21, c22, c23, c24, c25, c26, c27, c28, c29, c30, c31, c32, c33, c34, c35, c36, c37, c38, c39, c40, c41, c42, c43, c44, c45, c46, c47, c48, c49, c50, c51, c52, c53, c54, c55, c56, c57, c58, c59, c60, c61, c62, c63, c64, c65, c66, c67, c68, c69, c70, c71, c72, c73, c74, c75, c76, c77, c78, c79, c80, c81, c82, c83, c84, c85, c86, c87, c88, c89, c90, c91, c92, c93, c94, c95, c96, c97, c98, c99, c100, c101, c102, c103, c104, c105, c106, c107, c108, c109, c110, c111, c112, c113, c114, c115, c116, c117, c118, c119, c120, c121, c122, c123, c124, c125, c126, c127, c128, c129, c130, c131, c132, c133, c134, c135, c136, c137, c138, c139, c140, c141, c142, c143, c144, c145, c146, c147, c148, c149, c150, c151, c152, c153, c154, c155, c156, c157, c158, c159, c160, c161, c162, c163, c164, c165, c166, c167, c168, c169, c170], df⟩ L a ∧ Hid ((L 13 = false → wc = wr.drew) ∧ (L 13 = true → L 15 = false → wc = (wr.drew).setCell ⟨O, r, none⟩ (.slice (some ⟨G, 0, none⟩) n2 n2)) ∧ (L 15 = true → wc = ((wr.drew).setCell ⟨O, r, none⟩ (.slice (some ⟨G, 0, none⟩) n2 n2)).setCell ⟨O, k, none⟩ (.slice (some ⟨H, 0, none⟩) n1 n1)))) ⟨Inv.start, Lib.hid ⟨fun _ => rfl, fun h => (by cases h), fun h => by cases h⟩⟩ ?_ ?_
  · refine ⟨?_, ?_, ?_, ?_, ?_, ?_, ?_, ?_, ?_, ?_, ?_, ?_, ?_, ?_, ?_, ?_, trivial⟩
    ·
      rintro L a wc ⟨hv, HO⟩ hL hc hd
      exact wpOp_val rfl rfl (ex_move rfl ((hv.fixed 4 (by decide)).trans rfl)) ⟨hv.put rd_swap_apart 0 rfl (lb rfl) (lb rfl) rfl, HO⟩
    ·
      rintro L a wc ⟨hv, HO⟩ hL hc hd
      exact wpOp_val rfl rfl (ex_move rfl ((hv.fixed 8 (by decide)).trans rfl)) ⟨hv.put rd_swap_apart 1 rfl (lb rfl) (lb rfl) rfl, HO⟩
    ·
      rintro L a wc ⟨hv, HO⟩ hL hc hd
      exact wpOp_val rfl rfl (ex_move rfl ((hv.fixed 4 (by decide)).trans rfl)) ⟨hv.put rd_swap_apart 2 rfl (lb rfl) (lb rfl) rfl, HO⟩
    ·
      rintro L a wc ⟨hv, HO⟩ hL hc hd
      exact wpOp_val rfl rfl (ex_move rfl ((hv.fixed 9 (by decide)).trans rfl)) ⟨hv.put rd_swap_apart 3 rfl (lb rfl) (lb rfl) rfl, HO⟩
    ·
      rintro L a wc ⟨hv, HO⟩ hL hc hd
      exact wpOp_val rfl rfl (ex_move rfl ((hv.fixed 4 (by decide)).trans rfl)) ⟨hv.put rd_swap_apart 4 rfl (lb rfl) (lb rfl) rfl, HO⟩
    ·
      rintro L a wc ⟨hv, HO⟩ hL hc hd
      exact wpOp_val rfl rfl (ex_move rfl ((hv.fixed 9 (by decide)).trans rfl)) ⟨hv.put rd_swap_apart 5 rfl (lb rfl) (lb rfl) rfl, HO⟩
    ·
      rintro L a wc ⟨hv, HO⟩ hL hc hd
      have u1 : (0 : Int) ≤ (k : Int) := by omega
      have u2 : (k : Int) < (N : Int) := by omega
      exact wpOp_val rfl rfl (ex_index rfl (hv.get 4 rfl rfl (hd 4 (by decide))) (hv.get 5 rfl rfl (hd 5 (by decide))) (by go_simp)) ⟨hv.put rd_swap_apart 6 rfl (lb rfl) (lb rfl) rfl, HO⟩
    ·
      rintro L a wc ⟨hv, HO⟩ hL hc hd
      have hw0 : wc = wr.drew := HO.out.1 (Bool.eq_false_iff.2 fun h => Bool.false_ne_true (hL.symm.trans (hc 13 h 7 (by decide))))
      have h0 : wc.cell? ⟨O, k, none⟩ = some (.slice (some ⟨G, 0, none⟩) n2 n2) := (by rw [hw0]; exact hP)
      exact wpOp_val rfl rfl (ex_load rfl (hv.get 6 rfl rfl (hd 6 (by decide))) (by go_simp)) ⟨hv.put rd_swap_apart 7 rfl (lb rfl) (lb rfl) rfl, HO⟩
    ·
      rintro L a wc ⟨hv, HO⟩ hL hc hd
      exact wpOp_val rfl rfl (ex_move rfl ((hv.fixed 4 (by decide)).trans rfl)) ⟨hv.put rd_swap_apart 8 rfl (lb rfl) (lb rfl) rfl, HO⟩
    ·
      rintro L a wc ⟨hv, HO⟩ hL hc hd
      exact wpOp_val rfl rfl (ex_move rfl ((hv.fixed 8 (by decide)).trans rfl)) ⟨hv.put rd_swap_apart 9 rfl (lb rfl) (lb rfl) rfl, HO⟩
    ·
      rintro L a wc ⟨hv, HO⟩ hL hc hd
      have u1 : (0 : Int) ≤ (r : Int) := by omega
      have u2 : (r : Int) < (N : Int) := by omega
      exact wpOp_val rfl rfl (ex_index rfl (hv.get 8 rfl rfl (hd 8 (by decide))) (hv.get 9 rfl rfl (hd 9 (by decide))) (by go_simp)) ⟨hv.put rd_swap_apart 10 rfl (lb rfl) (lb rfl) rfl, HO⟩
    ·
      rintro L a wc ⟨hv, HO⟩ hL hc hd
      have hw0 : wc = wr.drew := HO.out.1 (Bool.eq_false_iff.2 fun h => Bool.false_ne_true (hL.symm.trans (hc 13 h 11 (by decide))))
      have h0 : wc.cell? ⟨O, r, none⟩ = some (.slice (some ⟨H, 0, none⟩) n1 n1) := (by rw [hw0]; exact hO)
      exact wpOp_val rfl rfl (ex_load rfl (hv.get 10 rfl rfl (hd 10 (by decide))) (by go_simp)) ⟨hv.put rd_swap_apart 11 rfl (lb rfl) (lb rfl) rfl, HO⟩
    ·
      rintro L a wc ⟨hv, HO⟩ hL hc hd
      have u1 : (0 : Int) ≤ (r : Int) := by omega
      have u2 : (r : Int) < (N : Int) := by omega
      exact wpOp_val rfl rfl (ex_index rfl (hv.get 0 rfl rfl (hd 0 (by decide))) (hv.get 1 rfl rfl (hd 1 (by decide))) (by go_simp)) ⟨hv.put rd_swap_apart 12 rfl (lb rfl) (lb rfl) rfl, HO⟩
    ·
      rintro L a wc ⟨hv, HO⟩ hL hc hd
      have hw0 : wc = wr.drew := HO.out.1 hL
      have f0 : wc.frozen? ⟨O, r, none⟩ = false := by rw [hw0]; exact hF
      have c1 : wc.cell? ⟨O, r, none⟩ = some (.slice (some ⟨H, 0, none⟩) n1 n1) := by rw [hw0]; exact hO
      exact wpOp_skip rfl rfl rfl (ex_store (w' := wc.setCell ⟨O, r, none⟩ (.slice (some ⟨G, 0, none⟩) n2 n2)) rfl (hv.get 12 rfl rfl (hd 12 (by decide))) (hv.get 7 rfl rfl (hd 7 (by decide))) (by clear hw0; go_simp)) ⟨hv.skip 13 rfl, Lib.hid ⟨fun h => absurd h (by simp [upd]), fun _ _ => by rw [hw0], fun h => absurd (hc 15 h 13 (by decide)) (by rw [hL]; decide)⟩⟩
    ·
      rintro L a wc ⟨hv, HO⟩ hL hc hd
      have u1 : (0 : Int) ≤ (k : Int) := by omega
      have u2 : (k : Int) < (N : Int) := by omega
      exact wpOp_val rfl rfl (ex_index rfl (hv.get 2 rfl rfl (hd 2 (by decide))) (hv.get 3 rfl rfl (hd 3 (by decide))) (by go_simp)) ⟨hv.put rd_swap_apart 14 rfl (lb rfl) (lb rfl) rfl, HO⟩
    ·
      rintro L a wc ⟨hv, HO⟩ hL hc hd
      have hw0 : wc = (wr.drew).setCell ⟨O, r, none⟩ (.slice (some ⟨G, 0, none⟩) n2 n2) := HO.out.2.1 (hd 13 (by decide)) hL
      have f0 : wc.frozen? ⟨O, k, none⟩ = false := by rw [hw0]; exact hF2
      have c1 : wc.cell? ⟨O, k, none⟩ = some (.slice (some ⟨G, 0, none⟩) n2 n2) := by rw [hw0]; exact hP2
      exact wpOp_skip rfl rfl rfl (ex_store (w' := wc.setCell ⟨O, k, none⟩ (.slice (some ⟨H, 0, none⟩) n1 n1)) rfl (hv.get 14 rfl rfl (hd 14 (by decide))) (hv.get 11 rfl rfl (hd 11 (by decide))) (by clear hw0; go_simp)) ⟨hv.skip 15 rfl, Lib.hid ⟨fun h => absurd (h.symm.trans (show upd L 15 13 = true from hd 13 (by decide))) (by decide), fun _ h => absurd h (by simp [upd]), fun _ => by rw [hw0]⟩⟩
  · rintro L a wc ⟨hv, HO⟩ hall
    show K a wc
    have ha := act_lit a
    rw [hv.size, hv.defers] at ha
    have hl : ∀ f : Nat → Value, ((List.range (⟨#[c0, c1, c2, c3, .slice (some ⟨O, 0, none⟩) N N, c5, c6, c7, .int .i64 (r : Nat), .int .i64 (k : Nat), c10, c11, c12, c13, c14, c15, c16, c17, c18, c19, c20, c21, c22, c23, c24, c25, c26, c27, c28, c29, c30, c31, c32, c33, c34, c35, c36, c37, c38, c39, c40, c41, c42, c43, c44, c45, c46, c47, c48, c49, c50, c51, c52, c53, c54, c55, c56, c57, c58, c59, c60, c61, c62, c63, c64, c65, c66, c67, c68, c69, c70, c71, c72, c73, c74, c75, c76, c77, c78, c79, c80, c81, c82, c83, c84, c85, c86, c87, c88, c89, c90, c91, c92, c93, c94, c95, c96, c97, c98, c99, c100, c101, c102, c103, c104, c105, c106, c107, c108, c109, c110, c111, c112, c113, c114, c115, c116, c117, c118, c119, c120, c121, c122, c123, c124, c125, c126, c127, c128, c129, c130, c131, c132, c133, c134, c135, c136, c137, c138, c139, c140, c141, c142, c143, c144, c145, c146, c147, c148, c149, c150, c151, c152, c153, c154, c155, c156, c157, c158, c159, c160, c161, c162, c163, c164, c165, c166, c167, c168, c169, c170], df⟩ : Act).tmps.size).map f).toArray = #[f 0, f 1, f 2, f 3, f 4, f 5, f 6, f 7, f 8, f 9, f 10, f 11, f 12, f 13, f 14, f 15, f 16, f 17, f 18, f 19, f 20, f 21, f 22, f 23, f 24, f 25, f 26, f 27, f 28, f 29, f 30, f 31, f 32, f 33, f 34, f 35, f 36, f 37, f 38, f 39, f 40, f 41, f 42, f 43, f 44, f 45, f 46, f 47, f 48, f 49, f 50, f 51, f 52, f 53, f 54, f 55, f 56, f 57, f 58, f 59, f 60, f 61, f 62, f 63, f 64, f 65, f 66, f 67, f 68, f 69, f 70, f 71, f 72, f 73, f 74, f 75, f 76, f 77, f 78, f 79, f 80, f 81, f 82, f 83, f 84, f 85, f 86, f 87, f 88, f 89, f 90, f 91, f 92, f 93, f 94, f 95, f 96, f 97, f 98, f 99, f 100, f 101, f 102, f 103, f 104, f 105, f 106, f 107, f 108, f 109, f 110, f 111, f 112, f 113, f 114, f 115, f 116, f 117, f 118, f 119, f 120, f 121, f 122, f 123, f 124, f 125, f 126, f 127, f 128, f 129, f 130, f 131, f 132, f 133, f 134, f 135, f 136, f 137, f 138, f 139, f 140, f 141, f 142, f 143, f 144, f 145, f 146, f 147, f 148, f 149, f 150, f 151, f 152, f 153, f 154, f 155, f 156, f 157, f 158, f 159, f 160, f 161, f 162, f 163, f 164, f 165, f 166, f 167, f 168, f 169, f 170] := fun _ => rfl
    rw [hl] at ha
    simp only [hv.fixed 0 (by decide), hv.fixed 1 (by decide), hv.fixed 2 (by decide), hv.fixed 3 (by decide), hv.fixed 4 (by decide), hv.fixed 5 (by decide), hv.fixed 6 (by decide), hv.fixed 7 (by decide), hv.fixed 8 (by decide), hv.fixed 9 (by decide), hv.fixed 10 (by decide), hv.fixed 11 (by decide), hv.fixed 12 (by decide), hv.fixed 13 (by decide), hv.fixed 14 (by decide), hv.fixed 15 (by decide), hv.fixed 16 (by decide), hv.fixed 17 (by decide), hv.fixed 18 (by decide), hv.fixed 19 (by decide), hv.fixed 20 (by decide), hv.fixed 21 (by decide), hv.fixed 22 (by decide), hv.fixed 23 (by decide), hv.fixed 24 (by decide), hv.fixed 25 (by decide), hv.fixed 26 (by decide), hv.fixed 27 (by decide), hv.fixed 28 (by decide), hv.fixed 29 (by decide), hv.fixed 30 (by decide), hv.fixed 31 (by decide), hv.fixed 32 (by decide), hv.fixed 33 (by decide), hv.fixed 34 (by decide), hv.fixed 35 (by decide), hv.fixed 36 (by decide), hv.fixed 37 (by decide), hv.fixed 38 (by decide), hv.fixed 39 (by decide), hv.fixed 40 (by decide), hv.fixed 41 (by decide), hv.fixed 42 (by decide), hv.fixed 43 (by decide), hv.fixed 44 (by decide), hv.fixed 45 (by decide), hv.fixed 46 (by decide), hv.fixed 47 (by decide), hv.fixed 48 (by decide), hv.fixed 49 (by decide), hv.fixed 50 (by decide), hv.fixed 51 (by decide), hv.fixed 52 (by decide), hv.fixed 53 (by decide), hv.fixed 54 (by decide), hv.fixed 55 (by decide), hv.fixed 56 (by decide), hv.fixed 57 (by decide), hv.fixed 58 (by decide), hv.fixed 59 (by decide), hv.fixed 60 (by decide), hv.fixed 61 (by decide), hv.fixed 62 (by decide), hv.fixed 63 (by decide), hv.fixed 64 (by decide), hv.fixed 79 (by decide), hv.fixed 80 (by decide), hv.fixed 81 (by decide), hv.fixed 82 (by decide), hv.fixed 83 (by decide), hv.fixed 84 (by decide), hv.fixed 85 (by decide), hv.fixed 86 (by decide), hv.fixed 87 (by decide), hv.fixed 88 (by decide), hv.fixed 89 (by decide), hv.fixed 90 (by decide), hv.fixed 91 (by decide), hv.fixed 92 (by decide), hv.fixed 93 (by decide), hv.fixed 94 (by decide), hv.fixed 95 (by decide), hv.fixed 96 (by decide), hv.fixed 97 (by decide), hv.fixed 98 (by decide), hv.fixed 99 (by decide), hv.fixed 100 (by decide), hv.fixed 101 (by decide), hv.fixed 102 (by decide), hv.fixed 103 (by decide), hv.fixed 104 (by decide), hv.fixed 105 (by decide), hv.fixed 106 (by decide), hv.fixed 107 (by decide), hv.fixed 108 (by decide), hv.fixed 109 (by decide), hv.fixed 110 (by decide), hv.fixed 111 (by decide), hv.fixed 112 (by decide), hv.fixed 113 (by decide), hv.fixed 114 (by decide), hv.fixed 115 (by decide), hv.fixed 116 (by decide), hv.fixed 117 (by decide), hv.fixed 118 (by decide), hv.fixed 119 (by decide), hv.fixed 120 (by decide), hv.fixed 121 (by decide), hv.fixed 122 (by decide), hv.fixed 123 (by decide), hv.fixed 124 (by decide), hv.fixed 125 (by decide), hv.fixed 126 (by decide), hv.fixed 127 (by decide), hv.fixed 128 (by decide), hv.fixed 129 (by decide), hv.fixed 130 (by decide), hv.fixed 131 (by decide), hv.fixed 132 (by decide), hv.fixed 133 (by decide), hv.fixed 134 (by decide), hv.fixed 135 (by decide), hv.fixed 136 (by decide), hv.fixed 137 (by decide), hv.fixed 138 (by decide), hv.fixed 139 (by decide), hv.fixed 140 (by decide), hv.fixed 141 (by decide), hv.fixed 142 (by decide), hv.fixed 143 (by decide), hv.fixed 144 (by decide), hv.fixed 145 (by decide), hv.fixed 146 (by decide), hv.fixed 147 (by decide), hv.fixed 148 (by decide), hv.fixed 149 (by decide), hv.fixed 150 (by decide), hv.fixed 151 (by decide), hv.fixed 152 (by decide), hv.fixed 153 (by decide), hv.fixed 154 (by decide), hv.fixed 155 (by decide), hv.fixed 156 (by decide), hv.fixed 157 (by decide), hv.fixed 158 (by decide), hv.fixed 159 (by decide), hv.fixed 160 (by decide), hv.fixed 161 (by decide), hv.fixed 162 (by decide), hv.fixed 163 (by decide), hv.fixed 164 (by decide), hv.fixed 165 (by decide), hv.fixed 166 (by decide), hv.fixed 167 (by decide), hv.fixed 168 (by decide), hv.fixed 169 (by decide), hv.fixed 170 (by decide)] at ha
    rw [ha]
    exact hK _ _ _ _ _ _ _ _ _ _ _ _ _ _ wc (HO.out.2.2 (hall 15 (by decide)))
noncomputable def rd_copy_code : Code := ((Tryd.f89.body.bind (regionOf 6)).getD .skip)
def rd_copy_dsts : List (Option Nat) := [some 33, some 34, some 35, some 36, some 37, some 38, some 39, some 40, some 41]
theorem rd_copy_apart : apartD rd_copy_dsts = true := by decide +kernel
set_option maxRecDepth 1000000 in
set_option maxHeartbeats 16000000 in
theorem rd_copy (w0 wr : World) (O N n i H cP cR : Nat) (pa ra : Addr) (x : List UInt8) (LL : List LRow) (q : Nat) (xs : List Value) (hi : i < N) (hn : x.length = n) (hO : wr.cell? ⟨O, i, none⟩ = some (.slice (some ⟨H, 0, none⟩) n n)) (hP : wr.cell? (pa.add i) = some (.slice (some ra) n cR)) (HR : Hid (Rd wr (some ra) (x.map bv))) (HL : Hid (Owns w0 wr LL)) (hq : LL[q]? = some ⟨.slice (some ⟨H, 0, none⟩) n n, 5, 1, n, xs⟩) (c1 c2 c3 c6 c7 c8 c9 c10 c11 c12 c13 c14 c15 c16 c17 c18 c19 c20 c21 c22 c23 c24 c25 c26 c27 c28 c29 c30 c31 c32 c33 c34 c35 c36 c37 c38 c39 c40 c41 c42 c43 c44 c45 c46 c47 c48 c49 c50 c51 c52 c53 c54 c55 c56 c57 c58 c59 c60 c61 c62 c63 c64 c65 c66 c67 c68 c69 c70 c71 c72 c73 c74 c75 c76 c77 c78 c79 c80 c81 c82 c83 c84 c85 c86 c87 c88 c89 c90 c91 c92 c93 c94 c95 c96 c97 c98 c99 c100 c101 c102 c103 c104 c105 c106 c107 c108 c109 c110 c111 c112 c113 c114 c115 c116 c117 c118 c119 c120 c121 c122 c123 c124 c125 c126 c127 c128 c129 c130 c131 c132 c133 c134 c135 c136 c137 c138 c139 c140 c141 c142 c143 c144 c145 c146 c147 c148 c149 c150 c151 c152 c153 c154 c155 c156 c157 c158 c159 c160 c161 c162 c163 c164 c165 c166 c167 c168 c169 c170 : Value) (df : List Deferred) (K : Act → World → Prop)
    (hK : ∀  (u33 u34 u35 u36 u37 u38 u39 u40 u41 : Value) (wx : World), Owns w0 wx (LL.set q ⟨.slice (some ⟨H, 0, none⟩) n n, 5, 1, n, x.map bv⟩) → K ⟨#[.slice (some pa) N cP, c1, c2, c3, .slice (some ⟨O, 0, none⟩) N N, .int .i64 (i : Nat), c6, c7, c8, c9, c10, c11, c12, c13, c14, c15, c16, c17, c18, c19, c20, c21, c22, c23, c24, c25, c26, c27, c28, c29, c30, c31, c32, u33, u34, u35, u36, u37, u38, u39, u40, u41, c42, c43, c44, c45, c46, c47, c48, c49, c50, c51, c52, c53, c54, c55, c56, c57, c58, c59, c60, c61, c62, c63, c64, c65, c66, c67, c68, c69, c70, c71, c72, c73, c74, c75, c76, c77, c78, c79, c80, c81, c82, c83, c84, c85, c86, c87, c88, c89, c90, c91, c92, c93, c94, c95, c96, c97, c98, c99, c100, c101, c102, c103, c104, c105, c106, c107, c108, c109, c110, c111, c112, c113, c114, c115, c116, c117, c118, c119, c120, c121, c122, c123, c124, c125, c126, c127, c128, c129, c130, c131, c132, c133, c134, c135, c136, c137, c138, c139, c140, c141, c142, c143, c144, c145, c146, c147, c148, c149, c150, c151, c152, c153, c154, c155, c156, c157, c158, c159, c160, c161, c162, c163, c164, c165, c166, c167, c168, c169, c170], df⟩ wx) :
    Code.wp Tryd.prog rd_copy_code (AtEnd K) ⟨#[.slice (some pa) N cP, c1, c2, c3, .slice (some ⟨O, 0, none⟩) N N, .int .i64 (i : Nat), c6, c7, c8, c9, c10, c11, c12, c13, c14, c15, c16, c17, c18, c19, c20, c21, c22, c23, c24, c25, c26, c27, c28, c29, c30, c31, c32, c33, c34, c35, c36, c37, c38, c39, c40, c41, c42, c43, c44, c45, c46, c47, c48, c49, c50, c51, c52, c53, c54, c55, c56, c57, c58, c59, c60, c61, c62, c63, c64, c65, c66, c67, c68, c69, c70, c71, c72, c73, c74, c75, c76, c77, c78, c79, c80, c81, c82, c83, c84, c85, c86, c87, c88, c89, c90, c91, c92, c93, c94, c95, c96, c97, c98, c99, c100, c101, c102, c103, c104, c105, c106, c107, c108, c109, c110, c111, c112, c113, c114, c115, c116, c117, c118, c119, c120, c121, c122, c123, c124, c125, c126, c127, c128, c129, c130, c131, c132, c133, c134, c135, c136, c137, c138, c139, c140, c141, c142, c143, c144, c145, c146, c147, c148, c149, c150, c151, c152, c153, c154, c155, c156, c157, c158, c159, c160, c161, c162, c163, c164, c165, c166, c167, c168, c169, c170], df⟩ wr := by
  conv => arg 2; whnf
  refine region_inv (by kernel_rfl) [[], [], [0, 1], [2], [], [], [4, 5], [6], [3, 7]] (by kernel_rfl) [0, 1, 2, 3, 4, 5, 6, 7, 8] (by decide +kernel) (by decide +kernel) (by decide +kernel) (fun L a wc => Inv rd_copy_dsts [.slice (some ⟨O, 0, none⟩) N N, .int .i64 (i : Nat), .pointer (some ⟨O, i, none⟩), .slice (some ⟨H, 0, none⟩) n n, .slice (some pa) N cP, .int .i64 (i : Nat), .pointer (some (pa.add i)), .slice (some ra) n cR, .int .i64 (n : Nat)] ⟨#[.slice (some pa) N cP, c1, c2, c3, .slice (some ⟨O, 0, none⟩) N N, .int .i64 (i : Nat), c6, c7, c8, c9, c10, c11, c12, c13, c14, c15, c16, c17, c18, c19, c20, c21, c22, c23, c24, c25, c26, c27, c28, c29, c30, c31, c32, c33, c34, c35, c36, c37, c38, c39, c40, c41, c42, c43, c44, c45, c46, c47, c48, c49, c50, c51, c52, c53, c54, c55, c56, c57, c58, c59, c60, c61, c62, c63, c64, c65, c66, c67, c68, c69, c70, c71, c72, c73, c74, c75, c76, c77, c78, c79, c80, c81, c82, c83, c84, c85, c86, c87, c88, c89, c90, c91, c92, c93, c94, c95, c96, c97, c98, c99, c100, c101, c102, c103, c104, c105, c106, c107, c108, c109, c110, c111, c112, c113, c114, c115, c116, c117, c118, c119, c120, c121, c122, c123, c124, c125, c126, c127, c128, c129, c130, c131, c132, c133, c134, c135, c136, c137, c138, c139, c140, c141, c142, c143, c144, c145, c146, c147, c148, c149, c150, c151, c152, c153, c154, c155, c156, c157, c158, c159, c160, c161, c162, c163, c164, c165, c166, c167, c168, c169, c170], df⟩ L a ∧ Hid ((L 8 = false → wc = wr.drew) ∧ (L 8 = true → Owns w0 wc (LL.set q ⟨.slice (some ⟨H, 0, none⟩) n n, 5, 1, n, x.map bv⟩)))) ⟨Inv.start, Lib.hid ⟨fun _ => rfl, fun h => by cases h⟩⟩ ?_ ?_
  · refine ⟨?_, ?_, ?_, ?_, ?_, ?_, ?_, ?_, ?_, trivial⟩
    ·
      rintro L a wc ⟨hv, HO⟩ hL hc hd
      exact wpOp_val rfl rfl (ex_move rfl ((hv.fixed 4 (by decide)).trans rfl)) ⟨hv.put rd_copy_apart 0 rfl (lb rfl) (lb rfl) rfl, HO⟩
    ·
      rintro L a wc ⟨hv, HO⟩ hL hc hd
      exact wpOp_val rfl rfl (ex_move rfl ((hv.fixed 5 (by decide)).trans rfl)) ⟨hv.put rd_copy_apart 1 rfl (lb rfl) (lb rfl) rfl, HO⟩
    ·
      rintro L a wc ⟨hv, HO⟩ hL hc hd
      have u1 : (0 : Int) ≤ (i : Int) := by omega
      have u2 : (i : Int) < (N : Int) := by omega
      exact wpOp_val rfl rfl (ex_index rfl (hv.get 0 rfl rfl (hd 0 (by decide))) (hv.get 1 rfl rfl (hd 1 (by decide))) (by go_simp)) ⟨hv.put rd_copy_apart 2 rfl (lb rfl) (lb rfl) rfl, HO⟩
    ·
      rintro L a wc ⟨hv, HO⟩ hL hc hd
      have hw0 : wc = wr.drew := HO.out.1 (Bool.eq_false_iff.2 fun h => Bool.false_ne_true (hL.symm.trans (hc 8 h 3 (by decide))))
      have h0 : wc.cell? ⟨O, i, none⟩ = some (.slice (some ⟨H, 0, none⟩) n n) := (by rw [hw0]; exact hO)
      exact wpOp_val rfl rfl (ex_load rfl (hv.get 2 rfl rfl (hd 2 (by decide))) (by go_simp)) ⟨hv.put rd_copy_apart 3 rfl (lb rfl) (lb rfl) rfl, HO⟩
    ·
      rintro L a wc ⟨hv, HO⟩ hL hc hd
      exact wpOp_val rfl rfl (ex_move rfl ((hv.fixed 0 (by decide)).trans rfl)) ⟨hv.put rd_copy_apart 4 rfl (lb rfl) (lb rfl) rfl, HO⟩
    ·
      rintro L a wc ⟨hv, HO⟩ hL hc hd
      exact wpOp_val rfl rfl (ex_move rfl ((hv.fixed 5 (by decide)).trans rfl)) ⟨hv.put rd_copy_apart 5 rfl (lb rfl) (lb rfl) rfl, HO⟩
    ·
      rintro L a wc ⟨hv, HO⟩ hL hc hd
      have u1 : (0 : Int) ≤ (i : Int) := by omega
      have u2 : (i : Int) < (N : Int) := by omega
      exact wpOp_val rfl rfl (ex_index rfl (hv.get 4 rfl rfl (hd 4 (by decide))) (hv.get 5 rfl rfl (hd 5 (by decide))) (by go_simp)) ⟨hv.put rd_copy_apart 6 rfl (lb rfl) (lb rfl) rfl, HO⟩
    ·
      rintro L a wc ⟨hv, HO⟩ hL hc hd
      have hw0 : wc = wr.drew := HO.out.1 (Bool.eq_false_iff.2 fun h => Bool.false_ne_true (hL.symm.trans (hc 8 h 7 (by decide))))
      have h0 : wc.cell? (pa.add i) = some (.slice (some ra) n cR) := (by rw [hw0]; exact hP)
      exact wpOp_val rfl rfl (ex_load rfl (hv.get 6 rfl rfl (hd 6 (by decide))) (by go_simp)) ⟨hv.put rd_copy_apart 7 rfl (lb rfl) (lb rfl) rfl, HO⟩
    ·
      rintro L a wc ⟨hv, HO⟩ hL hc hd
      have hw0 : wc = wr.drew := HO.out.1 hL
      obtain ⟨cur, hg, hcs, hO2⟩ := HL.out.drew.copied q hq x (by omega)
      have hrun := run_copy_row (P := Tryd.prog) wr.drew 28 28 3 5 H 0 n n ra n cR cur 5 (x.map bv) Tryd.underlying28 size_u8 hg (by simp [hn]) (fun j v hj => by obtain ⟨ad, e, _, h⟩ := HR.out j v hj; injection e with e; rw [e]; exact h) (by simp; omega) (fun v hv => by obtain ⟨b, _, rfl⟩ := List.mem_map.1 hv; rfl)
      subst hw0
      refine wpOp_val rfl rfl (v := .int .i64 (n : Nat)) (w' := wr.drew.setRow H (x.map bv ++ cur.toList.drop x.length).toArray) ?_ ⟨hv.put rd_copy_apart 8 rfl (lb rfl) (lb rfl) rfl, Lib.hid ⟨fun h => absurd h (by simp [upd]), fun _ => ?_⟩⟩
      · have a0 := (hv.get 3 rfl rfl (hd 3 (by decide)))
        have b0 := (hv.get 7 rfl rfl (hd 7 (by decide)))
        refine (run_copy_op _ _ a0 b0 hrun).trans ?_
        simp [hn, goInt]
      · have hxs : xs.drop x.length = [] := List.drop_eq_nil_of_le (by have := (HL.out.row q hq).1; omega)
        rw [hxs, List.append_nil] at hO2
        exact hO2
  · rintro L a wc ⟨hv, HO⟩ hall
    show K a wc
    have ha := act_lit a
    rw [hv.size, hv.defers] at ha
    have hl : ∀ f : Nat → Value, ((List.range (⟨#[.slice (some pa) N cP, c1, c2, c3, .slice (some ⟨O, 0, none⟩) N N, .int .i64 (i : Nat), c6, c7, c8, c9, c10, c11, c12, c13, c14, c15, c16, c17, c18, c19, c20, c21, c22, c23, c24, c25, c26, c27, c28, c29, c30, c31, c32, c33, c34, c35, c36, c37, c38, c39, c40, c41, c42, c43, c44, c45, c46, c47, c48, c49, c50, c51, c52, c53, c54, c55, c56, c57, c58, c59, c60, c61, c62, c63, c64, c65, c66, c67, c68, c69, c70, c71, c72, c73, c74, c75, c76, c77, c78, c79, c80, c81, c82, c83, c84, c85, c86, c87, c88, c89, c90, c91, c92, c93, c94, c95, c96, c97, c98, c99, c100, c101, c102, c103, c104, c105, c106, c107, c108, c109, c110, c111, c112, c113, c114, c115, c116, c117, c118, c119, c120, c121, c122, c123, c124, c125, c126, c127, c128, c129, c130, c131, c132, c133, c134, c135, c136, c137, c138, c139, c140, c141, c142, c143, c144, c145, c146, c147, c148, c149, c150, c151, c152, c153, c154, c155, c156, c157, c158, c159, c160, c161, c162, c163, c164, c165, c166, c167, c168, c169, c170], df⟩ : Act).tmps.size).map f).toArray = #[f 0, f 1, f 2, f 3, f 4, f 5, f 6, f 7, f 8, f 9, f 10, f 11, f 12, f 13, f 14, f 15, f 16, f 17, f 18, f 19, f 20, f 21, f 22, f 23, f 24, f 25, f 26, f 27, f 28, f 29, f 30, f 31, f 32, f 33, f 34, f 35, f 36, f 37, f 38, f 39, f 40, f 41, f 42, f 43, f 44, f 45, f 46, f 47, f 48, f 49, f 50, f 51, f 52, f 53, f 54, f 55, f 56, f 57, f 58, f 59, f 60, f 61, f 62, f 63, f 64, f 65, f 66, f 67, f 68, f 69, f 70, f 71, f 72, f 73, f 74, f 75, f 76, f 77, f 78, f 79, f 80, f 81, f 82, f 83, f 84, f 85, f 86, f 87, f 88, f 89, f 90, f 91, f 92, f 93, f 94, f 95, f 96, f 97, f 98, f 99, f 100, f 101, f 102, f 103, f 104, f 105, f 106, f 107, f 108, f 109, f 110, f 111, f 112, f 113, f 114, f 115, f 116, f 117, f 118, f 119, f 120, f 121, f 122, f 123, f 124, f 125, f 126, f 127, f 128, f 129, f 130, f 131, f 132, f 133, f 134, f 135, f 136, f 137, f 138, f 139, f 140, f 141, f 142, f 143, f 144, f 145, f 146, f 147, f 148, f 149, f 150, f 151, f 152, f 153, f 154, f 155, f 156, f 157, f 158, f 159, f 160, f 161, f 162, f 163, f 164, f 165, f 166, f 167, f 168, f 169, f 170] := fun _ => rfl
    rw [hl] at ha
    simp only [hv.fixed 0 (by decide), hv.fixed 1 (by decide), hv.fixed 2 (by decide), hv.fixed 3 (by decide), hv.fixed 4 (by decide), hv.fixed 5 (by decide), hv.fixed 6 (by decide), hv.fixed 7 (by decide), hv.fixed 8 (by decide), hv.fixed 9 (by decide), hv.fixed 10 (by decide), hv.fixed 11 (by decide), hv.fixed 12 (by decide), hv.fixed 13 (by decide), hv.fixed 14 (by decide), hv.fixed 15 (by decide), hv.fixed 16 (by decide), hv.fixed 17 (by decide), hv.fixed 18 (by decide), hv.fixed 19 (by decide), hv.fixed 20 (by decide), hv.fixed 21 (by decide), hv.fixed 22 (by decide), hv.fixed 23 (by decide), hv.fixed 24 (by decide), hv.fixed 25 (by decide), hv.fixed 26 (by decide), hv.fixed 27 (by decide), hv.fixed 28 (by decide), hv.fixed 29 (by decide), hv.fixed 30 (by decide), hv.fixed 31 (by decide), hv.fixed 32 (by decide), hv.fixed 42 (by decide), hv.fixed 43 (by decide), hv.fixed 44 (by decide), hv.fixed 45 (by decide), hv.fixed 46 (by decide), hv.fixed 47 (by decide), hv.fixed 48 (by decide), hv.fixed 49 (by decide), hv.fixed 50 (by decide), hv.fixed 51 (by decide), hv.fixed 52 (by decide), hv.fixed 53 (by decide), hv.fixed 54 (by decide), hv.fixed 55 (by decide), hv.fixed 56 (by decide), hv.fixed 57 (by decide), hv.fixed 58 (by decide), hv.fixed 59 (by decide), hv.fixed 60 (by decide), hv.fixed 61 (by decide), hv.fixed 62 (by decide), hv.fixed 63 (by decide), hv.fixed 64 (by decide), hv.fixed 65 (by decide), hv.fixed 66 (by decide), hv.fixed 67 (by decide), hv.fixed 68 (by decide), hv.fixed 69 (by decide), hv.fixed 70 (by decide), hv.fixed 71 (by decide), hv.fixed 72 (by decide), hv.fixed 73 (by decide), hv.fixed 74 (by decide), hv.fixed 75 (by decide), hv.fixed 76 (by decide), hv.fixed 77 (by decide), hv.fixed 78 (by decide), hv.fixed 79 (by decide), hv.fixed 80 (by decide), hv.fixed 81 (by decide), hv.fixed 82 (by decide), hv.fixed 83 (by decide), hv.fixed 84 (by decide), hv.fixed 85 (by decide), hv.fixed 86 (by decide), hv.fixed 87 (by decide), hv.fixed 88 (by decide), hv.fixed 89 (by decide), hv.fixed 90 (by decide), hv.fixed 91 (by decide), hv.fixed 92 (by decide), hv.fixed 93 (by decide), hv.fixed 94 (by decide), hv.fixed 95 (by decide), hv.fixed 96 (by decide), hv.fixed 97 (by decide), hv.fixed 98 (by decide), hv.fixed 99 (by decide), hv.fixed 100 (by decide), hv.fixed 101 (by decide), hv.fixed 102 (by decide), hv.fixed 103 (by decide), hv.fixed 104 (by decide), hv.fixed 105 (by decide), hv.fixed 106 (by decide), hv.fixed 107 (by decide), hv.fixed 108 (by decide), hv.fixed 109 (by decide), hv.fixed 110 (by decide), hv.fixed 111 (by decide), hv.fixed 112 (by decide), hv.fixed 113 (by decide), hv.fixed 114 (by decide), hv.fixed 115 (by decide), hv.fixed 116 (by decide), hv.fixed 117 (by decide), hv.fixed 118 (by decide), hv.fixed 119 (by decide), hv.fixed 120 (by decide), hv.fixed 121 (by decide), hv.fixed 122 (by decide), hv.fixed 123 (by decide), hv.fixed 124 (by decide), hv.fixed 125 (by decide), hv.fixed 126 (by decide), hv.fixed 127 (by decide), hv.fixed 128 (by decide), hv.fixed 129 (by decide), hv.fixed 130 (by decide), hv.fixed 131 (by decide), hv.fixed 132 (by decide), hv.fixed 133 (by decide), hv.fixed 134 (by decide), hv.fixed 135 (by decide), hv.fixed 136 (by decide), hv.fixed 137 (by decide), hv.fixed 138 (by decide), hv.fixed 139 (by decide), hv.fixed 140 (by decide), hv.fixed 141 (by decide), hv.fixed 142 (by decide), hv.fixed 143 (by decide), hv.fixed 144 (by decide), hv.fixed 145 (by decide), hv.fixed 146 (by decide), hv.fixed 147 (by decide), hv.fixed 148 (by decide), hv.fixed 149 (by decide), hv.fixed 150 (by decide), hv.fixed 151 (by decide), hv.fixed 152 (by decide), hv.fixed 153 (by decide), hv.fixed 154 (by decide), hv.fixed 155 (by decide), hv.fixed 156 (by decide), hv.fixed 157 (by decide), hv.fixed 158 (by decide), hv.fixed 159 (by decide), hv.fixed 160 (by decide), hv.fixed 161 (by decide), hv.fixed 162 (by decide), hv.fixed 163 (by decide), hv.fixed 164 (by decide), hv.fixed 165 (by decide), hv.fixed 166 (by decide), hv.fixed 167 (by decide), hv.fixed 168 (by decide), hv.fixed 169 (by decide), hv.fixed 170 (by decide)] at ha
    rw [ha]
    exact hK _ _ _ _ _ _ _ _ _ wc (HO.out.2 (hall 8 (by decide)))
end Go.Proofs.YtdmljilcbndmfaaDoor

/- THE INNER LOOPS of reduce of package matrix, each a declaration of its own. -/
namespace Mx
theorem cleanTo_same {r c i : Nat} {t : List UInt8} {m : Mat} (hi : i < m.length) (h : cleanRow r c t i (row m i) = row m i) : cleanTo r c t m (i + 1) = cleanTo r c t m i := by
  rw [cleanTo, h]
  refine ext_row (by rw [List.length_set]) fun j _ => ?_
  rw [row_set (by rw [cleanTo_length]; exact hi)]
  by_cases e : j = i
  · rw [if_pos e, e, cleanTo_row _ _ _ _ _ (by omega), if_neg (by omega)]
  · rw [if_neg e]
def mulF (a : UInt8) (x : List UInt8) : Nat → UInt8 := fun j => Gf.mul (x.getD j 0) a
def xorF (b : UInt8) (t x : List UInt8) : Nat → UInt8 := fun j => x.getD j 0 ^^^ Gf.mul b (t.getD j 0)
theorem half_add (b : UInt8) (t x : List UInt8) : half (xorF b t x) x x.length = addTo b t x := half_full _ _
theorem half_mul (a : UInt8) (x : List UInt8) : half (mulF a x) x x.length = x.map (Gf.mul a) := by
  rw [half_full]
  refine List.ext_getElem (by simp) fun i h1 h2 => ?_
  have hi : i < x.length := by simpa using h1
  simp [mulF, List.getD_eq_getElem?_getD, hi, Gf.mul_comm]
theorem row_set_self {m : Mat} {i : Nat} {x : List UInt8} (h : i < m.length) : row (m.set i x) i = x := by rw [row_set h, if_pos rfl]
theorem row_set_ne {m : Mat} {i j : Nat} {x : List UInt8} (h : i < m.length) (hj : j ≠ i) : row (m.set i x) j = row m j := by rw [row_set h, if_neg hj]
end Mx
theorem Mx.set_row (m : Mx.Mat) (i : Nat) : m.set i (Mx.row m i) = m := by
  by_cases h : i < m.length
  · rw [Mx.row_at h, List.set_getElem_self]
  · rw [List.set_eq_of_length_le (by omega)]
namespace Go.Proofs.YtdmljilcbndmfaaDoor
open Go.RowKit
def hasRegion (n : Nat) : Code → Bool
  | .region id _ _ => id == n
  | .seq a b => hasRegion n a || hasRegion n b
  | .loop c => hasRegion n c
  | .block _ c => hasRegion n c
  | .scope c => hasRegion n c
  | .cond _ a b => hasRegion n a || hasRegion n b
  | _ => false
/-- The innermost loop with a region. -/
def loopOf (n : Nat) : Code → Option Code
  | .loop c => match loopOf n c with
    | some x => some x
    | none => if hasRegion n c then some (.loop c) else none
  | .seq a b => match loopOf n a with
    | some x => some x
    | none => loopOf n b
  | .block _ c => loopOf n c
  | .scope c => loopOf n c
  | .cond _ a b => match loopOf n a with
    | some x => some x
    | none => loopOf n b
  | _ => none
noncomputable def rd_mulL_code : Code := ((Tryd.f89.body.bind (loopOf 22)).getD .skip)
set_option maxRecDepth 1000000 in
set_option maxHeartbeats 16000000 in
theorem rd_mulL (w0 wr : World) (O N n r : Nat) (hs : List Nat) (m : Mx.Mat) (X : List LRow) (a0 : UInt8) (hr : r < N) (hn : n ≤ 1000) (HL : Hid (hs.length = m.length ∧ m.length = N ∧ (Mx.row m r).length = n)) (HT : Hid (Tab w0)) (HO : Hid (Owns w0 wr (gridRows O N hs m ++ X))) (c0 c1 c2 c3 c5 c6 c7 c9 c11 c12 c13 c14 c15 c16 c17 c18 c19 c20 c21 c22 c23 c24 c25 c26 c27 c28 c29 c30 c31 c32 c33 c34 c35 c36 c37 c38 c39 c40 c41 c42 c43 c44 c45 c46 c47 c48 c49 c50 c51 c52 c53 c54 c55 c56 c57 c58 c59 c60 c61 c62 c63 c64 c65 c66 c67 c68 c69 c70 c71 c72 c73 c74 c75 c76 c77 c78 c79 c80 c81 c82 c83 c84 c85 c86 c87 c88 c89 c90 c91 c92 c93 c96 c97 c98 c99 c100 c101 c102 c103 c104 c105 c106 c107 c108 c109 c110 c111 c112 c113 c114 c115 c116 c117 c118 c119 c120 c121 c122 c123 c124 c125 c126 c127 c128 c129 c130 c131 c132 c133 c134 c135 c136 c137 c138 c139 c140 c141 c142 c143 c144 c145 c146 c147 c148 c149 c150 c151 c152 c153 c154 c155 c156 c157 c158 c159 c160 c161 c162 c163 c164 c165 c166 c167 c168 c169 c170 : Value) (df : List Deferred) (Q0 : Exit → Act → World → Prop)
    (hexit : ∀ (u12 u95 u96 u97 u98 u99 u100 u101 u102 u103 u104 u105 u106 u107 u108 u109 u110 u111 u112 u113 : Value) (wx : World), Owns w0 wx (gridRows O N hs (m.set r (Mx.half (Mx.mulF a0 (Mx.row m r)) (Mx.row m r) n)) ++ X) → Q0 (.exit 6) ⟨#[c0, c1, c2, c3, .slice (some ⟨O, 0, none⟩) N N, c5, c6, c7, .int .i64 (r : Nat), c9, bv a0, c11, u12, c13, c14, c15, c16, c17, c18, c19, c20, c21, c22, c23, c24, c25, c26, c27, c28, c29, c30, c31, c32, c33, c34, c35, c36, c37, c38, c39, c40, c41, c42, c43, c44, c45, c46, c47, c48, c49, c50, c51, c52, c53, c54, c55, c56, c57, c58, c59, c60, c61, c62, c63, c64, c65, c66, c67, c68, c69, c70, c71, c72, c73, c74, c75, c76, c77, c78, c79, c80, c81, c82, c83, c84, c85, c86, c87, c88, c89, c90, c91, c92, c93, .int .i64 (n : Nat), u95, u96, u97, u98, u99, u100, u101, u102, u103, u104, u105, u106, u107, u108, u109, u110, u111, u112, u113, c114, c115, c116, c117, c118, c119, c120, c121, c122, c123, c124, c125, c126, c127, c128, c129, c130, c131, c132, c133, c134, c135, c136, c137, c138, c139, c140, c141, c142, c143, c144, c145, c146, c147, c148, c149, c150, c151, c152, c153, c154, c155, c156, c157, c158, c159, c160, c161, c162, c163, c164, c165, c166, c167, c168, c169, c170], df⟩ wx) :
    Code.wp Tryd.prog rd_mulL_code Q0 ⟨#[c0, c1, c2, c3, .slice (some ⟨O, 0, none⟩) N N, c5, c6, c7, .int .i64 (r : Nat), c9, bv a0, c11, c12, c13, c14, c15, c16, c17, c18, c19, c20, c21, c22, c23, c24, c25, c26, c27, c28, c29, c30, c31, c32, c33, c34, c35, c36, c37, c38, c39, c40, c41, c42, c43, c44, c45, c46, c47, c48, c49, c50, c51, c52, c53, c54, c55, c56, c57, c58, c59, c60, c61, c62, c63, c64, c65, c66, c67, c68, c69, c70, c71, c72, c73, c74, c75, c76, c77, c78, c79, c80, c81, c82, c83, c84, c85, c86, c87, c88, c89, c90, c91, c92, c93, .int .i64 (n : Nat), .int .i64 0, c96, c97, c98, c99, c100, c101, c102, c103, c104, c105, c106, c107, c108, c109, c110, c111, c112, c113, c114, c115, c116, c117, c118, c119, c120, c121, c122, c123, c124, c125, c126, c127, c128, c129, c130, c131, c132, c133, c134, c135, c136, c137, c138, c139, c140, c141, c142, c143, c144, c145, c146, c147, c148, c149, c150, c151, c152, c153, c154, c155, c156, c157, c158, c159, c160, c161, c162, c163, c164, c165, c166, c167, c168, c169, c170], df⟩ wr := by
  have HE := Lib.hid hexit
  clear hexit
  conv => arg 2; whnf
  dsimp only
  go_loopw [95] (fun vi wi => ∃ j : Nat, j ≤ n ∧ vi = .int .i64 (j : Nat) ∧ Hid (Owns w0 wi (gridRows O N hs (m.set r (Mx.half (Mx.mulF a0 (Mx.row m r)) (Mx.row m r) j)) ++ X))) (fun vi _ => n - (intOf vi).toNat)
  case atStart => exact ⟨0, Nat.zero_le _, rfl, Lib.hid (by rw [Mx.half_zero, Mx.set_row]; exact HO.out)⟩
  case round =>
    obtain ⟨j, hj, rfl, HI⟩ := hrel
    by_cases hlt : j < n
    · have hl' : hs.length = (m.set r (Mx.half (Mx.mulF a0 (Mx.row m r)) (Mx.row m r) j)).length := by rw [List.length_set]; exact HL.out.1
      have hrm : r < m.length := by rw [HL.out.2.1]; exact hr
      have hr' : r < (m.set r (Mx.half (Mx.mulF a0 (Mx.row m r)) (Mx.row m r) j)).length := by rw [List.length_set]; exact hrm
      have hrow : Mx.row (m.set r (Mx.half (Mx.mulF a0 (Mx.row m r)) (Mx.row m r) j)) r = Mx.half (Mx.mulF a0 (Mx.row m r)) (Mx.row m r) j := Mx.row_set_self hrm
      have hlen : (Mx.half (Mx.mulF a0 (Mx.row m r)) (Mx.row m r) j).length = n := by rw [Mx.half_length]; exact HL.out.2.2
      have c1 := grid_outer hl' HI.out hr'
      have c2 := grid_cell hl' HI.out hr' (j := j) (by rw [hrow, hlen]; exact hlt)
      have f2 := grid_frozen hl' HI.out hr' (j := j)
      have st := (grid_store hl' HI.out hr' (j := j) (Mx.mulF a0 (Mx.row m r) j)).drew
      unfold Mx.cell at c2
      rw [hrow, hlen] at c1
      rw [hrow, Mx.half_get (by rw [HL.out.2.2]; exact hlt), if_neg (by omega)] at c2
      rw [hrow, Mx.half_set, List.set_set] at st
      have hT : Tab wr := HT.out.ext HI.out.ext
      have ST := Lib.hid st
      have HTR := Lib.hid hT
      obtain ⟨H, hH⟩ : ∃ H, hs.getD r 0 = H := ⟨_, rfl⟩
      rw [hH] at c1 c2 f2 ST
      have hmf : Mx.mulF a0 (Mx.row m r) j = Gf.mul ((Mx.row m r).getD j 0) a0 := rfl
      obtain ⟨x, hx⟩ : ∃ x, (Mx.row m r).getD j 0 = x := ⟨_, rfl⟩
      rw [hx] at c2 hmf
      rw [hmf] at ST
      clear hl' hr' hrow hlen st hT hH hmf hx
      go_wp2_with fail
      refine wp_atEnd' (rd_mul wr O N n r j H a0 x hr hlt c1 c2 f2 HTR _ _ _ _ _ _ _ _ _ _ _ _ _ _ _ _ _ _ _ _ _ _ _ _ _ _ _ _ _ _ _ _ _ _ _ _ _ _ _ _ _ _ _ _ _ _ _ _ _ _ _ _ _ _ _ _ _ _ _ _ _ _ _ _ _ _ _ _ _ _ _ _ _ _ _ _ _ _ _ _ _ _ _ _ _ _ _ _ _ _ _ _ _ _ _ _ _ _ _ _ _ _ _ _ _ _ _ _ _ _ _ _ _ _ _ _ _ _ _ _ _ _ _ _ _ _ _ _ _ _ _ _ _ _ _ _ _ _ _ _ _ _ _ _ _ _ _ _ _ _ _ _ _ _ _ _ _ _ _ _ _ _ _ _ _ _ _ _ _ ?_)
      rintro u98 u99 u100 u101 u102 u103 u104 u105 u106 u107 u108 u109 u110 u111 u112 wx rfl
      clear c1 c2 f2
      go_wp2_with fail
      go_roundw
      case rel => exact ⟨j + 1, by omega, by go_num, Lib.hid ST.out⟩
      case measure => simp [intOf]; omega
    · obtain rfl : j = n := by omega
      go_wp2_with fail
      exact HE.out _ _ _ _ _ _ _ _ _ _ _ _ _ _ _ _ _ _ _ _ wr HI.out
noncomputable def rd_xorL_code : Code := ((Tryd.f89.body.bind (loopOf 32)).getD .skip)
set_option maxRecDepth 1000000 in
set_option maxHeartbeats 16000000 in
theorem rd_xorL (w0 wr : World) (O N n r i : Nat) (hs : List Nat) (m : Mx.Mat) (X : List LRow) (b0 : UInt8) (hr : r < N) (hi : i < N) (hn : n ≤ 1000) (HL : Hid (hs.length = m.length ∧ m.length = N ∧ (Mx.row m i).length = n ∧ (Mx.row m r).length = n ∧ i ≠ r)) (HT : Hid (Tab w0)) (HO : Hid (Owns w0 wr (gridRows O N hs m ++ X))) (c0 c1 c2 c3 c5 c6 c7 c9 c10 c11 c12 c15 c16 c17 c18 c19 c20 c21 c22 c23 c24 c25 c26 c27 c28 c29 c30 c31 c32 c33 c34 c35 c36 c37 c38 c39 c40 c41 c42 c43 c44 c45 c46 c47 c48 c49 c50 c51 c52 c53 c54 c55 c56 c57 c58 c59 c60 c61 c62 c63 c64 c65 c66 c67 c68 c69 c70 c71 c72 c73 c74 c75 c76 c77 c78 c79 c80 c81 c82 c83 c84 c85 c86 c87 c88 c89 c90 c91 c92 c93 c94 c95 c96 c97 c98 c99 c100 c101 c102 c103 c104 c105 c106 c107 c108 c109 c110 c111 c112 c113 c114 c115 c116 c117 c118 c119 c120 c121 c122 c123 c124 c125 c126 c127 c128 c129 c130 c131 c132 c133 c134 c135 c136 c139 c140 c141 c142 c143 c144 c145 c146 c147 c148 c149 c150 c151 c152 c153 c154 c155 c156 c157 c158 c159 c160 c161 c162 c163 c164 c165 c166 c167 c168 c169 c170 : Value) (df : List Deferred) (Q0 : Exit → Act → World → Prop)
    (hexit : ∀ (u15 u138 u139 u140 u141 u142 u143 u144 u145 u146 u147 u148 u149 u150 u151 u152 u153 u154 u155 u156 u157 u158 u159 : Value) (wx : World), Owns w0 wx (gridRows O N hs (m.set i (Mx.half (Mx.xorF b0 (Mx.row m r) (Mx.row m i)) (Mx.row m i) n)) ++ X) → Q0 (.exit 10) ⟨#[c0, c1, c2, c3, .slice (some ⟨O, 0, none⟩) N N, c5, c6, c7, .int .i64 (r : Nat), c9, c10, c11, c12, .int .i64 (i : Nat), bv b0, u15, c16, c17, c18, c19, c20, c21, c22, c23, c24, c25, c26, c27, c28, c29, c30, c31, c32, c33, c34, c35, c36, c37, c38, c39, c40, c41, c42, c43, c44, c45, c46, c47, c48, c49, c50, c51, c52, c53, c54, c55, c56, c57, c58, c59, c60, c61, c62, c63, c64, c65, c66, c67, c68, c69, c70, c71, c72, c73, c74, c75, c76, c77, c78, c79, c80, c81, c82, c83, c84, c85, c86, c87, c88, c89, c90, c91, c92, c93, c94, c95, c96, c97, c98, c99, c100, c101, c102, c103, c104, c105, c106, c107, c108, c109, c110, c111, c112, c113, c114, c115, c116, c117, c118, c119, c120, c121, c122, c123, c124, c125, c126, c127, c128, c129, c130, c131, c132, c133, c134, c135, c136, .int .i64 (n : Nat), u138, u139, u140, u141, u142, u143, u144, u145, u146, u147, u148, u149, u150, u151, u152, u153, u154, u155, u156, u157, u158, u159, c160, c161, c162, c163, c164, c165, c166, c167, c168, c169, c170], df⟩ wx) :
    Code.wp Tryd.prog rd_xorL_code Q0 ⟨#[c0, c1, c2, c3, .slice (some ⟨O, 0, none⟩) N N, c5, c6, c7, .int .i64 (r : Nat), c9, c10, c11, c12, .int .i64 (i : Nat), bv b0, c15, c16, c17, c18, c19, c20, c21, c22, c23, c24, c25, c26, c27, c28, c29, c30, c31, c32, c33, c34, c35, c36, c37, c38, c39, c40, c41, c42, c43, c44, c45, c46, c47, c48, c49, c50, c51, c52, c53, c54, c55, c56, c57, c58, c59, c60, c61, c62, c63, c64, c65, c66, c67, c68, c69, c70, c71, c72, c73, c74, c75, c76, c77, c78, c79, c80, c81, c82, c83, c84, c85, c86, c87, c88, c89, c90, c91, c92, c93, c94, c95, c96, c97, c98, c99, c100, c101, c102, c103, c104, c105, c106, c107, c108, c109, c110, c111, c112, c113, c114, c115, c116, c117, c118, c119, c120, c121, c122, c123, c124, c125, c126, c127, c128, c129, c130, c131, c132, c133, c134, c135, c136, .int .i64 (n : Nat), .int .i64 0, c139, c140, c141, c142, c143, c144, c145, c146, c147, c148, c149, c150, c151, c152, c153, c154, c155, c156, c157, c158, c159, c160, c161, c162, c163, c164, c165, c166, c167, c168, c169, c170], df⟩ wr := by
  have HE := Lib.hid hexit
  clear hexit
  conv => arg 2; whnf
  dsimp only
  go_loopw [138] (fun vi wi => ∃ j : Nat, j ≤ n ∧ vi = .int .i64 (j : Nat) ∧ Hid (Owns w0 wi (gridRows O N hs (m.set i (Mx.half (Mx.xorF b0 (Mx.row m r) (Mx.row m i)) (Mx.row m i) j)) ++ X))) (fun vi _ => n - (intOf vi).toNat)
  case atStart => exact ⟨0, Nat.zero_le _, rfl, Lib.hid (by rw [Mx.half_zero, Mx.set_row]; exact HO.out)⟩
  case round =>
    obtain ⟨j, hj, rfl, HI⟩ := hrel
    by_cases hlt : j < n
    · have hl' : hs.length = (m.set i (Mx.half (Mx.xorF b0 (Mx.row m r) (Mx.row m i)) (Mx.row m i) j)).length := by rw [List.length_set]; exact HL.out.1
      have him : i < m.length := by rw [HL.out.2.1]; exact hi
      have hrm : r < m.length := by rw [HL.out.2.1]; exact hr
      have hi' : i < (m.set i (Mx.half (Mx.xorF b0 (Mx.row m r) (Mx.row m i)) (Mx.row m i) j)).length := by rw [List.length_set]; exact him
      have hr' : r < (m.set i (Mx.half (Mx.xorF b0 (Mx.row m r) (Mx.row m i)) (Mx.row m i) j)).length := by rw [List.length_set]; exact hrm
      have hrow : Mx.row (m.set i (Mx.half (Mx.xorF b0 (Mx.row m r) (Mx.row m i)) (Mx.row m i) j)) i = Mx.half (Mx.xorF b0 (Mx.row m r) (Mx.row m i)) (Mx.row m i) j := Mx.row_set_self him
      have hrow2 : Mx.row (m.set i (Mx.half (Mx.xorF b0 (Mx.row m r) (Mx.row m i)) (Mx.row m i) j)) r = Mx.row m r := Mx.row_set_ne him (fun e => HL.out.2.2.2.2 e.symm)
      have hlen : (Mx.half (Mx.xorF b0 (Mx.row m r) (Mx.row m i)) (Mx.row m i) j).length = n := by rw [Mx.half_length]; exact HL.out.2.2.1
      have c1 := grid_outer hl' HI.out hi'
      have c2 := grid_cell hl' HI.out hi' (j := j) (by rw [hrow, hlen]; exact hlt)
      have d1 := grid_outer hl' HI.out hr'
      have d2 := grid_cell hl' HI.out hr' (j := j) (by rw [hrow2, HL.out.2.2.2.1]; exact hlt)
      have f2 := grid_frozen hl' HI.out hi' (j := j)
      have st := (grid_store hl' HI.out hi' (j := j) (Mx.xorF b0 (Mx.row m r) (Mx.row m i) j)).drew
      unfold Mx.cell at c2 d2
      rw [hrow, hlen] at c1
      rw [hrow2, HL.out.2.2.2.1] at d1
      rw [hrow2] at d2
      rw [hrow, Mx.half_get (by rw [HL.out.2.2.1]; exact hlt), if_neg (by omega)] at c2
      rw [hrow, Mx.half_set, List.set_set] at st
      have hT : Tab wr := HT.out.ext HI.out.ext
      have ST := Lib.hid st
      have HTR := Lib.hid hT
      obtain ⟨G, hG⟩ : ∃ G, hs.getD i 0 = G := ⟨_, rfl⟩
      obtain ⟨H, hH⟩ : ∃ H, hs.getD r 0 = H := ⟨_, rfl⟩
      rw [hG] at c1 c2 f2 ST
      rw [hH] at d1 d2
      have hmf : Mx.xorF b0 (Mx.row m r) (Mx.row m i) j = (Mx.row m i).getD j 0 ^^^ Gf.mul b0 ((Mx.row m r).getD j 0) := rfl
      obtain ⟨y, hy⟩ : ∃ y, (Mx.row m i).getD j 0 = y := ⟨_, rfl⟩
      obtain ⟨x, hx⟩ : ∃ x, (Mx.row m r).getD j 0 = x := ⟨_, rfl⟩
      obtain ⟨z, hz⟩ : ∃ z, Mx.xorF b0 (Mx.row m r) (Mx.row m i) j = z := ⟨_, rfl⟩
      rw [hz] at ST
      rw [hy, hx, hz] at hmf
      rw [hy] at c2
      rw [hx] at d2
      have HZ := Lib.hid hmf.symm
      clear hl' hi' hr' hrow hrow2 hlen st hT hG hH hmf hx hy hz
      go_wp2_with fail
      refine wp_atEnd' (rd_xor wr O N n r i j H G b0 x y z HZ hr hi hlt d1 c1 d2 c2 f2 HTR _ _ _ _ _ _ _ _ _ _ _ _ _ _ _ _ _ _ _ _ _ _ _ _ _ _ _ _ _ _ _ _ _ _ _ _ _ _ _ _ _ _ _ _ _ _ _ _ _ _ _ _ _ _ _ _ _ _ _ _ _ _ _ _ _ _ _ _ _ _ _ _ _ _ _ _ _ _ _ _ _ _ _ _ _ _ _ _ _ _ _ _ _ _ _ _ _ _ _ _ _ _ _ _ _ _ _ _ _ _ _ _ _ _ _ _ _ _ _ _ _ _ _ _ _ _ _ _ _ _ _ _ _ _ _ _ _ _ _ _ _ _ _ _ _ _ _ _ _ _ _ _ _ _ _ _ _ _ _ _ _ _ _ _ _ _ _ _ ?_)
      rintro u141 u142 u143 u144 u145 u146 u147 u148 u149 u150 u151 u152 u153 u154 u155 u156 u157 u158 wx rfl
      clear c1 c2 d1 d2 f2
      go_wp2_with fail
      go_roundw
      case rel => exact ⟨j + 1, by omega, by go_num, Lib.hid ST.out⟩
      case measure => simp [intOf]; omega
    · obtain rfl : j = n := by omega
      go_wp2_with fail
      exact HE.out _ _ _ _ _ _ _ _ _ _ _ _ _ _ _ _ _ _ _ _ _ _ _ wr HI.out
noncomputable def rd_cleanL_code : Code := ((Tryd.f89.body.bind (loopOf 28)).getD .skip)
set_option maxRecDepth 1000000 in
set_option maxHeartbeats 16000000 in
theorem rd_cleanL (w0 wr : World) (O N n r c : Nat) (hs : List Nat) (m : Mx.Mat) (X : List LRow) (hr : r < N) (hc : c < n) (hn : n ≤ 1000) (hN : N ≤ 1000) (HL : Hid (hs.length = m.length ∧ m.length = N ∧ ∀ i, i < m.length → (Mx.row m i).length = n)) (HT : Hid (Tab w0)) (HO : Hid (Owns w0 wr (gridRows O N hs m ++ X))) (c0 c1 c2 c3 c5 c6 c9 c10 c11 c12 c13 c14 c15 c16 c17 c18 c19 c20 c21 c22 c23 c24 c25 c26 c27 c28 c29 c30 c31 c32 c33 c34 c35 c36 c37 c38 c39 c40 c41 c42 c43 c44 c45 c46 c47 c48 c49 c50 c51 c52 c53 c54 c55 c56 c57 c58 c59 c60 c61 c62 c63 c64 c65 c66 c67 c68 c69 c70 c71 c72 c73 c74 c75 c76 c77 c78 c79 c80 c81 c82 c83 c84 c85 c86 c87 c88 c89 c90 c91 c92 c93 c94 c95 c96 c97 c98 c99 c100 c101 c102 c103 c104 c105 c106 c107 c108 c109 c110 c111 c112 c113 c114 c117 c118 c119 c120 c121 c122 c123 c124 c125 c126 c127 c128 c129 c130 c131 c132 c133 c134 c135 c136 c137 c138 c139 c140 c141 c142 c143 c144 c145 c146 c147 c148 c149 c150 c151 c152 c153 c154 c155 c156 c157 c158 c159 c160 c161 c162 c163 c164 c165 c166 c167 c168 c169 c170 : Value) (df : List Deferred) (Q0 : Exit → Act → World → Prop)
    (hexit : ∀ (u13 u14 u15 u116 u117 u118 u119 u120 u121 u122 u123 u124 u125 u126 u127 u128 u129 u130 u131 u132 u133 u134 u135 u136 u137 u138 u139 u140 u141 u142 u143 u144 u145 u146 u147 u148 u149 u150 u151 u152 u153 u154 u155 u156 u157 u158 u159 u160 : Value) (wx : World), Owns w0 wx (gridRows O N hs (Mx.cleanTo r c (Mx.row m r) m N) ++ X) → Q0 (.exit 8) ⟨#[c0, c1, c2, c3, .slice (some ⟨O, 0, none⟩) N N, c5, c6, .int .i64 (c : Nat), .int .i64 (r : Nat), c9, c10, c11, c12, u13, u14, u15, c16, c17, c18, c19, c20, c21, c22, c23, c24, c25, c26, c27, c28, c29, c30, c31, c32, c33, c34, c35, c36, c37, c38, c39, c40, c41, c42, c43, c44, c45, c46, c47, c48, c49, c50, c51, c52, c53, c54, c55, c56, c57, c58, c59, c60, c61, c62, c63, c64, c65, c66, c67, c68, c69, c70, c71, c72, c73, c74, c75, c76, c77, c78, c79, c80, c81, c82, c83, c84, c85, c86, c87, c88, c89, c90, c91, c92, c93, c94, c95, c96, c97, c98, c99, c100, c101, c102, c103, c104, c105, c106, c107, c108, c109, c110, c111, c112, c113, c114, .int .i64 (N : Nat), u116, u117, u118, u119, u120, u121, u122, u123, u124, u125, u126, u127, u128, u129, u130, u131, u132, u133, u134, u135, u136, u137, u138, u139, u140, u141, u142, u143, u144, u145, u146, u147, u148, u149, u150, u151, u152, u153, u154, u155, u156, u157, u158, u159, u160, c161, c162, c163, c164, c165, c166, c167, c168, c169, c170], df⟩ wx) :
    Code.wp Tryd.prog rd_cleanL_code Q0 ⟨#[c0, c1, c2, c3, .slice (some ⟨O, 0, none⟩) N N, c5, c6, .int .i64 (c : Nat), .int .i64 (r : Nat), c9, c10, c11, c12, c13, c14, c15, c16, c17, c18, c19, c20, c21, c22, c23, c24, c25, c26, c27, c28, c29, c30, c31, c32, c33, c34, c35, c36, c37, c38, c39, c40, c41, c42, c43, c44, c45, c46, c47, c48, c49, c50, c51, c52, c53, c54, c55, c56, c57, c58, c59, c60, c61, c62, c63, c64, c65, c66, c67, c68, c69, c70, c71, c72, c73, c74, c75, c76, c77, c78, c79, c80, c81, c82, c83, c84, c85, c86, c87, c88, c89, c90, c91, c92, c93, c94, c95, c96, c97, c98, c99, c100, c101, c102, c103, c104, c105, c106, c107, c108, c109, c110, c111, c112, c113, c114, .int .i64 (N : Nat), .int .i64 0, c117, c118, c119, c120, c121, c122, c123, c124, c125, c126, c127, c128, c129, c130, c131, c132, c133, c134, c135, c136, c137, c138, c139, c140, c141, c142, c143, c144, c145, c146, c147, c148, c149, c150, c151, c152, c153, c154, c155, c156, c157, c158, c159, c160, c161, c162, c163, c164, c165, c166, c167, c168, c169, c170], df⟩ wr := by
  have HE := Lib.hid hexit
  clear hexit
  conv => arg 2; whnf
  dsimp only
  go_loopw [116] (fun vi wi => ∃ i : Nat, i ≤ N ∧ vi = .int .i64 (i : Nat) ∧ Hid (Owns w0 wi (gridRows O N hs (Mx.cleanTo r c (Mx.row m r) m i) ++ X))) (fun vi _ => N - (intOf vi).toNat)
  case atStart => exact ⟨0, Nat.zero_le _, rfl, HO⟩
  case round =>
    obtain ⟨i, hi, rfl, HI⟩ := hrel
    by_cases hlt : i < N
    · have him : i < m.length := by rw [HL.out.2.1]; exact hlt
      have hrm : r < m.length := by rw [HL.out.2.1]; exact hr
      have hl' : hs.length = (Mx.cleanTo r c (Mx.row m r) m i).length := by rw [Mx.cleanTo_length]; exact HL.out.1
      have hi' : i < (Mx.cleanTo r c (Mx.row m r) m i).length := by rw [Mx.cleanTo_length]; exact him
      have hr' : r < (Mx.cleanTo r c (Mx.row m r) m i).length := by rw [Mx.cleanTo_length]; exact hrm
      have hrow : Mx.row (Mx.cleanTo r c (Mx.row m r) m i) i = Mx.row m i := by rw [Mx.cleanTo_row _ _ _ _ _ (by omega), if_neg (by omega)]
      have hrow2 : Mx.row (Mx.cleanTo r c (Mx.row m r) m i) r = Mx.row m r := by
        rw [Mx.cleanTo_row _ _ _ _ _ (by omega)]
        split
        · unfold Mx.cleanRow; rw [if_pos rfl]
        · rfl
      have c1 := grid_outer hl' HI.out hi'
      have c2 := grid_cell hl' HI.out hi' (j := c) (by rw [hrow, HL.out.2.2 i him]; exact hc)
      unfold Mx.cell at c2
      rw [hrow, HL.out.2.2 i him] at c1
      rw [hrow] at c2
      obtain ⟨b, hb⟩ : ∃ b, (Mx.row m i).getD c 0 = b := ⟨_, rfl⟩
      rw [hb] at c2
      obtain ⟨G, hG⟩ : ∃ G, hs.getD i 0 = G := ⟨_, rfl⟩
      rw [hG] at c1 c2
      clear hG
      have HB := Lib.hid hb
      have HRW := Lib.hid (And.intro hrow hrow2)
      have HLL := Lib.hid (And.intro hl' (And.intro hi' hr'))
      have HIM := Lib.hid (And.intro him hrm)
      clear hb hrow hrow2 hl' hi' hr' him hrm
      by_cases hir : i = r
      · have hsame : Mx.cleanTo r c (Mx.row m r) m (i + 1) = Mx.cleanTo r c (Mx.row m r) m i := Mx.cleanTo_same HIM.out.1 (by unfold Mx.cleanRow; rw [if_pos hir, hir])
        have HS := Lib.hid hsame
        have e1 : ((i : Int) != (r : Int)) = false := by rw [hir]; simp
        have e2 : ((i : Int) == (r : Int)) = true := by rw [hir]; simp
        clear hsame hir
        go_wp2_with fail
        clear c1 c2 e1 e2
        go_roundw
        case rel => exact ⟨i + 1, by omega, by go_num, Lib.hid (by rw [HS.out]; exact HI.out)⟩
        case measure => simp [intOf]; omega
      · have HNE := Lib.hid hir
        have e1 : ((i : Int) != (r : Int)) = true := by simp; omega
        have e2 : ((i : Int) == (r : Int)) = false := by simp; omega
        by_cases hb0 : b = 0
        · have hsame : Mx.cleanTo r c (Mx.row m r) m (i + 1) = Mx.cleanTo r c (Mx.row m r) m i := Mx.cleanTo_same HIM.out.1 (by unfold Mx.cleanRow; rw [if_neg hir, HB.out, if_pos hb0])
          have HS := Lib.hid hsame
          subst hb0
          clear hsame hir
          go_wp2_with fail
          clear c1 c2 e1 e2
          go_roundw
          case rel => exact ⟨i + 1, by omega, by go_num, Lib.hid (by rw [HS.out]; exact HI.out)⟩
          case measure => simp [intOf]; omega
        · have hstep : Mx.cleanTo r c (Mx.row m r) m (i + 1) = (Mx.cleanTo r c (Mx.row m r) m i).set i (Mx.half (Mx.xorF b (Mx.row (Mx.cleanTo r c (Mx.row m r) m i) r) (Mx.row (Mx.cleanTo r c (Mx.row m r) m i) i)) (Mx.row (Mx.cleanTo r c (Mx.row m r) m i) i) n) := by
            rw [Mx.cleanTo, HRW.out.1, HRW.out.2]
            unfold Mx.cleanRow
            rw [if_neg hir, HB.out, if_neg hb0, ← Mx.half_add, HL.out.2.2 i HIM.out.1]
          have HS := Lib.hid hstep
          have hbn : (((b.toNat : Nat) : Int) != 0) = true := by
            rw [bne_iff_ne]
            intro h
            exact hb0 (UInt8.toNat_inj.1 (by have : b.toNat = 0 := by omega
                                             exact this))
          have hbe : (((b.toNat : Nat) : Int) == 0) = false := by
            rw [beq_eq_false_iff_ne]
            intro h
            exact hb0 (UInt8.toNat_inj.1 (by have : b.toNat = 0 := by omega
                                             exact this))
          have HLX : Hid (hs.length = (Mx.cleanTo r c (Mx.row m r) m i).length ∧ (Mx.cleanTo r c (Mx.row m r) m i).length = N ∧ (Mx.row (Mx.cleanTo r c (Mx.row m r) m i) i).length = n ∧ (Mx.row (Mx.cleanTo r c (Mx.row m r) m i) r).length = n ∧ i ≠ r) :=
            Lib.hid ⟨HLL.out.1, by rw [Mx.cleanTo_length]; exact HL.out.2.1, by rw [HRW.out.1]; exact HL.out.2.2 i HIM.out.1, by rw [HRW.out.2]; exact HL.out.2.2 r HIM.out.2, HNE.out⟩
          clear hstep hir hb0
          go_wp2_with fail
          clear c1 c2 e1 e2 hbn hbe
          refine rd_xorL w0 wr O N n r i hs (Mx.cleanTo r c (Mx.row m r) m i) X b hr hlt hn HLX HT HI _ _ _ _ _ _ _ _ _ _ _ _ _ _ _ _ _ _ _ _ _ _ _ _ _ _ _ _ _ _ _ _ _ _ _ _ _ _ _ _ _ _ _ _ _ _ _ _ _ _ _ _ _ _ _ _ _ _ _ _ _ _ _ _ _ _ _ _ _ _ _ _ _ _ _ _ _ _ _ _ _ _ _ _ _ _ _ _ _ _ _ _ _ _ _ _ _ _ _ _ _ _ _ _ _ _ _ _ _ _ _ _ _ _ _ _ _ _ _ _ _ _ _ _ _ _ _ _ _ _ _ _ _ _ _ _ _ _ _ _ _ _ _ _ _ _ _ _ _ _ _ _ _ _ _ _ _ _ _ _ _ _ _ _ _ _ _ ?_
          intro u15 u138 u139 u140 u141 u142 u143 u144 u145 u146 u147 u148 u149 u150 u151 u152 u153 u154 u155 u156 u157 u158 u159 wx hx
          have HX := Lib.hid hx
          clear hx
          go_wp2_with fail
          go_roundw
          case rel => exact ⟨i + 1, by omega, by go_num, Lib.hid (by rw [HS.out]; exact HX.out)⟩
          case measure => simp [intOf]; omega
    · obtain rfl : i = N := by omega
      go_wp2_with fail
      exact HE.out _ _ _ _ _ _ _ _ _ _ _ _ _ _ _ _ _ _ _ _ _ _ _ _ _ _ _ _ _ _ _ _ _ _ _ _ _ _ _ _ _ _ _ _ _ _ _ _ wr HI.out
end Go.Proofs.YtdmljilcbndmfaaDoor

/- THE WALK over reduce of package matrix. -/
namespace Go.Proofs.YtdmljilcbndmfaaDoor
open Go.RowKit
theorem info_int : (Tryd.prog.info? 3).map (fun i => (i.zero, i.size, i.bytes)) = some (some (.int .i64 0), 1, 8) := by kernel_rfl
abbrev nv (k : Nat) : Value := .int .i64 (k : Int)
section
variable {w0 w : World} {O n : Nat} {hs : List Nat} {m : List (List UInt8)} {X : List LRow}
theorem grid_next (hl : hs.length = m.length) (hm : m.length < n) {H : Nat} {r : List UInt8} (h : Owns w0 w (⟨.slice (some ⟨O, 0, none⟩) n n, 28, 1, n, ((inner hs m).map (fun r : LRow => r.v) ++ List.replicate (n - m.length) (Value.slice none 0 0)).set m.length (.slice (some ⟨H, 0, none⟩) r.length r.length)⟩ :: (inner hs m ++ [inner1 H r]))) :
    Owns w0 w (gridRows O n (hs ++ [H]) (m ++ [r])) := by
  unfold gridRows
  rw [inner_snoc hl]
  have e2 : ((inner hs m).map (fun r : LRow => r.v) ++ List.replicate (n - m.length) (Value.slice none 0 0)).set m.length (.slice (some ⟨H, 0, none⟩) r.length r.length) = (inner hs m ++ [inner1 H r]).map (fun r : LRow => r.v) ++ List.replicate (n - (m ++ [r]).length) (Value.slice none 0 0) := by
    have e3 : (m ++ [r]).length = m.length + 1 := by simp
    obtain ⟨d, hd⟩ : ∃ d, n = m.length + 1 + d := ⟨n - (m.length + 1), by omega⟩
    rw [List.set_append_right _ _ (by rw [List.length_map, inner_length hl]; exact Nat.le_refl _), List.length_map, inner_length hl, e3, Nat.sub_self, hd, show m.length + 1 + d - m.length = d + 1 by omega, show m.length + 1 + d - (m.length + 1) = d by omega, List.replicate_succ]
    simp [inner1]
  rw [← e2]
  exact h
theorem grid_mid (hl : hs.length = m.length) (hn : m.length = n) (h : Owns w0 w (gridRows O n hs m ++ X)) {r k : Nat} (hk : k < m.length) :
    (w.setCell ⟨O, r, none⟩ (inner1 (hs.getD k 0) (Mx.row m k)).v).cell? ⟨O, k, none⟩ = some (inner1 (hs.getD k 0) (Mx.row m k)).v ∧ (w.setCell ⟨O, r, none⟩ (inner1 (hs.getD k 0) (Mx.row m k)).v).frozen? ⟨O, k, none⟩ = false := by
  have h1 := h.store 0 rfl r (inner1 (hs.getD k 0) (Mx.row m k)).v
  refine ⟨?_, h1.frozen 0 rfl k⟩
  refine h1.cell 0 rfl k ?_
  have hcl : (inner hs m).map (fun r : LRow => r.v) ++ List.replicate (n - m.length) (Value.slice none 0 0) = (inner hs m).map (fun r : LRow => r.v) := by rw [hn, Nat.sub_self]; simp
  rw [hcl, List.getElem?_set]
  by_cases e : r = k
  · rw [if_pos e, if_pos (by rw [List.length_map, inner_length hl]; omega)]
  · rw [if_neg e, List.getElem?_map, inner_row hl hk]; rfl
theorem grid_X {x : LRow} {Y : List LRow} (hl : hs.length = m.length) : (gridRows O n hs m ++ x :: Y)[m.length + 1]? = some x := by
  have hlen : (gridRows O n hs m).length = m.length + 1 := by unfold gridRows; simp [inner_length hl]
  rw [List.getElem?_append_right (by omega), hlen, Nat.sub_self]
  rfl
theorem grid_X_set {x y : LRow} {Y : List LRow} (hl : hs.length = m.length) : (gridRows O n hs m ++ x :: Y).set (m.length + 1) y = gridRows O n hs m ++ y :: Y := by
  have hlen : (gridRows O n hs m).length = m.length + 1 := by unfold gridRows; simp [inner_length hl]
  rw [List.set_append_right _ _ (by omega), hlen, Nat.sub_self]
  rfl
end
theorem Owns.nilled {w0 w : World} {L : List LRow} {e : TypeId} (h : Owns w0 w L) : Owns w0 w (L ++ [⟨.slice none 0 0, e, 1, 0, []⟩]) where
  ext := h.ext
  ok i r hr := by
    rw [List.getElem?_append] at hr
    split at hr
    · exact h.ok i r hr
    · have : r = ⟨.slice none 0 0, e, 1, 0, []⟩ := by
        cases hk : i - L.length with
        | zero => rw [hk] at hr; simpa using hr.symm
        | succ k => rw [hk] at hr; simp at hr
      subst this
      exact World.ownsRow_nil _ _ _ _
  far i j a b hij ha hb := by
    rw [List.getElem?_append] at ha hb
    split at ha
    · split at hb
      · exact h.far i j a b hij ha hb
      · have : b = ⟨.slice none 0 0, e, 1, 0, []⟩ := by
          cases hk : j - L.length with
          | zero => rw [hk] at hb; simpa using hb.symm
          | succ k => rw [hk] at hb; simp at hb
        subst this
        exact LRow.far_none rfl
    · have : a = ⟨.slice none 0 0, e, 1, 0, []⟩ := by
        cases hk : i - L.length with
        | zero => rw [hk] at ha; simpa using ha.symm
        | succ k => rw [hk] at ha; simp at ha
      subst this
      exact .inl rfl
theorem Rs.first {α : Type} {R : World → Value → α → Prop} {w : World} {A : Option Addr} {n c k c' : Nat} {xs : List α} (h : Rs R w (.slice A n c) xs) (hk : k ≤ xs.length) : Rs R w (.slice A k c') (xs.take k) := by
  obtain ⟨A', c2, e, hl, h⟩ := h
  injection e with e1 e2 e3
  subst e1
  have hk2 : (xs.take k).length = k := by rw [List.length_take]; omega
  refine ⟨A, c', by rw [hk2], by omega, fun i x hi => ?_⟩
  rw [List.getElem?_take] at hi
  split at hi
  · exact h i x hi
  · cases hi
set_option maxHeartbeats 16000000 in
set_option maxRecDepth 100000 in
theorem xReduce_any (m : Mx.Mat) (n N : Nat) (v : Value) (w : World) (hT : Tab w) (hm : Rs (Rs RB) w v m) (hw : Mx.Rect n m) (hN0 : m.length = N) (h1 : 1 ≤ n) (hn : n ≤ 1000) (h0 : 0 < N) (hN : N ≤ 1000) :
    Calls Tryd.prog 89 #[v] w fun e w' => ∃ R P, e = .returned (.tuple #[R, P]) ∧ Rs (Rs RB) w' R ((Mx.redTo m n).1.take (Mx.redTo m n).2.length) ∧ Rs RI w' P ((Mx.redTo m n).2.map (Nat.cast : Nat → Int)) ∧ Ext w w' := by
  obtain ⟨PA, cP, rfl, hm64⟩ := hm.form
  have hcols : Mx.cols m = n := by unfold Mx.cols; have := hw 0 (by omega); exact this
  obtain ⟨pa, hpa⟩ : ∃ pa, PA = some pa := by
    obtain ⟨pa, u0, hpa, _, _⟩ := hm.at (i := 0) (by omega)
    exact ⟨pa, hpa⟩
  subst hpa
  rw [hN0] at hm
  rw [hN0]
  have HM := Lib.hid (And.intro hm (And.intro hN0 (And.intro hcols hw)))
  have HT := Lib.hid hT
  clear hm hN0 hm64 hcols hw hT
  obtain ⟨i0, hi, hz0, hz1, hz2⟩ := info_parts info_u8
  obtain ⟨j0, hj, hy0, hy1, hy2⟩ := info_parts info_bytes
  have HZ := Lib.hid (And.intro hz2 hy2)
  clear hz2 hy2
  go_enter Tryd.func89, Tryd.ntmps89
  go_wp2_with fail
  go_step3
  go_wp2_with (refine wpList_make_full _ rfl (.tmp 17) (.tmp 17) 65 rfl w.heap.size 28 j0 (.slice none 0 0) 1 Tryd.underlying65 hj hy0 hy1 _ _ _ _ N rfl rfl rfl rfl (by rw [HZ.out.2]; omega) (by unfold maxLen; omega) (Nat.le_refl _) ?_; intro w1 hown hgrow)
  have hx : Ext w w1 := (Ext.refl w).grown hgrow (fun k h => by cases h)
  have hO1 : Owns w w1 (gridRows w.heap.size N [] (m.take 0)) := by
    have h0 := (Owns.start w (L := []) (fun r h => by cases h)).behind hx (v := .slice (some ⟨w.heap.size, 0, none⟩) N N) (e := 28) (s := 1) (n := N) (xs := List.replicate N (.slice none 0 0)) (by
      rw [← toList_madeCells_one]
      simpa [Value.cells] using hown)
    simpa [gridRows, inner] using h0
  have H0 := Lib.hid hO1
  clear hown hgrow hx hO1
  obtain ⟨O, hO⟩ : ∃ O, w.heap.size = O := ⟨_, rfl⟩
  rw [hO] at H0 ⊢
  clear hO
  go_loopw [21] (fun vi wr => ∃ (i : Nat) (hs : List Nat), i ≤ N ∧ vi = .int .i64 (i : Nat) ∧ Hid (hs.length = i ∧ Owns w wr (gridRows O N hs (m.take i)))) (fun vi _ => N - (intOf vi).toNat)
  case atStart => exact ⟨0, [], Nat.zero_le _, rfl, Lib.hid ⟨rfl, H0.out⟩⟩
  case round =>
    obtain ⟨i, hs, hin, rfl, HI⟩ := hrel
    by_cases hlt : i < N
    · have him : i < m.length := by rw [HM.out.2.1]; exact hlt
      have htl : (m.take i).length = i := by rw [List.length_take]; omega
      have hsl : hs.length = (m.take i).length := by rw [htl]; exact HI.out.1
      have hcO : wr.cell? ⟨O, i, none⟩ = some (.slice none 0 0) := HI.out.2.cell 0 rfl i (by
        rw [List.getElem?_append_right (by rw [List.length_map, inner_length hsl, htl]; exact Nat.le_refl _)]
        rw [List.length_map, inner_length hsl, htl, Nat.sub_self, List.getElem?_replicate_of_lt (by omega)])
      have hfO : wr.frozen? ⟨O, i, none⟩ = false := HI.out.2.frozen 0 rfl i
      obtain ⟨ad, u, h0', hc1, hu1⟩ := (Rs.ext (Rs.ext RB.ext) _ _ _ _ HI.out.2.ext HM.out.1).at him
      injection h0' with h0'
      subst h0'
      obtain ⟨RA, cR, rfl, hr64⟩ := hu1.form
      have hml : m[i].length = n := by
        have := HM.out.2.2.2 i him
        rw [Mx.row_at him] at this
        exact this
      obtain ⟨ra, hra⟩ : ∃ ra, RA = some ra := by
        obtain ⟨ra, u2, hra, _, _⟩ := hu1.at (i := 0) (by omega)
        exact ⟨ra, hra⟩
      subst hra
      have hrd := hu1.rd
      rw [hml] at hc1
      obtain ⟨x, hx⟩ : ∃ x, m[i] = x := ⟨_, rfl⟩
      rw [hx] at hrd hml
      have HX := Lib.hid (And.intro hx hml)
      have HRD := Lib.hid hrd
      have HH := Lib.hid (And.intro hsl (And.intro htl him))
      clear hu1 hr64 hx hml hrd hsl htl
      go_wp2_with (refine wpList_make_full _ rfl (.tmp 30) (.tmp 30) 28 rfl wr.heap.size 5 i0 (.int .u8 0) 1 Tryd.underlying28 hi hz0 hz1 _ _ _ _ n rfl rfl rfl rfl (by rw [HZ.out.1]; omega) (by unfold maxLen; omega) (Nat.le_refl _) ?_; intro w2 hown hgrow; have hx2 : Ext wr w2 := (Ext.refl wr).grown hgrow (fun k h => by cases h); have hcO2 := hx2.cell hcO; have hfO2 : w2.frozen? ⟨O, i, none⟩ = false := (HI.out.2.next hx2).frozen 0 rfl i)
      have hO3 : Owns w (w2.setCell ⟨O, i, none⟩ (.slice (some ⟨wr.heap.size, 0, none⟩) n n)) (⟨.slice (some ⟨O, 0, none⟩) N N, 28, 1, N, ((inner hs (m.take i)).map (fun r : LRow => r.v) ++ List.replicate (N - (m.take i).length) (Value.slice none 0 0)).set i (.slice (some ⟨wr.heap.size, 0, none⟩) n n)⟩ :: (inner hs (m.take i) ++ [⟨.slice (some ⟨wr.heap.size, 0, none⟩) n n, 5, 1, n, List.replicate n (.int .u8 0)⟩])) := by
        have hown' : w2.ownsRow wr.heap.size 5 1 (.slice (some ⟨wr.heap.size, 0, none⟩) n n) n (List.replicate n (.int .u8 0)) := by
          rw [← toList_madeCells_one]
          simpa [Value.cells] using hown
        have h1 := (HI.out.2.behind hx2 hown').store 0 rfl i (.slice (some ⟨wr.heap.size, 0, none⟩) n n)
        simpa [gridRows] using h1
      obtain ⟨w3, hw3⟩ : ∃ w3, w2.setCell ⟨O, i, none⟩ (.slice (some ⟨wr.heap.size, 0, none⟩) n n) = w3 := ⟨_, rfl⟩
      rw [hw3] at hO3
      have hP : w3.cell? (pa.add i) = some (.slice (some ra) n cR) := by
        have hold : pa.block < w.heap.size := by
          obtain ⟨ad, u, e, h, _⟩ := HM.out.1.at HH.out.2.2
          injection e with e
          subst e
          have := lt_of_cell h
          rwa [block_add] at this
        obtain ⟨ad, u, e, h, hu⟩ := (Rs.ext (Rs.ext RB.ext) _ _ _ _ hO3.ext HM.out.1).at HH.out.2.2
        injection e with e
        subst e
        have h2 : wr.cell? (pa.add i) = w3.cell? (pa.add i) := by
          rw [Below.cell HI.out.2.ext (by rw [block_add]; exact hold), Below.cell hO3.ext (by rw [block_add]; exact hold)]
        rw [← h2]; exact hc1
      obtain ⟨h, hh⟩ : ∃ h, wr.heap.size = h := ⟨_, rfl⟩
      have hR3 : Rd w3 (some ra) (x.map bv) := by
        have h1 := HM.out.1
        obtain ⟨ad, u, e, hcu, hu⟩ := h1.at HH.out.2.2
        injection e with e
        subst e
        have e2 : u = .slice (some ra) n cR := by
          have a := HI.out.2.ext.cell hcu
          rw [hc1] at a
          injection a with a
          exact a.symm
        subst e2
        have hrd := hu.rd
        rw [HX.out.1] at hrd
        exact Rd.ext hrd hO3.ext
      rw [hh] at hO3 hw3 ⊢
      rw [hw3]
      have H3 := Lib.hid hO3
      have HR3 := Lib.hid hR3
      have hc3 : w3.cell? ⟨O, i, none⟩ = some (.slice (some ⟨h, 0, none⟩) n n) := hO3.cell 0 rfl i (by rw [List.getElem?_set_self (by rw [List.length_append, List.length_map, inner_length HH.out.1, HH.out.2.1]; simp; omega)])
      have hq : (⟨.slice (some ⟨O, 0, none⟩) N N, 28, 1, N, ((inner hs (m.take i)).map (fun r : LRow => r.v) ++ List.replicate (N - (m.take i).length) (Value.slice none 0 0)).set i (.slice (some ⟨h, 0, none⟩) n n)⟩ :: (inner hs (m.take i) ++ [(⟨.slice (some ⟨h, 0, none⟩) n n, 5, 1, n, List.replicate n (.int .u8 0)⟩ : LRow)]))[i + 1]? = some ⟨.slice (some ⟨h, 0, none⟩) n n, 5, 1, n, List.replicate n (.int .u8 0)⟩ := by
        rw [List.getElem?_cons_succ, List.getElem?_append_right (by rw [inner_length HH.out.1, HH.out.2.1]; exact Nat.le_refl _), inner_length HH.out.1, HH.out.2.1, Nat.sub_self]
        rfl
      have hxl := HX.out.2
      clear hown hgrow hcO hfO hcO2 hfO2 hO3 hw3 hh hc1 hx2 hR3
      go_wp2_with fail
      refine wp_atEnd' (rd_copy w w3 O N n i h cP cR pa ra x _ (i + 1) _ hlt hxl hc3 hP HR3 H3 hq _ _ _ _ _ _ _ _ _ _ _ _ _ _ _ _ _ _ _ _ _ _ _ _ _ _ _ _ _ _ _ _ _ _ _ _ _ _ _ _ _ _ _ _ _ _ _ _ _ _ _ _ _ _ _ _ _ _ _ _ _ _ _ _ _ _ _ _ _ _ _ _ _ _ _ _ _ _ _ _ _ _ _ _ _ _ _ _ _ _ _ _ _ _ _ _ _ _ _ _ _ _ _ _ _ _ _ _ _ _ _ _ _ _ _ _ _ _ _ _ _ _ _ _ _ _ _ _ _ _ _ _ _ _ _ _ _ _ _ _ _ _ _ _ _ _ _ _ _ _ _ _ _ _ _ _ _ _ _ _ _ _ _ _ _ _ _ _ _ _ ?_)
      intro u33 u34 u35 u36 u37 u38 u39 u40 u41 wx hx
      have hnext : Owns w wx (gridRows O N (hs ++ [h]) (m.take (i + 1))) := by
        have h2 : ∀ x y : LRow, (inner hs (m.take i) ++ [x]).set i y = inner hs (m.take i) ++ [y] := fun x y => by rw [List.set_append_right _ _ (by rw [inner_length HH.out.1, HH.out.2.1]; exact Nat.le_refl _), inner_length HH.out.1, HH.out.2.1, Nat.sub_self, List.set_cons_zero]
        rw [List.set_cons_succ, h2] at hx
        rw [List.take_succ_eq_append_getElem HH.out.2.2, HX.out.1]
        refine grid_next HH.out.1 (by rw [HH.out.2.1]; exact hlt) ?_
        have e1 : inner1 h x = ⟨.slice (some ⟨h, 0, none⟩) n n, 5, 1, n, x.map bv⟩ := by unfold inner1; rw [HX.out.2]
        rw [e1, HX.out.2, HH.out.2.1]
        rw [HH.out.2.1] at hx
        exact hx
      have HN := Lib.hid hnext
      clear hx hnext hc3 hP hq hxl
      go_wp2_with fail
      go_roundw
      case rel => exact ⟨i + 1, hs ++ [h], by omega, by go_num, Lib.hid ⟨by rw [List.length_append, HI.out.1]; rfl, HN.out⟩⟩
      case measure => simp [intOf]; omega
    · obtain rfl : N = i := by omega
      obtain ⟨m2, hm2⟩ : ∃ m2, m.take N = m2 := ⟨_, rfl⟩
      have hmm : m2 = m := by rw [← hm2, List.take_of_length_le (by rw [HM.out.2.1]; exact Nat.le_refl _)]
      have hO2 := HI.out.2
      rw [hm2, hmm] at hO2
      have hsl := HI.out.1
      have H2 := Lib.hid (And.intro hsl hO2)
      have HMR : Hid (Rs (Rs RB) wr (.slice (some pa) N cP) m) := Lib.hid (Rs.ext (Rs.ext RB.ext) _ _ _ _ hO2.ext HM.out.1)
      clear hO2 hm2 hmm hsl HI
      go_wp2_with fail
      go_step3
      go_wp2_with fail
      refine (xCols_any m _ _ HMR.out).mono ?_
      rintro e w' ⟨rfl, rfl⟩
      rw [HM.out.2.2.1]
      obtain ⟨wo, rfl⟩ : ∃ wo, wo = wr := ⟨_, rfl⟩
      go_wp2_with fail
      go_loopw [6, 45] (fun vp vi wr => ∃ (c : Nat) (g : List Nat) (pA : Option Addr) (pc p : Nat), c ≤ n ∧ vi = .int .i64 (c : Nat) ∧ vp = .slice pA p pc ∧ p ≤ N ∧ Hid (p = (Mx.redTo m c).2.length ∧ g.length = N ∧ Owns w wr (gridRows O N g (Mx.redTo m c).1 ++ [⟨.slice pA p pc, 3, 1, p, (Mx.redTo m c).2.map nv⟩]))) (fun _ vi _ => n - (intOf vi).toNat)
      case atStart => exact ⟨0, hs, none, 0, 0, Nat.zero_le _, rfl, rfl, Nat.zero_le _, Lib.hid ⟨rfl, H2.out.1, H2.out.2.nilled⟩⟩
      case round =>
        obtain ⟨wx, rfl⟩ : ∃ wx, wx = wr := ⟨_, rfl⟩
        obtain ⟨c, g, pA, pc, p, hcn, rfl, rfl, hpN, HC⟩ := hrel
        have red := Mx.red_to HM.out.2.2.2 c
        obtain ⟨R, hR⟩ : ∃ R, (Mx.redTo m c).1 = R := ⟨_, rfl⟩
        obtain ⟨P, hP⟩ : ∃ P, (Mx.redTo m c).2 = P := ⟨_, rfl⟩
        rw [hR, hP] at HC red
        have HRP := Lib.hid (And.intro hR hP)
        have hRl : R.length = N := red.len.trans HM.out.2.1
        have HRL := Lib.hid (And.intro hRl red)
        clear hR hP red hRl
        by_cases hlt : c < n
        · go_wp2_with fail
          go_loopw [6, 9] (fun vq vk wi => ∃ k : Nat, p ≤ k ∧ k ≤ N ∧ vk = .int .i64 (k : Nat) ∧ vq = .slice pA p pc ∧ Hid ((∀ j, p ≤ j → j < k → Mx.cell R j c = 0) ∧ Owns w wi (gridRows O N g R ++ [⟨.slice pA p pc, 3, 1, p, P.map nv⟩]))) (fun _ vk _ => N - (intOf vk).toNat)
          case atStart => exact ⟨p, Nat.le_refl _, hpN, rfl, rfl, Lib.hid ⟨fun j h1 h2 => absurd h2 (by omega), HC.out.2.2⟩⟩
          case round =>
            obtain ⟨k, hpk, hkN, rfl, rfl, HK⟩ := hrel
            by_cases hk : k < N
            · have hl : g.length = R.length := by rw [HC.out.2.1, HRL.out.1]
              have hkR : k < R.length := by rw [HRL.out.1]; exact hk
              have hpR : p < R.length := by omega
              have hrow : ∀ i, i < R.length → (Mx.row R i).length = n := HRL.out.2.rect
              have c1 := grid_outer hl HK.out.2 hkR
              have c2 := grid_cell hl HK.out.2 hkR (j := c) (by rw [hrow k hkR]; exact hlt)
              have d1 := grid_outer hl HK.out.2 hpR
              have m1 := grid_mid (r := p) hl HRL.out.1 HK.out.2 hkR
              have sw := grid_swap hl HRL.out.1 HK.out.2 hpR hkR
              have f1 : wr.frozen? ⟨O, p, none⟩ = false := HK.out.2.frozen 0 rfl p
              unfold inner1 at m1 sw
              dsimp only at m1 sw
              rw [hrow k hkR] at c1 m1 sw
              rw [hrow p hpR] at d1 sw
              obtain ⟨b, hb⟩ : ∃ b, Mx.cell R k c = b := ⟨_, rfl⟩
              rw [hb] at c2
              obtain ⟨gk, hgk⟩ : ∃ gk, g.getD k 0 = gk := ⟨_, rfl⟩
              obtain ⟨gp, hgp⟩ : ∃ gp, g.getD p 0 = gp := ⟨_, rfl⟩
              rw [hgk] at c1 c2 m1 sw
              rw [hgp] at d1 sw
              have HB := Lib.hid hb
              have HG := Lib.hid (And.intro hgk (And.intro hl (And.intro hkR hpR)))
              have HROW := Lib.hid hrow
              have HSW := Lib.hid sw
              have HM1 := Lib.hid m1
              clear hb hgk hgp hl hkR hpR hrow sw m1
              by_cases hb0 : b = 0
              · subst hb0
                clear d1 f1
                go_wp2_with fail
                clear c1 c2
                go_roundw
                case rel =>
                  refine ⟨k + 1, by omega, by omega, by go_num, (by first | trivial | rfl), Lib.hid ⟨fun j h1 h2 => ?_, HK.out.2⟩⟩
                  by_cases e : j = k
                  · rw [e]; exact HB.out
                  · exact HK.out.1 j h1 (by omega)
                case measure => simp [intOf]; omega
              · have HNZ := Lib.hid hb0
                have hbe : (((b.toNat : Nat) : Int) == 0) = false := by
                  rw [beq_eq_false_iff_ne]
                  intro h
                  exact hb0 (UInt8.toNat_inj.1 (by have : b.toNat = 0 := by omega
                                                   exact this))
                have hb1 : ¬ ((b.toNat : Nat) : Int) = 0 := fun h => hb0 (UInt8.toNat_inj.1 (by have : b.toNat = 0 := by omega
                                                                                                exact this))
                clear hb0
                go_wp2_with fail
                have hp2 : p < N := by omega
                refine wp_atEnd' (rd_swap wr O N p k gp gk n n hp2 hk d1 c1 f1 HM1.out.1 HM1.out.2 _ _ _ _ _ _ _ _ _ _ _ _ _ _ _ _ _ _ _ _ _ _ _ _ _ _ _ _ _ _ _ _ _ _ _ _ _ _ _ _ _ _ _ _ _ _ _ _ _ _ _ _ _ _ _ _ _ _ _ _ _ _ _ _ _ _ _ _ _ _ _ _ _ _ _ _ _ _ _ _ _ _ _ _ _ _ _ _ _ _ _ _ _ _ _ _ _ _ _ _ _ _ _ _ _ _ _ _ _ _ _ _ _ _ _ _ _ _ _ _ _ _ _ _ _ _ _ _ _ _ _ _ _ _ _ _ _ _ _ _ _ _ _ _ _ _ _ _ _ _ _ _ _ _ _ _ _ _ _ _ _ _ _ _ _ _ _ _ _ _ ?_)
                intro u65 u66 u67 u68 u69 u70 u71 u72 u73 u74 u75 u76 u77 u78 wy hy
                have hOy : Owns w wy (gridRows O N (swapH g p k) (Mx.swap R p k) ++ [⟨.slice pA p pc, 3, 1, p, P.map nv⟩]) := by rw [hy]; exact HSW.out.drew
                obtain ⟨R1, hR1⟩ : ∃ R1, Mx.swap R p k = R1 := ⟨_, rfl⟩
                obtain ⟨g1, hg1⟩ : ∃ g1, swapH g p k = g1 := ⟨_, rfl⟩
                have hl1 : g1.length = R1.length := by rw [← hR1, ← hg1, swapH_length, Mx.swap_length]; exact HG.out.2.1
                have hR1l : R1.length = N := by rw [← hR1, Mx.swap_length]; exact HRL.out.1
                have hrowp : Mx.row R1 p = Mx.row R k := by
                  rw [← hR1, Mx.swap_row _ HG.out.2.2.2 HG.out.2.2.1]
                  by_cases e : p = k
                  · rw [if_pos e, e]
                  · rw [if_neg e, if_pos rfl]
                have hrow1 : ∀ i, i < R1.length → (Mx.row R1 i).length = n := fun i hi => by
                  rw [← hR1, Mx.swap_row _ HG.out.2.2.2 HG.out.2.2.1]
                  split
                  · exact HROW.out p HG.out.2.2.2
                  · split
                    · exact HROW.out k HG.out.2.2.1
                    · exact HROW.out i (by rw [HRL.out.1, ← hR1l]; exact hi)
                rw [hR1, hg1] at hOy
                have hp1 : p < R1.length := by rw [hR1l]; exact hp2
                have e1 := grid_outer hl1 hOy hp1
                have e2 := grid_cell hl1 hOy hp1 (j := c) (by rw [hrow1 p hp1]; exact hlt)
                rw [hrow1 p hp1] at e1
                have hcell : Mx.cell R1 p c = b := by
                  have := HB.out
                  unfold Mx.cell at this ⊢
                  rw [hrowp]; exact this
                rw [hcell] at e2
                obtain ⟨h1, hh1⟩ : ∃ h1, g1.getD p 0 = h1 := ⟨_, rfl⟩
                rw [hh1] at e1 e2
                have HOy := Lib.hid hOy
                have hTy : Tab wy := HT.out.ext hOy.ext
                have HTy := Lib.hid hTy
                have HR1 := Lib.hid (And.intro hR1 (And.intro hrowp (And.intro hl1 (And.intro hR1l (And.intro hrow1 hp1)))))
                clear hy hOy hR1 hg1 hl1 hR1l hrowp hrow1 hp1 hcell hh1 hTy c1 c2 d1 f1
                go_wp2_with fail
                refine (inv_u8 b _ HTy.out).mono ?_
                rintro e w' ⟨rfl, rfl⟩
                go_wp2_with fail
                refine rd_mulL w wy O N n p g1 R1 _ (Gf.inv b) hp2 hn (Lib.hid ⟨HR1.out.2.2.1, HR1.out.2.2.2.1, HR1.out.2.2.2.2.1 p HR1.out.2.2.2.2.2⟩) HT HOy _ _ _ _ _ _ _ _ _ _ _ _ _ _ _ _ _ _ _ _ _ _ _ _ _ _ _ _ _ _ _ _ _ _ _ _ _ _ _ _ _ _ _ _ _ _ _ _ _ _ _ _ _ _ _ _ _ _ _ _ _ _ _ _ _ _ _ _ _ _ _ _ _ _ _ _ _ _ _ _ _ _ _ _ _ _ _ _ _ _ _ _ _ _ _ _ _ _ _ _ _ _ _ _ _ _ _ _ _ _ _ _ _ _ _ _ _ _ _ _ _ _ _ _ _ _ _ _ _ _ _ _ _ _ _ _ _ _ _ _ _ _ _ _ _ _ _ _ _ _ _ _ _ _ _ _ _ _ _ _ _ _ _ _ _ _ _ _ ?_
                intro u12 u95 u96 u97 u98 u99 u100 u101 u102 u103 u104 u105 u106 u107 u108 u109 u110 u111 u112 u113 wz hz
                obtain ⟨t, ht⟩ : ∃ t, Mx.topRow R k c = t := ⟨_, rfl⟩
                have hhalf : Mx.half (Mx.mulF (Gf.inv b) (Mx.row R1 p)) (Mx.row R1 p) n = t := by
                  have a := Mx.half_mul (Gf.inv b) (Mx.row R1 p)
                  rw [HR1.out.2.2.2.2.1 p HR1.out.2.2.2.2.2] at a
                  rw [a, HR1.out.2.1, ← ht]
                  unfold Mx.topRow
                  rw [HB.out]
                rw [hhalf] at hz
                have HZ := Lib.hid hz
                have HTT := Lib.hid ht
                have htl : t.length = n := by
                  rw [← ht]; unfold Mx.topRow; rw [List.length_map]; exact HROW.out k HG.out.2.2.1
                have hL2 : g1.length = (R1.set p t).length ∧ (R1.set p t).length = N ∧ ∀ i, i < (R1.set p t).length → (Mx.row (R1.set p t) i).length = n := by
                  refine ⟨by rw [List.length_set]; exact HR1.out.2.2.1, by rw [List.length_set]; exact HR1.out.2.2.2.1, fun i hi => ?_⟩
                  rw [List.length_set] at hi
                  rw [Mx.row_set HR1.out.2.2.2.2.2]
                  split
                  · exact htl
                  · exact HR1.out.2.2.2.2.1 i hi
                have HL2 := Lib.hid hL2
                clear hz hhalf ht htl hL2 e1 e2
                go_wp2_with fail
                refine rd_cleanL w wz O N n p c g1 (R1.set p t) _ hp2 hlt hn hN HL2 HT HZ _ _ _ _ _ _ _ _ _ _ _ _ _ _ _ _ _ _ _ _ _ _ _ _ _ _ _ _ _ _ _ _ _ _ _ _ _ _ _ _ _ _ _ _ _ _ _ _ _ _ _ _ _ _ _ _ _ _ _ _ _ _ _ _ _ _ _ _ _ _ _ _ _ _ _ _ _ _ _ _ _ _ _ _ _ _ _ _ _ _ _ _ _ _ _ _ _ _ _ _ _ _ _ _ _ _ _ _ _ _ _ _ _ _ _ _ _ _ _ _ _ _ _ _ _ _ _ _ _ _ _ _ _ _ _ _ _ _ _ _ _ _ _ _ _ _ _ _ _ _ _ _ _ _ _ _ _ _ _ _ _ _ _ _ _ _ _ _ ?_
                intro u13 u14 u15 u116 u117 u118 u119 u120 u121 u122 u123 u124 u125 u126 u127 u128 u129 u130 u131 u132 u133 u134 u135 u136 u137 u138 u139 u140 u141 u142 u143 u144 u145 u146 u147 u148 u149 u150 u151 u152 u153 u154 u155 u156 u157 u158 u159 u160 wu hu
                have hpiv : Mx.cleanTo p c (Mx.row (R1.set p t) p) (R1.set p t) N = Mx.pivot R p k c := by
                  rw [Mx.row_set_self HR1.out.2.2.2.2.2, ← HR1.out.2.2.2.1, Mx.cleanTo_full t HR1.out.2.2.2.2.2, ← HTT.out, ← HR1.out.1]
                  rfl
                rw [hpiv] at hu
                have hpl : g1.length = (Mx.pivot R p k c).length := by rw [Mx.pivot_length, HRL.out.1, HR1.out.2.2.1, HR1.out.2.2.2.1]
                have hpN : (Mx.pivot R p k c).length = N := by rw [Mx.pivot_length]; exact HRL.out.1
                have HU := Lib.hid hu
                have HPL := Lib.hid (And.intro hpl hpN)
                clear hu hpiv hpl hpN
                have hX : (gridRows O N g1 (Mx.pivot R p k c) ++ [(⟨.slice pA p pc, 3, 1, p, P.map nv⟩ : LRow)] ++ [(⟨.slice (some ⟨wu.heap.size, 0, none⟩) 1 1, 3, 1, 1, [nv c]⟩ : LRow)])[(Mx.pivot R p k c).length + 1]? = some ⟨.slice pA p pc, 3, 1, p, P.map nv⟩ := by
                  rw [List.append_assoc]; exact grid_X HPL.out.1
                have HXX := Lib.hid hX
                clear hX
                go_wp2_with (refine wpl_append_owns (u := nv c) 27 3 rfl (.tmp 161) (.tmp 163) rfl Tryd.underlying27 info_int rfl HU.out.push1 ((Mx.pivot R p k c).length + 1) HXX.out rfl rfl (cell_of_row _ _ 0 _ _ (0, 0) (heap_new _ _)) rfl (by omega) (by decide) ?_; intro g9 c9 w9 hO9 hg9)
                have hfin : Owns w w9 (gridRows O N g1 (Mx.pivot R p k c) ++ [⟨.slice (some ⟨g9, 0, none⟩) (p + 1) c9, 3, 1, p + 1, (P ++ [c]).map nv⟩]) := by
                  rw [List.append_assoc, List.singleton_append, grid_X_set HPL.out.1] at hO9
                  refine Owns.front (M := [⟨.slice (some ⟨wu.heap.size, 0, none⟩) 1 1, 3, 1, 1, [nv c]⟩]) ?_
                  rw [List.append_assoc, List.singleton_append, List.map_append]
                  exact hO9
                have hlead : Mx.lead R p c = some k := Mx.lead_eq hpk HG.out.2.2.1 (by rw [HB.out]; exact HNZ.out) HK.out.1
                have hstep : Mx.redTo m (c + 1) = (Mx.pivot R p k c, P ++ [c]) := by
                  rw [Mx.redTo]
                  unfold Mx.colStep
                  rw [HRP.out.1, HRP.out.2, ← HC.out.1, hlead]
                have HFI := Lib.hid (And.intro hfin hstep)
                clear hO9 hg9 hfin hlead hstep
                go_wp2_with fail
                go_roundw
                case rel => exact ⟨c + 1, g1, some ⟨g9, 0, none⟩, c9, p + 1, by omega, by go_num, (by first | trivial | rfl), by omega, Lib.hid ⟨by rw [HFI.out.2, List.length_append, ← HC.out.1]; rfl, by rw [HPL.out.1]; exact HPL.out.2, by rw [HFI.out.2]; exact HFI.out.1⟩⟩
                case measure => simp [intOf]; omega
            · obtain rfl : N = k := by omega
              have hlead : Mx.lead R p c = none := Mx.lead_no (fun j h1 h2 => HK.out.1 j h1 (by rw [← HRL.out.1]; exact h2))
              have hstep : Mx.redTo m (c + 1) = (R, P) := by
                rw [Mx.redTo]
                unfold Mx.colStep
                rw [HRP.out.1, HRP.out.2, ← HC.out.1, hlead]
                exact Prod.ext HRP.out.1 HRP.out.2
              have HST := Lib.hid hstep
              clear hlead hstep
              go_wp2_with fail
              go_roundw
              case rel => exact ⟨c + 1, g, pA, pc, p, by omega, by go_num, (by first | trivial | rfl), hpN, Lib.hid ⟨by rw [HST.out]; exact HC.out.1, HC.out.2.1, by rw [HST.out]; exact HK.out.2⟩⟩
              case measure => simp [intOf]; omega
        · obtain rfl : n = c := by omega
          have hl : g.length = R.length := by rw [HC.out.2.1, HRL.out.1]
          have hall : Rs (Rs RB) wx (.slice (some ⟨O, 0, none⟩) N N) R := by
            have h1 := grid_rs (X := [⟨.slice pA p pc, 3, 1, p, P.map nv⟩]) (w0 := w) (O := O) hl (by rw [HRL.out.1]; exact HC.out.2.2) (fun r hr => by
              obtain ⟨i, hi, rfl⟩ := List.getElem_of_mem hr
              have := HRL.out.2.rect i hi
              rw [Mx.row_at hi] at this
              omega) (by rw [HRL.out.1]; omega)
            rw [HRL.out.1] at h1
            exact h1
          have hpv : Rs RI wx (.slice pA p pc) (P.map (Nat.cast : Nat → Int)) := by
            have hrd : Rd wx pA (P.map nv) := HC.out.2.2.rd (R.length + 1) (n := p) (c := pc) (e := 3) (grid_X hl)
            refine ⟨pA, pc, by rw [List.length_map, HC.out.1], by rw [List.length_map, ← HC.out.1]; omega, fun i x hi => ?_⟩
            rw [List.getElem?_map] at hi
            obtain ⟨y, hy, rfl⟩ := Option.map_eq_some_iff.1 hi
            obtain ⟨ad, hA, _, hcell⟩ := hrd i (nv y) (by rw [List.getElem?_map, hy]; rfl)
            have hyn : y < n := by
              obtain ⟨hi2, rfl⟩ := List.getElem?_eq_some_iff.1 hy
              have := HRL.out.2.lt i hi2
              rw [List.getD_eq_getElem?_getD, List.getElem?_eq_getElem hi2] at this
              exact this
            exact ⟨ad, _, hA, hcell, rfl, by omega, by omega⟩
          have HALL := Lib.hid (And.intro hall hpv)
          clear hall hpv hl
          have hle : p ≤ N := hpN
          go_wp2_with fail
          try rw [Exit.noGoto_ret]
          (first | go_ret2 | go_ret)
          refine ⟨_, _, rfl, ?_, ?_, HC.out.2.2.ext⟩
          · rw [HRP.out.1, HRP.out.2, ← HC.out.1]
            exact HALL.out.1.first (by rw [HRL.out.1]; exact hpN)
          · rw [HRP.out.2]; exact HALL.out.2
end Go.Proofs.YtdmljilcbndmfaaDoor
