/- What the program's functions do, step by step: part B of the texts for this claim; no condition beyond what each theorem states. -/
import Derived.RegionTactic
import Derived.BigRegion
import Derived.StillTailTactics
import Derived.Deep.RegionHeld3
import Derived.Deep.RegionWith
import Derived.Deep.RegionLaw
import Derived.Test.YtkbiffbmjgmcaaaDoorMvKeepBunA
/- THE WALK over Check of package domain. -/
namespace Go.Proofs.YtkbiffbmjgmcaaaDoor
open Go.RowKit
theorem wp_atEnd' {P : Program} {c : Code} {Q : Exit → Act → World → Prop} {a : Act} {w : World} (h : Code.wp P c (AtEnd fun a w => Q .normal a w) a w) : Code.wp P c Q a w :=
  Code.wp_mono (fun e a w hr => by
    cases e with
    | normal => exact hr
    | _ => exact (hr : False).elim) h
theorem cells_new (w : World) (cs : Array Value) (T : TypeId) : ∀ i u, cs[i]? = some u → (w.alloc (.cells cs T)).cell? ⟨w.heap.size, i, none⟩ = some u := fun i u h => by
  exact (cell_of_row _ _ i cs T (0, 0) (heap_new _ _)).trans (by simpa using h)
/-- A value reads as racks, of which the houses count. -/
def RK (w : World) (v : Value) (l : List Int) : Prop :=
  ∃ (A : Option Addr) (c : Nat), v = .slice A l.length c ∧ l.length ≤ 9223372036854775807 ∧ ∀ i x, l[i]? = some x → ∃ ad b, A = some ad ∧ w.cell? (ad.add (i * 2)) = some (.int .i64 x) ∧ w.cell? ⟨(ad.add (i * 2)).block, (ad.add (i * 2)).off + 1, none⟩ = some (.bool b) ∧ -9223372036854775808 ≤ x ∧ x ≤ 9223372036854775807
theorem RK.ext : Stable RK := fun _ _ _ _ hx ⟨A, c, e, hl, h⟩ => ⟨A, c, e, hl, fun i x hi => by
  obtain ⟨ad, b, h1, h2, h3, h4⟩ := h i x hi
  exact ⟨ad, b, h1, hx.cell h2, hx.cell h3, h4⟩⟩
theorem RK.form {w : World} {v : Value} {l : List Int} (h : RK w v l) : ∃ A c, v = .slice A l.length c ∧ l.length ≤ 9223372036854775807 := by
  obtain ⟨A, c, e, hl, _⟩ := h
  exact ⟨A, c, e, hl⟩
theorem RK.len {w : World} {l : List Int} {A : Option Addr} {n c : Nat} (h : RK w (.slice A n c) l) : n = l.length := by
  obtain ⟨A', c', e, _, h⟩ := h
  injection e
theorem RK.at {w : World} {l : List Int} {A : Option Addr} {n c : Nat} (h : RK w (.slice A n c) l) {i : Nat} (hi : i < l.length) :
    ∃ ad b, A = some ad ∧ w.cell? (ad.add (i * 2)) = some (.int .i64 l[i]) ∧ w.cell? ⟨(ad.add (i * 2)).block, (ad.add (i * 2)).off + 1, none⟩ = some (.bool b) := by
  obtain ⟨A', c', e, _, h⟩ := h
  injection e with e1 e2 e3
  subst e1
  obtain ⟨ad, b, h1, h2, h3, _⟩ := h i _ (List.getElem?_eq_getElem hi)
  exact ⟨ad, b, h1, h2, h3⟩
/-- The test that Check hands on. -/
theorem dOut_any (a n : Int) (g : Nat) (w : World) (hc : w.cell? ⟨g, 0, none⟩ = some (.int .i64 n)) :
    Calls Tryd.prog 51 #[.int .i64 a, .pointer (some ⟨g, 0, none⟩)] w fun e w' => e = .returned (.bool (decide (Mv.out n a))) ∧ w = w' := by
  by_cases h0 : a < 0
  · have hd : decide (Mv.out n a) = true := decide_eq_true (.inl h0)
    have HD := Lib.hid hd
    clear hd
    go_enter Tryd.func51, Tryd.ntmps51
    go_wp2_with fail
    go_ret
    exact ⟨ret_bool HD.out.symm, rfl⟩
  · by_cases h1 : n ≤ a
    · have hd : decide (Mv.out n a) = true := decide_eq_true (.inr h1)
      have HD := Lib.hid hd
      clear hd
      go_enter Tryd.func51, Tryd.ntmps51
      go_wp2_with fail
      go_ret
      exact ⟨ret_bool HD.out.symm, rfl⟩
    · have hd : decide (Mv.out n a) = false := decide_eq_false (by rintro (h | h); exact h0 h; exact h1 h)
      have HD := Lib.hid hd
      clear hd
      go_enter Tryd.func51, Tryd.ntmps51
      go_wp2_with fail
      go_ret
      exact ⟨ret_bool HD.out.symm, rfl⟩
/-- What makes the test. -/
theorem dMk_any (n : Int) (w : World) : Calls Tryd.prog 50 #[.int .i64 n] w fun e w' => e = .returned (.func (.func 51) #[] #[.pointer (some ⟨w.heap.size, 0, none⟩)]) ∧ w' = w.alloc (.cells #[.int .i64 n] 3) := by
  go_enter Tryd.func50, Tryd.ntmps50
  go_wp2_with fail
  go_ret
  exact ⟨rfl, rfl⟩
/-- The test of a rack's house. -/
theorem dHouse_any (a n : Int) (b : Bool) (g g0 : Nat) (w : World) (hg : w.cell? ⟨g, 0, none⟩ = some (.func (.func 51) #[] #[.pointer (some ⟨g0, 0, none⟩)])) (hc : w.cell? ⟨g0, 0, none⟩ = some (.int .i64 n)) :
    Calls Tryd.prog 53 #[.agg #[.int .i64 a, .bool b], .pointer (some ⟨g, 0, none⟩)] w fun e w' => e = .returned (.bool (decide (Mv.out n a))) ∧ Ext w w' := by
  have hx := (Ext.refl w).alloc (.cells #[.int .i64 a, .bool b] 74)
  have k1 := hx.cell hg
  have k2 := hx.cell hc
  have HX := Lib.hid (And.intro hx k2)
  clear hx hc k2 hg
  go_enter Tryd.func53, Tryd.ntmps53
  go_wp2_with fail
  refine (dOut_any a n g0 _ HX.out.2).mono ?_
  rintro e w1 ⟨rfl, rfl⟩
  go_wp2_with fail
  go_ret
  exact ⟨rfl, HX.out.1⟩
/-- What IndexFunc returns of racks. -/
def IdxKOut (l : List Int) (p : Int → Bool) (w : World) (e : Ending) (w' : World) : Prop := ∃ z : Int, e = .returned (.int .i64 z) ∧ (0 ≤ z ↔ ∃ x ∈ l, p x = true) ∧ Ext w w'
theorem sIndexRack_any (l : List Int) (p : Int → Bool) (B : Option Addr) (n c : Nat) (F : FuncId) (cap : Array Value) (w : World) (hB : RK w (.slice B n c) l) (hE : ∀ args w, (callFunc F args).run Tryd.prog w = .ok (.enter F args) w)
    (hF : ∀ x b w1, Ext w w1 → Calls Tryd.prog F (#[.agg #[.int .i64 x, .bool b]] ++ cap) w1 fun e w2 => e = .returned (.bool (p x)) ∧ Ext w1 w2) :
    Calls Tryd.prog 71 #[.slice B n c, .func (.func F) #[] cap] w fun e w' => IdxKOut l p w e w' := by
  have hn := hB.len
  obtain ⟨_, _, e0, hl⟩ := hB.form
  have HB := Lib.hid hB
  have HN := Lib.hid hn
  have HF := Lib.hid hF
  have hl2 : n ≤ 9223372036854775807 := by omega
  clear hB hn e0 hl hF
  go_enter Tryd.func71, Tryd.ntmps71
  go_wp2_with fail
  go_loopw [8] (fun vi wr => ∃ i : Nat, i ≤ n ∧ vi = .int .i64 i ∧ Hid ((∀ j, j < i → p (l.getD j 0) = false) ∧ Ext w wr)) (fun vi _ => n - (intOf vi).toNat)
  case atStart => exact ⟨0, Nat.zero_le _, rfl, Lib.hid ⟨fun j hj => absurd hj (Nat.not_lt_zero j), Ext.refl _⟩⟩
  case round =>
    obtain ⟨i, hi, rfl, HJ⟩ := hrel
    by_cases hlt : i < n
    · have hll : i < l.length := by rw [← HN.out]; exact hlt
      obtain ⟨ad, b, rfl, hc0, hc1⟩ := HB.out.at hll
      have hgd := getD_get (x := (0 : Int)) hll
      obtain ⟨y, hy⟩ : ∃ y, l[i] = y := ⟨_, rfl⟩
      rw [hy] at hc0 hgd
      have hm : y ∈ l := by rw [← hy]; exact List.getElem_mem hll
      have HM := Lib.hid (And.intro hgd hm)
      have k0 := HJ.out.2.cell hc0
      have k1 := HJ.out.2.cell hc1
      clear hgd hm hy hc0 hc1
      cases hp : p y with
      | true =>
        have hd : (0 ≤ (i : Int) ↔ ∃ x ∈ l, p x = true) := ⟨fun _ => ⟨y, HM.out.2, hp⟩, fun _ => by omega⟩
        have HD := Lib.hid hd
        have HP := Lib.hid hp
        clear hd hp
        go_wp2_with fail
        refine (HF.out y b wr HJ.out.2).mono ?_
        rintro e w1 ⟨rfl, hx1⟩
        rw [HP.out]
        have HX := Lib.hid (HJ.out.2.trans hx1)
        clear hx1 k0 k1
        go_wp2_with fail
        go_ret
        exact ⟨_, rfl, HD.out, HX.out⟩
      | false =>
        have HP := Lib.hid hp
        clear hp
        go_wp2_with fail
        refine (HF.out y b wr HJ.out.2).mono ?_
        rintro e w1 ⟨rfl, hx1⟩
        rw [HP.out]
        have HX := Lib.hid (HJ.out.2.trans hx1)
        clear hx1 k0 k1
        go_wp2_with fail
        go_roundw
        case rel => exact ⟨i + 1, by omega, by go_num, Lib.hid ⟨fun j hj => by
          by_cases hji : j = i
          · rw [hji, HM.out.1]; exact HP.out
          · exact HJ.out.1 j (by omega), HX.out⟩⟩
        case measure => simp [intOf]; omega
    · obtain rfl : i = n := by omega
      have hd : (0 ≤ (-1 : Int) ↔ ∃ x ∈ l, p x = true) := by
        refine ⟨fun h => by omega, fun ⟨x, hm, hp⟩ => ?_⟩
        obtain ⟨j, hj, rfl⟩ := List.getElem_of_mem hm
        have := HJ.out.1 j (by rw [HN.out]; exact hj)
        rw [getD_get hj, hp] at this
        cases this
      have HD := Lib.hid hd
      clear hd
      go_wp2_with fail
      go_ret
      exact ⟨_, rfl, HD.out, HJ.out.2⟩
theorem sContainsRack_any (l : List Int) (p : Int → Bool) (B : Option Addr) (n c : Nat) (F : FuncId) (cap : Array Value) (w : World) (hB : RK w (.slice B n c) l) (hE : ∀ args w, (callFunc F args).run Tryd.prog w = .ok (.enter F args) w)
    (hF : ∀ x b w1, Ext w w1 → Calls Tryd.prog F (#[.agg #[.int .i64 x, .bool b]] ++ cap) w1 fun e w2 => e = .returned (.bool (p x)) ∧ Ext w1 w2) :
    Calls Tryd.prog 52 #[.slice B n c, .func (.func F) #[] cap] w fun e w' => e = .returned (.bool (decide (∃ x ∈ l, p x = true))) ∧ Ext w w' := by
  have HB := Lib.hid hB
  have HF := Lib.hid hF
  clear hB hF
  go_enter Tryd.func52, Tryd.ntmps52
  go_wp2_with fail
  refine (sIndexRack_any l p B n c F cap _ HB.out hE HF.out).mono ?_
  rintro e w1 ⟨z, rfl, hz, hx⟩
  have hz2 : decide (0 ≤ z) = decide (∃ x ∈ l, p x = true) := decide_eq_decide.2 hz
  have HZ := Lib.hid hz2
  have HX := Lib.hid hx
  clear hz hz2 hx
  go_wp2_with fail
  go_ret
  exact ⟨ret_bool HZ.out, HX.out⟩
theorem ent_dmk : ∀ args w, (callFunc 50 args).run Tryd.prog w = .ok (.enter 50 args) w := enters_of Tryd.func50 (by kernel_rfl) rfl
theorem ent_dout : ∀ args w, (callFunc 51 args).run Tryd.prog w = .ok (.enter 51 args) w := enters_of Tryd.func51 (by kernel_rfl) rfl
theorem ent_dhouse : ∀ args w, (callFunc 53 args).run Tryd.prog w = .ok (.enter 53 args) w := enters_of Tryd.func53 (by kernel_rfl) rfl
theorem ent_scf : ∀ args w, (callFunc 28 args).run Tryd.prog w = .ok (.enter 28 args) w := enters_of Tryd.func28 (by kernel_rfl) rfl
theorem ent_scr : ∀ args w, (callFunc 52 args).run Tryd.prog w = .ok (.enter 52 args) w := enters_of Tryd.func52 (by kernel_rfl) rfl
set_option maxRecDepth 100000 in
theorem dIn_any (l : List Int) (n : Int) (A : Option Addr) (k c g : Nat) (w : World) (hB : Rs RI w (.slice A k c) l) (hc : w.cell? ⟨g, 0, none⟩ = some (.int .i64 n)) :
    Calls Tryd.prog 28 #[.slice A k c, .func (.func 51) #[] #[.pointer (some ⟨g, 0, none⟩)]] w fun e w' => e = .returned (.bool (decide (∃ x ∈ l, Mv.out n x))) ∧ w = w' := by
  refine (sContainsFunc_any l (fun x => decide (Mv.out n x)) A k c 51 #[.pointer (some ⟨g, 0, none⟩)] w hB ent_dout (fun x => dOut_any x n g w hc)).mono ?_
  rintro e w1 ⟨h1, h2⟩
  refine ⟨h1.trans ?_, h2⟩
  simp only [decide_eq_true_eq]
set_option maxRecDepth 100000 in
theorem dInK_any (l : List Int) (n : Int) (A : Option Addr) (k c g g0 : Nat) (w : World) (hB : RK w (.slice A k c) l) (hg : w.cell? ⟨g, 0, none⟩ = some (.func (.func 51) #[] #[.pointer (some ⟨g0, 0, none⟩)])) (hc : w.cell? ⟨g0, 0, none⟩ = some (.int .i64 n)) :
    Calls Tryd.prog 52 #[.slice A k c, .func (.func 53) #[] #[.pointer (some ⟨g, 0, none⟩)]] w fun e w' => e = .returned (.bool (decide (∃ x ∈ l, Mv.out n x))) ∧ Ext w w' := by
  refine (sContainsRack_any l (fun x => decide (Mv.out n x)) A k c 53 #[.pointer (some ⟨g, 0, none⟩)] w hB ent_dhouse (fun x b w1 hx => dHouse_any x n b g g0 w1 (hx.cell hg) (hx.cell hc))).mono ?_
  rintro e w1 ⟨h1, h2⟩
  refine ⟨h1.trans ?_, h2⟩
  simp only [decide_eq_true_eq]
theorem map1r {a : Act} {x : Operand} {u : Value} (h : a.eval x = u) : #[x].map a.eval ++ #[] = #[u] := by simp [h]
theorem map2r {a : Act} {x y : Operand} {u v : Value} (h : a.eval x = u) (h2 : a.eval y = v) : #[x, y].map a.eval ++ #[] = #[u, v] := by simp [h, h2]
theorem ex_make1 {P : Program} {w : World} {a : Act} {o : Oper} {f : FuncId} {x : Operand} {u : Value} (ho : o.op = .makeFunc (.func f) #[] #[x]) (hx : a.eval x = u) : (execOp a.eval o).run P w = .ok (.value (.func (.func f) #[] #[u])) w := by
  unfold execOp
  simp only [ho, List.map_toArray, List.map_cons, List.map_nil, hx, Instr.makeFunc, Sem.run_bind, Sem.run_pure, Result.andThen_ok]
noncomputable def dom_a_code : Code := ((Tryd.f27.body.bind (regionOf 5)).getD .skip)
def dom_a_dsts : List (Option Nat) := [some 36, some 37, some 38, some 39, some 40, some 41, some 42, some 43, some 44, some 45, some 46, some 47, some 48, some 49, some 50, some 51, some 52, some 53, some 54, some 55, some 56, some 57, some 58]
theorem dom_a_apart : apartD dom_a_dsts = true := by decide +kernel
set_option maxRecDepth 1000000 in
set_option maxHeartbeats 16000000 in
theorem dom_a (wr : World) (B g4 g5 nd cd nr cr nh ch : Nat) (DA RA HA : Option Addr) (ow : Int) (disks racks houses : List Int) (h0 : wr.cell? ⟨B, 0, none⟩ = some (.slice DA nd cd)) (h1 : wr.cell? ⟨B, 1, none⟩ = some (.slice RA nr cr)) (_ : wr.cell? ⟨B, 2, none⟩ = some (.slice HA nh ch)) (_ : wr.cell? ⟨B, 3, none⟩ = some (.int .i64 ow)) (_ : Hid (wr.cell? ⟨g4, 0, none⟩ = some (.func (.func 51) #[] #[.pointer (some ⟨g5, 0, none⟩)]) ∧ wr.cell? ⟨g5, 0, none⟩ = some (.int .i64 (nh : Int)))) (HD : Hid (Rs RI wr (.slice DA nd cd) disks)) (_ : Hid (RK wr (.slice RA nr cr) racks)) (_ : Hid (Rs RI wr (.slice HA nh ch) houses)) (H1 : Hid (decide (∃ x ∈ disks, Mv.out nr x) = true)) (c0 c2 c5 c6 c7 c8 c9 c10 c11 c12 c13 c14 c15 c16 c17 c18 c19 c20 c21 c22 c23 c24 c25 c26 c27 c28 c29 c30 c31 c32 c33 c34 c35 c36 c37 c38 c39 c40 c41 c42 c43 c44 c45 c46 c47 c48 c49 c50 c51 c52 c53 c54 c55 c56 c57 c58 : Value) (df : List Deferred) (K : Act → World → Prop)
    (hK : ∀  (u36 u37 u38 u39 u40 u41 u42 u43 u44 u45 u46 u47 u48 u49 u50 u51 u52 u53 u54 u55 u56 u57 : Value) (wx : World), Ext wr wx → K ⟨#[c0, .pointer (some ⟨B, 0, none⟩), c2, .func (.func 50) #[] #[], .pointer (some ⟨g4, 0, none⟩), c5, c6, c7, c8, c9, c10, c11, c12, c13, c14, c15, c16, c17, c18, c19, c20, c21, c22, c23, c24, c25, c26, c27, c28, c29, c30, c31, c32, c33, c34, c35, u36, u37, u38, u39, u40, u41, u42, u43, u44, u45, u46, u47, u48, u49, u50, u51, u52, u53, u54, u55, u56, u57, .bool true], df⟩ wx) :
    Code.wp Tryd.prog dom_a_code (AtEnd K) ⟨#[c0, .pointer (some ⟨B, 0, none⟩), c2, .func (.func 50) #[] #[], .pointer (some ⟨g4, 0, none⟩), c5, c6, c7, c8, c9, c10, c11, c12, c13, c14, c15, c16, c17, c18, c19, c20, c21, c22, c23, c24, c25, c26, c27, c28, c29, c30, c31, c32, c33, c34, c35, c36, c37, c38, c39, c40, c41, c42, c43, c44, c45, c46, c47, c48, c49, c50, c51, c52, c53, c54, c55, c56, c57, c58], df⟩ wr := by
  conv => arg 2; whnf
  refine region_inv (by kernel_rfl) [[], [0], [], [], [3], [4], [2, 5], [1, 6, 6], [7, 7], [8], [9, 8], [8], [8], [12, 8], [11, 13, 8, 8], [10, 14, 14, 8], [8, 15], [16, 15], [17], [18, 17], [17], [19, 20, 17, 17], [17, 21]] (by kernel_rfl) [0, 1, 2, 3, 4, 5, 6, 7, 8, 9, 10, 11, 12, 13, 14, 15, 16, 17, 18, 19, 20, 21, 22] (by decide +kernel) (by decide +kernel) (by decide +kernel) (fun L a wc => ∃ (g6 : Nat) (g14 : Nat), InvO dom_a_dsts [.pointer (some ⟨B, 0, none⟩), .slice DA nd cd, .func (.func 50) #[] #[], .pointer (some ⟨B, 1, none⟩), .slice RA nr cr, .int .i64 (nr : Int), .func (.func 51) #[] #[.pointer (some ⟨g6, 0, none⟩)], .bool true, .bool true, undef, undef, undef, undef, undef, undef, undef, .bool true, .bool true, undef, undef, undef, undef, .bool true] ⟨#[c0, .pointer (some ⟨B, 0, none⟩), c2, .func (.func 50) #[] #[], .pointer (some ⟨g4, 0, none⟩), c5, c6, c7, c8, c9, c10, c11, c12, c13, c14, c15, c16, c17, c18, c19, c20, c21, c22, c23, c24, c25, c26, c27, c28, c29, c30, c31, c32, c33, c34, c35, c36, c37, c38, c39, c40, c41, c42, c43, c44, c45, c46, c47, c48, c49, c50, c51, c52, c53, c54, c55, c56, c57, c58], df⟩ L a ∧ Hid (Ext wr wc ∧ (L 6 = true → wc.cell? ⟨g6, 0, none⟩ = some (.int .i64 (nr : Int))))) ⟨0, 0, InvO.start, Lib.hid ⟨(Ext.refl wr).drew, fun e => by simp at e⟩⟩ ?_ ?_
  · refine ⟨?_, ?_, ?_, ?_, ?_, ?_, ?_, ?_, ?_, ?_, ?_, ?_, ?_, ?_, ?_, ?_, ?_, ?_, ?_, ?_, ?_, ?_, ?_, trivial⟩
    · -- 0 field
      rintro L a wc ⟨g6, g14, hv, HO⟩ hL hc hd
      exact wpOp_val rfl rfl (ex_field rfl ((hv.fixed 1 (by decide)).trans rfl) (by go_simp)) ⟨g6, g14, hv.put dom_a_apart 0 rfl (Nat.le_of_ble_eq_true rfl) (Nat.le_of_ble_eq_true rfl) rfl, (Lib.hid ⟨HO.out.1, fun e => HO.out.2 (by simpa [upd] using e)⟩)⟩
    · -- 1 load
      rintro L a wc ⟨g6, g14, hv, HO⟩ hL hc hd
      have e0 : wc.cell? ⟨B, 0, none⟩ = some (.slice DA nd cd) := HO.out.1.cell h0
      exact wpOp_val rfl rfl (ex_load rfl (hv.get 0 rfl rfl (hd 0 (by decide))) (by go_simp)) ⟨g6, g14, hv.put dom_a_apart 1 rfl (Nat.le_of_ble_eq_true rfl) (Nat.le_of_ble_eq_true rfl) rfl, (Lib.hid ⟨HO.out.1, fun e => HO.out.2 (by simpa [upd] using e)⟩)⟩
    · -- 2 move
      rintro L a wc ⟨g6, g14, hv, HO⟩ hL hc hd
      exact wpOp_val rfl rfl (ex_move rfl ((hv.fixed 3 (by decide)).trans rfl)) ⟨g6, g14, hv.put dom_a_apart 2 rfl (Nat.le_of_ble_eq_true rfl) (Nat.le_of_ble_eq_true rfl) rfl, (Lib.hid ⟨HO.out.1, fun e => HO.out.2 (by simpa [upd] using e)⟩)⟩
    · -- 3 field
      rintro L a wc ⟨g6, g14, hv, HO⟩ hL hc hd
      exact wpOp_val rfl rfl (ex_field rfl ((hv.fixed 1 (by decide)).trans rfl) (by go_simp)) ⟨g6, g14, hv.put dom_a_apart 3 rfl (Nat.le_of_ble_eq_true rfl) (Nat.le_of_ble_eq_true rfl) rfl, (Lib.hid ⟨HO.out.1, fun e => HO.out.2 (by simpa [upd] using e)⟩)⟩
    · -- 4 load
      rintro L a wc ⟨g6, g14, hv, HO⟩ hL hc hd
      have e1 : wc.cell? ⟨B, 1, none⟩ = some (.slice RA nr cr) := HO.out.1.cell h1
      exact wpOp_val rfl rfl (ex_load rfl (hv.get 3 rfl rfl (hd 3 (by decide))) (by go_simp)) ⟨g6, g14, hv.put dom_a_apart 4 rfl (Nat.le_of_ble_eq_true rfl) (Nat.le_of_ble_eq_true rfl) rfl, (Lib.hid ⟨HO.out.1, fun e => HO.out.2 (by simpa [upd] using e)⟩)⟩
    · -- 5 raw
      rintro L a wc ⟨g6, g14, hv, HO⟩ hL hc hd
      exact wpOp_val rfl rfl (ex_len rfl (hv.get 4 rfl rfl (hd 4 (by decide))) (by go_simp)) ⟨g6, g14, hv.put dom_a_apart 5 rfl (Nat.le_of_ble_eq_true rfl) (Nat.le_of_ble_eq_true rfl) rfl, (Lib.hid ⟨HO.out.1, fun e => HO.out.2 (by simpa [upd] using e)⟩)⟩
    · -- 6 lines
      rintro L a wc ⟨g6, g14, hv, HO⟩ hL hc hd
      have hv := hv.reset 6 hL (.func (.func 51) #[] #[.pointer (some ⟨wc.heap.size, 0, none⟩)])
      refine wpOp_call (R := fun v w1 => v = .func (.func 51) #[] #[.pointer (some ⟨wc.heap.size, 0, none⟩)] ∧ w1 = wc.alloc (.cells #[.int .i64 (nr : Int)] 3)) rfl rfl (ex_call rfl (hv.get 2 rfl rfl (by simpa using hd 2 (by decide))) (map1r (hv.get 5 rfl rfl (by simpa using hd 5 (by decide)))) (ent_dmk _ _)) ((dMk_any (nr : Int) wc).mono (fun e w' h => ⟨_, h.1, rfl, h.2⟩)) ?_
      rintro v w' ⟨rfl, rfl⟩
      have hx := (Ext.refl wc).alloc (.cells #[.int .i64 (nr : Int)] 3)
      exact ⟨wc.heap.size, g14, hv.put dom_a_apart 6 rfl (Nat.le_of_ble_eq_true rfl) (Nat.le_of_ble_eq_true rfl) rfl, Lib.hid ⟨HO.out.1.trans hx, fun _ => cells_new wc #[.int .i64 (nr : Int)] 3 0 _ rfl⟩⟩
    · -- 7 call
      rintro L a wc ⟨g6, g14, hv, HO⟩ hL hc hd
      refine wpOp_call (R := fun v w1 => v = .bool true ∧ wc = w1) rfl rfl (ex_call rfl rfl (map2r (hv.get 1 rfl rfl (hd 1 (by decide))) (hv.get 6 rfl rfl (hd 6 (by decide)))) (ent_scf _ _)) ((dIn_any disks nr DA nd cd g6 wc (Rs.ext RI.ext _ _ _ _ HO.out.1 HD.out) (HO.out.2 (hd 6 (by decide)))).mono (fun e w' h => ⟨_, h.1, by rw [H1.out], h.2⟩)) ?_
      rintro v w' ⟨rfl, rfl⟩
      exact ⟨g6, g14, hv.put dom_a_apart 7 rfl (Nat.le_of_ble_eq_true rfl) (Nat.le_of_ble_eq_true rfl) rfl, (Lib.hid ⟨HO.out.1, fun e => HO.out.2 (by simpa [upd] using e)⟩)⟩
    · -- 8 move
      rintro L a wc ⟨g6, g14, hv, HO⟩ hL hc hd
      exact wpOp_val rfl rfl (ex_move rfl (hv.get 7 rfl rfl (hd 7 (by decide)))) ⟨g6, g14, hv.put dom_a_apart 8 rfl (Nat.le_of_ble_eq_true rfl) (Nat.le_of_ble_eq_true rfl) rfl, (Lib.hid ⟨HO.out.1, fun e => HO.out.2 (by simpa [upd] using e)⟩)⟩
    · -- 9 off
      rintro L a wc ⟨g6, g14, hv, HO⟩ hL hc hd
      exact wpOp_off rfl ((wanted_at rfl rfl (hv.get 8 rfl rfl (hd 8 (by decide)))).trans rfl) ⟨g6, g14, hv.put dom_a_apart 9 rfl (Nat.le_of_ble_eq_true rfl) (Nat.le_of_ble_eq_true rfl) rfl, (Lib.hid ⟨HO.out.1, fun e => HO.out.2 (by simpa [upd] using e)⟩)⟩
    · -- 10 off
      rintro L a wc ⟨g6, g14, hv, HO⟩ hL hc hd
      exact wpOp_off rfl ((wanted_at rfl rfl (hv.get 8 rfl rfl (hd 8 (by decide)))).trans rfl) ⟨g6, g14, hv.put dom_a_apart 10 rfl (Nat.le_of_ble_eq_true rfl) (Nat.le_of_ble_eq_true rfl) rfl, (Lib.hid ⟨HO.out.1, fun e => HO.out.2 (by simpa [upd] using e)⟩)⟩
    · -- 11 off
      rintro L a wc ⟨g6, g14, hv, HO⟩ hL hc hd
      exact wpOp_off rfl ((wanted_at rfl rfl (hv.get 8 rfl rfl (hd 8 (by decide)))).trans rfl) ⟨g6, g14, hv.put dom_a_apart 11 rfl (Nat.le_of_ble_eq_true rfl) (Nat.le_of_ble_eq_true rfl) rfl, (Lib.hid ⟨HO.out.1, fun e => HO.out.2 (by simpa [upd] using e)⟩)⟩
    · -- 12 off
      rintro L a wc ⟨g6, g14, hv, HO⟩ hL hc hd
      exact wpOp_off rfl ((wanted_at rfl rfl (hv.get 8 rfl rfl (hd 8 (by decide)))).trans rfl) ⟨g6, g14, hv.put dom_a_apart 12 rfl (Nat.le_of_ble_eq_true rfl) (Nat.le_of_ble_eq_true rfl) rfl, (Lib.hid ⟨HO.out.1, fun e => HO.out.2 (by simpa [upd] using e)⟩)⟩
    · -- 13 off
      rintro L a wc ⟨g6, g14, hv, HO⟩ hL hc hd
      exact wpOp_off rfl ((wanted_at rfl rfl (hv.get 8 rfl rfl (hd 8 (by decide)))).trans rfl) ⟨g6, g14, hv.put dom_a_apart 13 rfl (Nat.le_of_ble_eq_true rfl) (Nat.le_of_ble_eq_true rfl) rfl, (Lib.hid ⟨HO.out.1, fun e => HO.out.2 (by simpa [upd] using e)⟩)⟩
    · -- 14 off
      rintro L a wc ⟨g6, g14, hv, HO⟩ hL hc hd
      exact wpOp_off rfl ((wanted_at rfl rfl (hv.get 8 rfl rfl (hd 8 (by decide)))).trans rfl) ⟨g6, g14, hv.put dom_a_apart 14 rfl (Nat.le_of_ble_eq_true rfl) (Nat.le_of_ble_eq_true rfl) rfl, (Lib.hid ⟨HO.out.1, fun e => HO.out.2 (by simpa [upd] using e)⟩)⟩
    · -- 15 off
      rintro L a wc ⟨g6, g14, hv, HO⟩ hL hc hd
      exact wpOp_off rfl ((wanted_at rfl rfl (hv.get 8 rfl rfl (hd 8 (by decide)))).trans rfl) ⟨g6, g14, hv.put dom_a_apart 15 rfl (Nat.le_of_ble_eq_true rfl) (Nat.le_of_ble_eq_true rfl) rfl, (Lib.hid ⟨HO.out.1, fun e => HO.out.2 (by simpa [upd] using e)⟩)⟩
    · -- 16 pick
      rintro L a wc ⟨g6, g14, hv, HO⟩ hL hc hd
      exact wpOp_val rfl rfl (ex_pick rfl (hv.get 8 rfl rfl (hd 8 (by decide))) rfl) ⟨g6, g14, hv.put dom_a_apart 16 rfl (Nat.le_of_ble_eq_true rfl) (Nat.le_of_ble_eq_true rfl) rfl, (Lib.hid ⟨HO.out.1, fun e => HO.out.2 (by simpa [upd] using e)⟩)⟩
    · -- 17 move
      rintro L a wc ⟨g6, g14, hv, HO⟩ hL hc hd
      exact wpOp_val rfl rfl (ex_move rfl (hv.get 16 rfl rfl (hd 16 (by decide)))) ⟨g6, g14, hv.put dom_a_apart 17 rfl (Nat.le_of_ble_eq_true rfl) (Nat.le_of_ble_eq_true rfl) rfl, (Lib.hid ⟨HO.out.1, fun e => HO.out.2 (by simpa [upd] using e)⟩)⟩
    · -- 18 off
      rintro L a wc ⟨g6, g14, hv, HO⟩ hL hc hd
      exact wpOp_off rfl ((wanted_at rfl rfl (hv.get 17 rfl rfl (hd 17 (by decide)))).trans rfl) ⟨g6, g14, hv.put dom_a_apart 18 rfl (Nat.le_of_ble_eq_true rfl) (Nat.le_of_ble_eq_true rfl) rfl, (Lib.hid ⟨HO.out.1, fun e => HO.out.2 (by simpa [upd] using e)⟩)⟩
    · -- 19 off
      rintro L a wc ⟨g6, g14, hv, HO⟩ hL hc hd
      exact wpOp_off rfl ((wanted_at rfl rfl (hv.get 17 rfl rfl (hd 17 (by decide)))).trans rfl) ⟨g6, g14, hv.put dom_a_apart 19 rfl (Nat.le_of_ble_eq_true rfl) (Nat.le_of_ble_eq_true rfl) rfl, (Lib.hid ⟨HO.out.1, fun e => HO.out.2 (by simpa [upd] using e)⟩)⟩
    · -- 20 off
      rintro L a wc ⟨g6, g14, hv, HO⟩ hL hc hd
      exact wpOp_off rfl ((wanted_at rfl rfl (hv.get 17 rfl rfl (hd 17 (by decide)))).trans rfl) ⟨g6, g14, hv.put dom_a_apart 20 rfl (Nat.le_of_ble_eq_true rfl) (Nat.le_of_ble_eq_true rfl) rfl, (Lib.hid ⟨HO.out.1, fun e => HO.out.2 (by simpa [upd] using e)⟩)⟩
    · -- 21 off
      rintro L a wc ⟨g6, g14, hv, HO⟩ hL hc hd
      exact wpOp_off rfl ((wanted_at rfl rfl (hv.get 17 rfl rfl (hd 17 (by decide)))).trans rfl) ⟨g6, g14, hv.put dom_a_apart 21 rfl (Nat.le_of_ble_eq_true rfl) (Nat.le_of_ble_eq_true rfl) rfl, (Lib.hid ⟨HO.out.1, fun e => HO.out.2 (by simpa [upd] using e)⟩)⟩
    · -- 22 pick
      rintro L a wc ⟨g6, g14, hv, HO⟩ hL hc hd
      exact wpOp_val rfl rfl (ex_pick rfl (hv.get 17 rfl rfl (hd 17 (by decide))) rfl) ⟨g6, g14, hv.put dom_a_apart 22 rfl (Nat.le_of_ble_eq_true rfl) (Nat.le_of_ble_eq_true rfl) rfl, (Lib.hid ⟨HO.out.1, fun e => HO.out.2 (by simpa [upd] using e)⟩)⟩
  · rintro L a wc ⟨g6, g14, hv, HO⟩ hall
    show K a wc
    have ha := act_lit a
    rw [hv.size, hv.defers] at ha
    have hl : ∀ f : Nat → Value, ((List.range (⟨#[c0, .pointer (some ⟨B, 0, none⟩), c2, .func (.func 50) #[] #[], .pointer (some ⟨g4, 0, none⟩), c5, c6, c7, c8, c9, c10, c11, c12, c13, c14, c15, c16, c17, c18, c19, c20, c21, c22, c23, c24, c25, c26, c27, c28, c29, c30, c31, c32, c33, c34, c35, c36, c37, c38, c39, c40, c41, c42, c43, c44, c45, c46, c47, c48, c49, c50, c51, c52, c53, c54, c55, c56, c57, c58], df⟩ : Act).tmps.size).map f).toArray = #[f 0, f 1, f 2, f 3, f 4, f 5, f 6, f 7, f 8, f 9, f 10, f 11, f 12, f 13, f 14, f 15, f 16, f 17, f 18, f 19, f 20, f 21, f 22, f 23, f 24, f 25, f 26, f 27, f 28, f 29, f 30, f 31, f 32, f 33, f 34, f 35, f 36, f 37, f 38, f 39, f 40, f 41, f 42, f 43, f 44, f 45, f 46, f 47, f 48, f 49, f 50, f 51, f 52, f 53, f 54, f 55, f 56, f 57, f 58] := fun _ => rfl
    rw [hl] at ha
    simp only [hv.fixed 0 (by decide), hv.fixed 1 (by decide), hv.fixed 2 (by decide), hv.fixed 3 (by decide), hv.fixed 4 (by decide), hv.fixed 5 (by decide), hv.fixed 6 (by decide), hv.fixed 7 (by decide), hv.fixed 8 (by decide), hv.fixed 9 (by decide), hv.fixed 10 (by decide), hv.fixed 11 (by decide), hv.fixed 12 (by decide), hv.fixed 13 (by decide), hv.fixed 14 (by decide), hv.fixed 15 (by decide), hv.fixed 16 (by decide), hv.fixed 17 (by decide), hv.fixed 18 (by decide), hv.fixed 19 (by decide), hv.fixed 20 (by decide), hv.fixed 21 (by decide), hv.fixed 22 (by decide), hv.fixed 23 (by decide), hv.fixed 24 (by decide), hv.fixed 25 (by decide), hv.fixed 26 (by decide), hv.fixed 27 (by decide), hv.fixed 28 (by decide), hv.fixed 29 (by decide), hv.fixed 30 (by decide), hv.fixed 31 (by decide), hv.fixed 32 (by decide), hv.fixed 33 (by decide), hv.fixed 34 (by decide), hv.fixed 35 (by decide), hv.get 22 (d := 58) rfl rfl (hall 22 (by decide))] at ha
    rw [ha]
    exact hK _ _ _ _ _ _ _ _ _ _ _ _ _ _ _ _ _ _ _ _ _ _ wc HO.out.1
noncomputable def dom_b_code : Code := ((Tryd.f27.body.bind (regionOf 5)).getD .skip)
def dom_b_dsts : List (Option Nat) := [some 36, some 37, some 38, some 39, some 40, some 41, some 42, some 43, some 44, some 45, some 46, some 47, some 48, some 49, some 50, some 51, some 52, some 53, some 54, some 55, some 56, some 57, some 58]
theorem dom_b_apart : apartD dom_b_dsts = true := by decide +kernel
set_option maxRecDepth 1000000 in
set_option maxHeartbeats 16000000 in
theorem dom_b (wr : World) (B g4 g5 nd cd nr cr nh ch : Nat) (DA RA HA : Option Addr) (ow : Int) (disks racks houses : List Int) (h0 : wr.cell? ⟨B, 0, none⟩ = some (.slice DA nd cd)) (h1 : wr.cell? ⟨B, 1, none⟩ = some (.slice RA nr cr)) (h2 : wr.cell? ⟨B, 2, none⟩ = some (.slice HA nh ch)) (h3 : wr.cell? ⟨B, 3, none⟩ = some (.int .i64 ow)) (_ : Hid (wr.cell? ⟨g4, 0, none⟩ = some (.func (.func 51) #[] #[.pointer (some ⟨g5, 0, none⟩)]) ∧ wr.cell? ⟨g5, 0, none⟩ = some (.int .i64 (nh : Int)))) (HD : Hid (Rs RI wr (.slice DA nd cd) disks)) (_ : Hid (RK wr (.slice RA nr cr) racks)) (HH : Hid (Rs RI wr (.slice HA nh ch) houses)) (H1 : Hid (decide (∃ x ∈ disks, Mv.out nr x) = false)) (H2 : Hid (decide (∃ x ∈ houses, Mv.out ow x) = true)) (c0 c2 c5 c6 c7 c8 c9 c10 c11 c12 c13 c14 c15 c16 c17 c18 c19 c20 c21 c22 c23 c24 c25 c26 c27 c28 c29 c30 c31 c32 c33 c34 c35 c36 c37 c38 c39 c40 c41 c42 c43 c44 c45 c46 c47 c48 c49 c50 c51 c52 c53 c54 c55 c56 c57 c58 : Value) (df : List Deferred) (K : Act → World → Prop)
    (hK : ∀  (u36 u37 u38 u39 u40 u41 u42 u43 u44 u45 u46 u47 u48 u49 u50 u51 u52 u53 u54 u55 u56 u57 : Value) (wx : World), Ext wr wx → K ⟨#[c0, .pointer (some ⟨B, 0, none⟩), c2, .func (.func 50) #[] #[], .pointer (some ⟨g4, 0, none⟩), c5, c6, c7, c8, c9, c10, c11, c12, c13, c14, c15, c16, c17, c18, c19, c20, c21, c22, c23, c24, c25, c26, c27, c28, c29, c30, c31, c32, c33, c34, c35, u36, u37, u38, u39, u40, u41, u42, u43, u44, u45, u46, u47, u48, u49, u50, u51, u52, u53, u54, u55, u56, u57, .bool true], df⟩ wx) :
    Code.wp Tryd.prog dom_b_code (AtEnd K) ⟨#[c0, .pointer (some ⟨B, 0, none⟩), c2, .func (.func 50) #[] #[], .pointer (some ⟨g4, 0, none⟩), c5, c6, c7, c8, c9, c10, c11, c12, c13, c14, c15, c16, c17, c18, c19, c20, c21, c22, c23, c24, c25, c26, c27, c28, c29, c30, c31, c32, c33, c34, c35, c36, c37, c38, c39, c40, c41, c42, c43, c44, c45, c46, c47, c48, c49, c50, c51, c52, c53, c54, c55, c56, c57, c58], df⟩ wr := by
  conv => arg 2; whnf
  refine region_inv (by kernel_rfl) [[], [0], [], [], [3], [4], [2, 5], [1, 6, 6], [7, 7], [8], [9, 8], [8], [8], [12, 8], [11, 13, 8, 8], [10, 14, 14, 8], [8, 15], [16, 15], [17], [18, 17], [17], [19, 20, 17, 17], [17, 21]] (by kernel_rfl) [0, 1, 2, 3, 4, 5, 6, 7, 8, 9, 10, 11, 12, 13, 14, 15, 16, 17, 18, 19, 20, 21, 22] (by decide +kernel) (by decide +kernel) (by decide +kernel) (fun L a wc => ∃ (g6 : Nat) (g14 : Nat), InvO dom_b_dsts [.pointer (some ⟨B, 0, none⟩), .slice DA nd cd, .func (.func 50) #[] #[], .pointer (some ⟨B, 1, none⟩), .slice RA nr cr, .int .i64 (nr : Int), .func (.func 51) #[] #[.pointer (some ⟨g6, 0, none⟩)], .bool false, .bool false, .pointer (some ⟨B, 2, none⟩), .slice HA nh ch, .func (.func 50) #[] #[], .pointer (some ⟨B, 3, none⟩), .int .i64 ow, .func (.func 51) #[] #[.pointer (some ⟨g14, 0, none⟩)], .bool true, .bool true, .bool true, undef, undef, undef, undef, .bool true] ⟨#[c0, .pointer (some ⟨B, 0, none⟩), c2, .func (.func 50) #[] #[], .pointer (some ⟨g4, 0, none⟩), c5, c6, c7, c8, c9, c10, c11, c12, c13, c14, c15, c16, c17, c18, c19, c20, c21, c22, c23, c24, c25, c26, c27, c28, c29, c30, c31, c32, c33, c34, c35, c36, c37, c38, c39, c40, c41, c42, c43, c44, c45, c46, c47, c48, c49, c50, c51, c52, c53, c54, c55, c56, c57, c58], df⟩ L a ∧ Hid (Ext wr wc ∧ (L 6 = true → wc.cell? ⟨g6, 0, none⟩ = some (.int .i64 (nr : Int))) ∧ (L 14 = true → wc.cell? ⟨g14, 0, none⟩ = some (.int .i64 ow)))) ⟨0, 0, InvO.start, Lib.hid ⟨(Ext.refl wr).drew, fun e => by simp at e, fun e => by simp at e⟩⟩ ?_ ?_
  · refine ⟨?_, ?_, ?_, ?_, ?_, ?_, ?_, ?_, ?_, ?_, ?_, ?_, ?_, ?_, ?_, ?_, ?_, ?_, ?_, ?_, ?_, ?_, ?_, trivial⟩
    · -- 0 field
      rintro L a wc ⟨g6, g14, hv, HO⟩ hL hc hd
      exact wpOp_val rfl rfl (ex_field rfl ((hv.fixed 1 (by decide)).trans rfl) (by go_simp)) ⟨g6, g14, hv.put dom_b_apart 0 rfl (Nat.le_of_ble_eq_true rfl) (Nat.le_of_ble_eq_true rfl) rfl, (Lib.hid ⟨HO.out.1, fun e => HO.out.2.1 (by simpa [upd] using e), fun e => HO.out.2.2 (by simpa [upd] using e)⟩)⟩
    · -- 1 load
      rintro L a wc ⟨g6, g14, hv, HO⟩ hL hc hd
      have e0 : wc.cell? ⟨B, 0, none⟩ = some (.slice DA nd cd) := HO.out.1.cell h0
      exact wpOp_val rfl rfl (ex_load rfl (hv.get 0 rfl rfl (hd 0 (by decide))) (by go_simp)) ⟨g6, g14, hv.put dom_b_apart 1 rfl (Nat.le_of_ble_eq_true rfl) (Nat.le_of_ble_eq_true rfl) rfl, (Lib.hid ⟨HO.out.1, fun e => HO.out.2.1 (by simpa [upd] using e), fun e => HO.out.2.2 (by simpa [upd] using e)⟩)⟩
    · -- 2 move
      rintro L a wc ⟨g6, g14, hv, HO⟩ hL hc hd
      exact wpOp_val rfl rfl (ex_move rfl ((hv.fixed 3 (by decide)).trans rfl)) ⟨g6, g14, hv.put dom_b_apart 2 rfl (Nat.le_of_ble_eq_true rfl) (Nat.le_of_ble_eq_true rfl) rfl, (Lib.hid ⟨HO.out.1, fun e => HO.out.2.1 (by simpa [upd] using e), fun e => HO.out.2.2 (by simpa [upd] using e)⟩)⟩
    · -- 3 field
      rintro L a wc ⟨g6, g14, hv, HO⟩ hL hc hd
      exact wpOp_val rfl rfl (ex_field rfl ((hv.fixed 1 (by decide)).trans rfl) (by go_simp)) ⟨g6, g14, hv.put dom_b_apart 3 rfl (Nat.le_of_ble_eq_true rfl) (Nat.le_of_ble_eq_true rfl) rfl, (Lib.hid ⟨HO.out.1, fun e => HO.out.2.1 (by simpa [upd] using e), fun e => HO.out.2.2 (by simpa [upd] using e)⟩)⟩
    · -- 4 load
      rintro L a wc ⟨g6, g14, hv, HO⟩ hL hc hd
      have e1 : wc.cell? ⟨B, 1, none⟩ = some (.slice RA nr cr) := HO.out.1.cell h1
      exact wpOp_val rfl rfl (ex_load rfl (hv.get 3 rfl rfl (hd 3 (by decide))) (by go_simp)) ⟨g6, g14, hv.put dom_b_apart 4 rfl (Nat.le_of_ble_eq_true rfl) (Nat.le_of_ble_eq_true rfl) rfl, (Lib.hid ⟨HO.out.1, fun e => HO.out.2.1 (by simpa [upd] using e), fun e => HO.out.2.2 (by simpa [upd] using e)⟩)⟩
    · -- 5 raw
      rintro L a wc ⟨g6, g14, hv, HO⟩ hL hc hd
      exact wpOp_val rfl rfl (ex_len rfl (hv.get 4 rfl rfl (hd 4 (by decide))) (by go_simp)) ⟨g6, g14, hv.put dom_b_apart 5 rfl (Nat.le_of_ble_eq_true rfl) (Nat.le_of_ble_eq_true rfl) rfl, (Lib.hid ⟨HO.out.1, fun e => HO.out.2.1 (by simpa [upd] using e), fun e => HO.out.2.2 (by simpa [upd] using e)⟩)⟩
    · -- 6 lines
      rintro L a wc ⟨g6, g14, hv, HO⟩ hL hc hd
      have hv := hv.reset 6 hL (.func (.func 51) #[] #[.pointer (some ⟨wc.heap.size, 0, none⟩)])
      refine wpOp_call (R := fun v w1 => v = .func (.func 51) #[] #[.pointer (some ⟨wc.heap.size, 0, none⟩)] ∧ w1 = wc.alloc (.cells #[.int .i64 (nr : Int)] 3)) rfl rfl (ex_call rfl (hv.get 2 rfl rfl (by simpa using hd 2 (by decide))) (map1r (hv.get 5 rfl rfl (by simpa using hd 5 (by decide)))) (ent_dmk _ _)) ((dMk_any (nr : Int) wc).mono (fun e w' h => ⟨_, h.1, rfl, h.2⟩)) ?_
      rintro v w' ⟨rfl, rfl⟩
      have hx := (Ext.refl wc).alloc (.cells #[.int .i64 (nr : Int)] 3)
      exact ⟨wc.heap.size, g14, hv.put dom_b_apart 6 rfl (Nat.le_of_ble_eq_true rfl) (Nat.le_of_ble_eq_true rfl) rfl, Lib.hid ⟨HO.out.1.trans hx, fun _ => cells_new wc #[.int .i64 (nr : Int)] 3 0 _ rfl, fun e => hx.cell (HO.out.2.2 (by simpa [upd] using e))⟩⟩
    · -- 7 call
      rintro L a wc ⟨g6, g14, hv, HO⟩ hL hc hd
      refine wpOp_call (R := fun v w1 => v = .bool false ∧ wc = w1) rfl rfl (ex_call rfl rfl (map2r (hv.get 1 rfl rfl (hd 1 (by decide))) (hv.get 6 rfl rfl (hd 6 (by decide)))) (ent_scf _ _)) ((dIn_any disks nr DA nd cd g6 wc (Rs.ext RI.ext _ _ _ _ HO.out.1 HD.out) (HO.out.2.1 (hd 6 (by decide)))).mono (fun e w' h => ⟨_, h.1, by rw [H1.out], h.2⟩)) ?_
      rintro v w' ⟨rfl, rfl⟩
      exact ⟨g6, g14, hv.put dom_b_apart 7 rfl (Nat.le_of_ble_eq_true rfl) (Nat.le_of_ble_eq_true rfl) rfl, (Lib.hid ⟨HO.out.1, fun e => HO.out.2.1 (by simpa [upd] using e), fun e => HO.out.2.2 (by simpa [upd] using e)⟩)⟩
    · -- 8 move
      rintro L a wc ⟨g6, g14, hv, HO⟩ hL hc hd
      exact wpOp_val rfl rfl (ex_move rfl (hv.get 7 rfl rfl (hd 7 (by decide)))) ⟨g6, g14, hv.put dom_b_apart 8 rfl (Nat.le_of_ble_eq_true rfl) (Nat.le_of_ble_eq_true rfl) rfl, (Lib.hid ⟨HO.out.1, fun e => HO.out.2.1 (by simpa [upd] using e), fun e => HO.out.2.2 (by simpa [upd] using e)⟩)⟩
    · -- 9 field
      rintro L a wc ⟨g6, g14, hv, HO⟩ hL hc hd
      exact wpOp_val rfl ((wanted_at rfl rfl (hv.get 8 rfl rfl (hd 8 (by decide)))).trans rfl) (ex_field rfl ((hv.fixed 1 (by decide)).trans rfl) (by go_simp)) ⟨g6, g14, hv.put dom_b_apart 9 rfl (Nat.le_of_ble_eq_true rfl) (Nat.le_of_ble_eq_true rfl) rfl, (Lib.hid ⟨HO.out.1, fun e => HO.out.2.1 (by simpa [upd] using e), fun e => HO.out.2.2 (by simpa [upd] using e)⟩)⟩
    · -- 10 load
      rintro L a wc ⟨g6, g14, hv, HO⟩ hL hc hd
      have e2 : wc.cell? ⟨B, 2, none⟩ = some (.slice HA nh ch) := HO.out.1.cell h2
      exact wpOp_val rfl ((wanted_at rfl rfl (hv.get 8 rfl rfl (hd 8 (by decide)))).trans rfl) (ex_load rfl (hv.get 9 rfl rfl (hd 9 (by decide))) (by go_simp)) ⟨g6, g14, hv.put dom_b_apart 10 rfl (Nat.le_of_ble_eq_true rfl) (Nat.le_of_ble_eq_true rfl) rfl, (Lib.hid ⟨HO.out.1, fun e => HO.out.2.1 (by simpa [upd] using e), fun e => HO.out.2.2 (by simpa [upd] using e)⟩)⟩
    · -- 11 move
      rintro L a wc ⟨g6, g14, hv, HO⟩ hL hc hd
      exact wpOp_val rfl ((wanted_at rfl rfl (hv.get 8 rfl rfl (hd 8 (by decide)))).trans rfl) (ex_move rfl ((hv.fixed 3 (by decide)).trans rfl)) ⟨g6, g14, hv.put dom_b_apart 11 rfl (Nat.le_of_ble_eq_true rfl) (Nat.le_of_ble_eq_true rfl) rfl, (Lib.hid ⟨HO.out.1, fun e => HO.out.2.1 (by simpa [upd] using e), fun e => HO.out.2.2 (by simpa [upd] using e)⟩)⟩
    · -- 12 field
      rintro L a wc ⟨g6, g14, hv, HO⟩ hL hc hd
      exact wpOp_val rfl ((wanted_at rfl rfl (hv.get 8 rfl rfl (hd 8 (by decide)))).trans rfl) (ex_field rfl ((hv.fixed 1 (by decide)).trans rfl) (by go_simp)) ⟨g6, g14, hv.put dom_b_apart 12 rfl (Nat.le_of_ble_eq_true rfl) (Nat.le_of_ble_eq_true rfl) rfl, (Lib.hid ⟨HO.out.1, fun e => HO.out.2.1 (by simpa [upd] using e), fun e => HO.out.2.2 (by simpa [upd] using e)⟩)⟩
    · -- 13 load
      rintro L a wc ⟨g6, g14, hv, HO⟩ hL hc hd
      have e3 : wc.cell? ⟨B, 3, none⟩ = some (.int .i64 ow) := HO.out.1.cell h3
      exact wpOp_val rfl ((wanted_at rfl rfl (hv.get 8 rfl rfl (hd 8 (by decide)))).trans rfl) (ex_load rfl (hv.get 12 rfl rfl (hd 12 (by decide))) (by go_simp)) ⟨g6, g14, hv.put dom_b_apart 13 rfl (Nat.le_of_ble_eq_true rfl) (Nat.le_of_ble_eq_true rfl) rfl, (Lib.hid ⟨HO.out.1, fun e => HO.out.2.1 (by simpa [upd] using e), fun e => HO.out.2.2 (by simpa [upd] using e)⟩)⟩
    · -- 14 lines
      rintro L a wc ⟨g6, g14, hv, HO⟩ hL hc hd
      have hv := hv.reset 14 hL (.func (.func 51) #[] #[.pointer (some ⟨wc.heap.size, 0, none⟩)])
      refine wpOp_callw (R := fun v w1 => v = .func (.func 51) #[] #[.pointer (some ⟨wc.heap.size, 0, none⟩)] ∧ w1 = wc.alloc (.cells #[.int .i64 ow] 3)) rfl ((wanted_at rfl rfl (hv.get 8 rfl rfl (by simpa using hd 8 (by decide)))).trans rfl) (ex_call rfl (hv.get 11 rfl rfl (by simpa using hd 11 (by decide))) (map1r (hv.get 13 rfl rfl (by simpa using hd 13 (by decide)))) (ent_dmk _ _)) ((dMk_any ow wc).mono (fun e w' h => ⟨_, h.1, rfl, h.2⟩)) ?_
      rintro v w' ⟨rfl, rfl⟩
      have hx := (Ext.refl wc).alloc (.cells #[.int .i64 ow] 3)
      exact ⟨g6, wc.heap.size, hv.put dom_b_apart 14 rfl (Nat.le_of_ble_eq_true rfl) (Nat.le_of_ble_eq_true rfl) rfl, Lib.hid ⟨HO.out.1.trans hx, fun e => hx.cell (HO.out.2.1 (by simpa [upd] using e)), fun _ => cells_new wc #[.int .i64 ow] 3 0 _ rfl⟩⟩
    · -- 15 call
      rintro L a wc ⟨g6, g14, hv, HO⟩ hL hc hd
      refine wpOp_callw (R := fun v w1 => v = .bool true ∧ wc = w1) rfl ((wanted_at rfl rfl (hv.get 8 rfl rfl (hd 8 (by decide)))).trans rfl) (ex_call rfl rfl (map2r (hv.get 10 rfl rfl (hd 10 (by decide))) (hv.get 14 rfl rfl (hd 14 (by decide)))) (ent_scf _ _)) ((dIn_any houses ow HA nh ch g14 wc (Rs.ext RI.ext _ _ _ _ HO.out.1 HH.out) (HO.out.2.2 (hd 14 (by decide)))).mono (fun e w' h => ⟨_, h.1, by rw [H2.out], h.2⟩)) ?_
      rintro v w' ⟨rfl, rfl⟩
      exact ⟨g6, g14, hv.put dom_b_apart 15 rfl (Nat.le_of_ble_eq_true rfl) (Nat.le_of_ble_eq_true rfl) rfl, (Lib.hid ⟨HO.out.1, fun e => HO.out.2.1 (by simpa [upd] using e), fun e => HO.out.2.2 (by simpa [upd] using e)⟩)⟩
    · -- 16 pick
      rintro L a wc ⟨g6, g14, hv, HO⟩ hL hc hd
      exact wpOp_val rfl rfl (ex_pick rfl (hv.get 8 rfl rfl (hd 8 (by decide))) ((if_neg (by simp)).trans (hv.get 15 rfl rfl (hd 15 (by decide))))) ⟨g6, g14, hv.put dom_b_apart 16 rfl (Nat.le_of_ble_eq_true rfl) (Nat.le_of_ble_eq_true rfl) rfl, (Lib.hid ⟨HO.out.1, fun e => HO.out.2.1 (by simpa [upd] using e), fun e => HO.out.2.2 (by simpa [upd] using e)⟩)⟩
    · -- 17 move
      rintro L a wc ⟨g6, g14, hv, HO⟩ hL hc hd
      exact wpOp_val rfl rfl (ex_move rfl (hv.get 16 rfl rfl (hd 16 (by decide)))) ⟨g6, g14, hv.put dom_b_apart 17 rfl (Nat.le_of_ble_eq_true rfl) (Nat.le_of_ble_eq_true rfl) rfl, (Lib.hid ⟨HO.out.1, fun e => HO.out.2.1 (by simpa [upd] using e), fun e => HO.out.2.2 (by simpa [upd] using e)⟩)⟩
    · -- 18 off
      rintro L a wc ⟨g6, g14, hv, HO⟩ hL hc hd
      exact wpOp_off rfl ((wanted_at rfl rfl (hv.get 17 rfl rfl (hd 17 (by decide)))).trans rfl) ⟨g6, g14, hv.put dom_b_apart 18 rfl (Nat.le_of_ble_eq_true rfl) (Nat.le_of_ble_eq_true rfl) rfl, (Lib.hid ⟨HO.out.1, fun e => HO.out.2.1 (by simpa [upd] using e), fun e => HO.out.2.2 (by simpa [upd] using e)⟩)⟩
    · -- 19 off
      rintro L a wc ⟨g6, g14, hv, HO⟩ hL hc hd
      exact wpOp_off rfl ((wanted_at rfl rfl (hv.get 17 rfl rfl (hd 17 (by decide)))).trans rfl) ⟨g6, g14, hv.put dom_b_apart 19 rfl (Nat.le_of_ble_eq_true rfl) (Nat.le_of_ble_eq_true rfl) rfl, (Lib.hid ⟨HO.out.1, fun e => HO.out.2.1 (by simpa [upd] using e), fun e => HO.out.2.2 (by simpa [upd] using e)⟩)⟩
    · -- 20 off
      rintro L a wc ⟨g6, g14, hv, HO⟩ hL hc hd
      exact wpOp_off rfl ((wanted_at rfl rfl (hv.get 17 rfl rfl (hd 17 (by decide)))).trans rfl) ⟨g6, g14, hv.put dom_b_apart 20 rfl (Nat.le_of_ble_eq_true rfl) (Nat.le_of_ble_eq_true rfl) rfl, (Lib.hid ⟨HO.out.1, fun e => HO.out.2.1 (by simpa [upd] using e), fun e => HO.out.2.2 (by simpa [upd] using e)⟩)⟩
    · -- 21 off
      rintro L a wc ⟨g6, g14, hv, HO⟩ hL hc hd
      exact wpOp_off rfl ((wanted_at rfl rfl (hv.get 17 rfl rfl (hd 17 (by decide)))).trans rfl) ⟨g6, g14, hv.put dom_b_apart 21 rfl (Nat.le_of_ble_eq_true rfl) (Nat.le_of_ble_eq_true rfl) rfl, (Lib.hid ⟨HO.out.1, fun e => HO.out.2.1 (by simpa [upd] using e), fun e => HO.out.2.2 (by simpa [upd] using e)⟩)⟩
    · -- 22 pick
      rintro L a wc ⟨g6, g14, hv, HO⟩ hL hc hd
      exact wpOp_val rfl rfl (ex_pick rfl (hv.get 17 rfl rfl (hd 17 (by decide))) rfl) ⟨g6, g14, hv.put dom_b_apart 22 rfl (Nat.le_of_ble_eq_true rfl) (Nat.le_of_ble_eq_true rfl) rfl, (Lib.hid ⟨HO.out.1, fun e => HO.out.2.1 (by simpa [upd] using e), fun e => HO.out.2.2 (by simpa [upd] using e)⟩)⟩
  · rintro L a wc ⟨g6, g14, hv, HO⟩ hall
    show K a wc
    have ha := act_lit a
    rw [hv.size, hv.defers] at ha
    have hl : ∀ f : Nat → Value, ((List.range (⟨#[c0, .pointer (some ⟨B, 0, none⟩), c2, .func (.func 50) #[] #[], .pointer (some ⟨g4, 0, none⟩), c5, c6, c7, c8, c9, c10, c11, c12, c13, c14, c15, c16, c17, c18, c19, c20, c21, c22, c23, c24, c25, c26, c27, c28, c29, c30, c31, c32, c33, c34, c35, c36, c37, c38, c39, c40, c41, c42, c43, c44, c45, c46, c47, c48, c49, c50, c51, c52, c53, c54, c55, c56, c57, c58], df⟩ : Act).tmps.size).map f).toArray = #[f 0, f 1, f 2, f 3, f 4, f 5, f 6, f 7, f 8, f 9, f 10, f 11, f 12, f 13, f 14, f 15, f 16, f 17, f 18, f 19, f 20, f 21, f 22, f 23, f 24, f 25, f 26, f 27, f 28, f 29, f 30, f 31, f 32, f 33, f 34, f 35, f 36, f 37, f 38, f 39, f 40, f 41, f 42, f 43, f 44, f 45, f 46, f 47, f 48, f 49, f 50, f 51, f 52, f 53, f 54, f 55, f 56, f 57, f 58] := fun _ => rfl
    rw [hl] at ha
    simp only [hv.fixed 0 (by decide), hv.fixed 1 (by decide), hv.fixed 2 (by decide), hv.fixed 3 (by decide), hv.fixed 4 (by decide), hv.fixed 5 (by decide), hv.fixed 6 (by decide), hv.fixed 7 (by decide), hv.fixed 8 (by decide), hv.fixed 9 (by decide), hv.fixed 10 (by decide), hv.fixed 11 (by decide), hv.fixed 12 (by decide), hv.fixed 13 (by decide), hv.fixed 14 (by decide), hv.fixed 15 (by decide), hv.fixed 16 (by decide), hv.fixed 17 (by decide), hv.fixed 18 (by decide), hv.fixed 19 (by decide), hv.fixed 20 (by decide), hv.fixed 21 (by decide), hv.fixed 22 (by decide), hv.fixed 23 (by decide), hv.fixed 24 (by decide), hv.fixed 25 (by decide), hv.fixed 26 (by decide), hv.fixed 27 (by decide), hv.fixed 28 (by decide), hv.fixed 29 (by decide), hv.fixed 30 (by decide), hv.fixed 31 (by decide), hv.fixed 32 (by decide), hv.fixed 33 (by decide), hv.fixed 34 (by decide), hv.fixed 35 (by decide), hv.get 22 (d := 58) rfl rfl (hall 22 (by decide))] at ha
    rw [ha]
    exact hK _ _ _ _ _ _ _ _ _ _ _ _ _ _ _ _ _ _ _ _ _ _ wc HO.out.1
noncomputable def dom_c_code : Code := ((Tryd.f27.body.bind (regionOf 5)).getD .skip)
def dom_c_dsts : List (Option Nat) := [some 36, some 37, some 38, some 39, some 40, some 41, some 42, some 43, some 44, some 45, some 46, some 47, some 48, some 49, some 50, some 51, some 52, some 53, some 54, some 55, some 56, some 57, some 58]
theorem dom_c_apart : apartD dom_c_dsts = true := by decide +kernel
set_option maxRecDepth 1000000 in
set_option maxHeartbeats 16000000 in
theorem dom_c (wr : World) (B g4 g5 nd cd nr cr nh ch : Nat) (DA RA HA : Option Addr) (ow : Int) (disks racks houses : List Int) (h0 : wr.cell? ⟨B, 0, none⟩ = some (.slice DA nd cd)) (h1 : wr.cell? ⟨B, 1, none⟩ = some (.slice RA nr cr)) (h2 : wr.cell? ⟨B, 2, none⟩ = some (.slice HA nh ch)) (h3 : wr.cell? ⟨B, 3, none⟩ = some (.int .i64 ow)) (HG : Hid (wr.cell? ⟨g4, 0, none⟩ = some (.func (.func 51) #[] #[.pointer (some ⟨g5, 0, none⟩)]) ∧ wr.cell? ⟨g5, 0, none⟩ = some (.int .i64 (nh : Int)))) (HD : Hid (Rs RI wr (.slice DA nd cd) disks)) (HR : Hid (RK wr (.slice RA nr cr) racks)) (HH : Hid (Rs RI wr (.slice HA nh ch) houses)) (H1 : Hid (decide (∃ x ∈ disks, Mv.out nr x) = false)) (H2 : Hid (decide (∃ x ∈ houses, Mv.out ow x) = false)) (c0 c2 c5 c6 c7 c8 c9 c10 c11 c12 c13 c14 c15 c16 c17 c18 c19 c20 c21 c22 c23 c24 c25 c26 c27 c28 c29 c30 c31 c32 c33 c34 c35 c36 c37 c38 c39 c40 c41 c42 c43 c44 c45 c46 c47 c48 c49 c50 c51 c52 c53 c54 c55 c56 c57 c58 : Value) (df : List Deferred) (K : Act → World → Prop)
    (hK : ∀  (u36 u37 u38 u39 u40 u41 u42 u43 u44 u45 u46 u47 u48 u49 u50 u51 u52 u53 u54 u55 u56 u57 : Value) (wx : World), Ext wr wx → K ⟨#[c0, .pointer (some ⟨B, 0, none⟩), c2, .func (.func 50) #[] #[], .pointer (some ⟨g4, 0, none⟩), c5, c6, c7, c8, c9, c10, c11, c12, c13, c14, c15, c16, c17, c18, c19, c20, c21, c22, c23, c24, c25, c26, c27, c28, c29, c30, c31, c32, c33, c34, c35, u36, u37, u38, u39, u40, u41, u42, u43, u44, u45, u46, u47, u48, u49, u50, u51, u52, u53, u54, u55, u56, u57, .bool (decide (∃ x ∈ racks, Mv.out nh x))], df⟩ wx) :
    Code.wp Tryd.prog dom_c_code (AtEnd K) ⟨#[c0, .pointer (some ⟨B, 0, none⟩), c2, .func (.func 50) #[] #[], .pointer (some ⟨g4, 0, none⟩), c5, c6, c7, c8, c9, c10, c11, c12, c13, c14, c15, c16, c17, c18, c19, c20, c21, c22, c23, c24, c25, c26, c27, c28, c29, c30, c31, c32, c33, c34, c35, c36, c37, c38, c39, c40, c41, c42, c43, c44, c45, c46, c47, c48, c49, c50, c51, c52, c53, c54, c55, c56, c57, c58], df⟩ wr := by
  conv => arg 2; whnf
  refine region_inv (by kernel_rfl) [[], [0], [], [], [3], [4], [2, 5], [1, 6, 6], [7, 7], [8], [9, 8], [8], [8], [12, 8], [11, 13, 8, 8], [10, 14, 14, 8], [8, 15], [16, 15], [17], [18, 17], [17], [19, 20, 17, 17], [17, 21]] (by kernel_rfl) [0, 1, 2, 3, 4, 5, 6, 7, 8, 9, 10, 11, 12, 13, 14, 15, 16, 17, 18, 19, 20, 21, 22] (by decide +kernel) (by decide +kernel) (by decide +kernel) (fun L a wc => ∃ (g6 : Nat) (g14 : Nat), InvO dom_c_dsts [.pointer (some ⟨B, 0, none⟩), .slice DA nd cd, .func (.func 50) #[] #[], .pointer (some ⟨B, 1, none⟩), .slice RA nr cr, .int .i64 (nr : Int), .func (.func 51) #[] #[.pointer (some ⟨g6, 0, none⟩)], .bool false, .bool false, .pointer (some ⟨B, 2, none⟩), .slice HA nh ch, .func (.func 50) #[] #[], .pointer (some ⟨B, 3, none⟩), .int .i64 ow, .func (.func 51) #[] #[.pointer (some ⟨g14, 0, none⟩)], .bool false, .bool false, .bool false, .pointer (some ⟨B, 1, none⟩), .slice RA nr cr, .func (.func 53) #[] #[.pointer (some ⟨g4, 0, none⟩)], .bool (decide (∃ x ∈ racks, Mv.out nh x)), .bool (decide (∃ x ∈ racks, Mv.out nh x))] ⟨#[c0, .pointer (some ⟨B, 0, none⟩), c2, .func (.func 50) #[] #[], .pointer (some ⟨g4, 0, none⟩), c5, c6, c7, c8, c9, c10, c11, c12, c13, c14, c15, c16, c17, c18, c19, c20, c21, c22, c23, c24, c25, c26, c27, c28, c29, c30, c31, c32, c33, c34, c35, c36, c37, c38, c39, c40, c41, c42, c43, c44, c45, c46, c47, c48, c49, c50, c51, c52, c53, c54, c55, c56, c57, c58], df⟩ L a ∧ Hid (Ext wr wc ∧ (L 6 = true → wc.cell? ⟨g6, 0, none⟩ = some (.int .i64 (nr : Int))) ∧ (L 14 = true → wc.cell? ⟨g14, 0, none⟩ = some (.int .i64 ow)))) ⟨0, 0, InvO.start, Lib.hid ⟨(Ext.refl wr).drew, fun e => by simp at e, fun e => by simp at e⟩⟩ ?_ ?_
  · refine ⟨?_, ?_, ?_, ?_, ?_, ?_, ?_, ?_, ?_, ?_, ?_, ?_, ?_, ?_, ?_, ?_, ?_, ?_, ?_, ?_, ?_, ?_, ?_, trivial⟩
    · -- 0 field
      rintro L a wc ⟨g6, g14, hv, HO⟩ hL hc hd
      exact wpOp_val rfl rfl (ex_field rfl ((hv.fixed 1 (by decide)).trans rfl) (by go_simp)) ⟨g6, g14, hv.put dom_c_apart 0 rfl (Nat.le_of_ble_eq_true rfl) (Nat.le_of_ble_eq_true rfl) rfl, (Lib.hid ⟨HO.out.1, fun e => HO.out.2.1 (by simpa [upd] using e), fun e => HO.out.2.2 (by simpa [upd] using e)⟩)⟩
    · -- 1 load
      rintro L a wc ⟨g6, g14, hv, HO⟩ hL hc hd
      have e0 : wc.cell? ⟨B, 0, none⟩ = some (.slice DA nd cd) := HO.out.1.cell h0
      exact wpOp_val rfl rfl (ex_load rfl (hv.get 0 rfl rfl (hd 0 (by decide))) (by go_simp)) ⟨g6, g14, hv.put dom_c_apart 1 rfl (Nat.le_of_ble_eq_true rfl) (Nat.le_of_ble_eq_true rfl) rfl, (Lib.hid ⟨HO.out.1, fun e => HO.out.2.1 (by simpa [upd] using e), fun e => HO.out.2.2 (by simpa [upd] using e)⟩)⟩
    · -- 2 move
      rintro L a wc ⟨g6, g14, hv, HO⟩ hL hc hd
      exact wpOp_val rfl rfl (ex_move rfl ((hv.fixed 3 (by decide)).trans rfl)) ⟨g6, g14, hv.put dom_c_apart 2 rfl (Nat.le_of_ble_eq_true rfl) (Nat.le_of_ble_eq_true rfl) rfl, (Lib.hid ⟨HO.out.1, fun e => HO.out.2.1 (by simpa [upd] using e), fun e => HO.out.2.2 (by simpa [upd] using e)⟩)⟩
    · -- 3 field
      rintro L a wc ⟨g6, g14, hv, HO⟩ hL hc hd
      exact wpOp_val rfl rfl (ex_field rfl ((hv.fixed 1 (by decide)).trans rfl) (by go_simp)) ⟨g6, g14, hv.put dom_c_apart 3 rfl (Nat.le_of_ble_eq_true rfl) (Nat.le_of_ble_eq_true rfl) rfl, (Lib.hid ⟨HO.out.1, fun e => HO.out.2.1 (by simpa [upd] using e), fun e => HO.out.2.2 (by simpa [upd] using e)⟩)⟩
    · -- 4 load
      rintro L a wc ⟨g6, g14, hv, HO⟩ hL hc hd
      have e1 : wc.cell? ⟨B, 1, none⟩ = some (.slice RA nr cr) := HO.out.1.cell h1
      exact wpOp_val rfl rfl (ex_load rfl (hv.get 3 rfl rfl (hd 3 (by decide))) (by go_simp)) ⟨g6, g14, hv.put dom_c_apart 4 rfl (Nat.le_of_ble_eq_true rfl) (Nat.le_of_ble_eq_true rfl) rfl, (Lib.hid ⟨HO.out.1, fun e => HO.out.2.1 (by simpa [upd] using e), fun e => HO.out.2.2 (by simpa [upd] using e)⟩)⟩
    · -- 5 raw
      rintro L a wc ⟨g6, g14, hv, HO⟩ hL hc hd
      exact wpOp_val rfl rfl (ex_len rfl (hv.get 4 rfl rfl (hd 4 (by decide))) (by go_simp)) ⟨g6, g14, hv.put dom_c_apart 5 rfl (Nat.le_of_ble_eq_true rfl) (Nat.le_of_ble_eq_true rfl) rfl, (Lib.hid ⟨HO.out.1, fun e => HO.out.2.1 (by simpa [upd] using e), fun e => HO.out.2.2 (by simpa [upd] using e)⟩)⟩
    · -- 6 lines
      rintro L a wc ⟨g6, g14, hv, HO⟩ hL hc hd
      have hv := hv.reset 6 hL (.func (.func 51) #[] #[.pointer (some ⟨wc.heap.size, 0, none⟩)])
      refine wpOp_call (R := fun v w1 => v = .func (.func 51) #[] #[.pointer (some ⟨wc.heap.size, 0, none⟩)] ∧ w1 = wc.alloc (.cells #[.int .i64 (nr : Int)] 3)) rfl rfl (ex_call rfl (hv.get 2 rfl rfl (by simpa using hd 2 (by decide))) (map1r (hv.get 5 rfl rfl (by simpa using hd 5 (by decide)))) (ent_dmk _ _)) ((dMk_any (nr : Int) wc).mono (fun e w' h => ⟨_, h.1, rfl, h.2⟩)) ?_
      rintro v w' ⟨rfl, rfl⟩
      have hx := (Ext.refl wc).alloc (.cells #[.int .i64 (nr : Int)] 3)
      exact ⟨wc.heap.size, g14, hv.put dom_c_apart 6 rfl (Nat.le_of_ble_eq_true rfl) (Nat.le_of_ble_eq_true rfl) rfl, Lib.hid ⟨HO.out.1.trans hx, fun _ => cells_new wc #[.int .i64 (nr : Int)] 3 0 _ rfl, fun e => hx.cell (HO.out.2.2 (by simpa [upd] using e))⟩⟩
    · -- 7 call
      rintro L a wc ⟨g6, g14, hv, HO⟩ hL hc hd
      refine wpOp_call (R := fun v w1 => v = .bool false ∧ wc = w1) rfl rfl (ex_call rfl rfl (map2r (hv.get 1 rfl rfl (hd 1 (by decide))) (hv.get 6 rfl rfl (hd 6 (by decide)))) (ent_scf _ _)) ((dIn_any disks nr DA nd cd g6 wc (Rs.ext RI.ext _ _ _ _ HO.out.1 HD.out) (HO.out.2.1 (hd 6 (by decide)))).mono (fun e w' h => ⟨_, h.1, by rw [H1.out], h.2⟩)) ?_
      rintro v w' ⟨rfl, rfl⟩
      exact ⟨g6, g14, hv.put dom_c_apart 7 rfl (Nat.le_of_ble_eq_true rfl) (Nat.le_of_ble_eq_true rfl) rfl, (Lib.hid ⟨HO.out.1, fun e => HO.out.2.1 (by simpa [upd] using e), fun e => HO.out.2.2 (by simpa [upd] using e)⟩)⟩
    · -- 8 move
      rintro L a wc ⟨g6, g14, hv, HO⟩ hL hc hd
      exact wpOp_val rfl rfl (ex_move rfl (hv.get 7 rfl rfl (hd 7 (by decide)))) ⟨g6, g14, hv.put dom_c_apart 8 rfl (Nat.le_of_ble_eq_true rfl) (Nat.le_of_ble_eq_true rfl) rfl, (Lib.hid ⟨HO.out.1, fun e => HO.out.2.1 (by simpa [upd] using e), fun e => HO.out.2.2 (by simpa [upd] using e)⟩)⟩
    · -- 9 field
      rintro L a wc ⟨g6, g14, hv, HO⟩ hL hc hd
      exact wpOp_val rfl ((wanted_at rfl rfl (hv.get 8 rfl rfl (hd 8 (by decide)))).trans rfl) (ex_field rfl ((hv.fixed 1 (by decide)).trans rfl) (by go_simp)) ⟨g6, g14, hv.put dom_c_apart 9 rfl (Nat.le_of_ble_eq_true rfl) (Nat.le_of_ble_eq_true rfl) rfl, (Lib.hid ⟨HO.out.1, fun e => HO.out.2.1 (by simpa [upd] using e), fun e => HO.out.2.2 (by simpa [upd] using e)⟩)⟩
    · -- 10 load
      rintro L a wc ⟨g6, g14, hv, HO⟩ hL hc hd
      have e2 : wc.cell? ⟨B, 2, none⟩ = some (.slice HA nh ch) := HO.out.1.cell h2
      exact wpOp_val rfl ((wanted_at rfl rfl (hv.get 8 rfl rfl (hd 8 (by decide)))).trans rfl) (ex_load rfl (hv.get 9 rfl rfl (hd 9 (by decide))) (by go_simp)) ⟨g6, g14, hv.put dom_c_apart 10 rfl (Nat.le_of_ble_eq_true rfl) (Nat.le_of_ble_eq_true rfl) rfl, (Lib.hid ⟨HO.out.1, fun e => HO.out.2.1 (by simpa [upd] using e), fun e => HO.out.2.2 (by simpa [upd] using e)⟩)⟩
    · -- 11 move
      rintro L a wc ⟨g6, g14, hv, HO⟩ hL hc hd
      exact wpOp_val rfl ((wanted_at rfl rfl (hv.get 8 rfl rfl (hd 8 (by decide)))).trans rfl) (ex_move rfl ((hv.fixed 3 (by decide)).trans rfl)) ⟨g6, g14, hv.put dom_c_apart 11 rfl (Nat.le_of_ble_eq_true rfl) (Nat.le_of_ble_eq_true rfl) rfl, (Lib.hid ⟨HO.out.1, fun e => HO.out.2.1 (by simpa [upd] using e), fun e => HO.out.2.2 (by simpa [upd] using e)⟩)⟩
    · -- 12 field
      rintro L a wc ⟨g6, g14, hv, HO⟩ hL hc hd
      exact wpOp_val rfl ((wanted_at rfl rfl (hv.get 8 rfl rfl (hd 8 (by decide)))).trans rfl) (ex_field rfl ((hv.fixed 1 (by decide)).trans rfl) (by go_simp)) ⟨g6, g14, hv.put dom_c_apart 12 rfl (Nat.le_of_ble_eq_true rfl) (Nat.le_of_ble_eq_true rfl) rfl, (Lib.hid ⟨HO.out.1, fun e => HO.out.2.1 (by simpa [upd] using e), fun e => HO.out.2.2 (by simpa [upd] using e)⟩)⟩
    · -- 13 load
      rintro L a wc ⟨g6, g14, hv, HO⟩ hL hc hd
      have e3 : wc.cell? ⟨B, 3, none⟩ = some (.int .i64 ow) := HO.out.1.cell h3
      exact wpOp_val rfl ((wanted_at rfl rfl (hv.get 8 rfl rfl (hd 8 (by decide)))).trans rfl) (ex_load rfl (hv.get 12 rfl rfl (hd 12 (by decide))) (by go_simp)) ⟨g6, g14, hv.put dom_c_apart 13 rfl (Nat.le_of_ble_eq_true rfl) (Nat.le_of_ble_eq_true rfl) rfl, (Lib.hid ⟨HO.out.1, fun e => HO.out.2.1 (by simpa [upd] using e), fun e => HO.out.2.2 (by simpa [upd] using e)⟩)⟩
    · -- 14 lines
      rintro L a wc ⟨g6, g14, hv, HO⟩ hL hc hd
      have hv := hv.reset 14 hL (.func (.func 51) #[] #[.pointer (some ⟨wc.heap.size, 0, none⟩)])
      refine wpOp_callw (R := fun v w1 => v = .func (.func 51) #[] #[.pointer (some ⟨wc.heap.size, 0, none⟩)] ∧ w1 = wc.alloc (.cells #[.int .i64 ow] 3)) rfl ((wanted_at rfl rfl (hv.get 8 rfl rfl (by simpa using hd 8 (by decide)))).trans rfl) (ex_call rfl (hv.get 11 rfl rfl (by simpa using hd 11 (by decide))) (map1r (hv.get 13 rfl rfl (by simpa using hd 13 (by decide)))) (ent_dmk _ _)) ((dMk_any ow wc).mono (fun e w' h => ⟨_, h.1, rfl, h.2⟩)) ?_
      rintro v w' ⟨rfl, rfl⟩
      have hx := (Ext.refl wc).alloc (.cells #[.int .i64 ow] 3)
      exact ⟨g6, wc.heap.size, hv.put dom_c_apart 14 rfl (Nat.le_of_ble_eq_true rfl) (Nat.le_of_ble_eq_true rfl) rfl, Lib.hid ⟨HO.out.1.trans hx, fun e => hx.cell (HO.out.2.1 (by simpa [upd] using e)), fun _ => cells_new wc #[.int .i64 ow] 3 0 _ rfl⟩⟩
    · -- 15 call
      rintro L a wc ⟨g6, g14, hv, HO⟩ hL hc hd
      refine wpOp_callw (R := fun v w1 => v = .bool false ∧ wc = w1) rfl ((wanted_at rfl rfl (hv.get 8 rfl rfl (hd 8 (by decide)))).trans rfl) (ex_call rfl rfl (map2r (hv.get 10 rfl rfl (hd 10 (by decide))) (hv.get 14 rfl rfl (hd 14 (by decide)))) (ent_scf _ _)) ((dIn_any houses ow HA nh ch g14 wc (Rs.ext RI.ext _ _ _ _ HO.out.1 HH.out) (HO.out.2.2 (hd 14 (by decide)))).mono (fun e w' h => ⟨_, h.1, by rw [H2.out], h.2⟩)) ?_
      rintro v w' ⟨rfl, rfl⟩
      exact ⟨g6, g14, hv.put dom_c_apart 15 rfl (Nat.le_of_ble_eq_true rfl) (Nat.le_of_ble_eq_true rfl) rfl, (Lib.hid ⟨HO.out.1, fun e => HO.out.2.1 (by simpa [upd] using e), fun e => HO.out.2.2 (by simpa [upd] using e)⟩)⟩
    · -- 16 pick
      rintro L a wc ⟨g6, g14, hv, HO⟩ hL hc hd
      exact wpOp_val rfl rfl (ex_pick rfl (hv.get 8 rfl rfl (hd 8 (by decide))) ((if_neg (by simp)).trans (hv.get 15 rfl rfl (hd 15 (by decide))))) ⟨g6, g14, hv.put dom_c_apart 16 rfl (Nat.le_of_ble_eq_true rfl) (Nat.le_of_ble_eq_true rfl) rfl, (Lib.hid ⟨HO.out.1, fun e => HO.out.2.1 (by simpa [upd] using e), fun e => HO.out.2.2 (by simpa [upd] using e)⟩)⟩
    · -- 17 move
      rintro L a wc ⟨g6, g14, hv, HO⟩ hL hc hd
      exact wpOp_val rfl rfl (ex_move rfl (hv.get 16 rfl rfl (hd 16 (by decide)))) ⟨g6, g14, hv.put dom_c_apart 17 rfl (Nat.le_of_ble_eq_true rfl) (Nat.le_of_ble_eq_true rfl) rfl, (Lib.hid ⟨HO.out.1, fun e => HO.out.2.1 (by simpa [upd] using e), fun e => HO.out.2.2 (by simpa [upd] using e)⟩)⟩
    · -- 18 field
      rintro L a wc ⟨g6, g14, hv, HO⟩ hL hc hd
      exact wpOp_val rfl ((wanted_at rfl rfl (hv.get 17 rfl rfl (hd 17 (by decide)))).trans rfl) (ex_field rfl ((hv.fixed 1 (by decide)).trans rfl) (by go_simp)) ⟨g6, g14, hv.put dom_c_apart 18 rfl (Nat.le_of_ble_eq_true rfl) (Nat.le_of_ble_eq_true rfl) rfl, (Lib.hid ⟨HO.out.1, fun e => HO.out.2.1 (by simpa [upd] using e), fun e => HO.out.2.2 (by simpa [upd] using e)⟩)⟩
    · -- 19 load
      rintro L a wc ⟨g6, g14, hv, HO⟩ hL hc hd
      have e1 : wc.cell? ⟨B, 1, none⟩ = some (.slice RA nr cr) := HO.out.1.cell h1
      exact wpOp_val rfl ((wanted_at rfl rfl (hv.get 17 rfl rfl (hd 17 (by decide)))).trans rfl) (ex_load rfl (hv.get 18 rfl rfl (hd 18 (by decide))) (by go_simp)) ⟨g6, g14, hv.put dom_c_apart 19 rfl (Nat.le_of_ble_eq_true rfl) (Nat.le_of_ble_eq_true rfl) rfl, (Lib.hid ⟨HO.out.1, fun e => HO.out.2.1 (by simpa [upd] using e), fun e => HO.out.2.2 (by simpa [upd] using e)⟩)⟩
    · -- 20 raw
      rintro L a wc ⟨g6, g14, hv, HO⟩ hL hc hd
      exact wpOp_val rfl ((wanted_at rfl rfl (hv.get 17 rfl rfl (hd 17 (by decide)))).trans rfl) (ex_make1 rfl ((hv.fixed 4 (by decide)).trans rfl)) ⟨g6, g14, hv.put dom_c_apart 20 rfl (Nat.le_of_ble_eq_true rfl) (Nat.le_of_ble_eq_true rfl) rfl, (Lib.hid ⟨HO.out.1, fun e => HO.out.2.1 (by simpa [upd] using e), fun e => HO.out.2.2 (by simpa [upd] using e)⟩)⟩
    · -- 21 call
      rintro L a wc ⟨g6, g14, hv, HO⟩ hL hc hd
      refine wpOp_callw (R := fun v w1 => v = .bool (decide (∃ x ∈ racks, Mv.out nh x)) ∧ Ext wc w1) rfl ((wanted_at rfl rfl (hv.get 17 rfl rfl (hd 17 (by decide)))).trans rfl) (ex_call rfl rfl (map2r (hv.get 19 rfl rfl (hd 19 (by decide))) (hv.get 20 rfl rfl (hd 20 (by decide)))) (ent_scr _ _)) ((dInK_any racks nh RA nr cr g4 g5 wc (RK.ext _ _ _ _ HO.out.1 HR.out) (HO.out.1.cell HG.out.1) (HO.out.1.cell HG.out.2)).mono (fun e w' h => ⟨_, h.1, rfl, h.2⟩)) ?_
      rintro v w' ⟨rfl, hx⟩
      exact ⟨g6, g14, hv.put dom_c_apart 21 rfl (Nat.le_of_ble_eq_true rfl) (Nat.le_of_ble_eq_true rfl) rfl, (Lib.hid ⟨HO.out.1.trans hx, fun e => hx.cell (HO.out.2.1 (by simpa [upd] using e)), fun e => hx.cell (HO.out.2.2 (by simpa [upd] using e))⟩)⟩
    · -- 22 pick
      rintro L a wc ⟨g6, g14, hv, HO⟩ hL hc hd
      exact wpOp_val rfl rfl (ex_pick rfl (hv.get 17 rfl rfl (hd 17 (by decide))) ((if_neg (by simp)).trans (hv.get 21 rfl rfl (hd 21 (by decide))))) ⟨g6, g14, hv.put dom_c_apart 22 rfl (Nat.le_of_ble_eq_true rfl) (Nat.le_of_ble_eq_true rfl) rfl, (Lib.hid ⟨HO.out.1, fun e => HO.out.2.1 (by simpa [upd] using e), fun e => HO.out.2.2 (by simpa [upd] using e)⟩)⟩
  · rintro L a wc ⟨g6, g14, hv, HO⟩ hall
    show K a wc
    have ha := act_lit a
    rw [hv.size, hv.defers] at ha
    have hl : ∀ f : Nat → Value, ((List.range (⟨#[c0, .pointer (some ⟨B, 0, none⟩), c2, .func (.func 50) #[] #[], .pointer (some ⟨g4, 0, none⟩), c5, c6, c7, c8, c9, c10, c11, c12, c13, c14, c15, c16, c17, c18, c19, c20, c21, c22, c23, c24, c25, c26, c27, c28, c29, c30, c31, c32, c33, c34, c35, c36, c37, c38, c39, c40, c41, c42, c43, c44, c45, c46, c47, c48, c49, c50, c51, c52, c53, c54, c55, c56, c57, c58], df⟩ : Act).tmps.size).map f).toArray = #[f 0, f 1, f 2, f 3, f 4, f 5, f 6, f 7, f 8, f 9, f 10, f 11, f 12, f 13, f 14, f 15, f 16, f 17, f 18, f 19, f 20, f 21, f 22, f 23, f 24, f 25, f 26, f 27, f 28, f 29, f 30, f 31, f 32, f 33, f 34, f 35, f 36, f 37, f 38, f 39, f 40, f 41, f 42, f 43, f 44, f 45, f 46, f 47, f 48, f 49, f 50, f 51, f 52, f 53, f 54, f 55, f 56, f 57, f 58] := fun _ => rfl
    rw [hl] at ha
    simp only [hv.fixed 0 (by decide), hv.fixed 1 (by decide), hv.fixed 2 (by decide), hv.fixed 3 (by decide), hv.fixed 4 (by decide), hv.fixed 5 (by decide), hv.fixed 6 (by decide), hv.fixed 7 (by decide), hv.fixed 8 (by decide), hv.fixed 9 (by decide), hv.fixed 10 (by decide), hv.fixed 11 (by decide), hv.fixed 12 (by decide), hv.fixed 13 (by decide), hv.fixed 14 (by decide), hv.fixed 15 (by decide), hv.fixed 16 (by decide), hv.fixed 17 (by decide), hv.fixed 18 (by decide), hv.fixed 19 (by decide), hv.fixed 20 (by decide), hv.fixed 21 (by decide), hv.fixed 22 (by decide), hv.fixed 23 (by decide), hv.fixed 24 (by decide), hv.fixed 25 (by decide), hv.fixed 26 (by decide), hv.fixed 27 (by decide), hv.fixed 28 (by decide), hv.fixed 29 (by decide), hv.fixed 30 (by decide), hv.fixed 31 (by decide), hv.fixed 32 (by decide), hv.fixed 33 (by decide), hv.fixed 34 (by decide), hv.fixed 35 (by decide), hv.get 22 (d := 58) rfl rfl (hall 22 (by decide))] at ha
    rw [ha]
    exact hK _ _ _ _ _ _ _ _ _ _ _ _ _ _ _ _ _ _ _ _ _ _ wc HO.out.1
end Go.Proofs.YtkbiffbmjgmcaaaDoor

/- THE WALK over Check of package domain: the whole. -/
namespace Go.Proofs.YtkbiffbmjgmcaaaDoor
open Go.RowKit
set_option maxHeartbeats 4000000 in
set_option maxRecDepth 100000 in
theorem dCheck_any (disks racks houses : List Int) (ow : Int) (D R H : Value) (w : World) (hD : Rs RI w D disks) (hR : RK w R racks) (hH : Rs RI w H houses) (_ : -9223372036854775808 ≤ ow ∧ ow ≤ 9223372036854775807) :
    Calls Tryd.prog 27 #[.agg #[D, R, H, .int .i64 ow]] w fun e w' => e = .returned (.int .i64 (Mv.domErr disks racks houses ow)) ∧ Ext w w' := by
  obtain ⟨DA, cd, rfl, hl1⟩ := hD.form
  obtain ⟨RA, cr, rfl, hl2⟩ := hR.form
  obtain ⟨HA, ch, rfl, hl3⟩ := hH.form
  have hx0 := (Ext.refl w).alloc (.cells #[.slice DA disks.length cd, .slice RA racks.length cr, .slice HA houses.length ch, .int .i64 ow] 25)
  have HX0 := Lib.hid hx0
  have HD := Lib.hid (Rs.ext RI.ext _ _ _ _ hx0 hD)
  have HR := Lib.hid (RK.ext _ _ _ _ hx0 hR)
  have HH := Lib.hid (Rs.ext RI.ext _ _ _ _ hx0 hH)
  clear hx0 hD hR hH
  by_cases q0 : 64 < disks.length
  · have HE := Lib.hid (Mv.domErr_big (disks := disks) (racks := racks) (houses := houses) (owners := ow) (.inl q0))
    go_enter Tryd.func27, Tryd.ntmps27
    go_wp2_with fail
    go_ret
    exact ⟨by rw [HE.out]; rfl, HX0.out⟩
  by_cases q1 : 24 < racks.length
  · have HE := Lib.hid (Mv.domErr_big (disks := disks) (racks := racks) (houses := houses) (owners := ow) (.inr (.inl q1)))
    go_enter Tryd.func27, Tryd.ntmps27
    go_wp2_with fail
    go_ret
    exact ⟨by rw [HE.out]; rfl, HX0.out⟩
  by_cases q2 : 12 < houses.length
  · have HE := Lib.hid (Mv.domErr_big (disks := disks) (racks := racks) (houses := houses) (owners := ow) (.inr (.inr (.inl q2))))
    go_enter Tryd.func27, Tryd.ntmps27
    go_wp2_with fail
    go_ret
    exact ⟨by rw [HE.out]; rfl, HX0.out⟩
  by_cases q3 : ow < 0
  · have HE := Lib.hid (Mv.domErr_big (disks := disks) (racks := racks) (houses := houses) (owners := ow) (.inr (.inr (.inr (.inl q3)))))
    go_enter Tryd.func27, Tryd.ntmps27
    go_wp2_with fail
    go_ret
    exact ⟨by rw [HE.out]; rfl, HX0.out⟩
  by_cases q4 : 8 < ow
  · have HE := Lib.hid (Mv.domErr_big (disks := disks) (racks := racks) (houses := houses) (owners := ow) (.inr (.inr (.inr (.inr q4)))))
    go_enter Tryd.func27, Tryd.ntmps27
    go_wp2_with fail
    go_ret
    exact ⟨by rw [HE.out]; rfl, HX0.out⟩
  have hno : ¬ (64 < disks.length ∨ 24 < racks.length ∨ 12 < houses.length ∨ ow < 0 ∨ 8 < ow) := by omega
  have HNO := Lib.hid hno
  clear hno
  have c0 : (w.alloc (.cells #[.slice DA disks.length cd, .slice RA racks.length cr, .slice HA houses.length ch, .int .i64 ow] 25)).cell? ⟨w.heap.size, 0, none⟩ = some (.slice DA disks.length cd) := by go_simp
  have c1 : (w.alloc (.cells #[.slice DA disks.length cd, .slice RA racks.length cr, .slice HA houses.length ch, .int .i64 ow] 25)).cell? ⟨w.heap.size, 1, none⟩ = some (.slice RA racks.length cr) := by go_simp
  have c2 : (w.alloc (.cells #[.slice DA disks.length cd, .slice RA racks.length cr, .slice HA houses.length ch, .int .i64 ow] 25)).cell? ⟨w.heap.size, 2, none⟩ = some (.slice HA houses.length ch) := by go_simp
  have c3 : (w.alloc (.cells #[.slice DA disks.length cd, .slice RA racks.length cr, .slice HA houses.length ch, .int .i64 ow] 25)).cell? ⟨w.heap.size, 3, none⟩ = some (.int .i64 ow) := by go_simp
  have HC := Lib.hid (And.intro c0 (And.intro c1 (And.intro c2 c3)))
  clear c0 c1 c2 c3
  go_enter Tryd.func27, Tryd.ntmps27
  go_wp2_with fail
  refine (dMk_any (houses.length : Int) _).mono ?_
  rintro ee w1 ⟨rfl, hw1⟩
  have hx1 : Ext (w.alloc (.cells #[.slice DA disks.length cd, .slice RA racks.length cr, .slice HA houses.length ch, .int .i64 ow] 25)) w1 := by rw [hw1]; exact (Ext.refl _).alloc _
  have hg0 : w1.cell? ⟨(w.alloc (.cells #[.slice DA disks.length cd, .slice RA racks.length cr, .slice HA houses.length ch, .int .i64 ow] 25)).heap.size, 0, none⟩ = some (.int .i64 (houses.length : Int)) := by rw [hw1]; exact cells_new _ _ _ 0 _ rfl
  obtain ⟨g0, hgg⟩ : ∃ g0, (w.alloc (.cells #[.slice DA disks.length cd, .slice RA racks.length cr, .slice HA houses.length ch, .int .i64 ow] 25)).heap.size = g0 := ⟨_, rfl⟩
  rw [hgg] at hg0 ⊢
  obtain ⟨F4, hF4⟩ : ∃ F4 : Value, (.func (.func 51) #[] #[.pointer (some ⟨g0, 0, none⟩)]) = F4 := ⟨_, rfl⟩
  have hx2 := hx1.alloc (.cells #[.func (.func 51) #[] #[.pointer (some ⟨g0, 0, none⟩)]] 53)
  have hg4 := cells_new w1 #[.func (.func 51) #[] #[.pointer (some ⟨g0, 0, none⟩)]] 53 0 _ rfl
  have hg5 := ((Ext.refl w1).alloc (.cells #[.func (.func 51) #[] #[.pointer (some ⟨g0, 0, none⟩)]] 53)).cell hg0
  have HG := Lib.hid (And.intro hg4 hg5)
  have HX2 := Lib.hid hx2
  clear hx1 hg0 hgg hx2 hg4 hg5 hw1 hF4
  have hsf : ∀ (w : World) (a : Addr) (f : Fn) (cap : Array Value), (store a (.func f #[] cap)).run Tryd.prog w = stored Tryd.prog w a (.func f #[] cap) .plain := fun w a f cap => run_store _ w a _ _ rfl
  go_wp2_with fail
  clear hsf
  have HD2 := Lib.hid (Rs.ext RI.ext _ _ _ _ HX2.out HD.out)
  have HR2 := Lib.hid (RK.ext _ _ _ _ HX2.out HR.out)
  have HH2 := Lib.hid (Rs.ext RI.ext _ _ _ _ HX2.out HH.out)
  cases b1 : decide (∃ x ∈ disks, Mv.out racks.length x) with
  | true =>
    have HE := Lib.hid (Mv.domErr_out HNO.out (.inl (of_decide_eq_true b1)))
    refine wp_atEnd' (dom_a _ w.heap.size w1.heap.size g0 disks.length cd racks.length cr houses.length ch DA RA HA ow disks racks houses (HX2.out.cell HC.out.1) (HX2.out.cell HC.out.2.1) (HX2.out.cell HC.out.2.2.1) (HX2.out.cell HC.out.2.2.2) HG HD2 HR2 HH2 (Lib.hid b1) _ _ _ _ _ _ _ _ _ _ _ _ _ _ _ _ _ _ _ _ _ _ _ _ _ _ _ _ _ _ _ _ _ _ _ _ _ _ _ _ _ _ _ _ _ _ _ _ _ _ _ _ _ _ _ _ _ _ ?_)
    intro u36 u37 u38 u39 u40 u41 u42 u43 u44 u45 u46 u47 u48 u49 u50 u51 u52 u53 u54 u55 u56 u57 wx hx
    have HX := Lib.hid ((HX0.out.trans HX2.out).trans hx)
    clear hx
    go_wp2_with fail
    go_ret
    exact ⟨by rw [HE.out]; rfl, HX.out⟩
  | false =>
  cases b2 : decide (∃ x ∈ houses, Mv.out ow x) with
  | true =>
    have HE := Lib.hid (Mv.domErr_out HNO.out (.inr (.inl (of_decide_eq_true b2))))
    refine wp_atEnd' (dom_b _ w.heap.size w1.heap.size g0 disks.length cd racks.length cr houses.length ch DA RA HA ow disks racks houses (HX2.out.cell HC.out.1) (HX2.out.cell HC.out.2.1) (HX2.out.cell HC.out.2.2.1) (HX2.out.cell HC.out.2.2.2) HG HD2 HR2 HH2 (Lib.hid b1) (Lib.hid b2) _ _ _ _ _ _ _ _ _ _ _ _ _ _ _ _ _ _ _ _ _ _ _ _ _ _ _ _ _ _ _ _ _ _ _ _ _ _ _ _ _ _ _ _ _ _ _ _ _ _ _ _ _ _ _ _ _ _ ?_)
    intro u36 u37 u38 u39 u40 u41 u42 u43 u44 u45 u46 u47 u48 u49 u50 u51 u52 u53 u54 u55 u56 u57 wx hx
    have HX := Lib.hid ((HX0.out.trans HX2.out).trans hx)
    clear hx
    go_wp2_with fail
    go_ret
    exact ⟨by rw [HE.out]; rfl, HX.out⟩
  | false =>
  have H12 := Lib.hid (And.intro (of_decide_eq_false b1) (of_decide_eq_false b2))
  refine wp_atEnd' (dom_c _ w.heap.size w1.heap.size g0 disks.length cd racks.length cr houses.length ch DA RA HA ow disks racks houses (HX2.out.cell HC.out.1) (HX2.out.cell HC.out.2.1) (HX2.out.cell HC.out.2.2.1) (HX2.out.cell HC.out.2.2.2) HG HD2 HR2 HH2 (Lib.hid b1) (Lib.hid b2) _ _ _ _ _ _ _ _ _ _ _ _ _ _ _ _ _ _ _ _ _ _ _ _ _ _ _ _ _ _ _ _ _ _ _ _ _ _ _ _ _ _ _ _ _ _ _ _ _ _ _ _ _ _ _ _ _ _ ?_)
  intro u36 u37 u38 u39 u40 u41 u42 u43 u44 u45 u46 u47 u48 u49 u50 u51 u52 u53 u54 u55 u56 u57 wx hx
  have HX := Lib.hid ((HX0.out.trans HX2.out).trans hx)
  clear hx
  clear b1 b2
  cases b3 : decide (∃ x ∈ racks, Mv.out houses.length x) with
  | true =>
    have HE := Lib.hid (Mv.domErr_out HNO.out (.inr (.inr (of_decide_eq_true b3))))
    clear b3
    go_wp2_with fail
    go_ret
    exact ⟨by rw [HE.out]; rfl, HX.out⟩
  | false =>
    have HE := Lib.hid (Mv.domErr_ok HNO.out (by rintro (e | e | e); exact H12.out.1 e; exact H12.out.2 e; exact of_decide_eq_false b3 e))
    clear b3
    go_wp2_with fail
    go_ret
    exact ⟨by rw [HE.out]; rfl, HX.out⟩
end Go.Proofs.YtkbiffbmjgmcaaaDoor

/- THE WALK over code.Rows. -/
namespace Cd
/-- The rows of a code; none if Check has an error. -/
def rowsOf (d : Int) (gs : List (List Int)) (gl : Int) : List (List UInt8) := if check d gs gl = 0 then rows d.toNat gs gl.toNat else []
theorem rowsOf_ok {d gl : Int} {gs : List (List Int)} (h : check d gs gl = 0) : rowsOf d gs gl = rows d.toNat gs gl.toNat := if_pos h
theorem rowsOf_no {d gl : Int} {gs : List (List Int)} (h : check d gs gl ≠ 0) : rowsOf d gs gl = [] := if_neg h
def rows1 (d k : Nat) : List (List UInt8) := (List.range k).map fun k => rowOf d (unitAt k)
def rows2 (d : Nat) (gs : List (List Int)) : List (List UInt8) := gs.map fun g => rowOf d (inAt (setOf 0 g))
def rows3 (d k : Nat) : List (List UInt8) := (List.range k).map fun j => rowOf d (gloAt j)
theorem rows_parts (d : Nat) (gs : List (List Int)) (gl : Nat) : rows1 d d ++ rows2 d gs ++ rows3 d gl = rows d gs gl := rfl
theorem rows1_succ (d k : Nat) : rows1 d (k + 1) = rows1 d k ++ [rowOf d (unitAt k)] := by simp [rows1, List.range_succ]
theorem rows3_succ (d k : Nat) : rows3 d (k + 1) = rows3 d k ++ [rowOf d (gloAt k)] := by simp [rows3, List.range_succ]
theorem rows2_take {d k : Nat} {gs : List (List Int)} (h : k < gs.length) : rows2 d (gs.take (k + 1)) = rows2 d (gs.take k) ++ [rowOf d (inAt (setOf 0 gs[k]))] := by
  rw [rows2, List.take_succ_eq_append_getElem h, List.map_append]; rfl
theorem rows1_length (d k : Nat) : (rows1 d k).length = k := by simp [rows1]
theorem rows2_length (d : Nat) (gs : List (List Int)) : (rows2 d gs).length = gs.length := by simp [rows2]
theorem rows3_length (d k : Nat) : (rows3 d k).length = k := by simp [rows3]
theorem rowOf_length (d : Nat) (g : Nat → UInt8) : (rowOf d g).length = d := by simp [rowOf]
theorem rows_len (d : Nat) (gs : List (List Int)) (gl : Nat) : (rows d gs gl).length = d + gs.length + gl := by
  rw [← rows_parts]; simp [rows1_length, rows2_length, rows3_length]; omega
theorem rows_width {d : Nat} {gs : List (List Int)} {gl : Nat} {r : List UInt8} (h : r ∈ rows d gs gl) : r.length = d := by
  simp only [rows, List.mem_append, List.mem_map] at h
  rcases h with (⟨k, _, rfl⟩ | ⟨g, _, rfl⟩) | ⟨k, _, rfl⟩ <;> exact rowOf_length _ _
attribute [irreducible] rowsOf rows1 rows2 rows3
end Cd
namespace Go.Proofs.YtkbiffbmjgmcaaaDoor
open Go.RowKit

theorem RowsOut.rs {w0 w : World} {P : Nat} {rs : List (List UInt8)} (h : RowsOut w0 w P rs) (hw : ∀ r ∈ rs, r.length ≤ 9223372036854775807) (hn : rs.length ≤ 9223372036854775807) :
    ∃ A c, w.cell? ⟨P, 0, none⟩ = some (.slice A rs.length c) ∧ Rs (Rs RB) w (.slice A rs.length c) rs := by
  obtain ⟨A, c, hs, hl, hO⟩ := h
  refine ⟨A, c, hO.cell 0 rfl 0 rfl, A, c, rfl, hn, fun i r hi => ?_⟩
  have hi' : i < rs.length := (List.getElem?_eq_some_iff.1 hi).1
  have hr := (List.getElem?_eq_some_iff.1 hi).2
  have hin : (inner hs rs)[i]? = some (inner1 (hs[i]'(by omega)) r) := by
    unfold inner
    rw [List.getElem?_eq_getElem (by simp; omega), List.getElem_zipWith, hr]
  have hrd : Rd w A ((inner hs rs).map (·.v)) := hO.rd 1 rfl
  obtain ⟨ad, hA, _, hc⟩ := hrd i _ (by rw [List.getElem?_map, hin]; rfl)
  refine ⟨ad, _, hA, hc, ?_⟩
  refine Rs.of_rd ?_ (hw r (List.mem_of_getElem? hi))
  exact hO.rd (i + 2) (n := r.length) (by simpa [inner1] using hin)

theorem RowsOut.start {wb : World} : RowsOut wb (wb.alloc (.cells #[.slice none 0 0] 65)) wb.heap.size [] := by
  refine ⟨none, 0, [], rfl, ?_⟩
  have h1 := (Owns.start wb (L := [no, nilRow 45]) (by intro r hr; simp [no, nilRow] at hr; rcases hr with rfl | rfl <;> simp)).new 0 #[.slice none 0 0] 65 (by simp [maxLen])
  exact h1

theorem cRows_no (d gl : Int) (gs : List (List Int)) (G : Value) (w : World) (hG : Rs (Rs RI) w G gs) (h0 : Cd.check d gs gl ≠ 0) :
    Calls Tryd.prog 47 #[.agg #[.int .i64 d, G, .int .i64 gl]] w fun e w' => e = .returned (.tuple #[.slice none 0 0, .int .i64 (Cd.check d gs gl)]) ∧ Ext w w' := by
  have hx0 := (Ext.refl w).alloc (.cells #[.int .i64 d, G, .int .i64 gl] 28)
  have HX := Lib.hid (And.intro hx0 (Rs.ext (Rs.ext RI.ext) _ _ _ _ hx0 hG))
  obtain ⟨A, c, rfl, hl⟩ := hG.form
  clear hG hx0
  have e1 : (Cd.check d gs gl != 0) = true := by rw [bne_iff_ne]; exact h0
  clear h0
  go_enter Tryd.func47, Tryd.ntmps47
  go_wp2_with fail
  refine (cCheck_any d gl gs _ _ HX.out.2).mono ?_
  rintro e w1 ⟨rfl, hx1⟩
  have HX1 := Lib.hid (HX.out.1.trans hx1)
  clear hx1
  go_wp2_with fail
  go_ret2
  exact ⟨rfl, HX1.out⟩
set_option maxRecDepth 100000 in
theorem cRows_ok (d gl : Nat) (gs : List (List Int)) (G : Value) (w : World) (hT : Tab w) (hG : Rs (Rs RI) w G gs) (h0 : Cd.check d gs gl = 0) :
    Calls Tryd.prog 47 #[.agg #[.int .i64 d, G, .int .i64 gl]] w fun e w' => ∃ v, e = .returned (.tuple #[v, .int .i64 0]) ∧ Rs (Rs RB) w' v (Cd.rows d gs gl) ∧ Ext w w' := by
  have hx0 := (Ext.refl w).alloc (.cells #[.int .i64 d, G, .int .i64 gl] 28)
  have HX := Lib.hid (And.intro hx0 (Rs.ext (Rs.ext RI.ext) _ _ _ _ hx0 hG))
  have HT := Lib.hid hT
  obtain ⟨A, c, rfl, hl⟩ := hG.form
  have hk := Cd.check_ok h0
  obtain ⟨k1, k2, k3, k4, k5, k6⟩ := hk
  have H0 := Lib.hid h0
  clear hG hx0 hT h0 k1 k3
  have e1 : (Cd.check d gs gl != 0) = false := by rw [H0.out]; rfl
  go_enter Tryd.func47, Tryd.ntmps47
  go_wp2_with fail
  refine (cCheck_any d gl gs _ _ HX.out.2).mono ?_
  rintro e w1 ⟨rfl, hx1⟩
  have HX1 := Lib.hid (HX.out.1.trans hx1)
  have hc0 : w1.cell? ⟨w.heap.size, 0, none⟩ = some (.int .i64 d) := hx1.cell (by go_simp)
  have hc1 : w1.cell? ⟨w.heap.size, 1, none⟩ = some (.slice A gs.length c) := hx1.cell (by go_simp)
  have hc2 : w1.cell? ⟨w.heap.size, 2, none⟩ = some (.int .i64 gl) := hx1.cell (by go_simp)
  have HC := Lib.hid (And.intro hc0 (And.intro hc1 hc2))
  have HG := Lib.hid (Rs.ext (Rs.ext RI.ext) _ _ _ _ hx1 HX.out.2)
  clear hx1
  have HR0 := Lib.hid (RowsOut.start (wb := w1))
  have ha0 := HR0.out.ext.cell hc0
  have Q0 := Lib.hid ha0
  clear hc0 hc1 hc2
  go_wp2_with fail
  clear ha0
  go_loopw [22] (fun vi wr => ∃ k : Nat, k ≤ d ∧ vi = .int .i64 k ∧ Hid (RowsOut w1 wr w1.heap.size (Cd.rows1 d k))) (fun vi _ => d - (intOf vi).toNat)
  case atStart => exact ⟨0, Nat.zero_le _, rfl, by rw [show Cd.rows1 d 0 = [] from by simp [Cd.rows1]]; exact HR0.out⟩
  case round =>
    obtain ⟨k, hk, rfl, HR⟩ := hrel
    by_cases hlt : k < d
    · have hcd := (HR.out.ext.alloc (.cells #[.int .i64 k] 3)).cell HC.out.1
      have HCD := Lib.hid hcd
      clear hcd
      go_wp2_with fail
      refine (rows1_any w1 _ w.heap.size w1.heap.size d (Cd.rows1 d k) _ _ (Cd.unitAt k) (by omega) (by rw [Cd.rows1_length]; omega) enters64 ?_ HCD.out (HR.out.next ((Ext.refl _).alloc _))).mono ?_
      · intro i hi w' hx
        exact rows2_any i k _ w' (hx.cell (by go_simp))
      rintro e w2 ⟨rfl, ho⟩
      rw [← Cd.rows1_succ] at ho
      have HO := Lib.hid ho
      clear ho
      go_wp2_with fail
      go_roundw
      case rel => exact ⟨k + 1, by omega, by go_num, HO.out⟩
      case measure => simp [intOf]; omega
    · obtain rfl : k = d := by omega
      have hc1 := HR.out.ext.cell HC.out.2.1
      go_wp2_with fail
      clear hc1
      go_loopw [32] (fun vi wr => ∃ i : Nat, i ≤ gs.length ∧ vi = .int .i64 i ∧ Hid (RowsOut w1 wr w1.heap.size (Cd.rows1 k k ++ Cd.rows2 k (gs.take i)))) (fun vi _ => gs.length - (intOf vi).toNat)
      case atStart => exact ⟨0, Nat.zero_le _, rfl, by rw [List.take_zero, show Cd.rows2 k [] = [] from by simp [Cd.rows2], List.append_nil]; exact HR.out⟩
      case round =>
        obtain ⟨i, hi, rfl, HI⟩ := hrel
        by_cases hlt2 : i < gs.length
        · obtain ⟨ad, u, rfl, hcell, hu⟩ := HG.out.at hlt2
          obtain ⟨B, cB, rfl, hlB⟩ := hu.form
          have hcell' := HI.out.ext.cell hcell
          have HU := Lib.hid (Rs.ext RI.ext _ _ _ _ HI.out.ext hu)
          have hgb := Cd.check_groups_ok H0.out gs[i] (List.getElem_mem hlt2)
          have hstep := Cd.rows2_take (d := k) hlt2
          obtain ⟨g, hg⟩ : ∃ g, gs[i] = g := ⟨_, rfl⟩
          rw [hg] at hcell' HU hlB hgb hstep
          have HGB := Lib.hid (And.intro hgb hstep)
          clear hcell hu hgb hstep hg
          have hOs := ((Owns.start wr (L := []) (by simp)).push1 (u := .int .i64 0) (e := 3))
          rw [List.nil_append] at hOs
          have HS0 := Lib.hid hOs
          clear hOs
          go_wp2_with fail
          go_loopw [38] (fun vj wj => ∃ j s : Nat, j ≤ g.length ∧ vj = .int .i64 j ∧ s < 65536 ∧ Hid (Owns wr wj [⟨.slice (some ⟨wr.heap.size, 0, none⟩) 1 1, 3, 1, 1, [.int .i64 s]⟩] ∧ s = Cd.setOf 0 (g.take j))) (fun vj _ => g.length - (intOf vj).toNat)
          case atStart => exact ⟨0, 0, Nat.zero_le _, rfl, by omega, HS0.out, by rw [List.take_zero, Cd.setOf_nil]⟩
          case round =>
            obtain ⟨j, s, hj, rfl, hs, HS⟩ := hrel
            by_cases hlt3 : j < g.length
            · obtain ⟨bd, u, rfl, hbc, hu⟩ := HU.out.at hlt3
              obtain ⟨rfl, hlo, hhi⟩ := hu
              have hbc' := HS.out.1.ext.cell hbc
              clear hbc
              have hb2 := HGB.out.1 _ (List.getElem_mem hlt3)
              obtain ⟨m, hm⟩ : ∃ m : Nat, g[j] = (m : Int) := ⟨(g[j]).toNat, by omega⟩
              have hst := Cd.setOf_take (s := 0) hlt3
              rw [hm, Int.toNat_natCast, ← HS.out.2] at hst
              have hm16 : m < 16 := by omega
              rw [hm] at hbc'
              have hor := or_pow s m hs hm16
              have hcs := HS.out.1.cell 0 rfl 0 rfl
              have hfs := HS.out.1.frozen 0 rfl 0
              have HOR := Lib.hid (And.intro hor.1 (And.intro hst hor.2))
              clear hor hst hb2 hm hlo hhi
              go_wp2_with fail
              go_region
              all_goals go_wp2_with fail
              all_goals go_roundw
              case rel => exact ⟨j + 1, s ||| 2 ^ m, by omega, by go_num, HOR.out.2.2, by rw [HOR.out.1]; exact (HS.out.1.store 0 rfl 0 _).drew, HOR.out.2.1.symm⟩
              case measure => simp [intOf]; omega
            · obtain rfl : j = g.length := by omega
              have hse : s = Cd.setOf 0 g := by rw [HS.out.2, List.take_length]
              have hcs := HS.out.1.cell 0 rfl 0 rfl
              have HCS := Lib.hid (And.intro hcs (And.intro hse hs))
              have hro := HI.out.next HS.out.1.ext
              have hcd := hro.ext.cell HC.out.1
              have HRO := Lib.hid (And.intro hro hcd)
              clear hcs hse hro hcd
              go_wp2_with fail
              refine (rows1_any w1 _ w.heap.size w1.heap.size k (Cd.rows1 k k ++ Cd.rows2 k (gs.take i)) _ _ (Cd.inAt s) (by omega) (by rw [List.length_append, Cd.rows1_length, Cd.rows2_length, List.length_take]; omega) enters65 ?_ HRO.out.2 HRO.out.1).mono ?_
              · intro i hi w' hx
                exact rows3_any i s _ w' hs (by omega) (hx.cell HCS.out.1)
              rintro e w2 ⟨rfl, ho⟩
              rw [HCS.out.2.1, List.append_assoc, ← HGB.out.2] at ho
              have HO := Lib.hid ho
              clear ho
              go_wp2_with fail
              go_roundw
              case rel => exact ⟨i + 1, by omega, by go_num, HO.out⟩
              case measure => simp [intOf]; omega
        · obtain rfl : i = gs.length := by omega
          have hro := HI.out
          rw [List.take_length] at hro
          have hc2 := hro.ext.cell HC.out.2.2
          have HRO := Lib.hid hro
          clear hro
          go_wp2_with fail
          clear hc2
          go_loopw [53] (fun vj wr => ∃ j : Nat, j ≤ gl ∧ vj = .int .i64 j ∧ Hid (RowsOut w1 wr w1.heap.size (Cd.rows1 k k ++ Cd.rows2 k gs ++ Cd.rows3 k j))) (fun vj _ => gl - (intOf vj).toNat)
          case atStart => exact ⟨0, Nat.zero_le _, rfl, by rw [show Cd.rows3 k 0 = [] from by simp [Cd.rows3], List.append_nil]; exact HRO.out⟩
          case round =>
            obtain ⟨j, hj, rfl, HJ⟩ := hrel
            by_cases hlt3 : j < gl
            · have hcd := (HJ.out.ext.alloc (.cells #[.int .i64 j] 3)).cell HC.out.1
              have HCD := Lib.hid hcd
              clear hcd
              go_wp2_with fail
              refine (rows1_any w1 _ w.heap.size w1.heap.size k (Cd.rows1 k k ++ Cd.rows2 k gs ++ Cd.rows3 k j) _ _ (Cd.gloAt j) (by omega) (by simp only [List.length_append, Cd.rows1_length, Cd.rows2_length, Cd.rows3_length]; omega) enters66 ?_ HCD.out (HJ.out.next ((Ext.refl _).alloc _))).mono ?_
              · intro i hi w' hx
                exact rows4_any i j _ w' (((HT.out.ext HX1.out).ext HJ.out.ext).ext (((Ext.refl _).alloc _).trans hx)) (by omega) (by omega) (hx.cell (by go_simp))
              rintro e w2 ⟨rfl, ho⟩
              rw [List.append_assoc, ← Cd.rows3_succ] at ho
              have HO := Lib.hid ho
              clear ho
              go_wp2_with fail
              go_roundw
              case rel => exact ⟨j + 1, by omega, by go_num, HO.out⟩
              case measure => simp [intOf]; omega
            · obtain rfl : j = gl := by omega
              have hro := HJ.out
              rw [Cd.rows_parts] at hro
              obtain ⟨A2, c2, hcell, hrs⟩ := hro.rs (fun r hr => by rw [Cd.rows_width hr]; omega) (by rw [Cd.rows_len]; omega)
              have HRO := Lib.hid (And.intro hro hrs)
              clear hro hrs
              go_wp2_with fail
              go_ret2
              exact ⟨_, rfl, HRO.out.2, HX1.out.trans HRO.out.1.ext⟩
/-- `Rows` of a code: a row for each piece, and the first error; nothing that was there is changed. -/
theorem cRows_any (d gl : Int) (gs : List (List Int)) (G : Value) (w : World) (hT : Tab w) (hG : Rs (Rs RI) w G gs) :
    Calls Tryd.prog 47 #[.agg #[.int .i64 d, G, .int .i64 gl]] w fun e w' => ∃ v, e = .returned (.tuple #[v, .int .i64 (Cd.check d gs gl)]) ∧ Rs (Rs RB) w' v (Cd.rowsOf d gs gl) ∧ Ext w w' := by
  by_cases h0 : Cd.check d gs gl = 0
  · have hk := Cd.check_ok h0
    rw [Cd.rowsOf_ok h0, h0]
    obtain ⟨n, rfl⟩ : ∃ n : Nat, d = n := ⟨d.toNat, by omega⟩
    obtain ⟨m, rfl⟩ : ∃ m : Nat, gl = m := ⟨gl.toNat, by omega⟩
    exact cRows_ok n m gs G w hT hG h0
  · refine (cRows_no d gl gs G w hG h0).mono ?_
    rintro e w' ⟨rfl, hx⟩
    rw [Cd.rowsOf_no h0]
    exact ⟨_, rfl, ⟨none, 0, rfl, by simp, fun i x h => by simp at h⟩, hx⟩
end Go.Proofs.YtkbiffbmjgmcaaaDoor

/- THE WALK over (*stairs).add. -/
namespace Cd
theorem first_eq : ∀ l : List UInt8, first l = Gf.firstNZ l
  | [] => by unfold first; rfl
  | x :: r => by
    have := first_eq r
    unfold first Gf.firstNZ
    split
    · rw [this]
    · rfl
end Cd
namespace Go.Proofs.YtkbiffbmjgmcaaaDoor
open Go.RowKit

/-- 'append(out, xs...)' of a region's list of operations, any number of elements. -/
theorem wpl_append_all {P : Program} {w0 w : World} {L : List LRow} {ops : Array Oper} {rest : List Oper} {o : Oper} {a : Act} {Q : Exit → Act → World → Prop} (t e : TypeId) (hgd : o.guard = none) (s x : Operand)
    (ho : o.op = .call { callee := .builtin .append, args := #[s, x], argTypes := #[t, t] })
    {z : Value} {bytes : Nat} (ht : P.underlying t = some (.slice e)) (hi : (P.info? e).map (fun i => (i.zero, i.size, i.bytes)) = some (some z, 1, bytes)) (hzs : z.cells.size = 1)
    (h : Owns w0 w L) (i : Nat) {v : Value} {n : Nat} {xs : List Value} (hL : L[i]? = some ⟨v, e, 1, n, xs⟩) (hs : a.eval s = v) {ad : Addr} {m c : Nat} {news : List Value}
    (hx : a.eval x = .slice (some ad) m c) (hl : news.length = m) (hnews : ∀ j u, news[j]? = some u → w.cell? (ad.add j) = some u) (h1 : ∀ u ∈ news, u.oneCell' = true) (hm : 0 < m) (hn : n + m < 100000000000) (hb : bytes ≤ 100)
    (hK : ∀ g cap w', Owns w0 w' (L.set i ⟨.slice (some ⟨g, 0, none⟩) (n + m) cap, e, 1, n + m, xs ++ news⟩) → w.grownBy w' v.ownBlock → wpList P ops Q rest (a.put o.dst (.slice (some ⟨g, 0, none⟩) (n + m) cap)) w') :
    wpList P ops Q (o :: rest) a w := by
  refine wpList_plain hgd fun K hK' => ?_
  have hbb : (n + m) * bytes ≤ (n + m) * 100 := Nat.mul_le_mul_left _ hb
  obtain ⟨g, cap, w', hr, h2, _, h3⟩ := run_append_owns (P := P) t o.type e ht hi hzs (by decide) h i hL ad m c news (by omega) hnews h1 hm (by unfold maxLen; omega) (by omega)
  unfold Oper.wp execOp
  simp only [ho, resolve, invoke, builtin, Sem.run_bind, Sem.run_pure, Result.andThen_ok, List.map_toArray, List.map_cons, List.map_nil, hs, hx, hr]
  exact hK' _ _ (hK g cap w' h2 h3)

theorem mul_still (a b : UInt8) (w : World) (hT : Tab w) : Calls Tryd.prog 81 #[bv a, bv b] w fun e w'' => e = .returned (bv (Gf.mul a b)) ∧ w'' = w := (mul_u8 a b w hT).mono fun _ _ h => ⟨h.1, h.2.symm⟩
abbrev sv (p : List UInt8) : Value := .string (sb p)
theorem inv_u8 (a : UInt8) (w : World) (hT : Tab w) : Calls Tryd.prog 84 #[bv a] w fun e w' => e = .returned (.tuple #[bv (Gf.inv a), .int .i64 (Gf.noneI (a.toNat : Int))]) ∧ w = w' := by
  refine (inv_any (a.toNat : Int) w hT (by omega) (by have := Gf.lt8 a; omega)).mono ?_
  rintro e w' ⟨rfl, rfl⟩
  refine ⟨?_, rfl⟩
  rw [Int.toNat_natCast, ← Gf.inv_toNat]
/-- r after k of its elements were multiplied by c. -/
def halfMul (c : UInt8) (r : List UInt8) (k : Nat) : List UInt8 := (List.range r.length).map fun i => if i < k then Gf.mul c (r.getD i 0) else r.getD i 0
theorem halfMul_length (c : UInt8) (r : List UInt8) (k : Nat) : (halfMul c r k).length = r.length := by simp [halfMul]
theorem halfMul_zero (c : UInt8) (r : List UInt8) : halfMul c r 0 = r := by
  apply List.ext_getElem
  · exact halfMul_length c r 0
  · intro i h1 h2
    simp [halfMul, List.getElem?_eq_getElem h2]
theorem halfMul_full (c : UInt8) (r : List UInt8) : halfMul c r r.length = r.map (Gf.mul c) := by
  apply List.ext_getElem
  · simp [halfMul]
  · intro i h1 h2
    have h3 : i < r.length := by simpa using h2
    simp [halfMul, List.getElem?_eq_getElem h3]
    intro h
    omega
theorem halfMul_at {c : UInt8} {r : List UInt8} {i : Nat} (h : i < r.length) : (halfMul c r i)[i]? = some (r.getD i 0) := by
  unfold halfMul
  rw [List.getElem?_map, List.getElem?_eq_getElem (by simpa using h)]
  simp
theorem halfMul_set {c : UInt8} {r : List UInt8} {i : Nat} : (halfMul c r i).set i (Gf.mul c (r.getD i 0)) = halfMul c r (i + 1) := by
  apply List.ext_getElem
  · simp [halfMul]
  · intro j h1 h2
    rw [List.getElem_set]
    split
    · rename_i hij
      subst hij
      simp [halfMul]
    · rename_i hij
      simp only [halfMul, List.getElem_map, List.getElem_range]
      by_cases hj : j < i
      · rw [if_pos hj, if_pos (by omega)]
      · rw [if_neg hj, if_neg (by omega)]
/-- Rows of bytes that a call has made, of whatever room. -/
def innerC1 (h : Nat × Nat) (r : List UInt8) : LRow := ⟨.slice (some ⟨h.1, 0, none⟩) r.length h.2, 5, 1, r.length, r.map bv⟩
def innerC (hs : List (Nat × Nat)) (rs : List (List UInt8)) : List LRow := List.zipWith innerC1 hs rs
theorem innerC_snoc {hs : List (Nat × Nat)} {rs : List (List UInt8)} (h : hs.length = rs.length) (g : Nat × Nat) (r : List UInt8) : innerC (hs ++ [g]) (rs ++ [r]) = innerC hs rs ++ [innerC1 g r] := by
  unfold innerC
  rw [List.zipWith_append h]
  rfl
/-- The stairs that a call has made. -/
def StairsOut (w0 w : World) (P : Nat) (rows parts : List (List UInt8)) (n : Nat) : Prop :=
  ∃ (A B : Option Addr) (cA cB : Nat) (hs : List (Nat × Nat)), hs.length = rows.length ∧ parts.length = rows.length ∧
    Owns w0 w (⟨.slice (some ⟨P, 0, none⟩) 1 1, 88, 3, 1, [.slice A rows.length cA, .slice B rows.length cB, .int .i64 n]⟩ :: ⟨.slice A rows.length cA, 45, 1, rows.length, (innerC hs rows).map (·.v)⟩ :: ⟨.slice B rows.length cB, 9, 1, rows.length, parts.map sv⟩ :: innerC hs rows)
theorem StairsOut.ext {w0 w : World} {P n : Nat} {rs ps : List (List UInt8)} (h : StairsOut w0 w P rs ps n) : Ext w0 w := by
  obtain ⟨A, B, cA, cB, hs, h1, h2, h⟩ := h
  exact h.ext
theorem StairsOut.next {w0 w w' : World} {P n : Nat} {rs ps : List (List UInt8)} (h : StairsOut w0 w P rs ps n) (hx : Ext w w') : StairsOut w0 w' P rs ps n := by
  obtain ⟨A, B, cA, cB, hs, h1, h2, h⟩ := h
  exact ⟨A, B, cA, cB, hs, h1, h2, h.next hx⟩
theorem StairsOut.of {w0 w : World} {P m n g c cA cB : Nat} {A B : Option Addr} {rows parts : List (List UInt8)} {r q : List UInt8} {hs : List (Nat × Nat)} {X Y : LRow} (hl : hs.length = rows.length) (hp : parts.length = rows.length) (hm : r.length = m)
    (h : Owns w0 w (⟨.slice (some ⟨P, 0, none⟩) 1 1, 88, 3, 1, [.slice A (rows.length + 1) cA, .slice B (rows.length + 1) cB, .int .i64 n]⟩ :: ⟨.slice A (rows.length + 1) cA, 45, 1, rows.length + 1, (innerC hs rows).map (·.v) ++ [.slice (some ⟨g, 0, none⟩) m c]⟩ :: ⟨.slice B (rows.length + 1) cB, 9, 1, rows.length + 1, parts.map sv ++ [sv q]⟩ :: X :: Y :: (innerC hs rows ++ [innerC1 (g, c) r]))) :
    StairsOut w0 w P (rows ++ [r]) (parts ++ [q]) n := by
  subst hm
  refine ⟨A, B, cA, cB, hs ++ [(g, c)], by simp [hl], by simp [hp], ?_⟩
  have h2 := h.sublist (L' := _ :: _ :: _ :: (innerC hs rows ++ [innerC1 (g, c) r])) (((List.Sublist.refl _).cons Y |>.cons X).cons_cons _ |>.cons_cons _ |>.cons_cons _)
  rw [innerC_snoc hl]
  simp only [List.length_append, List.length_cons, List.length_nil, List.map_append, List.map_cons, List.map_nil]
  exact h2
theorem Owns.two {w0 w : World} {x y z : LRow} {Y : List LRow} (h : Owns w0 w (x :: y :: z :: Y)) : Owns w0 w (x :: y :: z :: no :: no :: Y) := by
  refine h.wider.wider.perm ?_
  show (x :: y :: z :: (Y ++ [no] ++ [no])).Perm (x :: y :: z :: ([no, no] ++ Y))
  rw [List.append_assoc]
  exact (((List.perm_append_comm).cons _).cons _).cons _
theorem info_str : (Tryd.prog.info? 9).map (fun i => (i.zero, i.size, i.bytes)) = some (some (.string ByteArray.empty), 1, 16) := by kernel_rfl
/-- r less its multiples of rows; the part that belongs to it. -/
def redPart (p : List UInt8) (r x q : List UInt8) : List UInt8 := if r.getD (Gf.firstNZ x) 0 = 0 then p else Gf.sum p (Gf.scale (r.getD (Gf.firstNZ x) 0) q)
def redTo (rows parts : List (List UInt8)) (r p : List UInt8) : Nat → List UInt8 × List UInt8
  | 0 => (r, p)
  | k + 1 => (Gf.redRow (redTo rows parts r p k).1 (rows.getD k []), redPart (redTo rows parts r p k).2 (redTo rows parts r p k).1 (rows.getD k []) (parts.getD k []))
/-- r after k of its elements were turned by x. -/
def halfRow (r x : List UInt8) (k : Nat) : List UInt8 := (List.range r.length).map fun i => if i < k then r.getD i 0 ^^^ Gf.mul (r.getD (Gf.firstNZ x) 0) (x.getD i 0) else r.getD i 0

/-- A row that is read, of a list of rows. -/
theorem StairsOut.look {w0 w : World} {P n : Nat} {rs ps : List (List UInt8)} (h : StairsOut w0 w P rs ps n) :
    ∃ (A B : Option Addr) (cA cB : Nat), w.cell? ⟨P, 0, none⟩ = some (.slice A rs.length cA) ∧ w.cell? ⟨P, 1, none⟩ = some (.slice B rs.length cB) ∧ w.cell? ⟨P, 2, none⟩ = some (.int .i64 n) ∧ ps.length = rs.length ∧
      (∀ k (hk : k < rs.length), ∃ ad g cg, A = some ad ∧ w.cell? (ad.add k) = some (.slice (some ⟨g, 0, none⟩) rs[k].length cg) ∧ Rd w (some ⟨g, 0, none⟩) (rs[k].map bv)) ∧
      (∀ k (hk : k < ps.length), ∃ bd, B = some bd ∧ w.cell? (bd.add k) = some (sv ps[k])) := by
  obtain ⟨A, B, cA, cB, hs, h1, h2, hO⟩ := h
  refine ⟨A, B, cA, cB, hO.cell 0 rfl 0 rfl, hO.cell 0 rfl 1 rfl, hO.cell 0 rfl 2 rfl, h2, fun k hk => ?_, fun k hk => ?_⟩
  · have hin : (innerC hs rs)[k]? = some (innerC1 (hs[k]'(by omega)) rs[k]) := by
      unfold innerC
      rw [List.getElem?_eq_getElem (by simp; omega), List.getElem_zipWith]
    have hrd : Rd w A ((innerC hs rs).map (·.v)) := hO.rd 1 rfl
    obtain ⟨ad, hA, _, hc⟩ := hrd k _ (by rw [List.getElem?_map, hin]; rfl)
    exact ⟨ad, _, _, hA, hc, hO.rd (k + 3) (n := rs[k].length) (by simpa [innerC1] using hin)⟩
  · have hrd : Rd w B (ps.map sv) := hO.rd 2 rfl
    obtain ⟨ad, hA, _, hc⟩ := hrd k (sv ps[k]) (by rw [List.getElem?_map, List.getElem?_eq_getElem hk]; rfl)
    exact ⟨ad, hA, hc⟩
theorem redTo_length (rows parts : List (List UInt8)) (r p : List UInt8) : ∀ k, (redTo rows parts r p k).1.length = r.length
  | 0 => rfl
  | k + 1 => by rw [redTo, Gf.redRow_length, redTo_length]
theorem redPart_zero {p r x q : List UInt8} (h : r.getD (Gf.firstNZ x) 0 = 0) : redPart p r x q = p := if_pos h
theorem redPart_nz {p r x q : List UInt8} (h : r.getD (Gf.firstNZ x) 0 ≠ 0) : redPart p r x q = Gf.sum p (Gf.scale (r.getD (Gf.firstNZ x) 0) q) := if_neg h
theorem redTo_part_le (rows parts : List (List UInt8)) (r p : List UInt8) (M : Nat) (hq : ∀ q ∈ parts, q.length ≤ M) (hp : p.length ≤ M) : ∀ k, (redTo rows parts r p k).2.length ≤ M
  | 0 => hp
  | k + 1 => by
    have ih := redTo_part_le rows parts r p M hq hp k
    have hg : (parts.getD k []).length ≤ M := by
      rw [List.getD_eq_getElem?_getD]
      cases hpk : parts[k]? with
      | none => simp
      | some q => exact hq q (List.mem_of_getElem? hpk)
    rw [redTo]
    show (redPart _ _ _ _).length ≤ M
    unfold redPart
    split
    · exact ih
    · simp only [Gf.sum, Gf.scale, List.length_map, List.length_range]
      omega
theorem halfRow_length (r x : List UInt8) (k : Nat) : (halfRow r x k).length = r.length := by simp [halfRow]
theorem halfRow_zero (r x : List UInt8) : halfRow r x 0 = r := by
  apply List.ext_getElem
  · exact halfRow_length r x 0
  · intro i h1 h2
    simp [halfRow, List.getElem?_eq_getElem h2]
theorem halfRow_full (r x : List UInt8) : halfRow r x r.length = Gf.redRow r x := by
  unfold halfRow Gf.redRow
  apply List.map_congr_left
  intro i hi
  rw [if_pos (by simpa using hi)]
theorem halfRow_at {r x : List UInt8} {i : Nat} (h : i < r.length) : (halfRow r x i)[i]? = some (r.getD i 0) := by
  unfold halfRow
  rw [List.getElem?_map, List.getElem?_eq_getElem (by simpa using h)]
  simp
theorem halfRow_set {r x : List UInt8} {i : Nat} : (halfRow r x i).set i (r.getD i 0 ^^^ Gf.mul (r.getD (Gf.firstNZ x) 0) (x.getD i 0)) = halfRow r x (i + 1) := by
  apply List.ext_getElem
  · simp [halfRow]
  · intro j h1 h2
    rw [List.getElem_set]
    split
    · rename_i hij
      subst hij
      simp [halfRow]
    · rename_i hij
      simp only [halfRow, List.getElem_map, List.getElem_range]
      by_cases hj : j < i
      · rw [if_pos hj, if_pos (by omega)]
      · rw [if_neg hj, if_neg (by omega)]
theorem redTo_take (rows parts : List (List UInt8)) (r p : List UInt8) : ∀ k, k ≤ rows.length → (redTo rows parts r p k).1 = Gf.reduce (rows.take k) r
  | 0, _ => rfl
  | k + 1, h => by
    have hk : k < rows.length := by omega
    rw [redTo]
    show Gf.redRow _ _ = _
    rw [redTo_take rows parts r p k (by omega), List.take_succ_eq_append_getElem hk, Gf.reduce, Gf.reduce, List.foldl_append, List.getD_eq_getElem?_getD, List.getElem?_eq_getElem hk]
    rfl
theorem redTo_full (rows parts : List (List UInt8)) (r p : List UInt8) : (redTo rows parts r p rows.length).1 = Gf.reduce rows r := by
  rw [redTo_take rows parts r p _ (Nat.le_refl _), List.take_length]
/-- What belongs to the row that is added. -/
def newPart (rows parts : List (List UInt8)) (l p : List UInt8) : List UInt8 := Gf.scale (Gf.inv ((Gf.reduce rows l).getD (Gf.firstNZ (Gf.reduce rows l)) 0)) (redTo rows parts l p rows.length).2
/-- The stairs with a row more, if it is no combination of them. -/
def addTo (rows parts : List (List UInt8)) (l p : List UInt8) : List (List UInt8) × List (List UInt8) :=
  match Gf.addRow rows l with
  | none => (rows, parts)
  | some t => (rows ++ [t], parts ++ [newPart rows parts l p])
theorem addTo_none {rows parts : List (List UInt8)} {l p : List UInt8} (h : Gf.addRow rows l = none) : addTo rows parts l p = (rows, parts) := by unfold addTo; rw [h]
theorem addTo_some {rows parts : List (List UInt8)} {l p t : List UInt8} (h : Gf.addRow rows l = some t) : addTo rows parts l p = (rows ++ [t], parts ++ [newPart rows parts l p]) := by unfold addTo; rw [h]
attribute [irreducible] redPart halfRow addTo

set_option maxRecDepth 100000 in
set_option maxHeartbeats 8000000 in
theorem cAdd_any (w0 w : World) (P : Nat) (rows parts : List (List UInt8)) (l p : List UInt8) (A : Addr) (c : Nat) (hT0 : Tab w0) (hA : Rd w (some A) (l.map bv)) (hn : 0 < l.length) (hn2 : l.length ≤ 16)
    (hS : StairsOut w0 w P rows parts l.length) (hw : Gf.Stairs l.length rows) (hr : rows.length < 100) (hq : ∀ q ∈ parts, q.length ≤ 140737488351232) (hp : p.length ≤ 140737488351232) :
    Calls Tryd.prog 68 #[.pointer (some ⟨P, 0, none⟩), .slice (some A) l.length c, .string (sb p)] w fun e w' => e = .returned (.bool (Gf.addRow rows l).isSome) ∧ StairsOut w0 w' P (addTo rows parts l p).1 (addTo rows parts l p).2 l.length := by
  have hT := hT0.ext hS.ext
  have HT := Lib.hid hT
  have HT0 := Lib.hid hT0
  have HA := Lib.hid hA
  have HS := Lib.hid hS
  have HW := Lib.hid hw
  obtain ⟨X, B, cX, cB, b0, b1, b2, hpl, hX, hB⟩ := hS.look
  have HB := Lib.hid (And.intro b0 (And.intro b1 b2))
  have HL := Lib.hid (And.intro hX hB)
  have HPL := Lib.hid hpl
  have HQ := Lib.hid (redTo_part_le rows parts l p _ hq hp)
  have HQ2 := Lib.hid hq
  clear hT hT0 hA hS hw b0 b1 b2 hX hB hpl hq hp
  have hO0 : Owns w (w.alloc (.cells #[] 5)) [⟨.slice (some ⟨w.heap.size, 0, none⟩) 0 0, 5, 1, 0, []⟩] := (Owns.start w (L := [no]) (by intro r hr; simp at hr; subst hr; exact ⟨rfl, rfl, rfl⟩)).new 0 #[] 5 (by simp [maxLen])
  have HO0 := Lib.hid hO0
  clear hO0
  have hnews : ∀ (j : Nat) (u : Value), (l.map bv)[j]? = some u → (w.alloc (.cells #[] 5)).cell? (A.add j) = some u := fun j u hj =>
    (((Ext.refl w).alloc _).cell (HA.out.all (List.getElem?_eq_some_iff.1 hj).1)).trans (by rw [(List.getElem?_eq_some_iff.1 hj).2])
  have hone : ∀ u ∈ l.map bv, u.oneCell' = true := by intro u hu; simp at hu; obtain ⟨b, _, rfl⟩ := hu; rfl
  have HN := Lib.hid (And.intro hnews hone)
  clear hnews hone
  go_enter Tryd.func68, Tryd.ntmps68
  go_wp2_with (refine wpl_append_all 45 5 rfl (.tmp 17) (.tmp 18) rfl Tryd.underlying45 info_u8 rfl HO0.out 0 rfl rfl rfl (List.length_map _) HN.out.1 HN.out.2 hn (by omega) (by decide) ?_; intro g1 c1 w3 hO3 _; have hb0 : w3.cell? ⟨P, 0, none⟩ = some (.slice X rows.length cX) := hO3.ext.cell HB.out.1)
  have hO3' : Owns w w3 [⟨.slice (some ⟨g1, 0, none⟩) l.length c1, 5, 1, l.length, (redTo rows parts l p 0).1.map bv⟩] := by simpa [redTo] using hO3
  have HO3 := Lib.hid hO3'
  clear hO3 hO3' hb0
  go_loopw [2, 25] (fun vp vk wr => ∃ k : Nat, k ≤ rows.length ∧ vk = .int .i64 k ∧ vp = sv (redTo rows parts l p k).2 ∧ Hid (Owns w wr [⟨.slice (some ⟨g1, 0, none⟩) l.length c1, 5, 1, l.length, (redTo rows parts l p k).1.map bv⟩])) (fun _ vk _ => rows.length - (intOf vk).toNat)
  case atStart => exact ⟨0, Nat.zero_le _, rfl, rfl, HO3.out⟩
  case round =>
    obtain ⟨k, hk, rfl, rfl, HR⟩ := hrel
    by_cases hlt : k < rows.length
    · obtain ⟨ad, g, cg, rfl, hx1, hx2⟩ := HL.out.1 k hlt
      have hxl := HW.out.len _ (List.getElem_mem hlt)
      have hxn := HW.out.nz _ (List.getElem_mem hlt)
      have hrl := redTo_length rows parts l p k
      have hstep : redTo rows parts l p (k + 1) = (Gf.redRow (redTo rows parts l p k).1 rows[k], redPart (redTo rows parts l p k).2 (redTo rows parts l p k).1 rows[k] (parts.getD k [])) := by
        rw [redTo, List.getD_eq_getElem?_getD, List.getElem?_eq_getElem hlt]; rfl
      obtain ⟨x, hx⟩ : ∃ x, rows[k] = x := ⟨_, rfl⟩
      obtain ⟨r, hr'⟩ : ∃ r, (redTo rows parts l p k).1 = r := ⟨_, rfl⟩
      obtain ⟨q, hq⟩ : ∃ q, (redTo rows parts l p k).2 = q := ⟨_, rfl⟩
      rw [hx] at hx1 hx2 hxl hxn hstep
      rw [hr'] at hstep hrl
      rw [hq] at hstep
      have hO := HR.out
      rw [hr'] at hO
      rw [hxl] at hx1
      have hx1' := hO.ext.cell hx1
      have HX2 := Lib.hid (Rd.ext hx2 hO.ext)
      have HX3 := Lib.hid hx2
      obtain ⟨f, hf⟩ : ∃ f, Gf.firstNZ x = f := ⟨_, rfl⟩
      rw [hf] at hxn
      have hcf := hO.cell 0 rfl f (u := bv (r.getD f 0)) (by rw [List.getElem?_map, List.getElem?_eq_getElem (by omega), List.getD_eq_getElem?_getD, List.getElem?_eq_getElem (by omega)]; rfl)
      have HST := Lib.hid (And.intro hstep (And.intro hf (And.intro hxl hrl)))
      have HO := Lib.hid hO
      clear hstep hx1 hx2 hO hx hr' hf hrl
      go_wp2_with fail
      rw [← hxl]
      refine (cFirst_any x _ _ _ HX2.out (by omega)).mono ?_
      rintro e w' ⟨rfl, rfl⟩
      rw [Cd.first_eq, HST.out.2.1, hxl]
      by_cases h0 : r.getD f 0 = 0
      · rw [h0] at hcf
        go_wp2_with fail
        go_roundw
        case rel => exact ⟨k + 1, by omega, by go_num, by rw [HST.out.1]; dsimp only; rw [redPart_zero (by rw [HST.out.2.1]; exact h0)], by rw [HST.out.1]; dsimp only; rw [Gf.redRow_same (by rw [HST.out.2.1]; exact h0)]; exact HO.out⟩
        case measure => simp [intOf]; omega
      · have ef : (((r.getD f 0).toNat : Int) != 0) = true := by
          rw [bne_iff_ne]
          intro h
          exact h0 (UInt8.toNat_inj.1 (by have : (r.getD f 0).toNat = 0 := by omega
                                          exact this))
        have H0 := Lib.hid h0
        obtain ⟨fv, hfv⟩ : ∃ fv, r.getD f 0 = fv := ⟨_, rfl⟩
        rw [hfv] at hcf ef
        have HF := Lib.hid hfv
        have HQQ := Lib.hid hq
        clear hfv h0 hq
        go_wp2_with fail
        go_loopw [40] (fun vi wi => ∃ i : Nat, i ≤ l.length ∧ vi = .int .i64 i ∧ Hid (Owns w wi [⟨.slice (some ⟨g1, 0, none⟩) l.length c1, 5, 1, l.length, (halfRow r x i).map bv⟩])) (fun vi _ => l.length - (intOf vi).toNat)
        case atStart => exact ⟨0, Nat.zero_le _, rfl, by rw [halfRow_zero]; exact HO.out⟩
        case round =>
          obtain ⟨i, hi, rfl, HI⟩ := hrel
          by_cases hli : i < l.length
          · have hri : i < r.length := by rw [HST.out.2.2.2]; exact hli
            have hca := HI.out.cell 0 rfl i (u := bv (r.getD i 0)) (by rw [List.getElem?_map, halfRow_at hri]; rfl)
            have hfa := HI.out.frozen 0 rfl i
            have hst := HI.out.store 0 rfl i (bv (r.getD i 0 ^^^ Gf.mul fv (x.getD i 0)))
            have hmap : ((halfRow r x i).map bv).set i (bv (r.getD i 0 ^^^ Gf.mul fv (x.getD i 0))) = (halfRow r x (i + 1)).map bv := by
              rw [← List.map_set, ← halfRow_set, HST.out.2.1, HF.out]
            have hxx := (Rd.ext HX3.out HI.out.ext).all (k := i) (by simpa using (by omega : i < x.length))
            have hxi : i < x.length := by omega
            have hxe : (x.map bv)[i]'(by simpa using hxi) = bv (x.getD i 0) := by
              rw [List.getElem_map, List.getD_eq_getElem?_getD, List.getElem?_eq_getElem hxi]; rfl
            rw [hxe] at hxx
            have hxr : bits .xor .u8 ((r.getD i 0).toNat : Int) ((Gf.mul fv (x.getD i 0)).toNat : Int) = ((r.getD i 0 ^^^ Gf.mul fv (x.getD i 0)).toNat : Int) := by
              rw [u8_xor_nat _ _ (Gf.lt8 _) (Gf.lt8 _), UInt8.toNat_xor]
            obtain ⟨ri, hre⟩ : ∃ ri, r.getD i 0 = ri := ⟨_, rfl⟩
            obtain ⟨xi, hxie⟩ : ∃ xi, x.getD i 0 = xi := ⟨_, rfl⟩
            rw [hre] at hca hst hmap hxr
            rw [hxie] at hst hmap hxr hxx
            have hTr := HT.out.ext HI.out.ext
            have HTR := Lib.hid hTr
            have HSM := Lib.hid (And.intro hst hmap)
            have HXR := Lib.hid hxr
            have hca' : wr.cell? ⟨g1, i, none⟩ = some (bv ri) := hca
            have hfa' : wr.frozen? ⟨g1, i, none⟩ = false := hfa
            have hxx' : wr.cell? ⟨g, i, none⟩ = some (bv xi) := by
              have ea : (⟨g, 0, none⟩ : Addr).add i = ⟨g, i, none⟩ := by unfold Addr.add; split <;> simp_all
              rw [← ea]; exact hxx
            clear hst hmap hxr hTr hre hxie hca hfa hxx hxi hxe
            go_wp2_with fail
            go_still_tail 12, (by kernel_rfl)
            still_call (mul_still fv xi wr.drew HTR.out)
            repeat still_step
            refine wpStill_nil ?_
            go_wp2_with fail
            go_roundw
            case rel => exact ⟨i + 1, by omega, by go_num, by rw [HXR.out, ← HSM.out.2]; exact HSM.out.1.drew⟩
            case measure => simp [intOf]; omega
          · obtain rfl : i = l.length := by omega
            have hfull := HI.out
            rw [← HST.out.2.2.2, halfRow_full, HST.out.2.2.2] at hfull
            have hkp : k < parts.length := by rw [HPL.out]; exact hlt
            obtain ⟨bd, rfl, hq1⟩ := HL.out.2 k hkp
            have hb1 := hfull.ext.cell HB.out.2.1
            have hq1' := hfull.ext.cell hq1
            have hql := HQ2.out _ (List.getElem_mem hkp)
            have hpe : parts.getD k [] = parts[k] := by rw [List.getD_eq_getElem?_getD, List.getElem?_eq_getElem hkp]; rfl
            obtain ⟨y, hy⟩ : ∃ y, parts[k] = y := ⟨_, rfl⟩
            rw [hy] at hq1' hql hpe
            have hT4 := HT.out.ext hfull.ext
            have HT4 := Lib.hid hT4
            have hqq := HQ.out k
            rw [HQQ.out] at hqq
            have HFU := Lib.hid hfull
            have HPE := Lib.hid hpe
            clear hfull hq1 hpe hy hT4
            go_wp2_with fail
            refine (scale_any fv (sb y) _ HT4.out (by rw [size_sb]; exact hql)).mono ?_
            rintro e w4 ⟨rfl, hx4⟩
            have HX4 := Lib.hid hx4
            clear hx4
            go_wp2_with fail
            try rw [HQQ.out]
            refine (sum_any _ _ _ ?_ ?_).mono ?_
            · rw [size_sb]; exact hqq
            · rw [size_sb]; simpa [Gf.scale] using hql
            rintro e w5 ⟨rfl, hx5⟩
            have HX5 := Lib.hid (HX4.out.trans hx5)
            clear hx5
            go_wp2_with fail
            go_roundw
            case rel =>
              have e2 : (redTo rows parts l p (k + 1)).1 = Gf.redRow r x := by rw [HST.out.1]
              have e1 : (redTo rows parts l p (k + 1)).2 = Gf.sum q (Gf.scale fv y) := by
                rw [HST.out.1]
                dsimp only
                rw [redPart_nz (by rw [HST.out.2.1]; exact H0.out), HST.out.2.1, HF.out, HPE.out]
              refine ⟨k + 1, by omega, by go_num, ?_, ?_⟩
              · rw [e1]
              · rw [e2]; exact HFU.out.next HX5.out
            case measure => simp [intOf]; omega
    · obtain rfl : k = rows.length := by omega
      have hO := HR.out
      rw [redTo_full] at hO
      have hlen := Gf.reduce_length rows l
      have hadd : Gf.addRow rows l = if Gf.firstNZ (Gf.reduce rows l) = l.length then none else some ((Gf.reduce rows l).map (Gf.mul (Gf.inv ((Gf.reduce rows l).getD (Gf.firstNZ (Gf.reduce rows l)) 0)))) := rfl
      obtain ⟨r, hr'⟩ : ∃ r, Gf.reduce rows l = r := ⟨_, rfl⟩
      rw [hr'] at hO hlen hadd
      have hle := Gf.firstNZ_le r
      have hrd : Rd wr (some ⟨g1, 0, none⟩) (r.map bv) := hO.rd 0 rfl
      have HO := Lib.hid hO
      have HRD := Lib.hid hrd
      have HADD := Lib.hid hadd
      have HRR := Lib.hid hr'
      clear hO hrd hadd hr'
      go_wp2_with fail
      rw [← hlen]
      refine (cFirst_any r _ _ _ HRD.out (by omega)).mono ?_
      rintro e w' ⟨rfl, rfl⟩
      rw [Cd.first_eq, hlen]
      by_cases h0 : Gf.firstNZ r = l.length
      · have hno : Gf.addRow rows l = none := by rw [HADD.out, if_pos h0]
        have HNO := Lib.hid hno
        clear hno
        rw [h0]
        go_wp2_with fail
        go_ret
        exact ⟨by rw [HNO.out]; rfl, by rw [addTo_none HNO.out]; exact HS.out.next HO.out.ext⟩
      · obtain ⟨f, hf⟩ : ∃ f, Gf.firstNZ r = f := ⟨_, rfl⟩
        rw [hf] at hle h0
        have hfl : f < l.length := by omega
        have hcf : wr.cell? ⟨g1, f, none⟩ = some (bv (r.getD f 0)) := HO.out.cell 0 rfl f (u := bv (r.getD f 0)) (by rw [List.getElem?_map, List.getElem?_eq_getElem (by omega), List.getD_eq_getElem?_getD, List.getElem?_eq_getElem (by omega)]; rfl)
        have e1 : ((f : Int) == (l.length : Int)) = false := by rw [beq_eq_false_iff_ne]; omega
        have hyes : Gf.addRow rows l = some (r.map (Gf.mul (Gf.inv (r.getD f 0)))) := by rw [HADD.out, if_neg (by rw [hf]; exact h0), hf]
        have HYES := Lib.hid hyes
        have HF := Lib.hid hf
        have HLEN := Lib.hid hlen
        have hT2 := HT.out.ext HO.out.ext
        have HT2 := Lib.hid hT2
        rw [hf]
        clear hyes hf hle h0 hlen hT2
        obtain ⟨fv, hfv⟩ : ∃ fv, r.getD f 0 = fv := ⟨_, rfl⟩
        rw [hfv] at hcf
        have HFV := Lib.hid hfv
        clear hfv
        go_wp2_with fail
        refine (inv_u8 fv _ HT2.out).mono ?_
        rintro e w' ⟨rfl, rfl⟩
        go_wp2_with fail
        go_loopw [84] (fun vi wi => ∃ i : Nat, i ≤ l.length ∧ vi = .int .i64 i ∧ Hid (Owns w wi [⟨.slice (some ⟨g1, 0, none⟩) l.length c1, 5, 1, l.length, (halfMul (Gf.inv fv) r i).map bv⟩])) (fun vi _ => l.length - (intOf vi).toNat)
        case atStart => exact ⟨0, Nat.zero_le _, rfl, by rw [halfMul_zero]; exact HO.out⟩
        case round =>
          obtain ⟨i, hi, rfl, HI⟩ := hrel
          by_cases hli : i < l.length
          · have hri : i < r.length := by rw [HLEN.out]; exact hli
            have hca : wr.cell? ⟨g1, i, none⟩ = some (bv (r.getD i 0)) := HI.out.cell 0 rfl i (u := bv (r.getD i 0)) (by rw [List.getElem?_map, halfMul_at hri]; rfl)
            have hfa : wr.frozen? ⟨g1, i, none⟩ = false := HI.out.frozen 0 rfl i
            have hst := HI.out.store 0 rfl i (bv (Gf.mul (Gf.inv fv) (r.getD i 0)))
            have hmap : ((halfMul (Gf.inv fv) r i).map bv).set i (bv (Gf.mul (Gf.inv fv) (r.getD i 0))) = (halfMul (Gf.inv fv) r (i + 1)).map bv := by
              rw [← List.map_set, ← halfMul_set]
            obtain ⟨ri, hre⟩ : ∃ ri, r.getD i 0 = ri := ⟨_, rfl⟩
            rw [hre] at hca hst hmap
            have HSM := Lib.hid (And.intro hst hmap)
            have hTr := HT.out.ext HI.out.ext
            have HTR := Lib.hid hTr
            clear hst hmap hTr hre
            go_wp2_with fail
            refine (mul_u8 _ _ _ HTR.out).mono ?_
            rintro e w' ⟨rfl, rfl⟩
            go_wp2_with fail
            go_roundw
            case rel => exact ⟨i + 1, by omega, by go_num, by rw [← HSM.out.2]; exact HSM.out.1⟩
            case measure => simp [intOf]; omega
          · obtain rfl : i = l.length := by omega
            have hnew : addTo rows parts l p = (rows ++ [r.map (Gf.mul (Gf.inv fv))], parts ++ [Gf.scale (Gf.inv fv) (redTo rows parts l p rows.length).2]) := by
              rw [addTo_some HYES.out]
              unfold newPart
              rw [HRR.out, HF.out, HFV.out]
            have HNEW := Lib.hid hnew
            have HQR := Lib.hid (HQ.out rows.length)
            have hsome : (Gf.addRow rows l).isSome = true := by rw [HYES.out]; rfl
            have HSOME := Lib.hid hsome
            have hrl : (r.map (Gf.mul (Gf.inv fv))).length = l.length := by rw [List.length_map]; exact HLEN.out
            obtain ⟨A', B', cA', cB', hs, hl1, hl2, hO⟩ := HS.out
            have hrow := HI.out.row 0 rfl
            rw [← HLEN.out, halfMul_full, HLEN.out] at hrow
            have h2 := hO.behind HI.out.ext hrow
            obtain ⟨r', hr'⟩ : ∃ r', r.map (Gf.mul (Gf.inv fv)) = r' := ⟨_, rfl⟩
            rw [hr'] at h2 hrl hnew
            have hin : (⟨.slice (some ⟨g1, 0, none⟩) l.length c1, 5, 1, l.length, r'.map bv⟩ : LRow) = innerC1 (g1, c1) r' := by unfold innerC1; rw [hrl]
            rw [hin] at h2
            have hO5 : Owns w0 wr.drew (⟨.slice (some ⟨P, 0, none⟩) 1 1, 88, 3, 1, [.slice A' rows.length cA', .slice B' rows.length cB', .int .i64 l.length]⟩ :: ⟨.slice A' rows.length cA', 45, 1, rows.length, (innerC hs rows).map (·.v)⟩ :: ⟨.slice B' rows.length cB', 9, 1, rows.length, parts.map sv⟩ :: no :: no :: (innerC hs rows ++ [innerC1 (g1, c1) r'])) := (Owns.two h2).drew
            have P0 : wr.cell? ⟨P, 0, none⟩ = some (.slice A' rows.length cA') := hO5.cell 0 rfl 0 rfl
            have P1 : wr.cell? ⟨P, 1, none⟩ = some (.slice B' rows.length cB') := hO5.cell 0 rfl 1 rfl
            have PA0 : (wr.alloc (.cells #[.slice (some ⟨g1, 0, none⟩) l.length c1] 45)).cell? ⟨P, 0, none⟩ = some (.slice A' rows.length cA') := ((Ext.refl wr).alloc _).cell P0
            have PA1 : (wr.alloc (.cells #[.slice (some ⟨g1, 0, none⟩) l.length c1] 45)).cell? ⟨P, 1, none⟩ = some (.slice B' rows.length cB') := ((Ext.refl wr).alloc _).cell P1
            have HO5 := Lib.hid hO5
            have HL5 := Lib.hid (And.intro hl1 (And.intro hl2 (And.intro hrl hnew)))
            clear hnew hsome hrl hO hrow h2 hin hO5 hl1 hl2 hr'
            go_wp2_with fail
            have HO := HO5
            go_region_law (first
              | (have hB : Owns w0 (World.drew (World.alloc wr (.cells #[.slice (some ⟨g1, 0, none⟩) l.length c1] 45))) _ := HO.out.new 3 #[.slice (some ⟨g1, 0, none⟩) l.length c1] 45 (by simp [maxLen]); refine step_append_owns 65 45 rfl (.tmp 102) (.tmp 104) rfl Tryd.underlying65 info_bytes rfl hB 1 rfl rfl rfl (hB.cell 3 rfl 0 rfl) rfl (by omega) (by decide) ?_; clear hB; intro g8 c8 w8 hO8 hx8; have HO := Lib.hid hO8; have P0 : w8.cell? ⟨P, 0, none⟩ = some (.slice A' rows.length cA') := hO8.cell 0 rfl 0 rfl; have P1 : w8.cell? ⟨P, 1, none⟩ = some (.slice B' rows.length cB') := hO8.cell 0 rfl 1 rfl; clear hO8 hx8)
              | (have hB := HO.out.new 4 #[sv (Gf.scale (Gf.inv fv) (redTo rows parts l p rows.length).2)] 9 (by simp [maxLen]); refine step_append_owns 86 9 rfl (.tmp 109) (.tmp 113) rfl Tryd.underlying86 info_str rfl hB 2 rfl rfl rfl (hB.cell 4 rfl 0 rfl) rfl (by omega) (by decide) ?_; clear hB; intro g17 c17 w17 hO17 hx17; have HO := Lib.hid hO17; have P0 : w17.cell? ⟨P, 0, none⟩ = some (.slice A' rows.length cA') := hO17.cell 0 rfl 0 rfl; have P1 : w17.cell? ⟨P, 1, none⟩ = some (.slice B' rows.length cB') := hO17.cell 0 rfl 1 rfl; have F0 : w17.frozen? ⟨P, 0, none⟩ = false := hO17.frozen 0 rfl 0; have F1 : w17.frozen? ⟨P, 1, none⟩ = false := hO17.frozen 0 rfl 1; clear hO17 hx17)
              | (go_simp; refine (scale_any (Gf.inv fv) (sb (redTo rows parts l p rows.length).2) _ (HT0.out.ext HO.out.ext) (by rw [size_sb]; exact HQR.out)).mono ?_; rintro e w15 ⟨rfl, hx15⟩; dsimp only; have hO15 := HO.out.next hx15; have HO := Lib.hid hO15; have P0 : w15.cell? ⟨P, 0, none⟩ = some (.slice A' rows.length cA') := hO15.cell 0 rfl 0 rfl; have P1 : w15.cell? ⟨P, 1, none⟩ = some (.slice B' rows.length cB') := hO15.cell 0 rfl 1 rfl; have P1' : (w15.alloc (.cells #[sv (Gf.scale (Gf.inv fv) (redTo rows parts l p rows.length).2)] 9)).cell? ⟨P, 1, none⟩ = some (.slice B' rows.length cB') := ((Ext.refl w15).alloc _).cell P1; clear hO15 hx15))
            all_goals go_wp2_with fail
            all_goals go_ret
            all_goals refine ⟨by rw [HSOME.out]; rfl, ?_⟩
            all_goals rw [HL5.out.2.2.2]
            all_goals first
              | exact StairsOut.of HL5.out.1 HL5.out.2.1 HL5.out.2.2.1 ((HO.out.store 0 rfl 0 _).store 0 rfl 1 _)
              | exact StairsOut.of HL5.out.1 HL5.out.2.1 HL5.out.2.2.1 ((HO.out.store 0 rfl 1 _).store 0 rfl 0 _)
end Go.Proofs.YtkbiffbmjgmcaaaDoor

/- THE WALKS over collect (without pieces) and Recoverable. -/
namespace Cd
/-- The first k rows that are in a set. -/
def pickTo (rows : List (List UInt8)) (m k : Nat) : List (List UInt8) := (List.range k).filterMap fun i => if bitAt m i = 1 then rows[i]? else none
def pick (rows : List (List UInt8)) (m : Nat) : List (List UInt8) := pickTo rows m rows.length
theorem pickTo_yes {rows : List (List UInt8)} {m k : Nat} (hk : k < rows.length) (h : bitAt m k = 1) : pickTo rows m (k + 1) = pickTo rows m k ++ [rows[k]] := by
  simp [pickTo, List.range_succ, List.filterMap_append, h, List.getElem?_eq_getElem hk]
theorem pickTo_no {rows : List (List UInt8)} {m k : Nat} (h : bitAt m k ≠ 1) : pickTo rows m (k + 1) = pickTo rows m k := by
  simp [pickTo, List.range_succ, List.filterMap_append, h]
theorem stairs_snoc (n : Nat) (L : List (List UInt8)) (r : List UInt8) : Gf.stairs n (L ++ [r]) = Gf.step n (Gf.stairs n L) r := by
  simp [Gf.stairs, List.foldl_append]
theorem pickTo_mem {rows : List (List UInt8)} {m k : Nat} {r : List UInt8} (h : r ∈ pickTo rows m k) : r ∈ rows := by
  simp only [pickTo, List.mem_filterMap] at h
  obtain ⟨i, _, h⟩ := h
  split at h
  · exact List.mem_of_getElem? h
  · cases h
theorem stairs_good {n : Nat} {L : List (List UInt8)} (hl : ∀ r ∈ L, r.length = n) : Gf.Stairs n (Gf.stairs n L) ∧ (Gf.stairs n L).length ≤ n := by
  have := Gf.stairs_inv L [] [] (by simpa using hl) ⟨by simp, by simp, by simp, by simp⟩ (by simp) (by simp) (fun _ r hr => by cases hr)
  exact ⟨this.1, this.2.1⟩
/-- Can a chunk be made again from a set of pieces? -/
def can (d gl : Int) (gs : List (List Int)) (m : Int) : Bool :=
  decide (check d gs gl = 0 ∧ 0 ≤ m ∧ m < 2 ^ (rowsOf d gs gl).length ∧ (Gf.stairs d.toNat (pick (rowsOf d gs gl) m.toNat)).length = d.toNat)
end Cd
namespace Go.Proofs.YtkbiffbmjgmcaaaDoor
open Go.RowKit
theorem addTo_step {n : Nat} {S Ps : List (List UInt8)} {r p : List UInt8} (h : S.length < n) : (addTo S Ps r p).1 = Gf.step n S r := by
  unfold Gf.step
  rw [if_pos h]
  cases ha : Gf.addRow S r with
  | none => rw [addTo_none ha]
  | some t => rw [addTo_some ha]
theorem addTo_parts {S Ps : List (List UInt8)} {r p : List UInt8} {M : Nat} (hq : ∀ q ∈ Ps, q.length ≤ M) (hp : p.length ≤ M) : ∀ q ∈ (addTo S Ps r p).2, q.length ≤ M := by
  cases ha : Gf.addRow S r with
  | none => rw [addTo_none ha]; exact hq
  | some t =>
    rw [addTo_some ha]
    intro q h
    rcases List.mem_append.1 h with h | h
    · exact hq q h
    · simp only [List.mem_singleton] at h
      subst h
      have := redTo_part_le S Ps r p M hq hp S.length
      unfold newPart Gf.scale
      rw [List.length_map]
      exact this
/-- A block of three cells, as one element of three cells. -/
theorem Owns.one3 {w0 w : World} {g e : Nat} {xs : List Value} {L : List LRow} (h : Owns w0 w (⟨.slice (some ⟨g, 0, none⟩) 3 3, e, 1, 3, xs⟩ :: L)) : Owns w0 w (⟨.slice (some ⟨g, 0, none⟩) 1 1, e, 3, 1, xs⟩ :: L) where
  ext := h.ext
  ok i r hr := by
    cases i with
    | zero =>
      simp at hr
      subst hr
      have h0 := h.ok 0 _ rfl
      refine ⟨h0.1, ?_⟩
      rcases h0.2 with ⟨h2, h3⟩ | ⟨g', cap, cur, hv, hB, hh, h1, h2, h3, h4⟩
      · cases h2
      · injection hv with e1 e2 e3
        injection e1 with e1
        injection e1 with e1
        subst e1 e3
        exact .inr ⟨g, 1, cur, rfl, hB, hh, Nat.le_refl 1, by unfold maxLen; omega, by simpa using h3, by simpa using h4⟩
    | succ i => exact h.ok (i + 1) r hr
  far i j a b hij ha hb := by
    cases i with
    | zero =>
      cases j with
      | zero => exact absurd rfl hij
      | succ j =>
        simp at ha
        subst ha
        exact h.far 0 (j + 1) ⟨.slice (some ⟨g, 0, none⟩) 3 3, e, 1, 3, xs⟩ b (by omega) rfl hb
    | succ i =>
      cases j with
      | zero =>
        simp at hb
        subst hb
        exact h.far (i + 1) 0 a ⟨.slice (some ⟨g, 0, none⟩) 3 3, e, 1, 3, xs⟩ (by omega) ha rfl
      | succ j => exact h.far (i + 1) (j + 1) a b hij ha hb
theorem StairsOut.start {w : World} {n : Nat} : StairsOut w (w.alloc (.cells #[.slice none 0 0, .slice none 0 0, .int .i64 n] 88)) w.heap.size [] [] n := by
  refine ⟨none, none, 0, 0, [], rfl, rfl, ?_⟩
  have h1 := (Owns.start w (L := [no, nilRow 45, nilRow 9]) (by intro r hr; simp [no, nilRow] at hr; rcases hr with rfl | rfl | rfl <;> simp)).new 0 #[.slice none 0 0, .slice none 0 0, .int .i64 n] 88 (by simp [maxLen])
  exact h1.one3
/-- `collect` without pieces, in a good case: some rows, and a set of them. -/
theorem cCollect_in (d m : Nat) (rows : List (List UInt8)) (V : Value) (w : World) (hT : Tab w) (hR : Rs (Rs RB) w V rows) (hl : ∀ r ∈ rows, r.length = d) (hd : 0 < d) (hd2 : d ≤ 16) (hn : 0 < rows.length) (hn2 : rows.length ≤ 24) (hm : m < 2 ^ rows.length) :
    Calls Tryd.prog 48 #[V, .int .i64 m, .slice none 0 0] w fun e w' => ∃ p, e = .returned (.pointer p) ∧ (p = none ↔ (Gf.stairs d (Cd.pick rows m)).length ≠ d) ∧ Ext w w' := by
  have HT := Lib.hid hT
  have HR := Lib.hid hR
  have HL := Lib.hid hl
  obtain ⟨A, c, rfl, hl63⟩ := hR.form
  obtain ⟨ad0, u0, rfl, hcell0, hu0⟩ := hR.at hn
  obtain ⟨B0, c0, rfl, _⟩ := hu0.form
  have hd0 := hl _ (List.getElem_mem hn)
  rw [hd0] at hcell0
  have hm24 : m < 16777216 := Nat.lt_of_lt_of_le hm (Nat.pow_le_pow_right (by omega) hn2)
  have hcell0' : w.cell? ad0 = some (.slice B0 d c0) := by rw [← hcell0]; simp [Addr.add]
  have e1 : ((rows.length : Int) == 0) = false := by rw [beq_eq_false_iff_ne]; omega
  have e2 : (wrap64 (2 ^ rows.length) ≤ (m : Int)) = False := by
    rw [wrap_pow _ (by omega)]
    exact eq_false (by omega)
  have e3 : ¬ rows = [] := by intro h; rw [h] at hn; simp at hn
  have hS0 := Lib.hid (StairsOut.start (w := w) (n := d))
  clear hT hR hl hu0 hd0 hcell0
  go_enter Tryd.func48, Tryd.ntmps48
  go_wp2_with fail
  clear hcell0'
  go_loopw [36] (fun vi wr => ∃ (k : Nat) (Ps : List (List UInt8)), k ≤ rows.length ∧ vi = .int .i64 k ∧ Hid (StairsOut w wr w.heap.size (Gf.stairs d (Cd.pickTo rows m k)) Ps d ∧ ∀ q ∈ Ps, q.length ≤ 0)) (fun vi _ => rows.length - (intOf vi).toNat)
  case atStart => exact ⟨0, [], Nat.zero_le _, rfl, hS0.out, by simp⟩
  case round =>
    obtain ⟨k, Ps, hk, rfl, HI⟩ := hrel
    by_cases hlt : k < rows.length
    · have hx := HI.out.1.ext
      obtain ⟨ad, u, ead, hcell, hu⟩ := HR.out.at hlt
      injection ead with ead
      subst ead
      have hrl := HL.out _ (List.getElem_mem hlt)
      obtain ⟨B, cB, rfl, hlB⟩ := hu.form
      have hbd := hu.rd
      rw [hrl] at hcell
      have hgood := Cd.stairs_good (n := d) (L := Cd.pickTo rows m k) (fun r hr => HL.out r (Cd.pickTo_mem hr))
      have hcell' := hx.cell hcell
      have hmm : bits .and .i64 ((m : Int) / 2 ^ k) 1 = ((Cd.bitAt m k : Nat) : Int) := by
        have hle : m / 2 ^ k ≤ m := Nat.div_le_self _ _
        have := odd64 (m / 2 ^ k) (by omega)
        rw [Cd.bitAt, ← this]
        simp
      have hyes := Cd.pickTo_yes (m := m) hlt
      obtain ⟨r, hr⟩ : ∃ r, rows[k] = r := ⟨_, rfl⟩
      rw [hr] at hyes hrl hbd
      obtain ⟨S, hS⟩ : ∃ S, Gf.stairs d (Cd.pickTo rows m k) = S := ⟨_, rfl⟩
      have HSS := Lib.hid hS
      have hO := HI.out.1
      rw [hS] at hO hgood
      obtain ⟨X, Y, cX, cY, b0, b1, b2, _, _, _⟩ := hO.look
      have HO := Lib.hid hO
      have HGG := Lib.hid hgood
      have hsl : S.length ≤ d := hgood.2
      have HY := Lib.hid hyes
      have HB := Lib.hid hbd
      clear hgood hO hyes hcell hu hbd hr hS
      by_cases hb : Cd.bitAt m k = 1
      · rw [hb] at hmm
        by_cases hlS : S.length < d
        · go_wp2_with fail
          go_quiet (fail)
          go_wp2_with fail
          obtain ⟨bd, rfl, _, _⟩ := HB.out.at (k := 0) (by simp; omega)
          rw [← hrl]
          refine (cAdd_any w _ w.heap.size S Ps r [] bd cB HT.out (HB.out.ext (HO.out.ext.drewN nq)) (by omega) (by omega) (by rw [hrl]; exact HO.out.next ((Ext.refl wr).drewN nq)) (by rw [hrl]; exact HGG.out.1) (by omega) (fun q hq => Nat.le_trans (HI.out.2 q hq) (by omega)) (by simp)).mono ?_
          rintro e w2 ⟨rfl, ho⟩
          rw [hrl]
          rw [hrl, addTo_step hlS, ← HSS.out, ← Cd.stairs_snoc, ← HY.out hb] at ho
          have HO2 := Lib.hid ho
          clear ho
          go_wp2_with fail
          go_roundw
          case rel => exact ⟨k + 1, _, by omega, by go_num, HO2.out, addTo_parts HI.out.2 (by simp)⟩
          case measure => simp [intOf]; omega
        · have hst : Gf.stairs d (Cd.pickTo rows m (k + 1)) = S := by
            rw [HY.out hb, Cd.stairs_snoc, HSS.out, Gf.step, if_neg hlS]
          have HST := Lib.hid hst
          clear hst
          go_wp2_with fail
          go_quiet (fail)
          go_wp2_with fail
          go_roundw
          case rel => exact ⟨k + 1, Ps, by omega, by go_num, by rw [HST.out]; exact HO.out.next ((Ext.refl wr).drewN nq), HI.out.2⟩
          case measure => simp [intOf]; omega
      · have hst : Gf.stairs d (Cd.pickTo rows m (k + 1)) = S := by
          rw [Cd.pickTo_no hb, HSS.out]
        have HST := Lib.hid hst
        have eb : (((Cd.bitAt m k : Nat) : Int) == 1) = false := by rw [beq_eq_false_iff_ne]; omega
        clear hst
        go_wp2_with fail
        go_quiet (fail)
        go_wp2_with fail
        go_roundw
        case rel => exact ⟨k + 1, Ps, by omega, by go_num, by rw [HST.out]; exact HO.out.next ((Ext.refl wr).drewN nq), HI.out.2⟩
        case measure => simp [intOf]; omega
    · obtain rfl : k = rows.length := by omega
      have hO := HI.out.1
      have hpk : Cd.pickTo rows m rows.length = Cd.pick rows m := rfl
      rw [hpk] at hO
      obtain ⟨S, hS⟩ : ∃ S, Gf.stairs d (Cd.pick rows m) = S := ⟨_, rfl⟩
      rw [hS] at hO
      have hgood := Cd.stairs_good (n := d) (L := Cd.pick rows m) (fun r hr => HL.out r (Cd.pickTo_mem hr))
      rw [hS] at hgood
      have hsl : S.length ≤ d := hgood.2
      obtain ⟨X, Y, cX, cY, b0, b1, b2, _, _, _⟩ := hO.look
      have HO := Lib.hid hO
      have HS := Lib.hid hS
      clear hO hS hgood hpk
      by_cases hlS : S.length < d
      · go_wp2_with fail
        go_quiet (fail)
        go_wp2_with fail
        go_ret
        exact ⟨none, rfl, by rw [HS.out]; simp; omega, HO.out.ext.drewN nq⟩
      · go_wp2_with fail
        go_quiet (fail)
        go_wp2_with fail
        go_ret
        exact ⟨_, rfl, by rw [HS.out]; simp; omega, HO.out.ext.drewN nq⟩
/-- No rows: nothing can be made again. -/
theorem cCollect_no (m : Int) (w : World) (B : Option Addr) (c : Nat) : Calls Tryd.prog 48 #[.slice B 0 c, .int .i64 m, .slice none 0 0] w fun e w' => e = .returned (.pointer none) ∧ Ext w w' := by
  go_enter Tryd.func48, Tryd.ntmps48
  go_wp2_with fail
  go_ret
  exact ⟨rfl, Ext.refl _⟩
theorem cCollect_neg (m : Int) (n : Nat) (w : World) (B : Option Addr) (c : Nat) (hn : 0 < n) (hm : m < 0) : Calls Tryd.prog 48 #[.slice B n c, .int .i64 m, .slice none 0 0] w fun e w' => e = .returned (.pointer none) ∧ Ext w w' := by
  have e1 : ((n : Int) == 0) = false := by rw [beq_eq_false_iff_ne]; omega
  go_enter Tryd.func48, Tryd.ntmps48
  go_wp2_with fail
  go_ret
  exact ⟨rfl, Ext.refl _⟩
theorem cCollect_big (m : Int) (n : Nat) (w : World) (B : Option Addr) (c : Nat) (hn : 0 < n) (hn2 : n < 62) (h0 : 0 ≤ m) (hm : ((2 ^ n : Nat) : Int) ≤ m) : Calls Tryd.prog 48 #[.slice B n c, .int .i64 m, .slice none 0 0] w fun e w' => e = .returned (.pointer none) ∧ Ext w w' := by
  have e1 : ((n : Int) == 0) = false := by rw [beq_eq_false_iff_ne]; omega
  have e2 : (wrap64 (2 ^ n) ≤ m) = True := by
    rw [wrap_pow _ hn2]
    exact eq_true hm
  clear hm
  go_enter Tryd.func48, Tryd.ntmps48
  go_wp2_with fail
  go_ret
  exact ⟨rfl, Ext.refl _⟩
/-- `Recoverable`: true exactly if the rows of the set make stairs as wide as the code has data pieces. -/
theorem cRec_any (d gl m : Int) (gs : List (List Int)) (G : Value) (w : World) (hT : Tab w) (hG : Rs (Rs RI) w G gs) :
    Calls Tryd.prog 21 #[.agg #[.int .i64 d, G, .int .i64 gl], .int .i64 m] w fun e w' => e = .returned (.bool (Cd.can d gl gs m)) ∧ Ext w w' := by
  have hx0 := (Ext.refl w).alloc (.cells #[.int .i64 d, G, .int .i64 gl] 28)
  have HX := Lib.hid (And.intro hx0 (Rs.ext (Rs.ext RI.ext) _ _ _ _ hx0 hG))
  have HT := Lib.hid (hT.ext hx0)
  obtain ⟨A, c, rfl, hl⟩ := hG.form
  clear hG hx0 hT
  go_enter Tryd.func21, Tryd.ntmps21
  go_wp2_with fail
  refine (cRows_any d gl gs _ _ HT.out HX.out.2).mono ?_
  rintro e w1 ⟨v, rfl, hv, hx1⟩
  have HX1 := Lib.hid (HX.out.1.trans hx1)
  have HT1 := Lib.hid (HT.out.ext hx1)
  have HV := Lib.hid hv
  obtain ⟨B, cB, rfl, _⟩ := hv.form
  clear hx1 hv
  go_wp2_with fail
  by_cases h0 : Cd.check d gs gl = 0
  · have hk := Cd.check_ok h0
    have hr := Cd.rowsOf_ok h0
    have hlen := Cd.rows_len d.toNat gs gl.toNat
    have hwd : ∀ r ∈ Cd.rowsOf d gs gl, r.length = d.toNat := fun r h => Cd.rows_width (by rw [← hr]; exact h)
    rw [← hr] at hlen
    clear hr
    obtain ⟨R, hR⟩ : ∃ R, Cd.rowsOf d gs gl = R := ⟨_, rfl⟩
    have hcan : Cd.can d gl gs m = decide (0 ≤ m ∧ m < 2 ^ R.length ∧ (Gf.stairs d.toNat (Cd.pick R m.toNat)).length = d.toNat) := by
      unfold Cd.can
      rw [hR]
      simp only [h0, true_and]
    have HC := Lib.hid hcan
    rw [hR] at hlen hwd
    rw [hR]
    have hv := HV.out
    rw [hR] at hv
    have HV2 := Lib.hid hv
    have HWD := Lib.hid hwd
    clear hcan hwd hv
    by_cases hm0 : m < 0
    · refine (cCollect_neg m _ _ _ _ (by omega) hm0).mono ?_
      rintro e w2 ⟨rfl, hx2⟩
      go_wp2_with fail
      go_ret
      exact ⟨ret_bool (by rw [HC.out]; simp; omega), HX1.out.trans hx2⟩
    · obtain ⟨k, rfl⟩ : ∃ k : Nat, m = k := ⟨m.toNat, by omega⟩
      by_cases hm : k < 2 ^ R.length
      · refine (cCollect_in d.toNat k R _ _ HT1.out HV2.out HWD.out (by omega) (by omega) (by omega) (by omega) hm).mono ?_
        rintro e w2 ⟨p, rfl, hp, hx2⟩
        have hpb : Cd.can d gl gs (k : Int) = p.isSome := by
          rw [HC.out, Int.toNat_natCast]
          have hk2 : (k : Int) < 2 ^ R.length := by rw [nat_pow_cast]; omega
          cases p with
          | none =>
            have h1 := hp.1 rfl
            simp only [Option.isSome_none, decide_eq_false_iff_not]
            rintro ⟨_, _, h2⟩
            exact h1 h2
          | some q =>
            have h1 : (Gf.stairs d.toNat (Cd.pick R k)).length = d.toNat := Classical.byContradiction fun h => by cases hp.2 h
            simp only [Option.isSome_some, decide_eq_true_eq]
            exact ⟨by omega, hk2, h1⟩
        have HPB := Lib.hid hpb
        clear hpb hp
        go_wp2_with fail
        go_ret
        refine ⟨ret_bool ?_, HX1.out.trans hx2⟩
        rw [HPB.out]
        try (cases p <;> rfl)
      · refine (cCollect_big (k : Int) _ _ _ _ (by omega) (by omega) (by omega) (by omega)).mono ?_
        rintro e w2 ⟨rfl, hx2⟩
        go_wp2_with fail
        go_ret
        refine ⟨ret_bool ?_, HX1.out.trans hx2⟩
        rw [HC.out, nat_pow_cast]
        symm
        rw [decide_eq_false_iff_not]
        try omega
  · have hr := Cd.rowsOf_no h0
    rw [hr]
    have hcan : Cd.can d gl gs m = false := by
      unfold Cd.can
      simp [h0]
    have HC := Lib.hid hcan
    clear hcan hr h0
    refine (cCollect_no m _ _ _).mono ?_
    rintro e w2 ⟨rfl, hx2⟩
    go_wp2_with fail
    go_ret
    exact ⟨ret_bool HC.out.symm, HX1.out.trans hx2⟩
end Go.Proofs.YtkbiffbmjgmcaaaDoor

/- SHIFTS IN MEMORY; THE WALKS over layout and Check of package moves. -/
namespace Go.Proofs.YtkbiffbmjgmcaaaDoor
open Go.RowKit
def roomOut (x : Int) : Prop := x < 0 ∨ 24 < x
instance (x : Int) : Decidable (roomOut x) := by unfold roomOut; infer_instance
def w64 (x : Int) : Prop := -9223372036854775808 ≤ x ∧ x ≤ 9223372036854775807
/-- A value reads as a shift. -/
def RSh (w : World) (v : Value) (s : Mv.Sh) : Prop := ∃ D K H G R F T, v = .agg #[D, K, H, .int .i64 s.owners, .int .i64 s.d, G, .int .i64 s.gl, .int .i64 s.floor, R, F, T] ∧
  Rs RI w D s.disks ∧ RK w K s.racks ∧ Rs RI w H s.houses ∧ Rs (Rs RI) w G s.gs ∧ Rs RI w R s.room ∧ Rs RI w F s.src ∧ Rs RI w T s.dst ∧ w64 s.owners ∧ w64 s.d ∧ w64 s.gl ∧ w64 s.floor
theorem RSh.ext : Stable RSh := fun _ _ _ _ hx ⟨D, K, H, G, R, F, T, e, h1, h2, h3, h4, h5, h6, h7, hb⟩ => ⟨D, K, H, G, R, F, T, e, Rs.ext RI.ext _ _ _ _ hx h1, RK.ext _ _ _ _ hx h2, Rs.ext RI.ext _ _ _ _ hx h3, Rs.ext (Rs.ext RI.ext) _ _ _ _ hx h4, Rs.ext RI.ext _ _ _ _ hx h5, Rs.ext RI.ext _ _ _ _ hx h6, Rs.ext RI.ext _ _ _ _ hx h7, hb⟩
/-- The parts of a shift. -/
structure ShAt (w : World) (s : Mv.Sh) (DA KA HA GA RA FA TA : Option Addr) (cD cK cH cG cR cF cT : Nat) : Prop where
  disks : Rs RI w (.slice DA s.disks.length cD) s.disks
  racks : RK w (.slice KA s.racks.length cK) s.racks
  houses : Rs RI w (.slice HA s.houses.length cH) s.houses
  gs : Rs (Rs RI) w (.slice GA s.gs.length cG) s.gs
  room : Rs RI w (.slice RA s.room.length cR) s.room
  src : Rs RI w (.slice FA s.src.length cF) s.src
  dst : Rs RI w (.slice TA s.dst.length cT) s.dst
  owners : w64 s.owners
  d : w64 s.d
  gl : w64 s.gl
  floor : w64 s.floor
  len : s.disks.length ≤ 9223372036854775807 ∧ s.racks.length ≤ 9223372036854775807 ∧ s.houses.length ≤ 9223372036854775807 ∧ s.gs.length ≤ 9223372036854775807 ∧ s.room.length ≤ 9223372036854775807 ∧ s.src.length ≤ 9223372036854775807 ∧ s.dst.length ≤ 9223372036854775807
theorem RSh.open {w : World} {v : Value} {s : Mv.Sh} (h : RSh w v s) : ∃ DA KA HA GA RA FA TA cD cK cH cG cR cF cT, v = .agg #[.slice DA s.disks.length cD, .slice KA s.racks.length cK, .slice HA s.houses.length cH, .int .i64 s.owners, .int .i64 s.d, .slice GA s.gs.length cG, .int .i64 s.gl, .int .i64 s.floor, .slice RA s.room.length cR, .slice FA s.src.length cF, .slice TA s.dst.length cT] ∧ ShAt w s DA KA HA GA RA FA TA cD cK cH cG cR cF cT := by
  obtain ⟨D, K, H, G, R, F, T, rfl, h1, h2, h3, h4, h5, h6, h7, b1, b2, b3, b4⟩ := h
  obtain ⟨DA, cD, rfl, l1⟩ := h1.form
  obtain ⟨KA, cK, rfl, l2⟩ := h2.form
  obtain ⟨HA, cH, rfl, l3⟩ := h3.form
  obtain ⟨GA, cG, rfl, l4⟩ := h4.form
  obtain ⟨RA, cR, rfl, l5⟩ := h5.form
  obtain ⟨FA, cF, rfl, l6⟩ := h6.form
  obtain ⟨TA, cT, rfl, l7⟩ := h7.form
  exact ⟨DA, KA, HA, GA, RA, FA, TA, cD, cK, cH, cG, cR, cF, cT, rfl, h1, h2, h3, h4, h5, h6, h7, b1, b2, b3, b4, l1, l2, l3, l4, l5, l6, l7⟩
theorem ShAt.ext {w w' : World} {s : Mv.Sh} {DA KA HA GA RA FA TA : Option Addr} {cD cK cH cG cR cF cT : Nat} (h : ShAt w s DA KA HA GA RA FA TA cD cK cH cG cR cF cT) (hx : Ext w w') : ShAt w' s DA KA HA GA RA FA TA cD cK cH cG cR cF cT :=
  ⟨Rs.ext RI.ext _ _ _ _ hx h.disks, RK.ext _ _ _ _ hx h.racks, Rs.ext RI.ext _ _ _ _ hx h.houses, Rs.ext (Rs.ext RI.ext) _ _ _ _ hx h.gs, Rs.ext RI.ext _ _ _ _ hx h.room, Rs.ext RI.ext _ _ _ _ hx h.src, Rs.ext RI.ext _ _ _ _ hx h.dst, h.owners, h.d, h.gl, h.floor, h.len⟩
theorem ShAt.sh {w : World} {s : Mv.Sh} {DA KA HA GA RA FA TA : Option Addr} {cD cK cH cG cR cF cT : Nat} (h : ShAt w s DA KA HA GA RA FA TA cD cK cH cG cR cF cT) : RSh w (.agg #[.slice DA s.disks.length cD, .slice KA s.racks.length cK, .slice HA s.houses.length cH, .int .i64 s.owners, .int .i64 s.d, .slice GA s.gs.length cG, .int .i64 s.gl, .int .i64 s.floor, .slice RA s.room.length cR, .slice FA s.src.length cF, .slice TA s.dst.length cT]) s :=
  ⟨_, _, _, _, _, _, _, rfl, h.disks, h.racks, h.houses, h.gs, h.room, h.src, h.dst, h.owners, h.d, h.gl, h.floor⟩
/-- A shift in a box. -/
structure BoxAt (w : World) (B : Nat) (s : Mv.Sh) (DA KA HA GA RA FA TA : Option Addr) (cD cK cH cG cR cF cT : Nat) : Prop where
  b0 : w.cell? ⟨B, 0, none⟩ = some (.slice DA s.disks.length cD)
  b1 : w.cell? ⟨B, 1, none⟩ = some (.slice KA s.racks.length cK)
  b2 : w.cell? ⟨B, 2, none⟩ = some (.slice HA s.houses.length cH)
  b3 : w.cell? ⟨B, 3, none⟩ = some (.int .i64 s.owners)
  b4 : w.cell? ⟨B, 4, none⟩ = some (.int .i64 s.d)
  b5 : w.cell? ⟨B, 5, none⟩ = some (.slice GA s.gs.length cG)
  b6 : w.cell? ⟨B, 6, none⟩ = some (.int .i64 s.gl)
  b7 : w.cell? ⟨B, 7, none⟩ = some (.int .i64 s.floor)
  b8 : w.cell? ⟨B, 8, none⟩ = some (.slice RA s.room.length cR)
  b9 : w.cell? ⟨B, 9, none⟩ = some (.slice FA s.src.length cF)
  b10 : w.cell? ⟨B, 10, none⟩ = some (.slice TA s.dst.length cT)
theorem BoxAt.ext {w w' : World} {B : Nat} {s : Mv.Sh} {DA KA HA GA RA FA TA : Option Addr} {cD cK cH cG cR cF cT : Nat} (h : BoxAt w B s DA KA HA GA RA FA TA cD cK cH cG cR cF cT) (hx : Ext w w') : BoxAt w' B s DA KA HA GA RA FA TA cD cK cH cG cR cF cT :=
  ⟨hx.cell h.b0, hx.cell h.b1, hx.cell h.b2, hx.cell h.b3, hx.cell h.b4, hx.cell h.b5, hx.cell h.b6, hx.cell h.b7, hx.cell h.b8, hx.cell h.b9, hx.cell h.b10⟩
theorem BoxAt.new (w : World) (s : Mv.Sh) (DA KA HA GA RA FA TA : Option Addr) (cD cK cH cG cR cF cT : Nat) : BoxAt (w.alloc (.cells #[.slice DA s.disks.length cD, .slice KA s.racks.length cK, .slice HA s.houses.length cH, .int .i64 s.owners, .int .i64 s.d, .slice GA s.gs.length cG, .int .i64 s.gl, .int .i64 s.floor, .slice RA s.room.length cR, .slice FA s.src.length cF, .slice TA s.dst.length cT] 30)) w.heap.size s DA KA HA GA RA FA TA cD cK cH cG cR cF cT :=
  ⟨cells_new _ _ _ 0 _ rfl, cells_new _ _ _ 1 _ rfl, cells_new _ _ _ 2 _ rfl, cells_new _ _ _ 3 _ rfl, cells_new _ _ _ 4 _ rfl, cells_new _ _ _ 5 _ rfl, cells_new _ _ _ 6 _ rfl, cells_new _ _ _ 7 _ rfl, cells_new _ _ _ 8 _ rfl, cells_new _ _ _ 9 _ rfl, cells_new _ _ _ 10 _ rfl⟩
/-- The tests of layout and Check. -/
theorem mLay1_any (a : Int) (g n c : Nat) (A : Option Addr) (w : World) (hc : w.cell? ⟨g, 0, none⟩ = some (.slice A n c)) :
    Calls Tryd.prog 56 #[.int .i64 a, .pointer (some ⟨g, 0, none⟩)] w fun e w' => e = .returned (.bool (decide (Mv.out n a))) ∧ w = w' := by
  by_cases h0 : a < 0
  · have hd : decide (Mv.out n a) = true := decide_eq_true (.inl h0)
    have HD := Lib.hid hd
    clear hd
    go_enter Tryd.func56, Tryd.ntmps56
    go_wp2_with fail
    go_ret
    exact ⟨ret_bool HD.out.symm, rfl⟩
  · by_cases h1 : (n : Int) ≤ a
    · have hd : decide (Mv.out n a) = true := decide_eq_true (.inr h1)
      have HD := Lib.hid hd
      clear hd
      go_enter Tryd.func56, Tryd.ntmps56
      go_wp2_with fail
      go_ret
      exact ⟨ret_bool HD.out.symm, rfl⟩
    · have hd : decide (Mv.out n a) = false := decide_eq_false (by rintro (h | h); exact h0 h; exact h1 h)
      have HD := Lib.hid hd
      clear hd
      go_enter Tryd.func56, Tryd.ntmps56
      go_wp2_with fail
      go_ret
      exact ⟨ret_bool HD.out.symm, rfl⟩
theorem mChk1_any (a : Int) (w : World) :
    Calls Tryd.prog 29 #[.int .i64 a] w fun e w' => e = .returned (.bool (decide (roomOut a))) ∧ w = w' := by
  by_cases h0 : a < 0
  · have hd : decide (roomOut a) = true := decide_eq_true (.inl h0)
    have HD := Lib.hid hd
    clear hd
    go_enter Tryd.func29, Tryd.ntmps29
    go_wp2_with fail
    go_ret
    exact ⟨ret_bool HD.out.symm, rfl⟩
  · by_cases h1 : 24 < a
    · have hd : decide (roomOut a) = true := decide_eq_true (.inr h1)
      have HD := Lib.hid hd
      clear hd
      go_enter Tryd.func29, Tryd.ntmps29
      go_wp2_with fail
      go_ret
      exact ⟨ret_bool HD.out.symm, rfl⟩
    · have hd : decide (roomOut a) = false := decide_eq_false (by rintro (h | h); exact h0 h; exact h1 h)
      have HD := Lib.hid hd
      clear hd
      go_enter Tryd.func29, Tryd.ntmps29
      go_wp2_with fail
      go_ret
      exact ⟨ret_bool HD.out.symm, rfl⟩
theorem ent_lay1 : ∀ args w, (callFunc 56 args).run Tryd.prog w = .ok (.enter 56 args) w := enters_of Tryd.func56 (by kernel_rfl) rfl
theorem ent_chk1 : ∀ args w, (callFunc 29 args).run Tryd.prog w = .ok (.enter 29 args) w := enters_of Tryd.func29 (by kernel_rfl) rfl
set_option maxRecDepth 100000 in
theorem mLays_any (l : List Int) (A DA : Option Addr) (k c g n cD : Nat) (w : World) (hB : Rs RI w (.slice A k c) l) (hc : w.cell? ⟨g, 0, none⟩ = some (.slice DA n cD)) :
    Calls Tryd.prog 28 #[.slice A k c, .func (.func 56) #[] #[.pointer (some ⟨g, 0, none⟩)]] w fun e w' => e = .returned (.bool (decide (∃ x ∈ l, Mv.out n x))) ∧ w = w' := by
  refine (sContainsFunc_any l (fun x => decide (Mv.out n x)) A k c 56 #[.pointer (some ⟨g, 0, none⟩)] w hB ent_lay1 (fun x => mLay1_any x g n cD DA w hc)).mono ?_
  rintro e w1 ⟨h1, h2⟩
  refine ⟨h1.trans ?_, h2⟩
  simp only [decide_eq_true_eq]
set_option maxRecDepth 100000 in
theorem mRoom_any (l : List Int) (A : Option Addr) (k c : Nat) (w : World) (hB : Rs RI w (.slice A k c) l) :
    Calls Tryd.prog 28 #[.slice A k c, .func (.func 29) #[] #[]] w fun e w' => e = .returned (.bool (decide (∃ x ∈ l, roomOut x))) ∧ w = w' := by
  refine (sContainsFunc_any l (fun x => decide (roomOut x)) A k c 29 #[] w hB ent_chk1 (fun x => mChk1_any x w)).mono ?_
  rintro e w1 ⟨h1, h2⟩
  refine ⟨h1.trans ?_, h2⟩
  simp only [decide_eq_true_eq]
set_option maxHeartbeats 4000000 in
set_option maxRecDepth 100000 in
theorem mLayout_any (s : Mv.Sh) (l : List Int) (v u : Value) (w : World) (hv : RSh w v s) (hu : Rs RI w u l) :
    Calls Tryd.prog 30 #[v, u] w fun e w' => e = .returned (.bool (decide (Mv.layoutOk s l))) ∧ Ext w w' := by
  obtain ⟨DA, KA, HA, GA, RA, FA, TA, cD, cK, cH, cG, cR, cF, cT, rfl, hS⟩ := hv.open
  obtain ⟨A, c, rfl, hl⟩ := hu.form
  have hx0 := (Ext.refl w).alloc (.cells #[.slice DA s.disks.length cD, .slice KA s.racks.length cK, .slice HA s.houses.length cH, .int .i64 s.owners, .int .i64 s.d, .slice GA s.gs.length cG, .int .i64 s.gl, .int .i64 s.floor, .slice RA s.room.length cR, .slice FA s.src.length cF, .slice TA s.dst.length cT] 30)
  have HX0 := Lib.hid hx0
  have HS := Lib.hid (hS.ext hx0)
  have HU := Lib.hid (Rs.ext RI.ext _ _ _ _ hx0 hu)
  have hB := BoxAt.new w s DA KA HA GA RA FA TA cD cK cH cG cR cF cT
  have HB := Lib.hid hB
  have a4 := hB.b4
  have a5 := hB.b5
  have a6 := hB.b6
  clear hv hS hu hx0 hB
  go_enter Tryd.func30, Tryd.ntmps30
  go_wp2_with fail
  refine (cPieces_any s.d s.gl s.gs _ _ HS.out.gs).mono ?_
  rintro ee w1 ⟨rfl, hx1⟩
  have HX1 := Lib.hid hx1
  clear hx1 a4 a5 a6
  by_cases hp : (l.length : Int) = Cd.pieces s.d s.gs s.gl
  · have e1 : ((l.length : Int) == Cd.pieces s.d s.gs s.gl) = true := by rw [hp]; simp
    have HP := Lib.hid hp
    clear hp
    go_wp2_with fail
    refine (mLays_any l A DA l.length c w.heap.size s.disks.length cD w1 (Rs.ext RI.ext _ _ _ _ HX1.out HU.out) (HX1.out.cell HB.out.b0)).mono ?_
    rintro ee w2 ⟨rfl, rfl⟩
    cases hb : decide (∃ x ∈ l, Mv.out s.disks.length x) with
    | true =>
      have hd : decide (Mv.layoutOk s l) = false := decide_eq_false (by rintro ⟨_, h⟩; obtain ⟨x, hx, ho⟩ := of_decide_eq_true hb; exact h x hx ho)
      have HD := Lib.hid hd
      clear hd hb e1
      go_wp2_with fail
      go_ret
      exact ⟨by rw [HD.out]; rfl, HX0.out.trans HX1.out⟩
    | false =>
      have hd : decide (Mv.layoutOk s l) = true := decide_eq_true ⟨HP.out, fun x hx ho => of_decide_eq_false hb ⟨x, hx, ho⟩⟩
      have HD := Lib.hid hd
      clear hd hb e1
      go_wp2_with fail
      go_ret
      exact ⟨by rw [HD.out]; rfl, HX0.out.trans HX1.out⟩
  · have e1 : ((l.length : Int) == Cd.pieces s.d s.gs s.gl) = false := by rw [beq_eq_false_iff_ne]; exact hp
    have hd : decide (Mv.layoutOk s l) = false := decide_eq_false (fun h => hp h.1)
    have HD := Lib.hid hd
    clear hd hp
    go_wp2_with fail
    go_ret
    exact ⟨by rw [HD.out]; rfl, HX0.out.trans HX1.out⟩
set_option maxHeartbeats 8000000 in
set_option maxRecDepth 100000 in
theorem mCheck_any (s : Mv.Sh) (v : Value) (w : World) (hv : RSh w v s) :
    Calls Tryd.prog 10 #[v] w fun e w' => e = .returned (.int .i64 (Mv.check s)) ∧ Ext w w' := by
  obtain ⟨DA, KA, HA, GA, RA, FA, TA, cD, cK, cH, cG, cR, cF, cT, rfl, hS⟩ := hv.open
  have hx0 := (Ext.refl w).alloc (.cells #[.slice DA s.disks.length cD, .slice KA s.racks.length cK, .slice HA s.houses.length cH, .int .i64 s.owners, .int .i64 s.d, .slice GA s.gs.length cG, .int .i64 s.gl, .int .i64 s.floor, .slice RA s.room.length cR, .slice FA s.src.length cF, .slice TA s.dst.length cT] 30)
  have HX0 := Lib.hid hx0
  have HS := Lib.hid (hS.ext hx0)
  have hB := BoxAt.new w s DA KA HA GA RA FA TA cD cK cH cG cR cF cT
  have HB := Lib.hid hB
  have a0 := (hB).b0
  have a1 := (hB).b1
  have a2 := (hB).b2
  have a3 := (hB).b3
  have a4 := (hB).b4
  have a5 := (hB).b5
  have a6 := (hB).b6
  have a7 := (hB).b7
  have a8 := (hB).b8
  have a9 := (hB).b9
  have a10 := (hB).b10
  clear hv hS hx0 hB
  go_enter Tryd.func10, Tryd.ntmps10
  go_wp2_with fail
  clear a0 a1 a2 a3 a4 a5 a6 a7 a8 a9 a10
  refine (cCheck_any s.d s.gl s.gs _ _ HS.out.gs).mono ?_
  rintro ee w1 ⟨rfl, hx1⟩
  have HX1 := Lib.hid hx1
  have a0 := (HB.out.ext hx1).b0
  have a1 := (HB.out.ext hx1).b1
  have a2 := (HB.out.ext hx1).b2
  have a3 := (HB.out.ext hx1).b3
  have a4 := (HB.out.ext hx1).b4
  have a5 := (HB.out.ext hx1).b5
  have a6 := (HB.out.ext hx1).b6
  have a7 := (HB.out.ext hx1).b7
  have a8 := (HB.out.ext hx1).b8
  have a9 := (HB.out.ext hx1).b9
  have a10 := (HB.out.ext hx1).b10
  clear hx1
  by_cases h1 : Cd.check s.d s.gs s.gl = 0
  case neg =>
    have HE := Lib.hid (Mv.check_code h1)
    have e1 : (Cd.check s.d s.gs s.gl != 0) = true := by rw [bne_iff_ne]; exact h1
    clear h1
    go_wp2_with fail
    clear a0 a1 a2 a3 a4 a5 a6 a7 a8 a9 a10
    go_ret
    exact ⟨by rw [HE.out]; rfl, HX0.out.trans HX1.out⟩
  case pos =>
  have H1 := Lib.hid h1
  rw [h1]
  clear h1
  go_wp2_with fail
  clear a0 a1 a2 a3 a4 a5 a6 a7 a8 a9 a10
  refine (dCheck_any s.disks s.racks s.houses s.owners _ _ _ w1 (Rs.ext RI.ext _ _ _ _ HX1.out HS.out.disks) (RK.ext _ _ _ _ HX1.out HS.out.racks) (Rs.ext RI.ext _ _ _ _ HX1.out HS.out.houses) HS.out.owners).mono ?_
  rintro ee w2 ⟨rfl, hx2⟩
  have HX2 := Lib.hid (HX1.out.trans hx2)
  have a0 := (HB.out.ext (HX1.out.trans hx2)).b0
  have a1 := (HB.out.ext (HX1.out.trans hx2)).b1
  have a2 := (HB.out.ext (HX1.out.trans hx2)).b2
  have a3 := (HB.out.ext (HX1.out.trans hx2)).b3
  have a4 := (HB.out.ext (HX1.out.trans hx2)).b4
  have a5 := (HB.out.ext (HX1.out.trans hx2)).b5
  have a6 := (HB.out.ext (HX1.out.trans hx2)).b6
  have a7 := (HB.out.ext (HX1.out.trans hx2)).b7
  have a8 := (HB.out.ext (HX1.out.trans hx2)).b8
  have a9 := (HB.out.ext (HX1.out.trans hx2)).b9
  have a10 := (HB.out.ext (HX1.out.trans hx2)).b10
  clear hx2
  by_cases h2 : Mv.domErr s.disks s.racks s.houses s.owners = 0
  case neg =>
    have HE := Lib.hid (Mv.check_dom H1.out h2)
    have e1 : (Mv.domErr s.disks s.racks s.houses s.owners != 0) = true := by rw [bne_iff_ne]; exact h2
    clear h2
    go_wp2_with fail
    clear a0 a1 a2 a3 a4 a5 a6 a7 a8 a9 a10
    go_ret
    exact ⟨by rw [HE.out]; rfl, HX0.out.trans HX2.out⟩
  case pos =>
  have H2 := Lib.hid h2
  rw [h2]
  clear h2
  by_cases h3 : s.floor < 1
  · have HE := Lib.hid (Mv.check_floor H1.out H2.out (.inl h3))
    go_wp2_with fail
    clear a0 a1 a2 a3 a4 a5 a6 a7 a8 a9 a10
    go_ret
    exact ⟨by rw [HE.out]; rfl, HX0.out.trans HX2.out⟩
  by_cases h4 : 4 < s.floor
  · have HE := Lib.hid (Mv.check_floor H1.out H2.out (.inr h4))
    go_wp2_with fail
    clear a0 a1 a2 a3 a4 a5 a6 a7 a8 a9 a10
    go_ret
    exact ⟨by rw [HE.out]; rfl, HX0.out.trans HX2.out⟩
  have H3 : Hid (¬ (s.floor < 1 ∨ 4 < s.floor)) := Lib.hid (by omega)
  by_cases h5 : s.room.length = s.disks.length
  case neg =>
    have HE := Lib.hid (Mv.check_room H1.out H2.out H3.out (.inl h5))
    have e5 : ((s.room.length : Int) != (s.disks.length : Int)) = true := by rw [bne_iff_ne]; omega
    clear h5
    go_wp2_with fail
    clear a0 a1 a2 a3 a4 a5 a6 a7 a8 a9 a10
    go_ret
    exact ⟨by rw [HE.out]; rfl, HX0.out.trans HX2.out⟩
  case pos =>
  have e5 : ((s.room.length : Int) != (s.disks.length : Int)) = false := by rw [h5]; simp
  have H5 := Lib.hid h5
  clear h5
  go_wp2_with fail
  clear a0 a1 a2 a3 a4 a5 a6 a7 a8 a9 a10
  refine (mRoom_any s.room RA s.room.length cR w2 (Rs.ext RI.ext _ _ _ _ HX2.out HS.out.room)).mono ?_
  rintro ee w3 ⟨rfl, rfl⟩
  have a0 := (HB.out.ext HX2.out).b0
  have a1 := (HB.out.ext HX2.out).b1
  have a2 := (HB.out.ext HX2.out).b2
  have a3 := (HB.out.ext HX2.out).b3
  have a4 := (HB.out.ext HX2.out).b4
  have a5 := (HB.out.ext HX2.out).b5
  have a6 := (HB.out.ext HX2.out).b6
  have a7 := (HB.out.ext HX2.out).b7
  have a8 := (HB.out.ext HX2.out).b8
  have a9 := (HB.out.ext HX2.out).b9
  have a10 := (HB.out.ext HX2.out).b10
  cases h6 : decide (∃ x ∈ s.room, roomOut x) with
  | true =>
    have HE := Lib.hid (Mv.check_room H1.out H2.out H3.out (.inr (.inl (of_decide_eq_true h6))))
    clear h6
    go_wp2_with fail
    clear a0 a1 a2 a3 a4 a5 a6 a7 a8 a9 a10
    go_ret
    exact ⟨by rw [HE.out]; rfl, HX0.out.trans HX2.out⟩
  | false =>
  have H6 := Lib.hid (of_decide_eq_false h6)
  clear h6
  go_wp2_with fail
  clear a0 a1 a2 a3 a4 a5 a6 a7 a8 a9 a10
  refine (mLayout_any s s.src _ _ w2 (HS.out.ext HX2.out).sh (Rs.ext RI.ext _ _ _ _ HX2.out HS.out.src)).mono ?_
  rintro ee w3 ⟨rfl, hx3⟩
  have HX3 := Lib.hid (HX2.out.trans hx3)
  have a0 := (HB.out.ext (HX2.out.trans hx3)).b0
  have a1 := (HB.out.ext (HX2.out.trans hx3)).b1
  have a2 := (HB.out.ext (HX2.out.trans hx3)).b2
  have a3 := (HB.out.ext (HX2.out.trans hx3)).b3
  have a4 := (HB.out.ext (HX2.out.trans hx3)).b4
  have a5 := (HB.out.ext (HX2.out.trans hx3)).b5
  have a6 := (HB.out.ext (HX2.out.trans hx3)).b6
  have a7 := (HB.out.ext (HX2.out.trans hx3)).b7
  have a8 := (HB.out.ext (HX2.out.trans hx3)).b8
  have a9 := (HB.out.ext (HX2.out.trans hx3)).b9
  have a10 := (HB.out.ext (HX2.out.trans hx3)).b10
  clear hx3
  cases h7 : decide (Mv.layoutOk s s.src) with
  | false =>
    have HE := Lib.hid (Mv.check_room H1.out H2.out H3.out (.inr (.inr (.inl (of_decide_eq_false h7)))))
    clear h7
    go_wp2_with fail
    clear a0 a1 a2 a3 a4 a5 a6 a7 a8 a9 a10
    go_ret
    exact ⟨by rw [HE.out]; rfl, HX0.out.trans HX3.out⟩
  | true =>
  have H7 := Lib.hid (of_decide_eq_true h7)
  clear h7
  go_wp2_with fail
  clear a0 a1 a2 a3 a4 a5 a6 a7 a8 a9 a10
  refine (mLayout_any s s.dst _ _ w3 (HS.out.ext HX3.out).sh (Rs.ext RI.ext _ _ _ _ HX3.out HS.out.dst)).mono ?_
  rintro ee w4 ⟨rfl, hx4⟩
  have HX4 := Lib.hid (HX3.out.trans hx4)
  have a0 := (HB.out.ext (HX3.out.trans hx4)).b0
  have a1 := (HB.out.ext (HX3.out.trans hx4)).b1
  have a2 := (HB.out.ext (HX3.out.trans hx4)).b2
  have a3 := (HB.out.ext (HX3.out.trans hx4)).b3
  have a4 := (HB.out.ext (HX3.out.trans hx4)).b4
  have a5 := (HB.out.ext (HX3.out.trans hx4)).b5
  have a6 := (HB.out.ext (HX3.out.trans hx4)).b6
  have a7 := (HB.out.ext (HX3.out.trans hx4)).b7
  have a8 := (HB.out.ext (HX3.out.trans hx4)).b8
  have a9 := (HB.out.ext (HX3.out.trans hx4)).b9
  have a10 := (HB.out.ext (HX3.out.trans hx4)).b10
  clear hx4
  cases h8 : decide (Mv.layoutOk s s.dst) with
  | false =>
    have HE := Lib.hid (Mv.check_room H1.out H2.out H3.out (.inr (.inr (.inr (of_decide_eq_false h8)))))
    clear h8
    go_wp2_with fail
    clear a0 a1 a2 a3 a4 a5 a6 a7 a8 a9 a10
    go_ret
    exact ⟨by rw [HE.out]; rfl, HX0.out.trans HX4.out⟩
  | true =>
  have hl : s.dst.length = s.src.length := by
    have a := H7.out.1
    have b := (of_decide_eq_true h8).1
    omega
  have hno : ¬ Mv.roomBad s := by
    rintro (e | e | e | e)
    · exact e H5.out
    · exact H6.out e
    · exact e H7.out
    · exact e (of_decide_eq_true h8)
  have HL := Lib.hid (Mv.check_last H1.out H2.out H3.out hno)
  have HLL := Lib.hid hl
  have hl64 := HS.out.len.2.2.2.2.2.1
  clear h8 hno hl
  go_wp2_with fail
  clear a0 a1 a2 a3 a4 a5 a6 a7 a8 a9 a10
  go_loop [4, 55] (fun vm vi => ∃ k : Nat, k ≤ s.src.length ∧ vi = .int .i64 k ∧ vm = .int .i64 (Mv.movedTo s.src s.dst k : Nat)) (fun _ vi => s.src.length - (intOf vi).toNat)
  case atStart => exact ⟨0, Nat.zero_le _, rfl, rfl⟩
  case round =>
    obtain ⟨k, hk, rfl, rfl⟩ := hrel
    have hml := Mv.movedTo_le s.src s.dst k
    obtain ⟨m, hm⟩ : ∃ m, Mv.movedTo s.src s.dst k = m := ⟨_, rfl⟩
    rw [hm] at hml ⊢
    by_cases hlt : k < s.src.length
    · obtain ⟨af, u, rfl, hcf, hu⟩ := (Rs.ext RI.ext _ _ _ _ HX4.out HS.out.src).at hlt
      obtain ⟨rfl, hlo, hhi⟩ := hu
      have hkd : k < s.dst.length := by rw [HLL.out]; exact hlt
      obtain ⟨at_, u2, rfl, hct, hu2⟩ := (Rs.ext RI.ext _ _ _ _ HX4.out HS.out.dst).at hkd
      obtain ⟨rfl, hlo2, hhi2⟩ := hu2
      have hyes := fun e => Mv.movedTo_yes (a := s.src) (b := s.dst) (k := k) e
      have hno := fun e => Mv.movedTo_no (a := s.src) (b := s.dst) (k := k) e
      rw [getD_get hlt, getD_get hkd, hm] at hyes hno
      obtain ⟨y, hy⟩ : ∃ y, s.src[k] = y := ⟨_, rfl⟩
      obtain ⟨z, hz⟩ : ∃ z, s.dst[k] = z := ⟨_, rfl⟩
      rw [hy] at hcf hyes hno
      rw [hz] at hct hyes hno
      have a5 := (HB.out.ext HX4.out).b10
      have hkd2 : (k : Int) < (s.dst.length : Int) := by omega
      clear hy hz hlo hhi hlo2 hhi2
      by_cases hyz : y = z
      · have HN := Lib.hid (hno hyz)
        have e1 : (y != z) = false := by rw [hyz]; simp
        clear hyes hno hyz hm
        go_wp2_with fail
        clear hcf hct a5 e1 hkd hkd2
        go_round
        case rel => exact ⟨k + 1, by omega, by go_num, by rw [HN.out]⟩
        case measure => simp [intOf]; omega
      · have HN := Lib.hid (hyes hyz)
        have e1 : (y != z) = true := by rw [bne_iff_ne]; exact hyz
        clear hyes hno hyz hm
        go_wp2_with fail
        clear hcf hct a5 e1 hkd hkd2
        go_round
        case rel => exact ⟨k + 1, by omega, by go_num, by rw [HN.out]; rfl⟩
        case measure => simp [intOf]; omega
    · obtain rfl : k = s.src.length := by omega
      by_cases h9 : 8 < m
      · have HE : Hid (Mv.check s = 2) := Lib.hid (by rw [HL.out, hm, if_pos h9])
        clear hm
        go_wp2_with fail
        go_ret
        exact ⟨by rw [HE.out]; rfl, HX0.out.trans HX4.out⟩
      · have HE : Hid (Mv.check s = 0) := Lib.hid (by rw [HL.out, hm, if_neg h9])
        clear hm
        go_wp2_with fail
        go_ret
        exact ⟨by rw [HE.out]; rfl, HX0.out.trans HX4.out⟩
end Go.Proofs.YtkbiffbmjgmcaaaDoor

/- THE DRAWN REGION of right of package moves, one theorem for each way. -/
namespace Go.Proofs.YtkbiffbmjgmcaaaDoor
open Go.RowKit
theorem wanted_undef {ops : Array Oper} {o : Oper} {a : Act} {g t : Nat} {want : Bool} (hg : o.guard = some (g, want)) (hd : (ops[g]?).bind (·.dst) = some t) (he : a.eval (.tmp t) = undef) : Region.wanted o (yielded ops a.tmps) = false := by
  have ht : yielded ops a.tmps g = none := by
    unfold yielded
    rw [hd]
    simp only [Act.eval, Array.getD_eq_getD_getElem?] at he
    cases h : a.tmps[t]? with
    | none => simp [h]
    | some v => rw [h] at he; simp at he; simp [h, he, undef]
  unfold Region.wanted
  rw [hg]
  simp [ht]
noncomputable def rt_neg_code : Code := ((Tryd.f34.body.bind (regionOf 6)).getD .skip)
def rt_neg_dsts : List (Option Nat) := [some 25, some 26, some 27, some 28, some 29, some 30, some 31, some 32, some 33, some 34, some 35, some 36, some 37, some 38, some 39, some 40, some 41, some 42, some 43, some 44, some 45, some 46, some 47]
theorem rt_neg_apart : apartD rt_neg_dsts = true := by decide +kernel
set_option maxRecDepth 1000000 in
set_option maxHeartbeats 16000000 in
theorem rt_neg (wr : World) (B k : Nat) (p : Int) (HC : Hid (p < 0 ∧ True)) (c0 c1 c3 c4 c7 c8 c9 c10 c11 c12 c13 c14 c15 c16 c17 c18 c19 c20 c21 c22 c23 c24 c25 c26 c27 c28 c29 c30 c31 c32 c33 c34 c35 c36 c37 c38 c39 c40 c41 c42 c43 c44 c45 c46 c47 c48 : Value) (df : List Deferred) (K : Act → World → Prop)
    (hK : ∀  (u25 u26 u27 u28 u29 u30 u31 u32 u33 u34 u35 u36 u37 u38 u39 u40 u41 u42 u43 u44 u45 u46 : Value) (wx : World), Ext wr wx → K ⟨#[c0, c1, .pointer (some ⟨B, 0, none⟩), c3, c4, .int .i64 (k : Nat), .int .i64 p, c7, c8, c9, c10, c11, c12, c13, c14, c15, c16, c17, c18, c19, c20, c21, c22, c23, c24, u25, u26, u27, u28, u29, u30, u31, u32, u33, u34, u35, u36, u37, u38, u39, u40, u41, u42, u43, u44, u45, u46, .bool true, c48], df⟩ wx) :
    Code.wp Tryd.prog rt_neg_code (AtEnd K) ⟨#[c0, c1, .pointer (some ⟨B, 0, none⟩), c3, c4, .int .i64 (k : Nat), .int .i64 p, c7, c8, c9, c10, c11, c12, c13, c14, c15, c16, c17, c18, c19, c20, c21, c22, c23, c24, c25, c26, c27, c28, c29, c30, c31, c32, c33, c34, c35, c36, c37, c38, c39, c40, c41, c42, c43, c44, c45, c46, c47, c48], df⟩ wr := by
  conv => arg 2; whnf
  refine region_inv (by kernel_rfl) [[], [0], [1], [2], [3, 2], [2, 4], [5, 2], [6], [7, 6], [8, 6, 6], [9], [10, 9], [9], [11, 12, 9], [13, 9], [9], [15, 9], [9], [16, 17, 9], [18, 9], [14, 19, 9], [9, 20, 6], [6, 21]] (by kernel_rfl) [0, 1, 2, 3, 4, 5, 6, 7, 8, 9, 10, 11, 12, 13, 14, 15, 16, 17, 18, 19, 20, 21, 22] (by decide +kernel) (by decide +kernel) (by decide +kernel) (fun L a wc => Inv rt_neg_dsts [.int .i64 p, .bool true, .bool true, undef, undef, .bool true, .bool true, undef, undef, undef, undef, undef, undef, undef, undef, undef, undef, undef, undef, undef, undef, undef, .bool true] ⟨#[c0, c1, .pointer (some ⟨B, 0, none⟩), c3, c4, .int .i64 (k : Nat), .int .i64 p, c7, c8, c9, c10, c11, c12, c13, c14, c15, c16, c17, c18, c19, c20, c21, c22, c23, c24, c25, c26, c27, c28, c29, c30, c31, c32, c33, c34, c35, c36, c37, c38, c39, c40, c41, c42, c43, c44, c45, c46, c47, c48], df⟩ L a ∧ Hid (Ext wr wc)) ⟨Inv.start, Lib.hid ((Ext.refl wr).drew)⟩ ?_ ?_
  · refine ⟨?_, ?_, ?_, ?_, ?_, ?_, ?_, ?_, ?_, ?_, ?_, ?_, ?_, ?_, ?_, ?_, ?_, ?_, ?_, ?_, ?_, ?_, ?_, trivial⟩
    · -- 0 move
      rintro L a wc ⟨hv, HO⟩ hL hc hd
      exact wpOp_val rfl rfl (ex_move rfl ((hv.fixed 6 (by decide)).trans rfl)) ⟨hv.put rt_neg_apart 0 rfl (Nat.le_of_ble_eq_true rfl) (Nat.le_of_ble_eq_true rfl) rfl, HO⟩
    · -- 1 bin
      rintro L a wc ⟨hv, HO⟩ hL hc hd
      have u := HC.out.1
      exact wpOp_val rfl rfl (ex_bin rfl (hv.get 0 rfl rfl (hd 0 (by decide))) rfl (by go_simp)) ⟨hv.put rt_neg_apart 1 rfl (Nat.le_of_ble_eq_true rfl) (Nat.le_of_ble_eq_true rfl) rfl, HO⟩
    · -- 2 move
      rintro L a wc ⟨hv, HO⟩ hL hc hd
      exact wpOp_val rfl rfl (ex_move rfl (hv.get 1 rfl rfl (hd 1 (by decide)))) ⟨hv.put rt_neg_apart 2 rfl (Nat.le_of_ble_eq_true rfl) (Nat.le_of_ble_eq_true rfl) rfl, HO⟩
    · -- 3 off
      rintro L a wc ⟨hv, HO⟩ hL hc hd
      exact wpOp_off rfl ((wanted_at rfl rfl (hv.get 2 rfl rfl (hd 2 (by decide)))).trans rfl) ⟨hv.put rt_neg_apart 3 rfl (Nat.le_of_ble_eq_true rfl) (Nat.le_of_ble_eq_true rfl) rfl, HO⟩
    · -- 4 off
      rintro L a wc ⟨hv, HO⟩ hL hc hd
      exact wpOp_off rfl ((wanted_at rfl rfl (hv.get 2 rfl rfl (hd 2 (by decide)))).trans rfl) ⟨hv.put rt_neg_apart 4 rfl (Nat.le_of_ble_eq_true rfl) (Nat.le_of_ble_eq_true rfl) rfl, HO⟩
    · -- 5 pick
      rintro L a wc ⟨hv, HO⟩ hL hc hd
      exact wpOp_val rfl rfl (ex_pick rfl (hv.get 2 rfl rfl (hd 2 (by decide))) rfl) ⟨hv.put rt_neg_apart 5 rfl (Nat.le_of_ble_eq_true rfl) (Nat.le_of_ble_eq_true rfl) rfl, HO⟩
    · -- 6 move
      rintro L a wc ⟨hv, HO⟩ hL hc hd
      exact wpOp_val rfl rfl (ex_move rfl (hv.get 5 rfl rfl (hd 5 (by decide)))) ⟨hv.put rt_neg_apart 6 rfl (Nat.le_of_ble_eq_true rfl) (Nat.le_of_ble_eq_true rfl) rfl, HO⟩
    · -- 7 off
      rintro L a wc ⟨hv, HO⟩ hL hc hd
      exact wpOp_off rfl ((wanted_at rfl rfl (hv.get 6 rfl rfl (hd 6 (by decide)))).trans rfl) ⟨hv.put rt_neg_apart 7 rfl (Nat.le_of_ble_eq_true rfl) (Nat.le_of_ble_eq_true rfl) rfl, HO⟩
    · -- 8 off
      rintro L a wc ⟨hv, HO⟩ hL hc hd
      exact wpOp_off rfl ((wanted_at rfl rfl (hv.get 6 rfl rfl (hd 6 (by decide)))).trans rfl) ⟨hv.put rt_neg_apart 8 rfl (Nat.le_of_ble_eq_true rfl) (Nat.le_of_ble_eq_true rfl) rfl, HO⟩
    · -- 9 off
      rintro L a wc ⟨hv, HO⟩ hL hc hd
      exact wpOp_off rfl ((wanted_at rfl rfl (hv.get 6 rfl rfl (hd 6 (by decide)))).trans rfl) ⟨hv.put rt_neg_apart 9 rfl (Nat.le_of_ble_eq_true rfl) (Nat.le_of_ble_eq_true rfl) rfl, HO⟩
    · -- 10 off
      rintro L a wc ⟨hv, HO⟩ hL hc hd
      exact wpOp_off rfl (wanted_undef rfl rfl (hv.get 9 rfl rfl (hd 9 (by decide)))) ⟨hv.put rt_neg_apart 10 rfl (Nat.le_of_ble_eq_true rfl) (Nat.le_of_ble_eq_true rfl) rfl, HO⟩
    · -- 11 off
      rintro L a wc ⟨hv, HO⟩ hL hc hd
      exact wpOp_off rfl (wanted_undef rfl rfl (hv.get 9 rfl rfl (hd 9 (by decide)))) ⟨hv.put rt_neg_apart 11 rfl (Nat.le_of_ble_eq_true rfl) (Nat.le_of_ble_eq_true rfl) rfl, HO⟩
    · -- 12 off
      rintro L a wc ⟨hv, HO⟩ hL hc hd
      exact wpOp_off rfl (wanted_undef rfl rfl (hv.get 9 rfl rfl (hd 9 (by decide)))) ⟨hv.put rt_neg_apart 12 rfl (Nat.le_of_ble_eq_true rfl) (Nat.le_of_ble_eq_true rfl) rfl, HO⟩
    · -- 13 off
      rintro L a wc ⟨hv, HO⟩ hL hc hd
      exact wpOp_off rfl (wanted_undef rfl rfl (hv.get 9 rfl rfl (hd 9 (by decide)))) ⟨hv.put rt_neg_apart 13 rfl (Nat.le_of_ble_eq_true rfl) (Nat.le_of_ble_eq_true rfl) rfl, HO⟩
    · -- 14 off
      rintro L a wc ⟨hv, HO⟩ hL hc hd
      exact wpOp_off rfl (wanted_undef rfl rfl (hv.get 9 rfl rfl (hd 9 (by decide)))) ⟨hv.put rt_neg_apart 14 rfl (Nat.le_of_ble_eq_true rfl) (Nat.le_of_ble_eq_true rfl) rfl, HO⟩
    · -- 15 off
      rintro L a wc ⟨hv, HO⟩ hL hc hd
      exact wpOp_off rfl (wanted_undef rfl rfl (hv.get 9 rfl rfl (hd 9 (by decide)))) ⟨hv.put rt_neg_apart 15 rfl (Nat.le_of_ble_eq_true rfl) (Nat.le_of_ble_eq_true rfl) rfl, HO⟩
    · -- 16 off
      rintro L a wc ⟨hv, HO⟩ hL hc hd
      exact wpOp_off rfl (wanted_undef rfl rfl (hv.get 9 rfl rfl (hd 9 (by decide)))) ⟨hv.put rt_neg_apart 16 rfl (Nat.le_of_ble_eq_true rfl) (Nat.le_of_ble_eq_true rfl) rfl, HO⟩
    · -- 17 off
      rintro L a wc ⟨hv, HO⟩ hL hc hd
      exact wpOp_off rfl (wanted_undef rfl rfl (hv.get 9 rfl rfl (hd 9 (by decide)))) ⟨hv.put rt_neg_apart 17 rfl (Nat.le_of_ble_eq_true rfl) (Nat.le_of_ble_eq_true rfl) rfl, HO⟩
    · -- 18 off
      rintro L a wc ⟨hv, HO⟩ hL hc hd
      exact wpOp_off rfl (wanted_undef rfl rfl (hv.get 9 rfl rfl (hd 9 (by decide)))) ⟨hv.put rt_neg_apart 18 rfl (Nat.le_of_ble_eq_true rfl) (Nat.le_of_ble_eq_true rfl) rfl, HO⟩
    · -- 19 off
      rintro L a wc ⟨hv, HO⟩ hL hc hd
      exact wpOp_off rfl (wanted_undef rfl rfl (hv.get 9 rfl rfl (hd 9 (by decide)))) ⟨hv.put rt_neg_apart 19 rfl (Nat.le_of_ble_eq_true rfl) (Nat.le_of_ble_eq_true rfl) rfl, HO⟩
    · -- 20 off
      rintro L a wc ⟨hv, HO⟩ hL hc hd
      exact wpOp_off rfl (wanted_undef rfl rfl (hv.get 9 rfl rfl (hd 9 (by decide)))) ⟨hv.put rt_neg_apart 20 rfl (Nat.le_of_ble_eq_true rfl) (Nat.le_of_ble_eq_true rfl) rfl, HO⟩
    · -- 21 off
      rintro L a wc ⟨hv, HO⟩ hL hc hd
      exact wpOp_off rfl ((wanted_at rfl rfl (hv.get 6 rfl rfl (hd 6 (by decide)))).trans rfl) ⟨hv.put rt_neg_apart 21 rfl (Nat.le_of_ble_eq_true rfl) (Nat.le_of_ble_eq_true rfl) rfl, HO⟩
    · -- 22 pick
      rintro L a wc ⟨hv, HO⟩ hL hc hd
      exact wpOp_val rfl rfl (ex_pick rfl (hv.get 6 rfl rfl (hd 6 (by decide))) rfl) ⟨hv.put rt_neg_apart 22 rfl (Nat.le_of_ble_eq_true rfl) (Nat.le_of_ble_eq_true rfl) rfl, HO⟩
  · rintro L a wc ⟨hv, HO⟩ hall
    show K a wc
    have ha := act_lit a
    rw [hv.size, hv.defers] at ha
    have hl : ∀ f : Nat → Value, ((List.range (⟨#[c0, c1, .pointer (some ⟨B, 0, none⟩), c3, c4, .int .i64 (k : Nat), .int .i64 p, c7, c8, c9, c10, c11, c12, c13, c14, c15, c16, c17, c18, c19, c20, c21, c22, c23, c24, c25, c26, c27, c28, c29, c30, c31, c32, c33, c34, c35, c36, c37, c38, c39, c40, c41, c42, c43, c44, c45, c46, c47, c48], df⟩ : Act).tmps.size).map f).toArray = #[f 0, f 1, f 2, f 3, f 4, f 5, f 6, f 7, f 8, f 9, f 10, f 11, f 12, f 13, f 14, f 15, f 16, f 17, f 18, f 19, f 20, f 21, f 22, f 23, f 24, f 25, f 26, f 27, f 28, f 29, f 30, f 31, f 32, f 33, f 34, f 35, f 36, f 37, f 38, f 39, f 40, f 41, f 42, f 43, f 44, f 45, f 46, f 47, f 48] := fun _ => rfl
    rw [hl] at ha
    simp only [hv.fixed 0 (by decide), hv.fixed 1 (by decide), hv.fixed 2 (by decide), hv.fixed 3 (by decide), hv.fixed 4 (by decide), hv.fixed 5 (by decide), hv.fixed 6 (by decide), hv.fixed 7 (by decide), hv.fixed 8 (by decide), hv.fixed 9 (by decide), hv.fixed 10 (by decide), hv.fixed 11 (by decide), hv.fixed 12 (by decide), hv.fixed 13 (by decide), hv.fixed 14 (by decide), hv.fixed 15 (by decide), hv.fixed 16 (by decide), hv.fixed 17 (by decide), hv.fixed 18 (by decide), hv.fixed 19 (by decide), hv.fixed 20 (by decide), hv.fixed 21 (by decide), hv.fixed 22 (by decide), hv.fixed 23 (by decide), hv.fixed 24 (by decide), hv.fixed 48 (by decide), hv.get 22 (d := 47) rfl rfl (hall 22 (by decide))] at ha
    rw [ha]
    exact hK _ _ _ _ _ _ _ _ _ _ _ _ _ _ _ _ _ _ _ _ _ _ wc HO.out
noncomputable def rt_big_code : Code := ((Tryd.f34.body.bind (regionOf 6)).getD .skip)
def rt_big_dsts : List (Option Nat) := [some 25, some 26, some 27, some 28, some 29, some 30, some 31, some 32, some 33, some 34, some 35, some 36, some 37, some 38, some 39, some 40, some 41, some 42, some 43, some 44, some 45, some 46, some 47]
theorem rt_big_apart : apartD rt_big_dsts = true := by decide +kernel
set_option maxRecDepth 1000000 in
set_option maxHeartbeats 16000000 in
theorem rt_big (wr : World) (B k : Nat) (p : Int) (HC : Hid (¬ p < 0 ∧ 2 < p ∧ True)) (c0 c1 c3 c4 c7 c8 c9 c10 c11 c12 c13 c14 c15 c16 c17 c18 c19 c20 c21 c22 c23 c24 c25 c26 c27 c28 c29 c30 c31 c32 c33 c34 c35 c36 c37 c38 c39 c40 c41 c42 c43 c44 c45 c46 c47 c48 : Value) (df : List Deferred) (K : Act → World → Prop)
    (hK : ∀  (u25 u26 u27 u28 u29 u30 u31 u32 u33 u34 u35 u36 u37 u38 u39 u40 u41 u42 u43 u44 u45 u46 : Value) (wx : World), Ext wr wx → K ⟨#[c0, c1, .pointer (some ⟨B, 0, none⟩), c3, c4, .int .i64 (k : Nat), .int .i64 p, c7, c8, c9, c10, c11, c12, c13, c14, c15, c16, c17, c18, c19, c20, c21, c22, c23, c24, u25, u26, u27, u28, u29, u30, u31, u32, u33, u34, u35, u36, u37, u38, u39, u40, u41, u42, u43, u44, u45, u46, .bool true, c48], df⟩ wx) :
    Code.wp Tryd.prog rt_big_code (AtEnd K) ⟨#[c0, c1, .pointer (some ⟨B, 0, none⟩), c3, c4, .int .i64 (k : Nat), .int .i64 p, c7, c8, c9, c10, c11, c12, c13, c14, c15, c16, c17, c18, c19, c20, c21, c22, c23, c24, c25, c26, c27, c28, c29, c30, c31, c32, c33, c34, c35, c36, c37, c38, c39, c40, c41, c42, c43, c44, c45, c46, c47, c48], df⟩ wr := by
  conv => arg 2; whnf
  refine region_inv (by kernel_rfl) [[], [0], [1], [2], [3, 2], [2, 4], [5, 2], [6], [7, 6], [8, 6, 6], [9], [10, 9], [9], [11, 12, 9], [13, 9], [9], [15, 9], [9], [16, 17, 9], [18, 9], [14, 19, 9], [9, 20, 6], [6, 21]] (by kernel_rfl) [0, 1, 2, 3, 4, 5, 6, 7, 8, 9, 10, 11, 12, 13, 14, 15, 16, 17, 18, 19, 20, 21, 22] (by decide +kernel) (by decide +kernel) (by decide +kernel) (fun L a wc => Inv rt_big_dsts [.int .i64 p, .bool false, .bool false, .int .i64 p, .bool true, .bool true, .bool true, undef, undef, undef, undef, undef, undef, undef, undef, undef, undef, undef, undef, undef, undef, undef, .bool true] ⟨#[c0, c1, .pointer (some ⟨B, 0, none⟩), c3, c4, .int .i64 (k : Nat), .int .i64 p, c7, c8, c9, c10, c11, c12, c13, c14, c15, c16, c17, c18, c19, c20, c21, c22, c23, c24, c25, c26, c27, c28, c29, c30, c31, c32, c33, c34, c35, c36, c37, c38, c39, c40, c41, c42, c43, c44, c45, c46, c47, c48], df⟩ L a ∧ Hid (Ext wr wc)) ⟨Inv.start, Lib.hid ((Ext.refl wr).drew)⟩ ?_ ?_
  · refine ⟨?_, ?_, ?_, ?_, ?_, ?_, ?_, ?_, ?_, ?_, ?_, ?_, ?_, ?_, ?_, ?_, ?_, ?_, ?_, ?_, ?_, ?_, ?_, trivial⟩
    · -- 0 move
      rintro L a wc ⟨hv, HO⟩ hL hc hd
      exact wpOp_val rfl rfl (ex_move rfl ((hv.fixed 6 (by decide)).trans rfl)) ⟨hv.put rt_big_apart 0 rfl (Nat.le_of_ble_eq_true rfl) (Nat.le_of_ble_eq_true rfl) rfl, HO⟩
    · -- 1 bin
      rintro L a wc ⟨hv, HO⟩ hL hc hd
      have u := HC.out.1
      exact wpOp_val rfl rfl (ex_bin rfl (hv.get 0 rfl rfl (hd 0 (by decide))) rfl (by go_simp)) ⟨hv.put rt_big_apart 1 rfl (Nat.le_of_ble_eq_true rfl) (Nat.le_of_ble_eq_true rfl) rfl, HO⟩
    · -- 2 move
      rintro L a wc ⟨hv, HO⟩ hL hc hd
      exact wpOp_val rfl rfl (ex_move rfl (hv.get 1 rfl rfl (hd 1 (by decide)))) ⟨hv.put rt_big_apart 2 rfl (Nat.le_of_ble_eq_true rfl) (Nat.le_of_ble_eq_true rfl) rfl, HO⟩
    · -- 3 move
      rintro L a wc ⟨hv, HO⟩ hL hc hd
      exact wpOp_val rfl ((wanted_at rfl rfl (hv.get 2 rfl rfl (hd 2 (by decide)))).trans rfl) (ex_move rfl ((hv.fixed 6 (by decide)).trans rfl)) ⟨hv.put rt_big_apart 3 rfl (Nat.le_of_ble_eq_true rfl) (Nat.le_of_ble_eq_true rfl) rfl, HO⟩
    · -- 4 bin
      rintro L a wc ⟨hv, HO⟩ hL hc hd
      have u := HC.out.2.1
      exact wpOp_val rfl ((wanted_at rfl rfl (hv.get 2 rfl rfl (hd 2 (by decide)))).trans rfl) (ex_bin rfl (hv.get 3 rfl rfl (hd 3 (by decide))) rfl (by go_simp)) ⟨hv.put rt_big_apart 4 rfl (Nat.le_of_ble_eq_true rfl) (Nat.le_of_ble_eq_true rfl) rfl, HO⟩
    · -- 5 pick
      rintro L a wc ⟨hv, HO⟩ hL hc hd
      exact wpOp_val rfl rfl (ex_pick rfl (hv.get 2 rfl rfl (hd 2 (by decide))) ((if_neg (by simp)).trans (hv.get 4 rfl rfl (hd 4 (by decide))))) ⟨hv.put rt_big_apart 5 rfl (Nat.le_of_ble_eq_true rfl) (Nat.le_of_ble_eq_true rfl) rfl, HO⟩
    · -- 6 move
      rintro L a wc ⟨hv, HO⟩ hL hc hd
      exact wpOp_val rfl rfl (ex_move rfl (hv.get 5 rfl rfl (hd 5 (by decide)))) ⟨hv.put rt_big_apart 6 rfl (Nat.le_of_ble_eq_true rfl) (Nat.le_of_ble_eq_true rfl) rfl, HO⟩
    · -- 7 off
      rintro L a wc ⟨hv, HO⟩ hL hc hd
      exact wpOp_off rfl ((wanted_at rfl rfl (hv.get 6 rfl rfl (hd 6 (by decide)))).trans rfl) ⟨hv.put rt_big_apart 7 rfl (Nat.le_of_ble_eq_true rfl) (Nat.le_of_ble_eq_true rfl) rfl, HO⟩
    · -- 8 off
      rintro L a wc ⟨hv, HO⟩ hL hc hd
      exact wpOp_off rfl ((wanted_at rfl rfl (hv.get 6 rfl rfl (hd 6 (by decide)))).trans rfl) ⟨hv.put rt_big_apart 8 rfl (Nat.le_of_ble_eq_true rfl) (Nat.le_of_ble_eq_true rfl) rfl, HO⟩
    · -- 9 off
      rintro L a wc ⟨hv, HO⟩ hL hc hd
      exact wpOp_off rfl ((wanted_at rfl rfl (hv.get 6 rfl rfl (hd 6 (by decide)))).trans rfl) ⟨hv.put rt_big_apart 9 rfl (Nat.le_of_ble_eq_true rfl) (Nat.le_of_ble_eq_true rfl) rfl, HO⟩
    · -- 10 off
      rintro L a wc ⟨hv, HO⟩ hL hc hd
      exact wpOp_off rfl (wanted_undef rfl rfl (hv.get 9 rfl rfl (hd 9 (by decide)))) ⟨hv.put rt_big_apart 10 rfl (Nat.le_of_ble_eq_true rfl) (Nat.le_of_ble_eq_true rfl) rfl, HO⟩
    · -- 11 off
      rintro L a wc ⟨hv, HO⟩ hL hc hd
      exact wpOp_off rfl (wanted_undef rfl rfl (hv.get 9 rfl rfl (hd 9 (by decide)))) ⟨hv.put rt_big_apart 11 rfl (Nat.le_of_ble_eq_true rfl) (Nat.le_of_ble_eq_true rfl) rfl, HO⟩
    · -- 12 off
      rintro L a wc ⟨hv, HO⟩ hL hc hd
      exact wpOp_off rfl (wanted_undef rfl rfl (hv.get 9 rfl rfl (hd 9 (by decide)))) ⟨hv.put rt_big_apart 12 rfl (Nat.le_of_ble_eq_true rfl) (Nat.le_of_ble_eq_true rfl) rfl, HO⟩
    · -- 13 off
      rintro L a wc ⟨hv, HO⟩ hL hc hd
      exact wpOp_off rfl (wanted_undef rfl rfl (hv.get 9 rfl rfl (hd 9 (by decide)))) ⟨hv.put rt_big_apart 13 rfl (Nat.le_of_ble_eq_true rfl) (Nat.le_of_ble_eq_true rfl) rfl, HO⟩
    · -- 14 off
      rintro L a wc ⟨hv, HO⟩ hL hc hd
      exact wpOp_off rfl (wanted_undef rfl rfl (hv.get 9 rfl rfl (hd 9 (by decide)))) ⟨hv.put rt_big_apart 14 rfl (Nat.le_of_ble_eq_true rfl) (Nat.le_of_ble_eq_true rfl) rfl, HO⟩
    · -- 15 off
      rintro L a wc ⟨hv, HO⟩ hL hc hd
      exact wpOp_off rfl (wanted_undef rfl rfl (hv.get 9 rfl rfl (hd 9 (by decide)))) ⟨hv.put rt_big_apart 15 rfl (Nat.le_of_ble_eq_true rfl) (Nat.le_of_ble_eq_true rfl) rfl, HO⟩
    · -- 16 off
      rintro L a wc ⟨hv, HO⟩ hL hc hd
      exact wpOp_off rfl (wanted_undef rfl rfl (hv.get 9 rfl rfl (hd 9 (by decide)))) ⟨hv.put rt_big_apart 16 rfl (Nat.le_of_ble_eq_true rfl) (Nat.le_of_ble_eq_true rfl) rfl, HO⟩
    · -- 17 off
      rintro L a wc ⟨hv, HO⟩ hL hc hd
      exact wpOp_off rfl (wanted_undef rfl rfl (hv.get 9 rfl rfl (hd 9 (by decide)))) ⟨hv.put rt_big_apart 17 rfl (Nat.le_of_ble_eq_true rfl) (Nat.le_of_ble_eq_true rfl) rfl, HO⟩
    · -- 18 off
      rintro L a wc ⟨hv, HO⟩ hL hc hd
      exact wpOp_off rfl (wanted_undef rfl rfl (hv.get 9 rfl rfl (hd 9 (by decide)))) ⟨hv.put rt_big_apart 18 rfl (Nat.le_of_ble_eq_true rfl) (Nat.le_of_ble_eq_true rfl) rfl, HO⟩
    · -- 19 off
      rintro L a wc ⟨hv, HO⟩ hL hc hd
      exact wpOp_off rfl (wanted_undef rfl rfl (hv.get 9 rfl rfl (hd 9 (by decide)))) ⟨hv.put rt_big_apart 19 rfl (Nat.le_of_ble_eq_true rfl) (Nat.le_of_ble_eq_true rfl) rfl, HO⟩
    · -- 20 off
      rintro L a wc ⟨hv, HO⟩ hL hc hd
      exact wpOp_off rfl (wanted_undef rfl rfl (hv.get 9 rfl rfl (hd 9 (by decide)))) ⟨hv.put rt_big_apart 20 rfl (Nat.le_of_ble_eq_true rfl) (Nat.le_of_ble_eq_true rfl) rfl, HO⟩
    · -- 21 off
      rintro L a wc ⟨hv, HO⟩ hL hc hd
      exact wpOp_off rfl ((wanted_at rfl rfl (hv.get 6 rfl rfl (hd 6 (by decide)))).trans rfl) ⟨hv.put rt_big_apart 21 rfl (Nat.le_of_ble_eq_true rfl) (Nat.le_of_ble_eq_true rfl) rfl, HO⟩
    · -- 22 pick
      rintro L a wc ⟨hv, HO⟩ hL hc hd
      exact wpOp_val rfl rfl (ex_pick rfl (hv.get 6 rfl rfl (hd 6 (by decide))) rfl) ⟨hv.put rt_big_apart 22 rfl (Nat.le_of_ble_eq_true rfl) (Nat.le_of_ble_eq_true rfl) rfl, HO⟩
  · rintro L a wc ⟨hv, HO⟩ hall
    show K a wc
    have ha := act_lit a
    rw [hv.size, hv.defers] at ha
    have hl : ∀ f : Nat → Value, ((List.range (⟨#[c0, c1, .pointer (some ⟨B, 0, none⟩), c3, c4, .int .i64 (k : Nat), .int .i64 p, c7, c8, c9, c10, c11, c12, c13, c14, c15, c16, c17, c18, c19, c20, c21, c22, c23, c24, c25, c26, c27, c28, c29, c30, c31, c32, c33, c34, c35, c36, c37, c38, c39, c40, c41, c42, c43, c44, c45, c46, c47, c48], df⟩ : Act).tmps.size).map f).toArray = #[f 0, f 1, f 2, f 3, f 4, f 5, f 6, f 7, f 8, f 9, f 10, f 11, f 12, f 13, f 14, f 15, f 16, f 17, f 18, f 19, f 20, f 21, f 22, f 23, f 24, f 25, f 26, f 27, f 28, f 29, f 30, f 31, f 32, f 33, f 34, f 35, f 36, f 37, f 38, f 39, f 40, f 41, f 42, f 43, f 44, f 45, f 46, f 47, f 48] := fun _ => rfl
    rw [hl] at ha
    simp only [hv.fixed 0 (by decide), hv.fixed 1 (by decide), hv.fixed 2 (by decide), hv.fixed 3 (by decide), hv.fixed 4 (by decide), hv.fixed 5 (by decide), hv.fixed 6 (by decide), hv.fixed 7 (by decide), hv.fixed 8 (by decide), hv.fixed 9 (by decide), hv.fixed 10 (by decide), hv.fixed 11 (by decide), hv.fixed 12 (by decide), hv.fixed 13 (by decide), hv.fixed 14 (by decide), hv.fixed 15 (by decide), hv.fixed 16 (by decide), hv.fixed 17 (by decide), hv.fixed 18 (by decide), hv.fixed 19 (by decide), hv.fixed 20 (by decide), hv.fixed 21 (by decide), hv.fixed 22 (by decide), hv.fixed 23 (by decide), hv.fixed 24 (by decide), hv.fixed 48 (by decide), hv.get 22 (d := 47) rfl rfl (hall 22 (by decide))] at ha
    rw [ha]
    exact hK _ _ _ _ _ _ _ _ _ _ _ _ _ _ _ _ _ _ _ _ _ _ wc HO.out
noncomputable def rt_zero_code : Code := ((Tryd.f34.body.bind (regionOf 6)).getD .skip)
def rt_zero_dsts : List (Option Nat) := [some 25, some 26, some 27, some 28, some 29, some 30, some 31, some 32, some 33, some 34, some 35, some 36, some 37, some 38, some 39, some 40, some 41, some 42, some 43, some 44, some 45, some 46, some 47]
theorem rt_zero_apart : apartD rt_zero_dsts = true := by decide +kernel
set_option maxRecDepth 1000000 in
set_option maxHeartbeats 16000000 in
theorem rt_zero (wr : World) (B k : Nat) (p : Int) (HC : Hid (¬ p < 0 ∧ ¬ 2 < p ∧ ¬ 0 < p)) (c0 c1 c3 c4 c7 c8 c9 c10 c11 c12 c13 c14 c15 c16 c17 c18 c19 c20 c21 c22 c23 c24 c25 c26 c27 c28 c29 c30 c31 c32 c33 c34 c35 c36 c37 c38 c39 c40 c41 c42 c43 c44 c45 c46 c47 c48 : Value) (df : List Deferred) (K : Act → World → Prop)
    (hK : ∀  (u25 u26 u27 u28 u29 u30 u31 u32 u33 u34 u35 u36 u37 u38 u39 u40 u41 u42 u43 u44 u45 u46 : Value) (wx : World), Ext wr wx → K ⟨#[c0, c1, .pointer (some ⟨B, 0, none⟩), c3, c4, .int .i64 (k : Nat), .int .i64 p, c7, c8, c9, c10, c11, c12, c13, c14, c15, c16, c17, c18, c19, c20, c21, c22, c23, c24, u25, u26, u27, u28, u29, u30, u31, u32, u33, u34, u35, u36, u37, u38, u39, u40, u41, u42, u43, u44, u45, u46, .bool false, c48], df⟩ wx) :
    Code.wp Tryd.prog rt_zero_code (AtEnd K) ⟨#[c0, c1, .pointer (some ⟨B, 0, none⟩), c3, c4, .int .i64 (k : Nat), .int .i64 p, c7, c8, c9, c10, c11, c12, c13, c14, c15, c16, c17, c18, c19, c20, c21, c22, c23, c24, c25, c26, c27, c28, c29, c30, c31, c32, c33, c34, c35, c36, c37, c38, c39, c40, c41, c42, c43, c44, c45, c46, c47, c48], df⟩ wr := by
  conv => arg 2; whnf
  refine region_inv (by kernel_rfl) [[], [0], [1], [2], [3, 2], [2, 4], [5, 2], [6], [7, 6], [8, 6, 6], [9], [10, 9], [9], [11, 12, 9], [13, 9], [9], [15, 9], [9], [16, 17, 9], [18, 9], [14, 19, 9], [9, 20, 6], [6, 21]] (by kernel_rfl) [0, 1, 2, 3, 4, 5, 6, 7, 8, 9, 10, 11, 12, 13, 14, 15, 16, 17, 18, 19, 20, 21, 22] (by decide +kernel) (by decide +kernel) (by decide +kernel) (fun L a wc => Inv rt_zero_dsts [.int .i64 p, .bool false, .bool false, .int .i64 p, .bool false, .bool false, .bool false, .int .i64 p, .bool false, .bool false, undef, undef, undef, undef, undef, undef, undef, undef, undef, undef, undef, .bool false, .bool false] ⟨#[c0, c1, .pointer (some ⟨B, 0, none⟩), c3, c4, .int .i64 (k : Nat), .int .i64 p, c7, c8, c9, c10, c11, c12, c13, c14, c15, c16, c17, c18, c19, c20, c21, c22, c23, c24, c25, c26, c27, c28, c29, c30, c31, c32, c33, c34, c35, c36, c37, c38, c39, c40, c41, c42, c43, c44, c45, c46, c47, c48], df⟩ L a ∧ Hid (Ext wr wc)) ⟨Inv.start, Lib.hid ((Ext.refl wr).drew)⟩ ?_ ?_
  · refine ⟨?_, ?_, ?_, ?_, ?_, ?_, ?_, ?_, ?_, ?_, ?_, ?_, ?_, ?_, ?_, ?_, ?_, ?_, ?_, ?_, ?_, ?_, ?_, trivial⟩
    · -- 0 move
      rintro L a wc ⟨hv, HO⟩ hL hc hd
      exact wpOp_val rfl rfl (ex_move rfl ((hv.fixed 6 (by decide)).trans rfl)) ⟨hv.put rt_zero_apart 0 rfl (Nat.le_of_ble_eq_true rfl) (Nat.le_of_ble_eq_true rfl) rfl, HO⟩
    · -- 1 bin
      rintro L a wc ⟨hv, HO⟩ hL hc hd
      have u := HC.out.1
      exact wpOp_val rfl rfl (ex_bin rfl (hv.get 0 rfl rfl (hd 0 (by decide))) rfl (by go_simp)) ⟨hv.put rt_zero_apart 1 rfl (Nat.le_of_ble_eq_true rfl) (Nat.le_of_ble_eq_true rfl) rfl, HO⟩
    · -- 2 move
      rintro L a wc ⟨hv, HO⟩ hL hc hd
      exact wpOp_val rfl rfl (ex_move rfl (hv.get 1 rfl rfl (hd 1 (by decide)))) ⟨hv.put rt_zero_apart 2 rfl (Nat.le_of_ble_eq_true rfl) (Nat.le_of_ble_eq_true rfl) rfl, HO⟩
    · -- 3 move
      rintro L a wc ⟨hv, HO⟩ hL hc hd
      exact wpOp_val rfl ((wanted_at rfl rfl (hv.get 2 rfl rfl (hd 2 (by decide)))).trans rfl) (ex_move rfl ((hv.fixed 6 (by decide)).trans rfl)) ⟨hv.put rt_zero_apart 3 rfl (Nat.le_of_ble_eq_true rfl) (Nat.le_of_ble_eq_true rfl) rfl, HO⟩
    · -- 4 bin
      rintro L a wc ⟨hv, HO⟩ hL hc hd
      have u := HC.out.2.1
      exact wpOp_val rfl ((wanted_at rfl rfl (hv.get 2 rfl rfl (hd 2 (by decide)))).trans rfl) (ex_bin rfl (hv.get 3 rfl rfl (hd 3 (by decide))) rfl (by go_simp)) ⟨hv.put rt_zero_apart 4 rfl (Nat.le_of_ble_eq_true rfl) (Nat.le_of_ble_eq_true rfl) rfl, HO⟩
    · -- 5 pick
      rintro L a wc ⟨hv, HO⟩ hL hc hd
      exact wpOp_val rfl rfl (ex_pick rfl (hv.get 2 rfl rfl (hd 2 (by decide))) ((if_neg (by simp)).trans (hv.get 4 rfl rfl (hd 4 (by decide))))) ⟨hv.put rt_zero_apart 5 rfl (Nat.le_of_ble_eq_true rfl) (Nat.le_of_ble_eq_true rfl) rfl, HO⟩
    · -- 6 move
      rintro L a wc ⟨hv, HO⟩ hL hc hd
      exact wpOp_val rfl rfl (ex_move rfl (hv.get 5 rfl rfl (hd 5 (by decide)))) ⟨hv.put rt_zero_apart 6 rfl (Nat.le_of_ble_eq_true rfl) (Nat.le_of_ble_eq_true rfl) rfl, HO⟩
    · -- 7 move
      rintro L a wc ⟨hv, HO⟩ hL hc hd
      exact wpOp_val rfl ((wanted_at rfl rfl (hv.get 6 rfl rfl (hd 6 (by decide)))).trans rfl) (ex_move rfl ((hv.fixed 6 (by decide)).trans rfl)) ⟨hv.put rt_zero_apart 7 rfl (Nat.le_of_ble_eq_true rfl) (Nat.le_of_ble_eq_true rfl) rfl, HO⟩
    · -- 8 bin
      rintro L a wc ⟨hv, HO⟩ hL hc hd
      have u := HC.out.2.2
      exact wpOp_val rfl ((wanted_at rfl rfl (hv.get 6 rfl rfl (hd 6 (by decide)))).trans rfl) (ex_bin rfl (hv.get 7 rfl rfl (hd 7 (by decide))) rfl (by go_simp)) ⟨hv.put rt_zero_apart 8 rfl (Nat.le_of_ble_eq_true rfl) (Nat.le_of_ble_eq_true rfl) rfl, HO⟩
    · -- 9 move
      rintro L a wc ⟨hv, HO⟩ hL hc hd
      exact wpOp_val rfl ((wanted_at rfl rfl (hv.get 6 rfl rfl (hd 6 (by decide)))).trans rfl) (ex_move rfl (hv.get 8 rfl rfl (hd 8 (by decide)))) ⟨hv.put rt_zero_apart 9 rfl (Nat.le_of_ble_eq_true rfl) (Nat.le_of_ble_eq_true rfl) rfl, HO⟩
    · -- 10 off
      rintro L a wc ⟨hv, HO⟩ hL hc hd
      exact wpOp_off rfl ((wanted_at rfl rfl (hv.get 9 rfl rfl (hd 9 (by decide)))).trans rfl) ⟨hv.put rt_zero_apart 10 rfl (Nat.le_of_ble_eq_true rfl) (Nat.le_of_ble_eq_true rfl) rfl, HO⟩
    · -- 11 off
      rintro L a wc ⟨hv, HO⟩ hL hc hd
      exact wpOp_off rfl ((wanted_at rfl rfl (hv.get 9 rfl rfl (hd 9 (by decide)))).trans rfl) ⟨hv.put rt_zero_apart 11 rfl (Nat.le_of_ble_eq_true rfl) (Nat.le_of_ble_eq_true rfl) rfl, HO⟩
    · -- 12 off
      rintro L a wc ⟨hv, HO⟩ hL hc hd
      exact wpOp_off rfl ((wanted_at rfl rfl (hv.get 9 rfl rfl (hd 9 (by decide)))).trans rfl) ⟨hv.put rt_zero_apart 12 rfl (Nat.le_of_ble_eq_true rfl) (Nat.le_of_ble_eq_true rfl) rfl, HO⟩
    · -- 13 off
      rintro L a wc ⟨hv, HO⟩ hL hc hd
      exact wpOp_off rfl ((wanted_at rfl rfl (hv.get 9 rfl rfl (hd 9 (by decide)))).trans rfl) ⟨hv.put rt_zero_apart 13 rfl (Nat.le_of_ble_eq_true rfl) (Nat.le_of_ble_eq_true rfl) rfl, HO⟩
    · -- 14 off
      rintro L a wc ⟨hv, HO⟩ hL hc hd
      exact wpOp_off rfl ((wanted_at rfl rfl (hv.get 9 rfl rfl (hd 9 (by decide)))).trans rfl) ⟨hv.put rt_zero_apart 14 rfl (Nat.le_of_ble_eq_true rfl) (Nat.le_of_ble_eq_true rfl) rfl, HO⟩
    · -- 15 off
      rintro L a wc ⟨hv, HO⟩ hL hc hd
      exact wpOp_off rfl ((wanted_at rfl rfl (hv.get 9 rfl rfl (hd 9 (by decide)))).trans rfl) ⟨hv.put rt_zero_apart 15 rfl (Nat.le_of_ble_eq_true rfl) (Nat.le_of_ble_eq_true rfl) rfl, HO⟩
    · -- 16 off
      rintro L a wc ⟨hv, HO⟩ hL hc hd
      exact wpOp_off rfl ((wanted_at rfl rfl (hv.get 9 rfl rfl (hd 9 (by decide)))).trans rfl) ⟨hv.put rt_zero_apart 16 rfl (Nat.le_of_ble_eq_true rfl) (Nat.le_of_ble_eq_true rfl) rfl, HO⟩
    · -- 17 off
      rintro L a wc ⟨hv, HO⟩ hL hc hd
      exact wpOp_off rfl ((wanted_at rfl rfl (hv.get 9 rfl rfl (hd 9 (by decide)))).trans rfl) ⟨hv.put rt_zero_apart 17 rfl (Nat.le_of_ble_eq_true rfl) (Nat.le_of_ble_eq_true rfl) rfl, HO⟩
    · -- 18 off
      rintro L a wc ⟨hv, HO⟩ hL hc hd
      exact wpOp_off rfl ((wanted_at rfl rfl (hv.get 9 rfl rfl (hd 9 (by decide)))).trans rfl) ⟨hv.put rt_zero_apart 18 rfl (Nat.le_of_ble_eq_true rfl) (Nat.le_of_ble_eq_true rfl) rfl, HO⟩
    · -- 19 off
      rintro L a wc ⟨hv, HO⟩ hL hc hd
      exact wpOp_off rfl ((wanted_at rfl rfl (hv.get 9 rfl rfl (hd 9 (by decide)))).trans rfl) ⟨hv.put rt_zero_apart 19 rfl (Nat.le_of_ble_eq_true rfl) (Nat.le_of_ble_eq_true rfl) rfl, HO⟩
    · -- 20 off
      rintro L a wc ⟨hv, HO⟩ hL hc hd
      exact wpOp_off rfl ((wanted_at rfl rfl (hv.get 9 rfl rfl (hd 9 (by decide)))).trans rfl) ⟨hv.put rt_zero_apart 20 rfl (Nat.le_of_ble_eq_true rfl) (Nat.le_of_ble_eq_true rfl) rfl, HO⟩
    · -- 21 pick
      rintro L a wc ⟨hv, HO⟩ hL hc hd
      exact wpOp_val rfl ((wanted_at rfl rfl (hv.get 6 rfl rfl (hd 6 (by decide)))).trans rfl) (ex_pick rfl (hv.get 9 rfl rfl (hd 9 (by decide))) ((if_neg (by simp)).trans rfl)) ⟨hv.put rt_zero_apart 21 rfl (Nat.le_of_ble_eq_true rfl) (Nat.le_of_ble_eq_true rfl) rfl, HO⟩
    · -- 22 pick
      rintro L a wc ⟨hv, HO⟩ hL hc hd
      exact wpOp_val rfl rfl (ex_pick rfl (hv.get 6 rfl rfl (hd 6 (by decide))) ((if_neg (by simp)).trans (hv.get 21 rfl rfl (hd 21 (by decide))))) ⟨hv.put rt_zero_apart 22 rfl (Nat.le_of_ble_eq_true rfl) (Nat.le_of_ble_eq_true rfl) rfl, HO⟩
  · rintro L a wc ⟨hv, HO⟩ hall
    show K a wc
    have ha := act_lit a
    rw [hv.size, hv.defers] at ha
    have hl : ∀ f : Nat → Value, ((List.range (⟨#[c0, c1, .pointer (some ⟨B, 0, none⟩), c3, c4, .int .i64 (k : Nat), .int .i64 p, c7, c8, c9, c10, c11, c12, c13, c14, c15, c16, c17, c18, c19, c20, c21, c22, c23, c24, c25, c26, c27, c28, c29, c30, c31, c32, c33, c34, c35, c36, c37, c38, c39, c40, c41, c42, c43, c44, c45, c46, c47, c48], df⟩ : Act).tmps.size).map f).toArray = #[f 0, f 1, f 2, f 3, f 4, f 5, f 6, f 7, f 8, f 9, f 10, f 11, f 12, f 13, f 14, f 15, f 16, f 17, f 18, f 19, f 20, f 21, f 22, f 23, f 24, f 25, f 26, f 27, f 28, f 29, f 30, f 31, f 32, f 33, f 34, f 35, f 36, f 37, f 38, f 39, f 40, f 41, f 42, f 43, f 44, f 45, f 46, f 47, f 48] := fun _ => rfl
    rw [hl] at ha
    simp only [hv.fixed 0 (by decide), hv.fixed 1 (by decide), hv.fixed 2 (by decide), hv.fixed 3 (by decide), hv.fixed 4 (by decide), hv.fixed 5 (by decide), hv.fixed 6 (by decide), hv.fixed 7 (by decide), hv.fixed 8 (by decide), hv.fixed 9 (by decide), hv.fixed 10 (by decide), hv.fixed 11 (by decide), hv.fixed 12 (by decide), hv.fixed 13 (by decide), hv.fixed 14 (by decide), hv.fixed 15 (by decide), hv.fixed 16 (by decide), hv.fixed 17 (by decide), hv.fixed 18 (by decide), hv.fixed 19 (by decide), hv.fixed 20 (by decide), hv.fixed 21 (by decide), hv.fixed 22 (by decide), hv.fixed 23 (by decide), hv.fixed 24 (by decide), hv.fixed 48 (by decide), hv.get 22 (d := 47) rfl rfl (hall 22 (by decide))] at ha
    rw [ha]
    exact hK _ _ _ _ _ _ _ _ _ _ _ _ _ _ _ _ _ _ _ _ _ _ wc HO.out
noncomputable def rt_eq_code : Code := ((Tryd.f34.body.bind (regionOf 6)).getD .skip)
def rt_eq_dsts : List (Option Nat) := [some 25, some 26, some 27, some 28, some 29, some 30, some 31, some 32, some 33, some 34, some 35, some 36, some 37, some 38, some 39, some 40, some 41, some 42, some 43, some 44, some 45, some 46, some 47]
theorem rt_eq_apart : apartD rt_eq_dsts = true := by decide +kernel
set_option maxRecDepth 1000000 in
set_option maxHeartbeats 16000000 in
theorem rt_eq (wr : World) (B k nf nt cF cT : Nat) (pf pt : Addr) (p y z : Int) (HC : Hid (¬ p < 0 ∧ ¬ 2 < p ∧ 0 < p)) (hkf : k < nf) (hkt : k < nt) (b8 : wr.cell? ⟨B, 9, none⟩ = some (.slice (some pf) nf cF)) (b9 : wr.cell? ⟨B, 10, none⟩ = some (.slice (some pt) nt cT)) (cf : wr.cell? (pf.add k) = some (.int .i64 y)) (ct : wr.cell? (pt.add k) = some (.int .i64 z)) (HYZ : Hid ((y == z) = true)) (c0 c1 c3 c4 c7 c8 c9 c10 c11 c12 c13 c14 c15 c16 c17 c18 c19 c20 c21 c22 c23 c24 c25 c26 c27 c28 c29 c30 c31 c32 c33 c34 c35 c36 c37 c38 c39 c40 c41 c42 c43 c44 c45 c46 c47 c48 : Value) (df : List Deferred) (K : Act → World → Prop)
    (hK : ∀  (u25 u26 u27 u28 u29 u30 u31 u32 u33 u34 u35 u36 u37 u38 u39 u40 u41 u42 u43 u44 u45 u46 : Value) (wx : World), Ext wr wx → K ⟨#[c0, c1, .pointer (some ⟨B, 0, none⟩), c3, c4, .int .i64 (k : Nat), .int .i64 p, c7, c8, c9, c10, c11, c12, c13, c14, c15, c16, c17, c18, c19, c20, c21, c22, c23, c24, u25, u26, u27, u28, u29, u30, u31, u32, u33, u34, u35, u36, u37, u38, u39, u40, u41, u42, u43, u44, u45, u46, .bool true, c48], df⟩ wx) :
    Code.wp Tryd.prog rt_eq_code (AtEnd K) ⟨#[c0, c1, .pointer (some ⟨B, 0, none⟩), c3, c4, .int .i64 (k : Nat), .int .i64 p, c7, c8, c9, c10, c11, c12, c13, c14, c15, c16, c17, c18, c19, c20, c21, c22, c23, c24, c25, c26, c27, c28, c29, c30, c31, c32, c33, c34, c35, c36, c37, c38, c39, c40, c41, c42, c43, c44, c45, c46, c47, c48], df⟩ wr := by
  conv => arg 2; whnf
  refine region_inv (by kernel_rfl) [[], [0], [1], [2], [3, 2], [2, 4], [5, 2], [6], [7, 6], [8, 6, 6], [9], [10, 9], [9], [11, 12, 9], [13, 9], [9], [15, 9], [9], [16, 17, 9], [18, 9], [14, 19, 9], [9, 20, 6], [6, 21]] (by kernel_rfl) [0, 1, 2, 3, 4, 5, 6, 7, 8, 9, 10, 11, 12, 13, 14, 15, 16, 17, 18, 19, 20, 21, 22] (by decide +kernel) (by decide +kernel) (by decide +kernel) (fun L a wc => Inv rt_eq_dsts [.int .i64 p, .bool false, .bool false, .int .i64 p, .bool false, .bool false, .bool false, .int .i64 p, .bool true, .bool true, .pointer (some ⟨B, 9, none⟩), .slice (some pf) nf cF, .int .i64 (k : Nat), .pointer (some (pf.add k)), .int .i64 y, .pointer (some ⟨B, 10, none⟩), .slice (some pt) nt cT, .int .i64 (k : Nat), .pointer (some (pt.add k)), .int .i64 z, .bool true, .bool true, .bool true] ⟨#[c0, c1, .pointer (some ⟨B, 0, none⟩), c3, c4, .int .i64 (k : Nat), .int .i64 p, c7, c8, c9, c10, c11, c12, c13, c14, c15, c16, c17, c18, c19, c20, c21, c22, c23, c24, c25, c26, c27, c28, c29, c30, c31, c32, c33, c34, c35, c36, c37, c38, c39, c40, c41, c42, c43, c44, c45, c46, c47, c48], df⟩ L a ∧ Hid (Ext wr wc)) ⟨Inv.start, Lib.hid ((Ext.refl wr).drew)⟩ ?_ ?_
  · refine ⟨?_, ?_, ?_, ?_, ?_, ?_, ?_, ?_, ?_, ?_, ?_, ?_, ?_, ?_, ?_, ?_, ?_, ?_, ?_, ?_, ?_, ?_, ?_, trivial⟩
    · -- 0 move
      rintro L a wc ⟨hv, HO⟩ hL hc hd
      exact wpOp_val rfl rfl (ex_move rfl ((hv.fixed 6 (by decide)).trans rfl)) ⟨hv.put rt_eq_apart 0 rfl (Nat.le_of_ble_eq_true rfl) (Nat.le_of_ble_eq_true rfl) rfl, HO⟩
    · -- 1 bin
      rintro L a wc ⟨hv, HO⟩ hL hc hd
      have u := HC.out.1
      exact wpOp_val rfl rfl (ex_bin rfl (hv.get 0 rfl rfl (hd 0 (by decide))) rfl (by go_simp)) ⟨hv.put rt_eq_apart 1 rfl (Nat.le_of_ble_eq_true rfl) (Nat.le_of_ble_eq_true rfl) rfl, HO⟩
    · -- 2 move
      rintro L a wc ⟨hv, HO⟩ hL hc hd
      exact wpOp_val rfl rfl (ex_move rfl (hv.get 1 rfl rfl (hd 1 (by decide)))) ⟨hv.put rt_eq_apart 2 rfl (Nat.le_of_ble_eq_true rfl) (Nat.le_of_ble_eq_true rfl) rfl, HO⟩
    · -- 3 move
      rintro L a wc ⟨hv, HO⟩ hL hc hd
      exact wpOp_val rfl ((wanted_at rfl rfl (hv.get 2 rfl rfl (hd 2 (by decide)))).trans rfl) (ex_move rfl ((hv.fixed 6 (by decide)).trans rfl)) ⟨hv.put rt_eq_apart 3 rfl (Nat.le_of_ble_eq_true rfl) (Nat.le_of_ble_eq_true rfl) rfl, HO⟩
    · -- 4 bin
      rintro L a wc ⟨hv, HO⟩ hL hc hd
      have u := HC.out.2.1
      exact wpOp_val rfl ((wanted_at rfl rfl (hv.get 2 rfl rfl (hd 2 (by decide)))).trans rfl) (ex_bin rfl (hv.get 3 rfl rfl (hd 3 (by decide))) rfl (by go_simp)) ⟨hv.put rt_eq_apart 4 rfl (Nat.le_of_ble_eq_true rfl) (Nat.le_of_ble_eq_true rfl) rfl, HO⟩
    · -- 5 pick
      rintro L a wc ⟨hv, HO⟩ hL hc hd
      exact wpOp_val rfl rfl (ex_pick rfl (hv.get 2 rfl rfl (hd 2 (by decide))) ((if_neg (by simp)).trans (hv.get 4 rfl rfl (hd 4 (by decide))))) ⟨hv.put rt_eq_apart 5 rfl (Nat.le_of_ble_eq_true rfl) (Nat.le_of_ble_eq_true rfl) rfl, HO⟩
    · -- 6 move
      rintro L a wc ⟨hv, HO⟩ hL hc hd
      exact wpOp_val rfl rfl (ex_move rfl (hv.get 5 rfl rfl (hd 5 (by decide)))) ⟨hv.put rt_eq_apart 6 rfl (Nat.le_of_ble_eq_true rfl) (Nat.le_of_ble_eq_true rfl) rfl, HO⟩
    · -- 7 move
      rintro L a wc ⟨hv, HO⟩ hL hc hd
      exact wpOp_val rfl ((wanted_at rfl rfl (hv.get 6 rfl rfl (hd 6 (by decide)))).trans rfl) (ex_move rfl ((hv.fixed 6 (by decide)).trans rfl)) ⟨hv.put rt_eq_apart 7 rfl (Nat.le_of_ble_eq_true rfl) (Nat.le_of_ble_eq_true rfl) rfl, HO⟩
    · -- 8 bin
      rintro L a wc ⟨hv, HO⟩ hL hc hd
      have u := HC.out.2.2
      exact wpOp_val rfl ((wanted_at rfl rfl (hv.get 6 rfl rfl (hd 6 (by decide)))).trans rfl) (ex_bin rfl (hv.get 7 rfl rfl (hd 7 (by decide))) rfl (by go_simp)) ⟨hv.put rt_eq_apart 8 rfl (Nat.le_of_ble_eq_true rfl) (Nat.le_of_ble_eq_true rfl) rfl, HO⟩
    · -- 9 move
      rintro L a wc ⟨hv, HO⟩ hL hc hd
      exact wpOp_val rfl ((wanted_at rfl rfl (hv.get 6 rfl rfl (hd 6 (by decide)))).trans rfl) (ex_move rfl (hv.get 8 rfl rfl (hd 8 (by decide)))) ⟨hv.put rt_eq_apart 9 rfl (Nat.le_of_ble_eq_true rfl) (Nat.le_of_ble_eq_true rfl) rfl, HO⟩
    · -- 10 field
      rintro L a wc ⟨hv, HO⟩ hL hc hd
      exact wpOp_val rfl ((wanted_at rfl rfl (hv.get 9 rfl rfl (hd 9 (by decide)))).trans rfl) (ex_field rfl ((hv.fixed 2 (by decide)).trans rfl) (by go_simp)) ⟨hv.put rt_eq_apart 10 rfl (Nat.le_of_ble_eq_true rfl) (Nat.le_of_ble_eq_true rfl) rfl, HO⟩
    · -- 11 load
      rintro L a wc ⟨hv, HO⟩ hL hc hd
      have h8 : wc.cell? ⟨B, 9, none⟩ = some (.slice (some pf) nf cF) := HO.out.cell b8
      exact wpOp_val rfl ((wanted_at rfl rfl (hv.get 9 rfl rfl (hd 9 (by decide)))).trans rfl) (ex_load rfl (hv.get 10 rfl rfl (hd 10 (by decide))) (by go_simp)) ⟨hv.put rt_eq_apart 11 rfl (Nat.le_of_ble_eq_true rfl) (Nat.le_of_ble_eq_true rfl) rfl, HO⟩
    · -- 12 move
      rintro L a wc ⟨hv, HO⟩ hL hc hd
      exact wpOp_val rfl ((wanted_at rfl rfl (hv.get 9 rfl rfl (hd 9 (by decide)))).trans rfl) (ex_move rfl ((hv.fixed 5 (by decide)).trans rfl)) ⟨hv.put rt_eq_apart 12 rfl (Nat.le_of_ble_eq_true rfl) (Nat.le_of_ble_eq_true rfl) rfl, HO⟩
    · -- 13 index
      rintro L a wc ⟨hv, HO⟩ hL hc hd
      have u1 : (0 : Int) ≤ (k : Int) := by omega
      have u2 : (k : Int) < (nf : Int) := by omega
      exact wpOp_val rfl ((wanted_at rfl rfl (hv.get 9 rfl rfl (hd 9 (by decide)))).trans rfl) (ex_index rfl (hv.get 11 rfl rfl (hd 11 (by decide))) (hv.get 12 rfl rfl (hd 12 (by decide))) (by go_simp)) ⟨hv.put rt_eq_apart 13 rfl (Nat.le_of_ble_eq_true rfl) (Nat.le_of_ble_eq_true rfl) rfl, HO⟩
    · -- 14 load
      rintro L a wc ⟨hv, HO⟩ hL hc hd
      have h1 : wc.cell? (pf.add k) = some (.int .i64 y) := HO.out.cell cf
      exact wpOp_val rfl ((wanted_at rfl rfl (hv.get 9 rfl rfl (hd 9 (by decide)))).trans rfl) (ex_load rfl (hv.get 13 rfl rfl (hd 13 (by decide))) (by go_simp)) ⟨hv.put rt_eq_apart 14 rfl (Nat.le_of_ble_eq_true rfl) (Nat.le_of_ble_eq_true rfl) rfl, HO⟩
    · -- 15 field
      rintro L a wc ⟨hv, HO⟩ hL hc hd
      exact wpOp_val rfl ((wanted_at rfl rfl (hv.get 9 rfl rfl (hd 9 (by decide)))).trans rfl) (ex_field rfl ((hv.fixed 2 (by decide)).trans rfl) (by go_simp)) ⟨hv.put rt_eq_apart 15 rfl (Nat.le_of_ble_eq_true rfl) (Nat.le_of_ble_eq_true rfl) rfl, HO⟩
    · -- 16 load
      rintro L a wc ⟨hv, HO⟩ hL hc hd
      have h9 : wc.cell? ⟨B, 10, none⟩ = some (.slice (some pt) nt cT) := HO.out.cell b9
      exact wpOp_val rfl ((wanted_at rfl rfl (hv.get 9 rfl rfl (hd 9 (by decide)))).trans rfl) (ex_load rfl (hv.get 15 rfl rfl (hd 15 (by decide))) (by go_simp)) ⟨hv.put rt_eq_apart 16 rfl (Nat.le_of_ble_eq_true rfl) (Nat.le_of_ble_eq_true rfl) rfl, HO⟩
    · -- 17 move
      rintro L a wc ⟨hv, HO⟩ hL hc hd
      exact wpOp_val rfl ((wanted_at rfl rfl (hv.get 9 rfl rfl (hd 9 (by decide)))).trans rfl) (ex_move rfl ((hv.fixed 5 (by decide)).trans rfl)) ⟨hv.put rt_eq_apart 17 rfl (Nat.le_of_ble_eq_true rfl) (Nat.le_of_ble_eq_true rfl) rfl, HO⟩
    · -- 18 index
      rintro L a wc ⟨hv, HO⟩ hL hc hd
      have u1 : (0 : Int) ≤ (k : Int) := by omega
      have u2 : (k : Int) < (nt : Int) := by omega
      exact wpOp_val rfl ((wanted_at rfl rfl (hv.get 9 rfl rfl (hd 9 (by decide)))).trans rfl) (ex_index rfl (hv.get 16 rfl rfl (hd 16 (by decide))) (hv.get 17 rfl rfl (hd 17 (by decide))) (by go_simp)) ⟨hv.put rt_eq_apart 18 rfl (Nat.le_of_ble_eq_true rfl) (Nat.le_of_ble_eq_true rfl) rfl, HO⟩
    · -- 19 load
      rintro L a wc ⟨hv, HO⟩ hL hc hd
      have h1 : wc.cell? (pt.add k) = some (.int .i64 z) := HO.out.cell ct
      exact wpOp_val rfl ((wanted_at rfl rfl (hv.get 9 rfl rfl (hd 9 (by decide)))).trans rfl) (ex_load rfl (hv.get 18 rfl rfl (hd 18 (by decide))) (by go_simp)) ⟨hv.put rt_eq_apart 19 rfl (Nat.le_of_ble_eq_true rfl) (Nat.le_of_ble_eq_true rfl) rfl, HO⟩
    · -- 20 bin
      rintro L a wc ⟨hv, HO⟩ hL hc hd
      have u := HYZ.out
      exact wpOp_val rfl ((wanted_at rfl rfl (hv.get 9 rfl rfl (hd 9 (by decide)))).trans rfl) (ex_bin rfl (hv.get 14 rfl rfl (hd 14 (by decide))) (hv.get 19 rfl rfl (hd 19 (by decide))) (by go_simp)) ⟨hv.put rt_eq_apart 20 rfl (Nat.le_of_ble_eq_true rfl) (Nat.le_of_ble_eq_true rfl) rfl, HO⟩
    · -- 21 pick
      rintro L a wc ⟨hv, HO⟩ hL hc hd
      exact wpOp_val rfl ((wanted_at rfl rfl (hv.get 6 rfl rfl (hd 6 (by decide)))).trans rfl) (ex_pick rfl (hv.get 9 rfl rfl (hd 9 (by decide))) ((if_pos rfl).trans (hv.get 20 rfl rfl (hd 20 (by decide))))) ⟨hv.put rt_eq_apart 21 rfl (Nat.le_of_ble_eq_true rfl) (Nat.le_of_ble_eq_true rfl) rfl, HO⟩
    · -- 22 pick
      rintro L a wc ⟨hv, HO⟩ hL hc hd
      exact wpOp_val rfl rfl (ex_pick rfl (hv.get 6 rfl rfl (hd 6 (by decide))) ((if_neg (by simp)).trans (hv.get 21 rfl rfl (hd 21 (by decide))))) ⟨hv.put rt_eq_apart 22 rfl (Nat.le_of_ble_eq_true rfl) (Nat.le_of_ble_eq_true rfl) rfl, HO⟩
  · rintro L a wc ⟨hv, HO⟩ hall
    show K a wc
    have ha := act_lit a
    rw [hv.size, hv.defers] at ha
    have hl : ∀ f : Nat → Value, ((List.range (⟨#[c0, c1, .pointer (some ⟨B, 0, none⟩), c3, c4, .int .i64 (k : Nat), .int .i64 p, c7, c8, c9, c10, c11, c12, c13, c14, c15, c16, c17, c18, c19, c20, c21, c22, c23, c24, c25, c26, c27, c28, c29, c30, c31, c32, c33, c34, c35, c36, c37, c38, c39, c40, c41, c42, c43, c44, c45, c46, c47, c48], df⟩ : Act).tmps.size).map f).toArray = #[f 0, f 1, f 2, f 3, f 4, f 5, f 6, f 7, f 8, f 9, f 10, f 11, f 12, f 13, f 14, f 15, f 16, f 17, f 18, f 19, f 20, f 21, f 22, f 23, f 24, f 25, f 26, f 27, f 28, f 29, f 30, f 31, f 32, f 33, f 34, f 35, f 36, f 37, f 38, f 39, f 40, f 41, f 42, f 43, f 44, f 45, f 46, f 47, f 48] := fun _ => rfl
    rw [hl] at ha
    simp only [hv.fixed 0 (by decide), hv.fixed 1 (by decide), hv.fixed 2 (by decide), hv.fixed 3 (by decide), hv.fixed 4 (by decide), hv.fixed 5 (by decide), hv.fixed 6 (by decide), hv.fixed 7 (by decide), hv.fixed 8 (by decide), hv.fixed 9 (by decide), hv.fixed 10 (by decide), hv.fixed 11 (by decide), hv.fixed 12 (by decide), hv.fixed 13 (by decide), hv.fixed 14 (by decide), hv.fixed 15 (by decide), hv.fixed 16 (by decide), hv.fixed 17 (by decide), hv.fixed 18 (by decide), hv.fixed 19 (by decide), hv.fixed 20 (by decide), hv.fixed 21 (by decide), hv.fixed 22 (by decide), hv.fixed 23 (by decide), hv.fixed 24 (by decide), hv.fixed 48 (by decide), hv.get 22 (d := 47) rfl rfl (hall 22 (by decide))] at ha
    rw [ha]
    exact hK _ _ _ _ _ _ _ _ _ _ _ _ _ _ _ _ _ _ _ _ _ _ wc HO.out
noncomputable def rt_ne_code : Code := ((Tryd.f34.body.bind (regionOf 6)).getD .skip)
def rt_ne_dsts : List (Option Nat) := [some 25, some 26, some 27, some 28, some 29, some 30, some 31, some 32, some 33, some 34, some 35, some 36, some 37, some 38, some 39, some 40, some 41, some 42, some 43, some 44, some 45, some 46, some 47]
theorem rt_ne_apart : apartD rt_ne_dsts = true := by decide +kernel
set_option maxRecDepth 1000000 in
set_option maxHeartbeats 16000000 in
theorem rt_ne (wr : World) (B k nf nt cF cT : Nat) (pf pt : Addr) (p y z : Int) (HC : Hid (¬ p < 0 ∧ ¬ 2 < p ∧ 0 < p)) (hkf : k < nf) (hkt : k < nt) (b8 : wr.cell? ⟨B, 9, none⟩ = some (.slice (some pf) nf cF)) (b9 : wr.cell? ⟨B, 10, none⟩ = some (.slice (some pt) nt cT)) (cf : wr.cell? (pf.add k) = some (.int .i64 y)) (ct : wr.cell? (pt.add k) = some (.int .i64 z)) (HYZ : Hid ((y == z) = false)) (c0 c1 c3 c4 c7 c8 c9 c10 c11 c12 c13 c14 c15 c16 c17 c18 c19 c20 c21 c22 c23 c24 c25 c26 c27 c28 c29 c30 c31 c32 c33 c34 c35 c36 c37 c38 c39 c40 c41 c42 c43 c44 c45 c46 c47 c48 : Value) (df : List Deferred) (K : Act → World → Prop)
    (hK : ∀  (u25 u26 u27 u28 u29 u30 u31 u32 u33 u34 u35 u36 u37 u38 u39 u40 u41 u42 u43 u44 u45 u46 : Value) (wx : World), Ext wr wx → K ⟨#[c0, c1, .pointer (some ⟨B, 0, none⟩), c3, c4, .int .i64 (k : Nat), .int .i64 p, c7, c8, c9, c10, c11, c12, c13, c14, c15, c16, c17, c18, c19, c20, c21, c22, c23, c24, u25, u26, u27, u28, u29, u30, u31, u32, u33, u34, u35, u36, u37, u38, u39, u40, u41, u42, u43, u44, u45, u46, .bool false, c48], df⟩ wx) :
    Code.wp Tryd.prog rt_ne_code (AtEnd K) ⟨#[c0, c1, .pointer (some ⟨B, 0, none⟩), c3, c4, .int .i64 (k : Nat), .int .i64 p, c7, c8, c9, c10, c11, c12, c13, c14, c15, c16, c17, c18, c19, c20, c21, c22, c23, c24, c25, c26, c27, c28, c29, c30, c31, c32, c33, c34, c35, c36, c37, c38, c39, c40, c41, c42, c43, c44, c45, c46, c47, c48], df⟩ wr := by
  conv => arg 2; whnf
  refine region_inv (by kernel_rfl) [[], [0], [1], [2], [3, 2], [2, 4], [5, 2], [6], [7, 6], [8, 6, 6], [9], [10, 9], [9], [11, 12, 9], [13, 9], [9], [15, 9], [9], [16, 17, 9], [18, 9], [14, 19, 9], [9, 20, 6], [6, 21]] (by kernel_rfl) [0, 1, 2, 3, 4, 5, 6, 7, 8, 9, 10, 11, 12, 13, 14, 15, 16, 17, 18, 19, 20, 21, 22] (by decide +kernel) (by decide +kernel) (by decide +kernel) (fun L a wc => Inv rt_ne_dsts [.int .i64 p, .bool false, .bool false, .int .i64 p, .bool false, .bool false, .bool false, .int .i64 p, .bool true, .bool true, .pointer (some ⟨B, 9, none⟩), .slice (some pf) nf cF, .int .i64 (k : Nat), .pointer (some (pf.add k)), .int .i64 y, .pointer (some ⟨B, 10, none⟩), .slice (some pt) nt cT, .int .i64 (k : Nat), .pointer (some (pt.add k)), .int .i64 z, .bool false, .bool false, .bool false] ⟨#[c0, c1, .pointer (some ⟨B, 0, none⟩), c3, c4, .int .i64 (k : Nat), .int .i64 p, c7, c8, c9, c10, c11, c12, c13, c14, c15, c16, c17, c18, c19, c20, c21, c22, c23, c24, c25, c26, c27, c28, c29, c30, c31, c32, c33, c34, c35, c36, c37, c38, c39, c40, c41, c42, c43, c44, c45, c46, c47, c48], df⟩ L a ∧ Hid (Ext wr wc)) ⟨Inv.start, Lib.hid ((Ext.refl wr).drew)⟩ ?_ ?_
  · refine ⟨?_, ?_, ?_, ?_, ?_, ?_, ?_, ?_, ?_, ?_, ?_, ?_, ?_, ?_, ?_, ?_, ?_, ?_, ?_, ?_, ?_, ?_, ?_, trivial⟩
    · -- 0 move
      rintro L a wc ⟨hv, HO⟩ hL hc hd
      exact wpOp_val rfl rfl (ex_move rfl ((hv.fixed 6 (by decide)).trans rfl)) ⟨hv.put rt_ne_apart 0 rfl (Nat.le_of_ble_eq_true rfl) (Nat.le_of_ble_eq_true rfl) rfl, HO⟩
    · -- 1 bin
      rintro L a wc ⟨hv, HO⟩ hL hc hd
      have u := HC.out.1
      exact wpOp_val rfl rfl (ex_bin rfl (hv.get 0 rfl rfl (hd 0 (by decide))) rfl (by go_simp)) ⟨hv.put rt_ne_apart 1 rfl (Nat.le_of_ble_eq_true rfl) (Nat.le_of_ble_eq_true rfl) rfl, HO⟩
    · -- 2 move
      rintro L a wc ⟨hv, HO⟩ hL hc hd
      exact wpOp_val rfl rfl (ex_move rfl (hv.get 1 rfl rfl (hd 1 (by decide)))) ⟨hv.put rt_ne_apart 2 rfl (Nat.le_of_ble_eq_true rfl) (Nat.le_of_ble_eq_true rfl) rfl, HO⟩
    · -- 3 move
      rintro L a wc ⟨hv, HO⟩ hL hc hd
      exact wpOp_val rfl ((wanted_at rfl rfl (hv.get 2 rfl rfl (hd 2 (by decide)))).trans rfl) (ex_move rfl ((hv.fixed 6 (by decide)).trans rfl)) ⟨hv.put rt_ne_apart 3 rfl (Nat.le_of_ble_eq_true rfl) (Nat.le_of_ble_eq_true rfl) rfl, HO⟩
    · -- 4 bin
      rintro L a wc ⟨hv, HO⟩ hL hc hd
      have u := HC.out.2.1
      exact wpOp_val rfl ((wanted_at rfl rfl (hv.get 2 rfl rfl (hd 2 (by decide)))).trans rfl) (ex_bin rfl (hv.get 3 rfl rfl (hd 3 (by decide))) rfl (by go_simp)) ⟨hv.put rt_ne_apart 4 rfl (Nat.le_of_ble_eq_true rfl) (Nat.le_of_ble_eq_true rfl) rfl, HO⟩
    · -- 5 pick
      rintro L a wc ⟨hv, HO⟩ hL hc hd
      exact wpOp_val rfl rfl (ex_pick rfl (hv.get 2 rfl rfl (hd 2 (by decide))) ((if_neg (by simp)).trans (hv.get 4 rfl rfl (hd 4 (by decide))))) ⟨hv.put rt_ne_apart 5 rfl (Nat.le_of_ble_eq_true rfl) (Nat.le_of_ble_eq_true rfl) rfl, HO⟩
    · -- 6 move
      rintro L a wc ⟨hv, HO⟩ hL hc hd
      exact wpOp_val rfl rfl (ex_move rfl (hv.get 5 rfl rfl (hd 5 (by decide)))) ⟨hv.put rt_ne_apart 6 rfl (Nat.le_of_ble_eq_true rfl) (Nat.le_of_ble_eq_true rfl) rfl, HO⟩
    · -- 7 move
      rintro L a wc ⟨hv, HO⟩ hL hc hd
      exact wpOp_val rfl ((wanted_at rfl rfl (hv.get 6 rfl rfl (hd 6 (by decide)))).trans rfl) (ex_move rfl ((hv.fixed 6 (by decide)).trans rfl)) ⟨hv.put rt_ne_apart 7 rfl (Nat.le_of_ble_eq_true rfl) (Nat.le_of_ble_eq_true rfl) rfl, HO⟩
    · -- 8 bin
      rintro L a wc ⟨hv, HO⟩ hL hc hd
      have u := HC.out.2.2
      exact wpOp_val rfl ((wanted_at rfl rfl (hv.get 6 rfl rfl (hd 6 (by decide)))).trans rfl) (ex_bin rfl (hv.get 7 rfl rfl (hd 7 (by decide))) rfl (by go_simp)) ⟨hv.put rt_ne_apart 8 rfl (Nat.le_of_ble_eq_true rfl) (Nat.le_of_ble_eq_true rfl) rfl, HO⟩
    · -- 9 move
      rintro L a wc ⟨hv, HO⟩ hL hc hd
      exact wpOp_val rfl ((wanted_at rfl rfl (hv.get 6 rfl rfl (hd 6 (by decide)))).trans rfl) (ex_move rfl (hv.get 8 rfl rfl (hd 8 (by decide)))) ⟨hv.put rt_ne_apart 9 rfl (Nat.le_of_ble_eq_true rfl) (Nat.le_of_ble_eq_true rfl) rfl, HO⟩
    · -- 10 field
      rintro L a wc ⟨hv, HO⟩ hL hc hd
      exact wpOp_val rfl ((wanted_at rfl rfl (hv.get 9 rfl rfl (hd 9 (by decide)))).trans rfl) (ex_field rfl ((hv.fixed 2 (by decide)).trans rfl) (by go_simp)) ⟨hv.put rt_ne_apart 10 rfl (Nat.le_of_ble_eq_true rfl) (Nat.le_of_ble_eq_true rfl) rfl, HO⟩
    · -- 11 load
      rintro L a wc ⟨hv, HO⟩ hL hc hd
      have h8 : wc.cell? ⟨B, 9, none⟩ = some (.slice (some pf) nf cF) := HO.out.cell b8
      exact wpOp_val rfl ((wanted_at rfl rfl (hv.get 9 rfl rfl (hd 9 (by decide)))).trans rfl) (ex_load rfl (hv.get 10 rfl rfl (hd 10 (by decide))) (by go_simp)) ⟨hv.put rt_ne_apart 11 rfl (Nat.le_of_ble_eq_true rfl) (Nat.le_of_ble_eq_true rfl) rfl, HO⟩
    · -- 12 move
      rintro L a wc ⟨hv, HO⟩ hL hc hd
      exact wpOp_val rfl ((wanted_at rfl rfl (hv.get 9 rfl rfl (hd 9 (by decide)))).trans rfl) (ex_move rfl ((hv.fixed 5 (by decide)).trans rfl)) ⟨hv.put rt_ne_apart 12 rfl (Nat.le_of_ble_eq_true rfl) (Nat.le_of_ble_eq_true rfl) rfl, HO⟩
    · -- 13 index
      rintro L a wc ⟨hv, HO⟩ hL hc hd
      have u1 : (0 : Int) ≤ (k : Int) := by omega
      have u2 : (k : Int) < (nf : Int) := by omega
      exact wpOp_val rfl ((wanted_at rfl rfl (hv.get 9 rfl rfl (hd 9 (by decide)))).trans rfl) (ex_index rfl (hv.get 11 rfl rfl (hd 11 (by decide))) (hv.get 12 rfl rfl (hd 12 (by decide))) (by go_simp)) ⟨hv.put rt_ne_apart 13 rfl (Nat.le_of_ble_eq_true rfl) (Nat.le_of_ble_eq_true rfl) rfl, HO⟩
    · -- 14 load
      rintro L a wc ⟨hv, HO⟩ hL hc hd
      have h1 : wc.cell? (pf.add k) = some (.int .i64 y) := HO.out.cell cf
      exact wpOp_val rfl ((wanted_at rfl rfl (hv.get 9 rfl rfl (hd 9 (by decide)))).trans rfl) (ex_load rfl (hv.get 13 rfl rfl (hd 13 (by decide))) (by go_simp)) ⟨hv.put rt_ne_apart 14 rfl (Nat.le_of_ble_eq_true rfl) (Nat.le_of_ble_eq_true rfl) rfl, HO⟩
    · -- 15 field
      rintro L a wc ⟨hv, HO⟩ hL hc hd
      exact wpOp_val rfl ((wanted_at rfl rfl (hv.get 9 rfl rfl (hd 9 (by decide)))).trans rfl) (ex_field rfl ((hv.fixed 2 (by decide)).trans rfl) (by go_simp)) ⟨hv.put rt_ne_apart 15 rfl (Nat.le_of_ble_eq_true rfl) (Nat.le_of_ble_eq_true rfl) rfl, HO⟩
    · -- 16 load
      rintro L a wc ⟨hv, HO⟩ hL hc hd
      have h9 : wc.cell? ⟨B, 10, none⟩ = some (.slice (some pt) nt cT) := HO.out.cell b9
      exact wpOp_val rfl ((wanted_at rfl rfl (hv.get 9 rfl rfl (hd 9 (by decide)))).trans rfl) (ex_load rfl (hv.get 15 rfl rfl (hd 15 (by decide))) (by go_simp)) ⟨hv.put rt_ne_apart 16 rfl (Nat.le_of_ble_eq_true rfl) (Nat.le_of_ble_eq_true rfl) rfl, HO⟩
    · -- 17 move
      rintro L a wc ⟨hv, HO⟩ hL hc hd
      exact wpOp_val rfl ((wanted_at rfl rfl (hv.get 9 rfl rfl (hd 9 (by decide)))).trans rfl) (ex_move rfl ((hv.fixed 5 (by decide)).trans rfl)) ⟨hv.put rt_ne_apart 17 rfl (Nat.le_of_ble_eq_true rfl) (Nat.le_of_ble_eq_true rfl) rfl, HO⟩
    · -- 18 index
      rintro L a wc ⟨hv, HO⟩ hL hc hd
      have u1 : (0 : Int) ≤ (k : Int) := by omega
      have u2 : (k : Int) < (nt : Int) := by omega
      exact wpOp_val rfl ((wanted_at rfl rfl (hv.get 9 rfl rfl (hd 9 (by decide)))).trans rfl) (ex_index rfl (hv.get 16 rfl rfl (hd 16 (by decide))) (hv.get 17 rfl rfl (hd 17 (by decide))) (by go_simp)) ⟨hv.put rt_ne_apart 18 rfl (Nat.le_of_ble_eq_true rfl) (Nat.le_of_ble_eq_true rfl) rfl, HO⟩
    · -- 19 load
      rintro L a wc ⟨hv, HO⟩ hL hc hd
      have h1 : wc.cell? (pt.add k) = some (.int .i64 z) := HO.out.cell ct
      exact wpOp_val rfl ((wanted_at rfl rfl (hv.get 9 rfl rfl (hd 9 (by decide)))).trans rfl) (ex_load rfl (hv.get 18 rfl rfl (hd 18 (by decide))) (by go_simp)) ⟨hv.put rt_ne_apart 19 rfl (Nat.le_of_ble_eq_true rfl) (Nat.le_of_ble_eq_true rfl) rfl, HO⟩
    · -- 20 bin
      rintro L a wc ⟨hv, HO⟩ hL hc hd
      have u := HYZ.out
      exact wpOp_val rfl ((wanted_at rfl rfl (hv.get 9 rfl rfl (hd 9 (by decide)))).trans rfl) (ex_bin rfl (hv.get 14 rfl rfl (hd 14 (by decide))) (hv.get 19 rfl rfl (hd 19 (by decide))) (by go_simp)) ⟨hv.put rt_ne_apart 20 rfl (Nat.le_of_ble_eq_true rfl) (Nat.le_of_ble_eq_true rfl) rfl, HO⟩
    · -- 21 pick
      rintro L a wc ⟨hv, HO⟩ hL hc hd
      exact wpOp_val rfl ((wanted_at rfl rfl (hv.get 6 rfl rfl (hd 6 (by decide)))).trans rfl) (ex_pick rfl (hv.get 9 rfl rfl (hd 9 (by decide))) ((if_pos rfl).trans (hv.get 20 rfl rfl (hd 20 (by decide))))) ⟨hv.put rt_ne_apart 21 rfl (Nat.le_of_ble_eq_true rfl) (Nat.le_of_ble_eq_true rfl) rfl, HO⟩
    · -- 22 pick
      rintro L a wc ⟨hv, HO⟩ hL hc hd
      exact wpOp_val rfl rfl (ex_pick rfl (hv.get 6 rfl rfl (hd 6 (by decide))) ((if_neg (by simp)).trans (hv.get 21 rfl rfl (hd 21 (by decide))))) ⟨hv.put rt_ne_apart 22 rfl (Nat.le_of_ble_eq_true rfl) (Nat.le_of_ble_eq_true rfl) rfl, HO⟩
  · rintro L a wc ⟨hv, HO⟩ hall
    show K a wc
    have ha := act_lit a
    rw [hv.size, hv.defers] at ha
    have hl : ∀ f : Nat → Value, ((List.range (⟨#[c0, c1, .pointer (some ⟨B, 0, none⟩), c3, c4, .int .i64 (k : Nat), .int .i64 p, c7, c8, c9, c10, c11, c12, c13, c14, c15, c16, c17, c18, c19, c20, c21, c22, c23, c24, c25, c26, c27, c28, c29, c30, c31, c32, c33, c34, c35, c36, c37, c38, c39, c40, c41, c42, c43, c44, c45, c46, c47, c48], df⟩ : Act).tmps.size).map f).toArray = #[f 0, f 1, f 2, f 3, f 4, f 5, f 6, f 7, f 8, f 9, f 10, f 11, f 12, f 13, f 14, f 15, f 16, f 17, f 18, f 19, f 20, f 21, f 22, f 23, f 24, f 25, f 26, f 27, f 28, f 29, f 30, f 31, f 32, f 33, f 34, f 35, f 36, f 37, f 38, f 39, f 40, f 41, f 42, f 43, f 44, f 45, f 46, f 47, f 48] := fun _ => rfl
    rw [hl] at ha
    simp only [hv.fixed 0 (by decide), hv.fixed 1 (by decide), hv.fixed 2 (by decide), hv.fixed 3 (by decide), hv.fixed 4 (by decide), hv.fixed 5 (by decide), hv.fixed 6 (by decide), hv.fixed 7 (by decide), hv.fixed 8 (by decide), hv.fixed 9 (by decide), hv.fixed 10 (by decide), hv.fixed 11 (by decide), hv.fixed 12 (by decide), hv.fixed 13 (by decide), hv.fixed 14 (by decide), hv.fixed 15 (by decide), hv.fixed 16 (by decide), hv.fixed 17 (by decide), hv.fixed 18 (by decide), hv.fixed 19 (by decide), hv.fixed 20 (by decide), hv.fixed 21 (by decide), hv.fixed 22 (by decide), hv.fixed 23 (by decide), hv.fixed 24 (by decide), hv.fixed 48 (by decide), hv.get 22 (d := 47) rfl rfl (hall 22 (by decide))] at ha
    rw [ha]
    exact hK _ _ _ _ _ _ _ _ _ _ _ _ _ _ _ _ _ _ _ _ _ _ wc HO.out
end Go.Proofs.YtkbiffbmjgmcaaaDoor

/- THE WALK over right of package moves. -/
namespace Go.Proofs.YtkbiffbmjgmcaaaDoor
open Go.RowKit
set_option maxHeartbeats 8000000 in
set_option maxRecDepth 100000 in
theorem mRight_any (s : Mv.Sh) (ph : List Int) (v u : Value) (w : World) (hv : RSh w v s) (hu : Rs RI w u ph) :
    Calls Tryd.prog 34 #[v, u] w fun e w' => e = .returned (.bool (Mv.right s ph)) ∧ Ext w w' := by
  obtain ⟨DA, KA, HA, GA, RA, FA, TA, cD, cK, cH, cG, cR, cF, cT, rfl, hS⟩ := hv.open
  obtain ⟨PA, cP, rfl, hp64⟩ := hu.form
  have hx0 := (Ext.refl w).alloc (.cells #[.slice DA s.disks.length cD, .slice KA s.racks.length cK, .slice HA s.houses.length cH, .int .i64 s.owners, .int .i64 s.d, .slice GA s.gs.length cG, .int .i64 s.gl, .int .i64 s.floor, .slice RA s.room.length cR, .slice FA s.src.length cF, .slice TA s.dst.length cT] 30)
  have HX0 := Lib.hid hx0
  have HS := Lib.hid (hS.ext hx0)
  have HP := Lib.hid (Rs.ext RI.ext _ _ _ _ hx0 hu)
  have hB := BoxAt.new w s DA KA HA GA RA FA TA cD cK cH cG cR cF cT
  have HB := Lib.hid hB
  have a0 := hB.b0
  have a1 := hB.b1
  have a2 := hB.b2
  have a3 := hB.b3
  have a4 := hB.b4
  have a5 := hB.b5
  have a6 := hB.b6
  have a7 := hB.b7
  have a8 := hB.b8
  have a9 := hB.b9
  have a10 := hB.b10
  clear hv hu hS hx0 hB
  go_enter Tryd.func34, Tryd.ntmps34
  go_wp2_with fail
  clear a0 a1 a2 a3 a4 a5 a6 a7 a8 a9 a10
  refine (mCheck_any s _ _ HS.out.sh).mono ?_
  rintro ee w1 ⟨rfl, hx1⟩
  have HX1 := Lib.hid hx1
  have a9 := (HB.out.ext hx1).b9
  have a8 := (HB.out.ext hx1).b8
  clear hx1
  by_cases h1 : Mv.check s = 0
  case neg =>
    have HE := Lib.hid (Mv.right_no (ph := ph) (fun e => h1 e.1))
    have e1 : (Mv.check s != 0) = true := by rw [bne_iff_ne]; exact h1
    clear h1
    go_wp2_with fail
    clear a8 a9
    go_ret
    exact ⟨by rw [HE.out]; rfl, HX0.out.trans HX1.out⟩
  case pos =>
  have H1 := Lib.hid h1
  have hdl := (Mv.ok_of h1).dstLen
  rw [h1]
  clear h1
  by_cases h2 : ph.length = s.src.length
  case neg =>
    have HE := Lib.hid (Mv.right_no (s := s) (ph := ph) (fun e => h2 e.2.1))
    have e1 : ((ph.length : Int) != (s.src.length : Int)) = true := by rw [bne_iff_ne]; omega
    clear h2
    go_wp2_with fail
    clear a8 a9
    go_ret
    exact ⟨by rw [HE.out]; rfl, HX0.out.trans HX1.out⟩
  case pos =>
  have e1 : ((ph.length : Int) != (s.src.length : Int)) = false := by rw [h2]; simp
  have H2 := Lib.hid h2
  have HDL := Lib.hid hdl
  clear h2 hdl
  go_wp2_with fail
  clear a8 a9 e1
  go_loopw [20] (fun vi wr => ∃ k : Nat, k ≤ ph.length ∧ vi = .int .i64 k ∧ Hid (Ext w1 wr ∧ ∀ j, j < k → ¬ Mv.badPhase s j (ph.getD j 0))) (fun vi _ => ph.length - (intOf vi).toNat)
  case atStart => exact ⟨0, Nat.zero_le _, rfl, Lib.hid ⟨Ext.refl _, fun j hj => absurd hj (Nat.not_lt_zero j)⟩⟩
  case round =>
    obtain ⟨k, hk, rfl, HI⟩ := hrel
    by_cases hlt : k < ph.length
    · obtain ⟨ap, u, rfl, hcp, hu⟩ := (Rs.ext RI.ext _ _ _ _ (HX1.out.trans HI.out.1) HP.out).at hlt
      obtain ⟨rfl, hlo, hhi⟩ := hu
      have hks : k < s.src.length := by have := H2.out; omega
      have hkd : k < s.dst.length := by have := H2.out; have := HDL.out; omega
      obtain ⟨af, u1, rfl, hcf, hu1⟩ := (Rs.ext RI.ext _ _ _ _ (HX1.out.trans HI.out.1) HS.out.src).at hks
      obtain ⟨rfl, hlo1, hhi1⟩ := hu1
      obtain ⟨at_, u2, rfl, hct, hu2⟩ := (Rs.ext RI.ext _ _ _ _ (HX1.out.trans HI.out.1) HS.out.dst).at hkd
      obtain ⟨rfl, hlo2, hhi2⟩ := hu2
      have hgd := getD_get (x := (0 : Int)) hlt
      have hbd : Mv.badPhase s k ph[k] ↔ (ph[k] < 0 ∨ 2 < ph[k] ∨ (0 < ph[k] ∧ s.src[k] = s.dst[k])) := by unfold Mv.badPhase; rw [getD_get hks, getD_get hkd]
      obtain ⟨p, hp⟩ : ∃ p, ph[k] = p := ⟨_, rfl⟩
      obtain ⟨y, hy⟩ : ∃ y, s.src[k] = y := ⟨_, rfl⟩
      obtain ⟨z, hz⟩ : ∃ z, s.dst[k] = z := ⟨_, rfl⟩
      rw [hp] at hcp hgd hbd
      rw [hy] at hcf hbd
      rw [hz] at hct hbd
      rw [hp] at hlo hhi
      have a9 := (HB.out.ext (HX1.out.trans HI.out.1)).b9
      have a10 := (HB.out.ext (HX1.out.trans HI.out.1)).b10
      have hks2 : (k : Int) < (s.src.length : Int) := by omega
      have hkd2 : (k : Int) < (s.dst.length : Int) := by omega
      have HBD := Lib.hid hbd
      have HGD := Lib.hid hgd
      clear hp hy hz hlo1 hhi1 hlo2 hhi2 hbd hgd
      have hks3 := hks
      have hkd3 := hkd
      clear hks hkd
      by_cases hp0 : p < 0
      · skip
        have HE := Lib.hid (Mv.right_no (s := s) (ph := ph) (fun e => e.2.2 k hlt (by rw [HGD.out]; exact HBD.out.2 (.inl hp0))))
        go_wp2_with fail
        refine wp_atEnd' (rt_neg wr w.heap.size k p (Lib.hid ⟨hp0, trivial⟩) _ _ _ _ _ _ _ _ _ _ _ _ _ _ _ _ _ _ _ _ _ _ _ _ _ _ _ _ _ _ _ _ _ _ _ _ _ _ _ _ _ _ _ _ _ _ _ _ ?_)
        intro u25 u26 u27 u28 u29 u30 u31 u32 u33 u34 u35 u36 u37 u38 u39 u40 u41 u42 u43 u44 u45 u46 wx hx
        have HX := Lib.hid hx
        clear hx
        go_wp2_with fail
        clear a9 a10 hcp hcf hct
        go_ret
        exact ⟨by rw [HE.out]; rfl, HX0.out.trans (HX1.out.trans (HI.out.1.trans HX.out))⟩
      by_cases hp2 : 2 < p
      · skip
        have HE := Lib.hid (Mv.right_no (s := s) (ph := ph) (fun e => e.2.2 k hlt (by rw [HGD.out]; exact HBD.out.2 (.inr (.inl hp2)))))
        go_wp2_with fail
        refine wp_atEnd' (rt_big wr w.heap.size k p (Lib.hid ⟨by omega, hp2, trivial⟩) _ _ _ _ _ _ _ _ _ _ _ _ _ _ _ _ _ _ _ _ _ _ _ _ _ _ _ _ _ _ _ _ _ _ _ _ _ _ _ _ _ _ _ _ _ _ _ _ ?_)
        intro u25 u26 u27 u28 u29 u30 u31 u32 u33 u34 u35 u36 u37 u38 u39 u40 u41 u42 u43 u44 u45 u46 wx hx
        have HX := Lib.hid hx
        clear hx
        go_wp2_with fail
        clear a9 a10 hcp hcf hct
        go_ret
        exact ⟨by rw [HE.out]; rfl, HX0.out.trans (HX1.out.trans (HI.out.1.trans HX.out))⟩
      by_cases hpp : 0 < p
      case neg =>
        have HNB : Hid (¬ Mv.badPhase s k p) := Lib.hid (fun e => by rcases HBD.out.1 e with e | e | e <;> omega)
        go_wp2_with fail
        refine wp_atEnd' (rt_zero wr w.heap.size k p (Lib.hid ⟨by omega, by omega, by omega⟩) _ _ _ _ _ _ _ _ _ _ _ _ _ _ _ _ _ _ _ _ _ _ _ _ _ _ _ _ _ _ _ _ _ _ _ _ _ _ _ _ _ _ _ _ _ _ _ _ ?_)
        intro u25 u26 u27 u28 u29 u30 u31 u32 u33 u34 u35 u36 u37 u38 u39 u40 u41 u42 u43 u44 u45 u46 wx hx
        have HX := Lib.hid hx
        clear hx
        go_wp2_with fail
        clear a9 a10 hcp hcf hct
        go_roundw
        case rel => exact ⟨k + 1, by omega, by go_num, Lib.hid ⟨HI.out.1.trans HX.out, fun j hj => by
          by_cases hjk : j = k
          · rw [hjk, HGD.out]; exact HNB.out
          · exact HI.out.2 j (by omega)⟩⟩
        case measure => simp [intOf]; omega
      case pos =>
      by_cases hyz : y = z
      · skip
        have HE := Lib.hid (Mv.right_no (s := s) (ph := ph) (fun e => e.2.2 k hlt (by rw [HGD.out]; exact HBD.out.2 (.inr (.inr ⟨hpp, hyz⟩)))))
        have e1 : (y == z) = true := by rw [hyz]; simp
        clear hyz
        go_wp2_with fail
        refine wp_atEnd' (rt_eq wr w.heap.size k s.src.length s.dst.length cF cT af at_ p y z (Lib.hid ⟨by omega, by omega, by omega⟩) hks3 hkd3 a9 a10 hcf hct (Lib.hid e1) _ _ _ _ _ _ _ _ _ _ _ _ _ _ _ _ _ _ _ _ _ _ _ _ _ _ _ _ _ _ _ _ _ _ _ _ _ _ _ _ _ _ _ _ _ _ _ _ ?_)
        intro u25 u26 u27 u28 u29 u30 u31 u32 u33 u34 u35 u36 u37 u38 u39 u40 u41 u42 u43 u44 u45 u46 wx hx
        have HX := Lib.hid hx
        clear hx
        go_wp2_with fail
        clear a9 a10 hcp hcf hct
        go_ret
        exact ⟨by rw [HE.out]; rfl, HX0.out.trans (HX1.out.trans (HI.out.1.trans HX.out))⟩
      · skip
        have HNB : Hid (¬ Mv.badPhase s k p) := Lib.hid (fun e => by rcases HBD.out.1 e with e | e | e <;> omega)
        have e1 : (y == z) = false := by rw [beq_eq_false_iff_ne]; exact hyz
        clear hyz
        go_wp2_with fail
        refine wp_atEnd' (rt_ne wr w.heap.size k s.src.length s.dst.length cF cT af at_ p y z (Lib.hid ⟨by omega, by omega, by omega⟩) hks3 hkd3 a9 a10 hcf hct (Lib.hid e1) _ _ _ _ _ _ _ _ _ _ _ _ _ _ _ _ _ _ _ _ _ _ _ _ _ _ _ _ _ _ _ _ _ _ _ _ _ _ _ _ _ _ _ _ _ _ _ _ ?_)
        intro u25 u26 u27 u28 u29 u30 u31 u32 u33 u34 u35 u36 u37 u38 u39 u40 u41 u42 u43 u44 u45 u46 wx hx
        have HX := Lib.hid hx
        clear hx
        go_wp2_with fail
        clear a9 a10 hcp hcf hct
        go_roundw
        case rel => exact ⟨k + 1, by omega, by go_num, Lib.hid ⟨HI.out.1.trans HX.out, fun j hj => by
          by_cases hjk : j = k
          · rw [hjk, HGD.out]; exact HNB.out
          · exact HI.out.2 j (by omega)⟩⟩
        case measure => simp [intOf]; omega
    · obtain rfl : k = ph.length := by omega
      have HE := Lib.hid (Mv.right_iff.2 ⟨H1.out, H2.out, HI.out.2⟩)
      go_wp2_with fail
      go_ret
      exact ⟨by rw [HE.out]; rfl, HX0.out.trans (HX1.out.trans HI.out.1)⟩
end Go.Proofs.YtkbiffbmjgmcaaaDoor
