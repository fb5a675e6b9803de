/- What the program's functions do, step by step: part B of the texts for this claim; no condition beyond what each theorem states. -/
import Derived.Test.YtggfkpalkdkbdaaDoorChecked
import Derived.WalkKit
import Derived.OwnWalkIn
import Derived.TacticsInMore
import Derived.LoopNIn
import Derived.LoopIn
import Derived.RegionTactic
import Derived.BigRegion
import Derived.StillTailTactics
import Derived.Deep.RegionHeld3
import Derived.Deep.RegionWith
import Derived.Deep.RegionLaw
import Derived.RangeFuncBound
import Derived.RangeFuncCalls
import Derived.RangeFuncLeaves
import Derived.Shelf.Abstract
import Derived.Shelf.RegionOpen
import Derived.Deep.Cut
import Derived.Deep.DeepCutAuto
import Derived.Laws.CopyOwn
import Derived.Test.YtggfkpalkdkbdaaDoorLoAFBunA
/- THE DRAWN REGION of the closure that calls itself in without of package locate. -/
namespace Go.Proofs.YtggfkpalkdkbdaaDoor
open Go.RowKit Go.Shelf
theorem ent_take : ∀ args w, (callFunc 56 args).run Tryd.prog w = .ok (.enter 56 args) w := enters_of Tryd.func56 (by kernel_rfl) rfl
theorem wpOpIn_callw {Fe : Fence} {n : Nat} {P : Program} {ops : Array Oper} {Q : Exit → Act → World → Prop} {i : Nat} {o : Oper} {a : Act} {w w1 : World} {K : Act → World → Prop} {f : FuncId} {args : Array Value} {R : Value → World → Prop} (hF : ∀ f, Fe.fn f) (hD : Fe.depth = none) (hi : ops[i]? = some o) (hw : Region.wanted o (yielded ops a.tmps) = true) (hdf : ∀ c, o.op ≠ .defer c) (hr : (execOp a.eval o).run P w = .ok (.enter f args) w1)
    (h : CallsIn Fe (n - 1) P f args w1 fun e w' => ∃ v, e = .returned v ∧ R v w') (hK : ∀ v w', R v w' → K (a.put o.dst v) w') : wpOpIn Fe n P ops Q i K a w := by
  unfold wpOpIn
  simp only [hi, hw, if_true, Oper.wpIn, Oper.semAt_plain Fe _ _ hdf, hr, Oper.uponIn]
  refine ⟨fun f _ => hF f, ⟨fun hh => absurd hh (by rw [hD]; simp), h.mono ?_⟩⟩
  rintro e w' ⟨v, rfl, hv⟩
  exact hK v w' hv
theorem map3m {a : Act} {x y z : Operand} {u v t : Value} {cap : Array Value} (h : a.eval x = u) (h2 : a.eval y = v) (h3 : a.eval z = t) : #[x, y, z].map a.eval ++ cap = #[u, v, t] ++ cap := by simp [h, h2, h3]
noncomputable def tk_yes_code : Code := ((Tryd.f56.body.bind (regionOf 6)).getD .skip)
def tk_yes_dsts : List (Option Nat) := [some 26, some 27, some 28, some 29, some 30, some 31, some 32, some 33, some 34, some 35, some 36, some 37, some 38, some 39, some 40, some 41, some 42, some 43]
theorem tk_yes_apart : apartD tk_yes_dsts = true := by decide +kernel
set_option maxRecDepth 1000000 in
set_option maxHeartbeats 16000000 in
theorem tk_yes (R : Bool → World → Prop) (tk p2 tn lf : Nat) (m MB YB TB mk k q : Nat) (wr : World) (hk : k ≤ 40) (HQ : Hid (((mk : Int) / 2 ^ k = (q : Int)) ∧ bits .and .i64 (q : Int) 1 = 1)) (hMB : wr.cell? ⟨MB, 0, none⟩ = some (.int .i64 (mk : Nat))) (hlf : lf ≤ 1000) (HP : Hid ((IntKind.i64.wrap (2 ^ k) = (p2 : Int)) ∧ bits .or .i64 (tk : Int) (p2 : Int) = (tn : Int))) (hTB : wr.cell? ⟨TB, 0, none⟩ = some (.func (.func 56) #[] #[.pointer (some ⟨YB, 0, none⟩), .pointer (some ⟨MB, 0, none⟩), .pointer (some ⟨TB, 0, none⟩)])) (hy : ∀ w1, Ext wr w1 → CallsIn Fence.wide (m - 1) Tryd.prog 56 (#[.int .i64 (k + 1 : Nat), .int .i64 (tn : Nat), .int .i64 (lf : Nat)] ++ #[.pointer (some ⟨YB, 0, none⟩), .pointer (some ⟨MB, 0, none⟩), .pointer (some ⟨TB, 0, none⟩)]) w1 fun e w' => ∃ v, e = .returned v ∧ ∃ b, v = .bool b ∧ R b w') (c0 c3 c6 c7 c8 c9 c11 c12 c13 c14 c15 c16 c17 c18 c19 c20 c21 c22 c23 c24 c25 c26 c27 c28 c29 c30 c31 c32 c33 c34 c35 c36 c37 c38 c39 c40 c41 c42 c43 : Value) (df : List Deferred) (K : Act → World → Prop)
    (hK : ∀ (b : Bool) (u26 u27 u28 u29 u30 u31 u32 u33 u34 u35 u36 u37 u38 u39 u40 u41 u42 : Value) (wx : World), R b wx → K ⟨#[c0, .int .i64 (tk : Nat), .int .i64 (lf + 1 : Nat), c3, .pointer (some ⟨MB, 0, none⟩), .pointer (some ⟨TB, 0, none⟩), c6, c7, c8, c9, .int .i64 (k : Nat), c11, c12, c13, c14, c15, c16, c17, c18, c19, c20, c21, c22, c23, c24, c25, u26, u27, u28, u29, u30, u31, u32, u33, u34, u35, u36, u37, u38, u39, u40, u41, u42, .bool (!b)], df⟩ wx) :
    Code.wpIn Fence.wide m Tryd.prog tk_yes_code (AtEnd K) ⟨#[c0, .int .i64 (tk : Nat), .int .i64 (lf + 1 : Nat), c3, .pointer (some ⟨MB, 0, none⟩), .pointer (some ⟨TB, 0, none⟩), c6, c7, c8, c9, .int .i64 (k : Nat), c11, c12, c13, c14, c15, c16, c17, c18, c19, c20, c21, c22, c23, c24, c25, c26, c27, c28, c29, c30, c31, c32, c33, c34, c35, c36, c37, c38, c39, c40, c41, c42, c43], df⟩ wr := by
  conv => arg 4; whnf
  refine region_invIn (by kernel_rfl) [[], [], [0, 1], [2], [3], [4], [5], [5], [7, 5], [5], [5], [10, 5], [9, 11, 5], [5], [13, 5], [6, 8, 12, 14, 5, 5], [15, 5], [5, 16]] (by kernel_rfl) [0, 1, 2, 3, 4, 5, 6, 7, 8, 9, 10, 11, 12, 13, 14, 15, 16, 17] (by decide +kernel) (by decide +kernel) (by decide +kernel) (fun L a wc => ∃ (b : Bool), Inv tk_yes_dsts [.int .i64 (mk : Nat), .int .i64 (k : Nat), .int .i64 (q : Nat), .int .i64 1, .bool true, .bool true, .func (.func 56) #[] #[.pointer (some ⟨YB, 0, none⟩), .pointer (some ⟨MB, 0, none⟩), .pointer (some ⟨TB, 0, none⟩)], .int .i64 (k : Nat), .int .i64 (k + 1 : Nat), .int .i64 (tk : Nat), .int .i64 (k : Nat), .int .i64 (p2 : Nat), .int .i64 (tn : Nat), .int .i64 (lf + 1 : Nat), .int .i64 (lf : Nat), .bool b, .bool (!b), .bool (!b)] ⟨#[c0, .int .i64 (tk : Nat), .int .i64 (lf + 1 : Nat), c3, .pointer (some ⟨MB, 0, none⟩), .pointer (some ⟨TB, 0, none⟩), c6, c7, c8, c9, .int .i64 (k : Nat), c11, c12, c13, c14, c15, c16, c17, c18, c19, c20, c21, c22, c23, c24, c25, c26, c27, c28, c29, c30, c31, c32, c33, c34, c35, c36, c37, c38, c39, c40, c41, c42, c43], df⟩ L a ∧ Hid (if L 15 = true then R b wc else Ext wr wc)) ⟨false, Inv.start, Lib.hid ((Ext.refl wr).drew)⟩ ?_ ?_
  · refine ⟨?_, ?_, ?_, ?_, ?_, ?_, ?_, ?_, ?_, ?_, ?_, ?_, ?_, ?_, ?_, ?_, ?_, ?_, trivial⟩
    ·
      rintro L a wc ⟨b, hv, HO⟩ hL hc hd
      have n15 : L 15 = false := Bool.eq_false_iff.2 fun h => Bool.false_ne_true (hL.symm.trans (hc 2 (hc 3 (hc 4 (hc 5 (hc 15 h 5 (by decide)) 4 (by decide)) 3 (by decide)) 2 (by decide)) 0 (by decide)))
      have hO := HO.out
      rw [if_neg (by simp [n15])] at hO
      have e0 : wc.cell? ⟨MB, 0, none⟩ = some (.int .i64 (mk : Nat)) := hO.cell hMB
      exact wpOpIn_val (fun _ => trivial) rfl rfl (by intro c h; cases h) (ex_load rfl ((hv.fixed 4 (by decide)).trans rfl) (by go_simp)) ⟨b, hv.put tk_yes_apart 0 rfl (lb rfl) (lb rfl) rfl, HO⟩
    ·
      rintro L a wc ⟨b, hv, HO⟩ hL hc hd
      exact wpOpIn_val (fun _ => trivial) rfl rfl (by intro c h; cases h) (ex_move rfl ((hv.fixed 10 (by decide)).trans rfl)) ⟨b, hv.put tk_yes_apart 1 rfl (lb rfl) (lb rfl) rfl, HO⟩
    ·
      rintro L a wc ⟨b, hv, HO⟩ hL hc hd
      have hq := HQ.out.1
      exact wpOpIn_val (fun _ => trivial) rfl rfl (by intro c h; cases h) (ex_bin rfl (hv.get 0 rfl rfl (hd 0 (by decide))) (hv.get 1 rfl rfl (hd 1 (by decide))) (by go_simp)) ⟨b, hv.put tk_yes_apart 2 rfl (lb rfl) (lb rfl) rfl, HO⟩
    ·
      rintro L a wc ⟨b, hv, HO⟩ hL hc hd
      have hq := HQ.out.2
      exact wpOpIn_val (fun _ => trivial) rfl rfl (by intro c h; cases h) (ex_bin rfl (hv.get 2 rfl rfl (hd 2 (by decide))) rfl (by go_simp)) ⟨b, hv.put tk_yes_apart 3 rfl (lb rfl) (lb rfl) rfl, HO⟩
    ·
      rintro L a wc ⟨b, hv, HO⟩ hL hc hd
      exact wpOpIn_val (fun _ => trivial) rfl rfl (by intro c h; cases h) (ex_bin rfl (hv.get 3 rfl rfl (hd 3 (by decide))) rfl (by go_simp)) ⟨b, hv.put tk_yes_apart 4 rfl (lb rfl) (lb rfl) rfl, HO⟩
    ·
      rintro L a wc ⟨b, hv, HO⟩ hL hc hd
      exact wpOpIn_val (fun _ => trivial) rfl rfl (by intro c h; cases h) (ex_move rfl (hv.get 4 rfl rfl (hd 4 (by decide)))) ⟨b, hv.put tk_yes_apart 5 rfl (lb rfl) (lb rfl) rfl, HO⟩
    ·
      rintro L a wc ⟨b, hv, HO⟩ hL hc hd
      have n15 : L 15 = false := Bool.eq_false_iff.2 fun h => Bool.false_ne_true (hL.symm.trans (hc 15 h 6 (by decide)))
      have hO := HO.out
      rw [if_neg (by simp [n15])] at hO
      have e0 : wc.cell? ⟨TB, 0, none⟩ = some (.func (.func 56) #[] #[.pointer (some ⟨YB, 0, none⟩), .pointer (some ⟨MB, 0, none⟩), .pointer (some ⟨TB, 0, none⟩)]) := hO.cell hTB
      exact wpOpIn_val (fun _ => trivial) rfl ((wanted_at rfl rfl (hv.get 5 rfl rfl (hd 5 (by decide)))).trans rfl) (by intro c h; cases h) (ex_load rfl ((hv.fixed 5 (by decide)).trans rfl) (by go_simp)) ⟨b, hv.put tk_yes_apart 6 rfl (lb rfl) (lb rfl) rfl, HO⟩
    ·
      rintro L a wc ⟨b, hv, HO⟩ hL hc hd
      exact wpOpIn_val (fun _ => trivial) rfl ((wanted_at rfl rfl (hv.get 5 rfl rfl (hd 5 (by decide)))).trans rfl) (by intro c h; cases h) (ex_move rfl ((hv.fixed 10 (by decide)).trans rfl)) ⟨b, hv.put tk_yes_apart 7 rfl (lb rfl) (lb rfl) rfl, HO⟩
    ·
      rintro L a wc ⟨b, hv, HO⟩ hL hc hd
      have hwr : IntKind.i64.wrap ((k : Int) + 1) = (k : Int) + 1 := by rw [IntKind.wrap_i64]; omega
      have hcc : ((k + 1 : Nat) : Int) = (k : Int) + 1 := rfl
      exact wpOpIn_val (fun _ => trivial) rfl ((wanted_at rfl rfl (hv.get 5 rfl rfl (hd 5 (by decide)))).trans rfl) (by intro c h; cases h) (ex_bin rfl (hv.get 7 rfl rfl (hd 7 (by decide))) rfl (by go_simp)) ⟨b, hv.put tk_yes_apart 8 rfl (lb rfl) (lb rfl) rfl, HO⟩
    ·
      rintro L a wc ⟨b, hv, HO⟩ hL hc hd
      exact wpOpIn_val (fun _ => trivial) rfl ((wanted_at rfl rfl (hv.get 5 rfl rfl (hd 5 (by decide)))).trans rfl) (by intro c h; cases h) (ex_move rfl ((hv.fixed 1 (by decide)).trans rfl)) ⟨b, hv.put tk_yes_apart 9 rfl (lb rfl) (lb rfl) rfl, HO⟩
    ·
      rintro L a wc ⟨b, hv, HO⟩ hL hc hd
      exact wpOpIn_val (fun _ => trivial) rfl ((wanted_at rfl rfl (hv.get 5 rfl rfl (hd 5 (by decide)))).trans rfl) (by intro c h; cases h) (ex_move rfl ((hv.fixed 10 (by decide)).trans rfl)) ⟨b, hv.put tk_yes_apart 10 rfl (lb rfl) (lb rfl) rfl, HO⟩
    ·
      rintro L a wc ⟨b, hv, HO⟩ hL hc hd
      have h2 := HP.out.1
      exact wpOpIn_val (fun _ => trivial) rfl ((wanted_at rfl rfl (hv.get 5 rfl rfl (hd 5 (by decide)))).trans rfl) (by intro c h; cases h) (ex_bin rfl rfl (hv.get 10 rfl rfl (hd 10 (by decide))) (by go_simp)) ⟨b, hv.put tk_yes_apart 11 rfl (lb rfl) (lb rfl) rfl, HO⟩
    ·
      rintro L a wc ⟨b, hv, HO⟩ hL hc hd
      have h2 := HP.out.2
      exact wpOpIn_val (fun _ => trivial) rfl ((wanted_at rfl rfl (hv.get 5 rfl rfl (hd 5 (by decide)))).trans rfl) (by intro c h; cases h) (ex_bin rfl (hv.get 9 rfl rfl (hd 9 (by decide))) (hv.get 11 rfl rfl (hd 11 (by decide))) (by go_simp)) ⟨b, hv.put tk_yes_apart 12 rfl (lb rfl) (lb rfl) rfl, HO⟩
    ·
      rintro L a wc ⟨b, hv, HO⟩ hL hc hd
      exact wpOpIn_val (fun _ => trivial) rfl ((wanted_at rfl rfl (hv.get 5 rfl rfl (hd 5 (by decide)))).trans rfl) (by intro c h; cases h) (ex_move rfl ((hv.fixed 2 (by decide)).trans rfl)) ⟨b, hv.put tk_yes_apart 13 rfl (lb rfl) (lb rfl) rfl, HO⟩
    ·
      rintro L a wc ⟨b, hv, HO⟩ hL hc hd
      have hwr : IntKind.i64.wrap (lf : Int) = (lf : Int) := by rw [IntKind.wrap_i64]; omega
      exact wpOpIn_val (fun _ => trivial) rfl ((wanted_at rfl rfl (hv.get 5 rfl rfl (hd 5 (by decide)))).trans rfl) (by intro c h; cases h) (ex_bin rfl (hv.get 13 rfl rfl (hd 13 (by decide))) rfl (by go_simp)) ⟨b, hv.put tk_yes_apart 14 rfl (lb rfl) (lb rfl) rfl, HO⟩
    ·
      rintro L a wc ⟨b, hv, HO⟩ hL hc hd
      have hO := HO.out
      rw [if_neg (by simp [hL])] at hO
      refine wpOpIn_callw (fun _ => trivial) rfl rfl ((wanted_at rfl rfl (hv.get 5 rfl rfl (hd 5 (by decide)))).trans rfl) (by intro c h; cases h) (ex_call rfl (hv.get 6 rfl rfl (hd 6 (by decide))) (map3m (hv.get 8 rfl rfl (hd 8 (by decide))) (hv.get 12 rfl rfl (hd 12 (by decide))) (hv.get 14 rfl rfl (hd 14 (by decide)))) (ent_take _ _)) (hy wc hO) ?_
      rintro v w' ⟨b', rfl, hR⟩
      have n16 : L 16 = false := Bool.eq_false_iff.2 fun h => Bool.false_ne_true (hL.symm.trans (hc 16 h 15 (by decide)))
      have n17 : L 17 = false := Bool.eq_false_iff.2 fun h => Bool.false_ne_true (hL.symm.trans (hc 16 (hc 17 h 16 (by decide)) 15 (by decide)))
      have hv := (hv.reset 16 n16 (.bool (!b'))).reset 17 n17 (.bool (!b'))
      exact ⟨b', hv.put tk_yes_apart 15 rfl (lb rfl) (lb rfl) rfl, Lib.hid (by rw [if_pos (show upd L 15 15 = true from by simp [upd])]; exact hR)⟩
    ·
      rintro L a wc ⟨b, hv, HO⟩ hL hc hd
      exact wpOpIn_val (fun _ => trivial) rfl ((wanted_at rfl rfl (hv.get 5 rfl rfl (hd 5 (by decide)))).trans rfl) (by intro c h; cases h) (ex_un rfl (hv.get 15 rfl rfl (hd 15 (by decide))) (by go_simp)) ⟨b, hv.put tk_yes_apart 16 rfl (lb rfl) (lb rfl) rfl, HO⟩
    ·
      rintro L a wc ⟨b, hv, HO⟩ hL hc hd
      exact wpOpIn_val (fun _ => trivial) rfl rfl (by intro c h; cases h) (ex_pick rfl (hv.get 5 rfl rfl (hd 5 (by decide))) ((if_pos rfl).trans (hv.get 16 rfl rfl (hd 16 (by decide))))) ⟨b, hv.put tk_yes_apart 17 rfl (lb rfl) (lb rfl) rfl, HO⟩
  · rintro L a wc ⟨b, hv, HO⟩ hall
    show K a wc
    have ha := act_n rl44 hv.size hv.defers rfl
    simp +decide only [hv.fixed, hv.get 17 (d := 43) rfl rfl (hall 17 (by decide))] at ha
    rw [ha]
    have h := HO.out
    rw [if_pos (hall 15 (by decide))] at h
    exact hK b _ _ _ _ _ _ _ _ _ _ _ _ _ _ _ _ _ wc h
noncomputable def tk_no_code : Code := ((Tryd.f56.body.bind (regionOf 6)).getD .skip)
def tk_no_dsts : List (Option Nat) := [some 26, some 27, some 28, some 29, some 30, some 31, some 32, some 33, some 34, some 35, some 36, some 37, some 38, some 39, some 40, some 41, some 42, some 43]
theorem tk_no_apart : apartD tk_no_dsts = true := by decide +kernel
set_option maxRecDepth 1000000 in
set_option maxHeartbeats 16000000 in
theorem tk_no (m MB mk k q : Nat) (wr : World) (hk : k ≤ 40) (HQ : Hid (((mk : Int) / 2 ^ k = (q : Int)) ∧ bits .and .i64 (q : Int) 1 = 0)) (hMB : wr.cell? ⟨MB, 0, none⟩ = some (.int .i64 (mk : Nat))) (c0 c1 c2 c3 c5 c6 c7 c8 c9 c11 c12 c13 c14 c15 c16 c17 c18 c19 c20 c21 c22 c23 c24 c25 c26 c27 c28 c29 c30 c31 c32 c33 c34 c35 c36 c37 c38 c39 c40 c41 c42 c43 : Value) (df : List Deferred) (K : Act → World → Prop)
    (hK : ∀  (u26 u27 u28 u29 u30 u31 u32 u33 u34 u35 u36 u37 u38 u39 u40 u41 u42 : Value) (wx : World), Ext wr wx → K ⟨#[c0, c1, c2, c3, .pointer (some ⟨MB, 0, none⟩), c5, c6, c7, c8, c9, .int .i64 (k : Nat), c11, c12, c13, c14, c15, c16, c17, c18, c19, c20, c21, c22, c23, c24, c25, u26, u27, u28, u29, u30, u31, u32, u33, u34, u35, u36, u37, u38, u39, u40, u41, u42, .bool false], df⟩ wx) :
    Code.wpIn Fence.wide m Tryd.prog tk_no_code (AtEnd K) ⟨#[c0, c1, c2, c3, .pointer (some ⟨MB, 0, none⟩), c5, c6, c7, c8, c9, .int .i64 (k : Nat), c11, c12, c13, c14, c15, c16, c17, c18, c19, c20, c21, c22, c23, c24, c25, c26, c27, c28, c29, c30, c31, c32, c33, c34, c35, c36, c37, c38, c39, c40, c41, c42, c43], df⟩ wr := by
  conv => arg 4; whnf
  refine region_invIn (by kernel_rfl) [[], [], [0, 1], [2], [3], [4], [5], [5], [7, 5], [5], [5], [10, 5], [9, 11, 5], [5], [13, 5], [6, 8, 12, 14, 5, 5], [15, 5], [5, 16]] (by kernel_rfl) [0, 1, 2, 3, 4, 5, 6, 7, 8, 9, 10, 11, 12, 13, 14, 15, 16, 17] (by decide +kernel) (by decide +kernel) (by decide +kernel) (fun L a wc => Inv tk_no_dsts [.int .i64 (mk : Nat), .int .i64 (k : Nat), .int .i64 (q : Nat), .int .i64 0, .bool false, .bool false, undef, undef, undef, undef, undef, undef, undef, undef, undef, undef, undef, .bool false] ⟨#[c0, c1, c2, c3, .pointer (some ⟨MB, 0, none⟩), c5, c6, c7, c8, c9, .int .i64 (k : Nat), c11, c12, c13, c14, c15, c16, c17, c18, c19, c20, c21, c22, c23, c24, c25, c26, c27, c28, c29, c30, c31, c32, c33, c34, c35, c36, c37, c38, c39, c40, c41, c42, c43], df⟩ L a ∧ Hid (Ext wr wc)) ⟨Inv.start, Lib.hid ((Ext.refl wr).drew)⟩ ?_ ?_
  · refine ⟨?_, ?_, ?_, ?_, ?_, ?_, ?_, ?_, ?_, ?_, ?_, ?_, ?_, ?_, ?_, ?_, ?_, ?_, trivial⟩
    ·
      rintro L a wc ⟨hv, HO⟩ hL hc hd
      have hO := HO.out
      have e0 : wc.cell? ⟨MB, 0, none⟩ = some (.int .i64 (mk : Nat)) := hO.cell hMB
      exact wpOpIn_val (fun _ => trivial) rfl rfl (by intro c h; cases h) (ex_load rfl ((hv.fixed 4 (by decide)).trans rfl) (by go_simp)) ⟨hv.put tk_no_apart 0 rfl (lb rfl) (lb rfl) rfl, HO⟩
    ·
      rintro L a wc ⟨hv, HO⟩ hL hc hd
      exact wpOpIn_val (fun _ => trivial) rfl rfl (by intro c h; cases h) (ex_move rfl ((hv.fixed 10 (by decide)).trans rfl)) ⟨hv.put tk_no_apart 1 rfl (lb rfl) (lb rfl) rfl, HO⟩
    ·
      rintro L a wc ⟨hv, HO⟩ hL hc hd
      have hq := HQ.out.1
      exact wpOpIn_val (fun _ => trivial) rfl rfl (by intro c h; cases h) (ex_bin rfl (hv.get 0 rfl rfl (hd 0 (by decide))) (hv.get 1 rfl rfl (hd 1 (by decide))) (by go_simp)) ⟨hv.put tk_no_apart 2 rfl (lb rfl) (lb rfl) rfl, HO⟩
    ·
      rintro L a wc ⟨hv, HO⟩ hL hc hd
      have hq := HQ.out.2
      exact wpOpIn_val (fun _ => trivial) rfl rfl (by intro c h; cases h) (ex_bin rfl (hv.get 2 rfl rfl (hd 2 (by decide))) rfl (by go_simp)) ⟨hv.put tk_no_apart 3 rfl (lb rfl) (lb rfl) rfl, HO⟩
    ·
      rintro L a wc ⟨hv, HO⟩ hL hc hd
      exact wpOpIn_val (fun _ => trivial) rfl rfl (by intro c h; cases h) (ex_bin rfl (hv.get 3 rfl rfl (hd 3 (by decide))) rfl (by go_simp)) ⟨hv.put tk_no_apart 4 rfl (lb rfl) (lb rfl) rfl, HO⟩
    ·
      rintro L a wc ⟨hv, HO⟩ hL hc hd
      exact wpOpIn_val (fun _ => trivial) rfl rfl (by intro c h; cases h) (ex_move rfl (hv.get 4 rfl rfl (hd 4 (by decide)))) ⟨hv.put tk_no_apart 5 rfl (lb rfl) (lb rfl) rfl, HO⟩
    ·
      rintro L a wc ⟨hv, HO⟩ hL hc hd
      exact wpOpIn_off (fun _ => trivial) rfl ((wanted_at rfl rfl (hv.get 5 rfl rfl (hd 5 (by decide)))).trans rfl) ⟨hv.put tk_no_apart 6 rfl (lb rfl) (lb rfl) rfl, HO⟩
    ·
      rintro L a wc ⟨hv, HO⟩ hL hc hd
      exact wpOpIn_off (fun _ => trivial) rfl ((wanted_at rfl rfl (hv.get 5 rfl rfl (hd 5 (by decide)))).trans rfl) ⟨hv.put tk_no_apart 7 rfl (lb rfl) (lb rfl) rfl, HO⟩
    ·
      rintro L a wc ⟨hv, HO⟩ hL hc hd
      exact wpOpIn_off (fun _ => trivial) rfl ((wanted_at rfl rfl (hv.get 5 rfl rfl (hd 5 (by decide)))).trans rfl) ⟨hv.put tk_no_apart 8 rfl (lb rfl) (lb rfl) rfl, HO⟩
    ·
      rintro L a wc ⟨hv, HO⟩ hL hc hd
      exact wpOpIn_off (fun _ => trivial) rfl ((wanted_at rfl rfl (hv.get 5 rfl rfl (hd 5 (by decide)))).trans rfl) ⟨hv.put tk_no_apart 9 rfl (lb rfl) (lb rfl) rfl, HO⟩
    ·
      rintro L a wc ⟨hv, HO⟩ hL hc hd
      exact wpOpIn_off (fun _ => trivial) rfl ((wanted_at rfl rfl (hv.get 5 rfl rfl (hd 5 (by decide)))).trans rfl) ⟨hv.put tk_no_apart 10 rfl (lb rfl) (lb rfl) rfl, HO⟩
    ·
      rintro L a wc ⟨hv, HO⟩ hL hc hd
      exact wpOpIn_off (fun _ => trivial) rfl ((wanted_at rfl rfl (hv.get 5 rfl rfl (hd 5 (by decide)))).trans rfl) ⟨hv.put tk_no_apart 11 rfl (lb rfl) (lb rfl) rfl, HO⟩
    ·
      rintro L a wc ⟨hv, HO⟩ hL hc hd
      exact wpOpIn_off (fun _ => trivial) rfl ((wanted_at rfl rfl (hv.get 5 rfl rfl (hd 5 (by decide)))).trans rfl) ⟨hv.put tk_no_apart 12 rfl (lb rfl) (lb rfl) rfl, HO⟩
    ·
      rintro L a wc ⟨hv, HO⟩ hL hc hd
      exact wpOpIn_off (fun _ => trivial) rfl ((wanted_at rfl rfl (hv.get 5 rfl rfl (hd 5 (by decide)))).trans rfl) ⟨hv.put tk_no_apart 13 rfl (lb rfl) (lb rfl) rfl, HO⟩
    ·
      rintro L a wc ⟨hv, HO⟩ hL hc hd
      exact wpOpIn_off (fun _ => trivial) rfl ((wanted_at rfl rfl (hv.get 5 rfl rfl (hd 5 (by decide)))).trans rfl) ⟨hv.put tk_no_apart 14 rfl (lb rfl) (lb rfl) rfl, HO⟩
    ·
      rintro L a wc ⟨hv, HO⟩ hL hc hd
      exact wpOpIn_off (fun _ => trivial) rfl ((wanted_at rfl rfl (hv.get 5 rfl rfl (hd 5 (by decide)))).trans rfl) ⟨hv.put tk_no_apart 15 rfl (lb rfl) (lb rfl) rfl, HO⟩
    ·
      rintro L a wc ⟨hv, HO⟩ hL hc hd
      exact wpOpIn_off (fun _ => trivial) rfl ((wanted_at rfl rfl (hv.get 5 rfl rfl (hd 5 (by decide)))).trans rfl) ⟨hv.put tk_no_apart 16 rfl (lb rfl) (lb rfl) rfl, HO⟩
    ·
      rintro L a wc ⟨hv, HO⟩ hL hc hd
      exact wpOpIn_val (fun _ => trivial) rfl rfl (by intro c h; cases h) (ex_pick rfl (hv.get 5 rfl rfl (hd 5 (by decide))) rfl) ⟨hv.put tk_no_apart 17 rfl (lb rfl) (lb rfl) rfl, HO⟩
  · rintro L a wc ⟨hv, HO⟩ hall
    show K a wc
    have ha := act_n rl44 hv.size hv.defers rfl
    simp +decide only [hv.fixed, hv.get 17 (d := 43) rfl rfl (hall 17 (by decide))] at ha
    rw [ha]
    exact hK _ _ _ _ _ _ _ _ _ _ _ _ _ _ _ _ _ wc HO.out
end Go.Proofs.YtggfkpalkdkbdaaDoor

/- THE WALK over OnesCount, for small numbers. -/
namespace Ones
def cntF : Nat → Nat → Nat
  | 0, _ => 0
  | k + 1, n => n % 2 + cntF k (n / 2)
/-- How many elements a set has. -/
def cnt (n : Nat) : Nat := cntF 16 n
/-- What OnesCount64 reckons, for small numbers. -/
def pop (n : Nat) : Nat :=
  let x := (n / 2 &&& 6148914691236517205) + (n &&& 6148914691236517205)
  let y := (x / 4 &&& 3689348814741910323) + (x &&& 3689348814741910323)
  let z := (y / 16 + y) &&& 1085102592571150095
  (z + z / 256) &&& 127
theorem pop_all : (List.range 16384).all (fun n => pop n == cnt n) = true := by kernel_rfl
theorem pop_cnt {n : Nat} (h : n < 16384) : pop n = cnt n := by
  have := List.all_eq_true.1 pop_all n (by simpa using h)
  simpa using this
end Ones
namespace Go.Proofs.YtggfkpalkdkbdaaDoor
open Go.RowKit
theorem andU (a b : Nat) (ha : a < 9223372036854775808) (hb : b < 9223372036854775808) : bits .and .u64 (a : Int) (b : Int) = ((a &&& b : Nat) : Int) := by
  have hx : a &&& b < 2 ^ 63 := Nat.and_lt_two_pow _ (by omega)
  show IntKind.u64.wrap ((BitVec.ofInt 64 (a : Int) &&& BitVec.ofInt 64 (b : Int)).toNat : Int) = _
  rw [BitVec.toNat_and, ofInt64 a ha, ofInt64 b hb, IntKind.wrap_u64]
  omega
theorem ones64 (n : Nat) (w : World) (hn : n < 16384) :
    Calls Tryd.prog 79 #[.int .u64 n] w fun e w' => e = .returned (.int .i64 (Ones.cnt n : Nat)) ∧ w = w' := by
  obtain ⟨x1, hx1⟩ : ∃ x1, n / 2 &&& 6148914691236517205 = x1 := ⟨_, rfl⟩
  obtain ⟨x2, hx2⟩ : ∃ x2, n &&& 6148914691236517205 = x2 := ⟨_, rfl⟩
  obtain ⟨y1, hy1⟩ : ∃ y1, (x1 + x2) / 4 &&& 3689348814741910323 = y1 := ⟨_, rfl⟩
  obtain ⟨y2, hy2⟩ : ∃ y2, (x1 + x2) &&& 3689348814741910323 = y2 := ⟨_, rfl⟩
  obtain ⟨z, hz⟩ : ∃ z, ((y1 + y2) / 16 + (y1 + y2)) &&& 1085102592571150095 = z := ⟨_, rfl⟩
  obtain ⟨r, hr⟩ : ∃ r, (z + z / 256) &&& 127 = r := ⟨_, rfl⟩
  have hp : r = Ones.cnt n := by
    rw [← Ones.pop_cnt hn, ← hr, ← hz, ← hy1, ← hy2, ← hx1, ← hx2]
    rfl
  have b1 : x1 ≤ 8192 := by rw [← hx1]; exact Nat.le_trans Nat.and_le_left (by omega)
  have b2 : x2 ≤ 16384 := by rw [← hx2]; exact Nat.le_trans Nat.and_le_left (by omega)
  have b3 : y1 ≤ 8192 := by rw [← hy1]; exact Nat.le_trans Nat.and_le_left (by omega)
  have b4 : y2 ≤ 32768 := by rw [← hy2]; exact Nat.le_trans Nat.and_le_left (by omega)
  have b5 : z ≤ 60000 := by rw [← hz]; exact Nat.le_trans Nat.and_le_left (by omega)
  have e1 : bits .and .u64 ((n : Int) / 2) 6148914691236517205 = (x1 : Int) := by
    have := andU (n / 2) 6148914691236517205 (by omega) (by omega)
    rw [hx1] at this
    exact this
  have e2 : bits .and .u64 (n : Int) 6148914691236517205 = (x2 : Int) := by
    have := andU n 6148914691236517205 (by omega) (by omega)
    rw [hx2] at this
    exact this
  have e3 : bits .and .u64 (((x1 : Int) + x2) / 4) 3689348814741910323 = (y1 : Int) := by
    have := andU ((x1 + x2) / 4) 3689348814741910323 (by omega) (by omega)
    rw [hy1] at this
    exact this
  have e4 : bits .and .u64 ((x1 : Int) + x2) 3689348814741910323 = (y2 : Int) := by
    have := andU (x1 + x2) 3689348814741910323 (by omega) (by omega)
    rw [hy2] at this
    exact this
  have e5 : bits .and .u64 (((y1 : Int) + y2) / 16 + ((y1 : Int) + y2)) 1085102592571150095 = (z : Int) := by
    have := andU ((y1 + y2) / 16 + (y1 + y2)) 1085102592571150095 (by omega) (by omega)
    rw [hz] at this
    exact this
  have e6 : bits .and .i64 ((z : Int) + z / 256) 127 = (r : Int) := by
    have := and64 (z + z / 256) 127 (by omega) (by omega)
    rw [hr] at this
    exact this
  have d1 : ((z : Int) + z / 256) / 65536 = 0 := by omega
  have d2 : ((z : Int) + z / 256) / 4294967296 = 0 := by omega
  have HP := Lib.hid hp
  clear hx1 hx2 hy1 hy2 hz hr hp hn
  go_enter Tryd.func79, Tryd.ntmps79
  go_wp2_with fail
  go_ret
  exact ⟨ret_int (by rw [HP.out]), rfl⟩
set_option maxRecDepth 100000 in
theorem ones_any (n : Nat) (w : World) (hn : n < 16384) :
    Calls Tryd.prog 44 #[.int .u64 n] w fun e w' => e = .returned (.int .i64 (Ones.cnt n : Nat)) ∧ w = w' := by
  go_enter Tryd.func44, Tryd.ntmps44
  go_wp2_with fail
  refine (ones64 n _ hn).mono ?_
  rintro e w' ⟨rfl, rfl⟩
  go_wp2_with fail
  go_ret
  exact ⟨rfl, rfl⟩
end Go.Proofs.YtggfkpalkdkbdaaDoor

/- THE WALK over the specification's Count; how many elements a set has. -/
namespace Cd
theorem bit_zero (s : Nat) : bitAt s 0 = s % 2 := by simp [bitAt]
theorem bit_succ (s i : Nat) : bitAt s (i + 1) = bitAt (s / 2) i := by
  unfold bitAt
  rw [Nat.pow_succ, Nat.mul_comm, Nat.div_div_eq_div_mul]
theorem cntF_list : ∀ (k s : Nat), Ones.cntF k s = ((List.range k).filter fun i => bitAt s i == 1).length
  | 0, _ => rfl
  | k + 1, s => by
    have e : ((List.range k).map Nat.succ).filter (fun i => bitAt s i == 1) = ((List.range k).filter fun i => bitAt (s / 2) i == 1).map Nat.succ := by
      rw [List.filter_map]
      congr 1
      exact List.filter_congr fun i _ => by simp [bit_succ]
    rw [Ones.cntF, cntF_list k, List.range_succ_eq_map, List.filter_cons, e, bit_zero]
    rcases Nat.mod_two_eq_zero_or_one s with h | h
    · rw [h]; simp
    · rw [h]; simp; omega
theorem cnt_le (s : Nat) : Ones.cnt s ≤ 16 := by
  unfold Ones.cnt
  rw [cntF_list]
  have := List.length_filter_le (fun i => bitAt s i == 1) (List.range 16)
  simpa using this
end Cd
namespace Go.Proofs.YtggfkpalkdkbdaaDoor
open Go.RowKit
theorem cCount_any (s : Nat) (w : World) (hs : s < 65536) : Calls Tryd.prog 36 #[.int .i64 s] w fun e w' => e = .returned (.int .i64 (Ones.cnt s : Nat)) ∧ w = w' := by
  go_enter Tryd.func36, Tryd.ntmps36
  go_wp2_with fail
  go_loop [0, 3] (fun vs vn => ∃ (t n k : Nat), vs = .int .i64 t ∧ vn = .int .i64 n ∧ k ≤ 16 ∧ t < 65536 ∧ n ≤ 16 ∧ Hid (t < 2 ^ k ∧ n + Ones.cntF k t = Ones.cnt s ∧ n + k ≤ 16)) (fun vs _ => (intOf vs).toNat)
  case atStart => exact ⟨s, 0, 16, rfl, rfl, by omega, hs, by omega, hs, by simp [Ones.cnt], by omega⟩
  case round =>
    obtain ⟨t, n, k, rfl, rfl, hk, ht, hn, HR⟩ := hrel
    by_cases h0 : 0 < t
    · have hk0 : 0 < k := by
        rcases Nat.eq_zero_or_pos k with h | h
        · have := HR.out.1; rw [h] at this; omega
        · exact h
      obtain ⟨j, rfl⟩ : ∃ j, k = j + 1 := ⟨k - 1, by omega⟩
      have hn1 : n + t % 2 + Ones.cntF j (t / 2) = Ones.cnt s := by
        have := HR.out.2.1
        rw [Ones.cntF] at this
        omega
      have ht2 : t / 2 < 2 ^ j := by have := HR.out.1; rw [Nat.pow_succ] at this; omega
      have hm : t % 2 ≤ 1 := by omega
      have hq := HR.out.2.2
      have HN := Lib.hid (And.intro hn1 (And.intro ht2 hq))
      clear hn1 ht2
      go_wp2_with fail
      go_round
      case rel => exact ⟨t / 2, n + t % 2, j, by go_num, by go_num, by omega, by omega, by omega, HN.out.2.1, HN.out.1, by omega⟩
      case measure => simp [intOf]; omega
    · obtain rfl : t = 0 := by omega
      have hz : ∀ k, Ones.cntF k 0 = 0 := by
        intro k
        induction k with
        | zero => rfl
        | succ k ih => rw [Ones.cntF, show 0 / 2 = 0 from rfl, ih]
      have hfin := HR.out.2.1
      rw [hz] at hfin
      have HF := Lib.hid hfin
      clear hfin hz h0
      go_wp2_with fail
      go_ret
      exact ⟨ret_int (by have := HF.out; omega), rfl⟩
end Go.Proofs.YtggfkpalkdkbdaaDoor

/- THE WALKS over without of package locate and its closures. -/
namespace Lo
open Cd
/-- What without yields: what is left, and what was taken away. -/
def pairs (m : Nat) (T : List Nat) : List (Nat × Nat) := T.map fun t => (m - t, t)
theorem pairs_append (m : Nat) (S T : List Nat) : pairs m (S ++ T) = pairs m S ++ pairs m T := List.map_append
theorem pairs_len (m : Nat) (T : List Nat) : (pairs m T).length = T.length := List.length_map _
theorem or_new {t k : Nat} (h : t < 2 ^ k) : t ||| 2 ^ k = t + 2 ^ k := by
  have := Nat.two_pow_add_eq_or_of_lt h 1
  rw [Nat.mul_one] at this
  rw [Nat.add_comm, this, Nat.or_comm]
theorem sub_new {m t k : Nat} (h : Sub t m) (ht : t < 2 ^ k) (hk : bitAt m k = 1) : Sub (t + 2 ^ k) m := fun i hi => by
  rw [← or_new ht, or_bit] at hi
  rcases hi with hi | hi
  · exact h i hi
  · have : i = k := by
      by_cases e : i = k
      · exact e
      · exfalso
        unfold bitAt at hi
        rcases Nat.lt_or_gt_of_ne e with e | e
        · obtain ⟨j, rfl⟩ : ∃ j, k = i + (j + 1) := ⟨k - i - 1, by omega⟩
          rw [Nat.pow_add, Nat.mul_div_cancel_left _ (Nat.pow_pos (by decide)), Nat.pow_succ, Nat.mul_mod_left] at hi
          cases hi
        · rw [Nat.div_eq_of_lt (Nat.pow_lt_pow_right (by decide) e)] at hi
          cases hi
    rw [this]; exact hk
end Lo
namespace Go.Proofs.YtggfkpalkdkbdaaDoor
open Go.RowKit Go.Shelf
attribute [local go_sem] Oper.semAt_some
theorem andNot_sub {m t : Nat} (hm : m < 2 ^ 40) (h : Lo.Sub t m) : bits .andNot .i64 (m : Int) (t : Int) = ((m - t : Nat) : Int) := by
  have htm := Lo.sub_le h
  have h40 : (2 : Nat) ^ 40 = 1099511627776 := by decide
  have e : (BitVec.ofInt 64 (m : Int) &&& ~~~ BitVec.ofInt 64 (t : Int)).toNat = m - t := by
    have hx : (BitVec.ofInt 64 (m : Int)) = BitVec.ofNat 64 m := by
      apply BitVec.eq_of_toNat_eq
      rw [ofInt64 _ (by omega), BitVec.toNat_ofNat, Nat.mod_eq_of_lt (by omega)]
    have hy : (BitVec.ofInt 64 (t : Int)) = BitVec.ofNat 64 t := by
      apply BitVec.eq_of_toNat_eq
      rw [ofInt64 _ (by omega), BitVec.toNat_ofNat, Nat.mod_eq_of_lt (by omega)]
    rw [hx, hy]
    have b1 : ∀ x i, Cd.bitAt x i = (x.testBit i).toNat := fun x i => by
      rw [Nat.testBit_eq_decide_div_mod_eq]
      unfold Cd.bitAt
      by_cases h : x / 2 ^ i % 2 = 1
      · rw [h]; rfl
      · rw [decide_eq_false h]; show _ = 0; omega
    refine Lo.bits_eq 64 _ _ (BitVec.isLt _) (by omega) fun i => ?_
    rw [Lo.minus_bit h, b1, b1, b1, BitVec.testBit_toNat, BitVec.getLsbD_and, BitVec.getLsbD_not, BitVec.getLsbD_ofNat, BitVec.getLsbD_ofNat]
    have hmi : 64 ≤ i → m.testBit i = false := fun hi => Nat.testBit_lt_two_pow (Nat.lt_of_lt_of_le (show m < 2 ^ 64 by omega) (Nat.pow_le_pow_right (by decide) hi))
    have hti := h i
    rw [b1, b1] at hti
    by_cases hi : i < 64
    · simp only [hi, decide_true, Bool.true_and]
      cases hmb : m.testBit i <;> cases htb : t.testBit i <;> simp_all
    · simp only [hi, decide_false, Bool.false_and]
      rw [hmi (by omega)]
      simp
  show IntKind.i64.wrap ((BitVec.ofInt 64 (m : Int) &&& ~~~ BitVec.ofInt 64 (t : Int)).toNat : Int) = _
  rw [e, IntKind.wrap_i64]
  omega
/-- What a round keeps. -/
def K2 (A B : World) : Prop := A.heap.size ≤ B.heap.size ∧ KeepsC A B
theorem K2.trans {A B C : World} (h : K2 A B) (k : K2 B C) : K2 A C := ⟨Nat.le_trans h.1 k.1, h.2.trans k.2⟩
theorem K2.of_ext {A B : World} (h : Ext A B) : K2 A B := ⟨h.size, KeepsC.of_ext h⟩
def encP (x : Nat × Nat) : Array Value := #[.int .i64 (x.1 : Nat), .int .i64 (x.2 : Nat)]
/-- What is known of a pair: a part that is taken away, and what is left. -/
def PairV (m : Nat) (x : Nat × Nat) (_ : World) : Prop := Lo.Sub x.2 m ∧ x.1 = m - x.2
/-- The cells that the closure reads. -/
structure TakeAt (W : World) (l YB MB TB m : Nat) : Prop where
  mb : W.cell? ⟨MB, 0, none⟩ = some (.int .i64 (m : Nat))
  yb : W.cell? ⟨YB, 0, none⟩ = some (.func (.yield l) #[] #[])
  tb : W.cell? ⟨TB, 0, none⟩ = some (.func (.func 56) #[] #[.pointer (some ⟨YB, 0, none⟩), .pointer (some ⟨MB, 0, none⟩), .pointer (some ⟨TB, 0, none⟩)])
theorem TakeAt.keep {W W' : World} {l YB MB TB m : Nat} (h : TakeAt W l YB MB TB m) (k : K2 W W') : TakeAt W' l YB MB TB m := ⟨k.2 _ _ h.mb, k.2 _ _ h.yb, k.2 _ _ h.tb⟩
/-- What the closure returns. -/
def TakeOut (J Jx : List (Nat × Nat) → World → Prop) (pre T : List (Nat × Nat)) (W : World) (b : Bool) (W' : World) : Prop :=
  (b = true ∧ J (pre ++ T) W' ∧ K2 W W') ∨ (b = false ∧ ∃ q, q <+: T ∧ Jx (pre ++ q) W')
theorem YieldAt.anyDepth2 {m : Nat} (m' : Nat) {P : Program} {l : Nat} {args : Array Value} {W : World} {R : Ending → World → Prop} (h : YieldAt Fence.wide m P l args W R) : YieldAt Fence.wide m' P l args W R := by
  obtain ⟨fn, tmps, assign, body, hy, hR⟩ := h
  exact ⟨fn, tmps, assign, body, hy, hR.1, fun c cs _ => hR.2 c cs (fun d h => by cases h)⟩
set_option maxHeartbeats 8000000 in
set_option maxRecDepth 100000 in
theorem take_in (l Nm : Nat) (J Jx : List (Nat × Nat) → World → Prop) (hJe : ∀ pre W W', J pre W → Ext W W' → J pre W') (YB MB TB m N : Nat) (hm : m < 2 ^ N) (hN : N ≤ 24)
    (hY : ∀ mm pre x W, J pre W → PairV m x W → pre.length < Nm → YieldAt Fence.wide mm Tryd.prog l (encP x) W fun e W' => (e = .returned (.bool true) ∧ J (pre ++ [x]) W' ∧ K2 W W') ∨ (e = .returned (.bool false) ∧ Jx (pre ++ [x]) W')) :
    ∀ (left mm i tk : Nat) (pre : List (Nat × Nat)) (W : World), left ≤ 40 → i ≤ N → Lo.Sub tk m → tk < 2 ^ i → TakeAt W l YB MB TB m → J pre W → pre.length + (Lo.takes m N left i tk).length ≤ Nm →
      CallsIn Fence.wide mm Tryd.prog 56 (#[.int .i64 (i : Nat), .int .i64 (tk : Nat), .int .i64 (left : Nat)] ++ #[.pointer (some ⟨YB, 0, none⟩), .pointer (some ⟨MB, 0, none⟩), .pointer (some ⟨TB, 0, none⟩)]) W fun e W' => ∃ v, e = .returned v ∧ ∃ b, v = .bool b ∧ TakeOut J Jx pre (Lo.pairs m (Lo.takes m N left i tk)) W b W'
  | 0, mm, i, tk, pre, W, hleft, hi, hs, htk, hM, hJ, hlen => by
    have hm40 : m < 2 ^ 40 := Nat.lt_of_lt_of_le hm (Nat.pow_le_pow_right (by decide) (by omega))
    have hy := hY (mm - 1) pre (m - tk, tk) W hJ ⟨hs, rfl⟩ (by rw [Lo.takes_zero] at hlen; simp at hlen; omega)
    obtain ⟨fn, tmps, assign, body, hyy, hRR⟩ := hy
    have m1 := hM.mb
    have m2 := hM.yb
    have hT : Lo.pairs m (Lo.takes m N 0 i tk) = [(m - tk, tk)] := by rw [Lo.takes_zero]; rfl
    rw [hT]
    have han := andNot_sub hm40 hs
    obtain ⟨z, hz⟩ : ∃ z, m - tk = z := ⟨_, rfl⟩
    rw [hz] at han hRR hyy ⊢
    unfold encP at hyy
    dsimp only at hyy
    have HRR := Lib.hid hRR
    clear hRR hM hJ hY hJe hT hz hlen hs htk
    refine callsIn_of_wp Tryd.func56 rfl trivial ?_ rfl
    simp only [Tryd.ntmps56, List.size_toArray, List.length_cons, List.length_nil, Nat.reduceAdd, Nat.reduceSub, Array.replicate_succ, Array.replicate_zero, List.push_toArray, List.append_toArray, List.nil_append, List.cons_append]
    gi_wp2
    refine ⟨fun h => (by cases h), HRR.out.mono ?_⟩
    rintro e W1 (⟨rfl, hJ1, hk1⟩ | ⟨rfl, hx1⟩)
    · have HJ1 := Lib.hid (And.intro hJ1 hk1)
      clear hJ1 hk1 m1 m2 hyy han
      gi_wp2
      go_ret
      exact ⟨_, rfl, true, rfl, .inl ⟨rfl, HJ1.out.1, HJ1.out.2⟩⟩
    · have HX := Lib.hid hx1
      clear hx1 m1 m2 hyy han
      gi_wp2
      go_ret
      exact ⟨_, rfl, false, rfl, .inr ⟨rfl, [(z, tk)], List.prefix_refl _, HX.out⟩⟩
  | lf + 1, mm, i, tk, pre, W, hleft, hi, hs, htk, hM, hJ, hlen => by
    have IH := Lib.hid (take_in l Nm J Jx hJe YB MB TB m N hm hN hY lf)
    have HM := Lib.hid hM
    have HJ := Lib.hid hJe
    have HJ0 := Lib.hid hJ
    have HNN := Lib.hid hlen
    obtain ⟨T, hT⟩ : ∃ T, Lo.pairs m (Lo.takes m N (lf + 1) i tk) = T := ⟨_, rfl⟩
    rw [hT]
    have HT := Lib.hid hT
    have HS := Lib.hid (And.intro hs htk)
    obtain ⟨L1, hL1⟩ : ∃ L1, lf + 1 = L1 := ⟨_, rfl⟩
    have HL1 := Lib.hid hL1
    have hne : ((L1 : Int) == 0) = false := by rw [beq_eq_false_iff_ne]; omega
    rw [hL1]
    have hmN : m < 16777216 := Nat.lt_of_lt_of_le hm (show 2 ^ N ≤ 2 ^ 24 from Nat.pow_le_pow_right (by decide) hN)
    have HMN := Lib.hid hm
    clear hM hJ hY hJe hT hlen hs htk hm hL1
    refine callsIn_of_wp Tryd.func56 rfl trivial ?_ rfl
    simp only [Tryd.ntmps56, List.size_toArray, List.length_cons, List.length_nil, Nat.reduceAdd, Nat.reduceSub, Array.replicate_succ, Array.replicate_zero, List.push_toArray, List.append_toArray, List.nil_append, List.cons_append]
    gi_wp2
    clear hne
    gi_loopw [10] (fun vk wr => ∃ (k : Nat) (q : List (Nat × Nat)), i ≤ k ∧ k ≤ N ∧ vk = .int .i64 (k : Nat) ∧ Hid (q ++ Lo.pairs m (Lo.takes m N (lf + 1) k tk) = T ∧ J (pre ++ q) wr ∧ K2 W wr)) (fun vk _ => N + 1 - (intOf vk).toNat)
    case atStart => exact ⟨i, [], Nat.le_refl _, hi, rfl, Lib.hid ⟨by rw [← HT.out]; rfl, by simpa using HJ0.out, K2.of_ext (Ext.refl _)⟩⟩
    case round =>
      obtain ⟨k, q, hik, hkN, rfl, HI⟩ := hrel
      have hM2 := HM.out.keep HI.out.2.2
      have m1 := hM2.mb
      have m3 := hM2.tb
      obtain ⟨z, hz⟩ : ∃ z, m / 2 ^ k = z := ⟨_, rfl⟩
      have hzi : (m : Int) / 2 ^ k = (z : Int) := by rw [← hz]; simp
      have hzm : z ≤ m := by rw [← hz]; exact Nat.div_le_self _ _
      have hb : Cd.bitAt m k = z % 2 := by rw [← hz]; rfl
      by_cases hz0 : z = 0
      · have hlt : m < 2 ^ k := by
          rcases Nat.lt_or_ge m (2 ^ k) with h | h
          · exact h
          · have := Nat.div_pos h (Nat.pow_pos (by decide))
            omega
        have hT := HI.out.1
        rw [Lo.takes_end hlt] at hT
        have hT2 : q = T := by rw [← hT]; exact (List.append_nil _).symm
        have hng : ¬ (0 : Int) < (m : Int) / 2 ^ k := by rw [hzi, hz0]; decide
        have HF := Lib.hid (And.intro hT2 (And.intro HI.out.2.1 HI.out.2.2))
        clear hT hT2 hlt hz hb hM2 m3 HI hz0 hzi hzm
        gi_wp2
        go_ret
        refine ⟨_, rfl, .inr ⟨rfl, .inl ⟨rfl, ?_, HF.out.2.2⟩⟩⟩
        rw [← HF.out.1]; exact HF.out.2.1
      · have hkN2 : k < N := by
          rcases Nat.lt_or_ge k N with h | h
          · exact h
          · exfalso
            have h2 : 2 ^ N ≤ 2 ^ k := Nat.pow_le_pow_right (by decide) h
            have := HMN.out
            rw [Nat.div_eq_of_lt (by omega)] at hz
            exact hz0 hz.symm
        have hpos : (0 : Int) < (m : Int) / 2 ^ k := by rw [hzi]; omega
        have hod := odd64 z (by omega)
        by_cases hbit : z % 2 = 1
        · have hbm : Cd.bitAt m k = 1 := by rw [hb]; exact hbit
          rw [hbit] at hod
          have htk : tk < 2 ^ k := Nat.lt_of_lt_of_le HS.out.2 (Nat.pow_le_pow_right (by decide) hik)
          obtain ⟨p2, hp2⟩ : ∃ p, 2 ^ k = p := ⟨_, rfl⟩
          have hp24 : p2 ≤ 16777216 := by rw [← hp2]; exact show 2 ^ k ≤ 2 ^ 24 from Nat.pow_le_pow_right (by decide) (by omega)
          have hw : IntKind.i64.wrap (2 ^ k) = (p2 : Int) := by
            have h1 := wrap_pow k (by omega)
            unfold wrap64 at h1
            rw [IntKind.wrap_i64, ← hp2]
            exact h1
          have hor : bits .or .i64 (tk : Int) (p2 : Int) = ((tk + p2 : Nat) : Int) := by
            rw [or64 _ _ (by omega) (by omega), ← hp2, Lo.or_new htk]
          have hsub := Lo.sub_new HS.out.1 htk hbm
          have hlt2 : tk + 2 ^ k < 2 ^ (k + 1) := by rw [Nat.pow_succ]; omega
          have hstep := Lo.takes_yes (left := lf) (taken := tk) hkN2 hbm
          rw [hp2] at hsub hlt2 hstep
          have hT := HI.out.1
          rw [hstep, Lo.pairs_append] at hT
          have hlen2 : (pre ++ q).length + (Lo.takes m N lf (k + 1) (tk + p2)).length ≤ Nm := by
            have h8 := congrArg List.length hT
            rw [← HT.out] at h8
            simp only [List.length_append, Lo.pairs_len] at h8 ⊢
            have := HNN.out
            omega
          have hcall : ∀ w1, Ext wr w1 → CallsIn Fence.wide (mm - 1) Tryd.prog 56 (#[.int .i64 (k + 1 : Nat), .int .i64 (tk + p2 : Nat), .int .i64 (lf : Nat)] ++ #[.pointer (some ⟨YB, 0, none⟩), .pointer (some ⟨MB, 0, none⟩), .pointer (some ⟨TB, 0, none⟩)]) w1 fun e w' => ∃ v, e = .returned v ∧ ∃ b, v = .bool b ∧ TakeOut J Jx (pre ++ q) (Lo.pairs m (Lo.takes m N lf (k + 1) (tk + p2))) wr b w' := fun w1 hx => by
            refine (IH.out (mm - 1) (k + 1) (tk + p2) (pre ++ q) w1 (by omega) (by omega) hsub hlt2 (hM2.keep (K2.of_ext hx)) (HJ.out _ _ _ HI.out.2.1 hx) hlen2).mono ?_
            rintro e w' ⟨v, rfl, b, rfl, ho⟩
            refine ⟨_, rfl, b, rfl, ?_⟩
            rcases ho with ⟨rfl, h4, h5⟩ | ⟨rfl, h4⟩
            · exact .inl ⟨rfl, h4, (K2.of_ext hx).trans h5⟩
            · exact .inr ⟨rfl, h4⟩
          have HQ := Lib.hid (And.intro hzi hod)
          have HP := Lib.hid (And.intro hw hor)
          have HC := Lib.hid hcall
          have HTT := Lib.hid hT
          have HL := Lib.hid (And.intro hp2 htk)
          clear hz hb hbm hz0 hp2 hw hor hsub hlt2 hstep hT hlen2 hcall hM2 hod hbit htk
          rw [← HL1.out]
          gi_wp2
          refine wpIn_atEnd' (tk_yes (TakeOut J Jx (pre ++ q) (Lo.pairs m (Lo.takes m N lf (k + 1) (tk + p2))) wr) tk p2 (tk + p2) lf mm MB YB TB m k z wr (by omega) HQ m1 (by omega) HP m3 HC.out _ _ _ _ _ _ _ _ _ _ _ _ _ _ _ _ _ _ _ _ _ _ _ _ _ _ _ _ _ _ _ _ _ _ _ _ _ _ _ _ _ ?_)
          intro b u26 u27 u28 u29 u30 u31 u32 u33 u34 u35 u36 u37 u38 u39 u40 u41 u42 wx hR
          rcases hR with ⟨rfl, hJ2, hk2⟩ | ⟨rfl, q2, hq2, hx2⟩
          · have HQ2 := Lib.hid (And.intro hJ2 hk2)
            clear hJ2 hk2 m1 m3 hpos hzi HC HP HQ
            gi_wp2
            go_roundw
            case rel => exact ⟨k + 1, q ++ Lo.pairs m (Lo.takes m N lf (k + 1) (tk + p2)), by omega, by omega, by go_num, Lib.hid ⟨by rw [List.append_assoc]; exact HTT.out, by have := HQ2.out.1; rwa [List.append_assoc] at this, HI.out.2.2.trans HQ2.out.2⟩⟩
            case measure => simp [intOf]; omega
          · have HQ2 := Lib.hid (And.intro hq2 hx2)
            clear hq2 hx2 m1 m3 hpos hzi HC HP HQ
            gi_wp2
            go_ret
            refine ⟨_, rfl, false, rfl, .inr ⟨rfl, q ++ q2, ?_, by have := HQ2.out.2; rwa [List.append_assoc] at this⟩⟩
            obtain ⟨r, hr⟩ := HQ2.out.1
            refine ⟨r ++ Lo.pairs m (Lo.takes m N (lf + 1) (k + 1) tk), ?_⟩
            rw [← HTT.out, ← hr]
            simp
        · have hbm : Cd.bitAt m k ≠ 1 := by rw [hb]; exact hbit
          have hb0 : z % 2 = 0 := by omega
          rw [hb0] at hod
          have hstep := Lo.takes_no (left := lf + 1) (taken := tk) hkN2 hbm
          have hT := HI.out.1
          rw [hstep] at hT
          have HQ := Lib.hid (And.intro hzi hod)
          have HTT := Lib.hid hT
          clear hz hb hbm hz0 hstep hT hM2 hod hbit hb0
          gi_wp2
          refine wpIn_atEnd' (tk_no mm MB m k z wr (by omega) HQ m1 _ _ _ _ _ _ _ _ _ _ _ _ _ _ _ _ _ _ _ _ _ _ _ _ _ _ _ _ _ _ _ _ _ _ _ _ _ _ _ _ _ _ _ _ ?_)
          intro u26 u27 u28 u29 u30 u31 u32 u33 u34 u35 u36 u37 u38 u39 u40 u41 u42 wx hx
          have HX := Lib.hid hx
          clear hx m1 m3 hpos hzi HQ
          gi_wp2
          go_roundw
          case rel => exact ⟨k + 1, q, by omega, by omega, by go_num, Lib.hid ⟨HTT.out, HJ.out _ _ _ HI.out.2.1 HX.out, HI.out.2.2.trans (K2.of_ext HX.out)⟩⟩
          case measure => simp [intOf]; omega
end Go.Proofs.YtggfkpalkdkbdaaDoor

/- THE WALK over the iterator that without of package locate returns. -/
namespace Go.Proofs.YtggfkpalkdkbdaaDoor
open Go.RowKit Go.Shelf
attribute [local go_sem] Oper.semAt_some
theorem ent_ones : ∀ args w, (callFunc 44 args).run Tryd.prog w = .ok (.enter 44 args) w := enters_of Tryd.func44 (by kernel_rfl) rfl
theorem ex_min {P : Program} {o : Oper} {a : Act} {w : World} {t : TypeId} {x y : Operand} {u v : Int} (ho : o.op = .call { callee := .builtin .min, args := #[x, y], argTypes := #[t, t] }) (hx : a.eval x = .int .i64 u) (hy : a.eval y = .int .i64 v) : (execOp a.eval o).run P w = .ok (.value (.int .i64 (min u v))) w := by
  unfold execOp
  simp only [ho, resolve, invoke, builtin, Sem.run_bind, Sem.run_pure, Result.andThen_ok, List.map_toArray, List.map_cons, List.map_nil, hx, hy]
  go_simp
  rw [Int.min_def]
  split <;> omega
noncomputable def wo_cond_code : Code := ((Tryd.f55.body.bind (regionOf 4)).getD .skip)
def wo_cond_dsts : List (Option Nat) := [some 7, some 8, some 9, some 10, some 11, some 12, some 13]
theorem wo_cond_apart : apartD wo_cond_dsts = true := by decide +kernel
set_option maxRecDepth 1000000 in
set_option maxHeartbeats 16000000 in
theorem wo_cond (m MB SB mk ms mn n : Nat) (bb : Bool) (wr : World) (hmk : mk < 16384) (HQ : Hid (min (ms : Int) (Ones.cnt mk : Nat) = (mn : Int) ∧ decide (n ≤ mn) = bb)) (hMB : wr.cell? ⟨MB, 0, none⟩ = some (.int .i64 (mk : Nat))) (hSB : wr.cell? ⟨SB, 0, none⟩ = some (.int .i64 (ms : Nat))) (c0 c3 c4 c6 c7 c8 c9 c10 c11 c12 c13 c14 c15 c16 c17 c18 c19 : Value) (df : List Deferred) (K : Act → World → Prop)
    (hK : ∀  (u7 u8 u9 u10 u11 u12 : Value) (wx : World), Ext wr wx → K ⟨#[c0, .pointer (some ⟨MB, 0, none⟩), .pointer (some ⟨SB, 0, none⟩), c3, c4, .int .i64 (n : Nat), c6, u7, u8, u9, u10, u11, u12, .bool bb, c14, c15, c16, c17, c18, c19], df⟩ wx) :
    Code.wpIn Fence.wide m Tryd.prog wo_cond_code (AtEnd K) ⟨#[c0, .pointer (some ⟨MB, 0, none⟩), .pointer (some ⟨SB, 0, none⟩), c3, c4, .int .i64 (n : Nat), c6, c7, c8, c9, c10, c11, c12, c13, c14, c15, c16, c17, c18, c19], df⟩ wr := by
  conv => arg 4; whnf
  refine region_invIn (by kernel_rfl) [[], [], [], [2], [3], [1, 4], [0, 5]] (by kernel_rfl) [0, 1, 2, 3, 4, 5, 6] (by decide +kernel) (by decide +kernel) (by decide +kernel) (fun L a wc => Inv wo_cond_dsts [.int .i64 (n : Nat), .int .i64 (ms : Nat), .int .i64 (mk : Nat), .int .u64 (mk : Nat), .int .i64 (Ones.cnt mk : Nat), .int .i64 (mn : Nat), .bool bb] ⟨#[c0, .pointer (some ⟨MB, 0, none⟩), .pointer (some ⟨SB, 0, none⟩), c3, c4, .int .i64 (n : Nat), c6, c7, c8, c9, c10, c11, c12, c13, c14, c15, c16, c17, c18, c19], df⟩ L a ∧ Hid (Ext wr wc)) ⟨Inv.start, Lib.hid ((Ext.refl wr).drew)⟩ ?_ ?_
  · refine ⟨?_, ?_, ?_, ?_, ?_, ?_, ?_, trivial⟩
    ·
      rintro L a wc ⟨hv, HO⟩ hL hc hd
      exact wpOpIn_val (fun _ => trivial) rfl rfl (by intro c h; cases h) (ex_move rfl ((hv.fixed 5 (by decide)).trans rfl)) ⟨hv.put wo_cond_apart 0 rfl (lb rfl) (lb rfl) rfl, HO⟩
    ·
      rintro L a wc ⟨hv, HO⟩ hL hc hd
      have e0 : wc.cell? ⟨SB, 0, none⟩ = some (.int .i64 (ms : Nat)) := HO.out.cell hSB
      exact wpOpIn_val (fun _ => trivial) rfl rfl (by intro c h; cases h) (ex_load rfl ((hv.fixed 2 (by decide)).trans rfl) (by go_simp)) ⟨hv.put wo_cond_apart 1 rfl (lb rfl) (lb rfl) rfl, HO⟩
    ·
      rintro L a wc ⟨hv, HO⟩ hL hc hd
      have e0 : wc.cell? ⟨MB, 0, none⟩ = some (.int .i64 (mk : Nat)) := HO.out.cell hMB
      exact wpOpIn_val (fun _ => trivial) rfl rfl (by intro c h; cases h) (ex_load rfl ((hv.fixed 1 (by decide)).trans rfl) (by go_simp)) ⟨hv.put wo_cond_apart 2 rfl (lb rfl) (lb rfl) rfl, HO⟩
    ·
      rintro L a wc ⟨hv, HO⟩ hL hc hd
      have hw : IntKind.u64.wrap (mk : Int) = (mk : Int) := by rw [IntKind.wrap_u64]; omega
      exact wpOpIn_val (fun _ => trivial) rfl rfl (by intro c h; cases h) (ex_convert rfl (hv.get 2 rfl rfl (hd 2 (by decide))) (by go_simp)) ⟨hv.put wo_cond_apart 3 rfl (lb rfl) (lb rfl) rfl, HO⟩
    ·
      rintro L a wc ⟨hv, HO⟩ hL hc hd
      refine wpOpIn_call (R := fun v w1 => v = .int .i64 (Ones.cnt mk : Nat) ∧ wc = w1) (fun _ => trivial) rfl rfl rfl (by intro c h; cases h) (ex_call rfl rfl (map1c (hv.get 3 rfl rfl (hd 3 (by decide)))) (ent_ones _ _)) (callsIn_wide.2 ((ones_any mk wc hmk).mono fun e w' h => ⟨_, h.1, rfl, h.2⟩)) ?_
      rintro v w' ⟨rfl, rfl⟩
      exact ⟨hv.put wo_cond_apart 4 rfl (lb rfl) (lb rfl) rfl, HO⟩
    ·
      rintro L a wc ⟨hv, HO⟩ hL hc hd
      exact wpOpIn_val (fun _ => trivial) rfl rfl (by intro c h; cases h) ((ex_min rfl (hv.get 1 rfl rfl (hd 1 (by decide))) (hv.get 4 rfl rfl (hd 4 (by decide)))).trans (by rw [HQ.out.1])) ⟨hv.put wo_cond_apart 5 rfl (lb rfl) (lb rfl) rfl, HO⟩
    ·
      rintro L a wc ⟨hv, HO⟩ hL hc hd
      have hbb := HQ.out.2
      exact wpOpIn_val (fun _ => trivial) rfl rfl (by intro c h; cases h) (ex_bin rfl (hv.get 0 rfl rfl (hd 0 (by decide))) (hv.get 5 rfl rfl (hd 5 (by decide))) (by go_simp)) ⟨hv.put wo_cond_apart 6 rfl (lb rfl) (lb rfl) rfl, HO⟩
  · rintro L a wc ⟨hv, HO⟩ hall
    show K a wc
    have ha := act_n rl20 hv.size hv.defers rfl
    simp +decide only [hv.fixed, hv.get 6 (d := 13) rfl rfl (hall 6 (by decide))] at ha
    rw [ha]
    exact hK _ _ _ _ _ _ wc HO.out
theorem cnt_num (m : Nat) : Ones.cnt m = Lo.num m := by
  unfold Ones.cnt Lo.num Lo.els
  rw [Cd.cntF_list, List.range_eq_range']
/-- What has been yielded behind so many sizes. -/
def sofar (m N n : Nat) : List (Nat × Nat) := Lo.pairs m ((List.range n).flatMap fun k => Lo.takes m N k 0 0)
theorem sofar_succ (m N n : Nat) : sofar m N (n + 1) = sofar m N n ++ Lo.pairs m (Lo.takes m N n 0 0) := by
  unfold sofar
  rw [List.range_succ, List.flatMap_append, Lo.pairs_append]
  simp
theorem sofar_parts {m N most mn : Nat} (h : min most (Lo.els m N 0).length = mn) : sofar m N (mn + 1) = Lo.pairs m (Lo.parts m N most) := by
  unfold sofar Lo.parts
  rw [h]
theorem sofar_pre (m N : Nat) : ∀ (d n : Nat), sofar m N n <+: sofar m N (n + d)
  | 0, n => List.prefix_refl _
  | d + 1, n => by
    rw [← Nat.add_assoc, sofar_succ]
    exact (sofar_pre m N d n).trans (List.prefix_append _ _)
theorem Ext.grownNone {W W' : World} (h : Ext W W') : W.grownBy W' none := ⟨h.os, h.tape, h.output, h.size, fun k hk _ => h.block k hk⟩
set_option maxHeartbeats 8000000 in
set_option maxRecDepth 100000 in
theorem without1_seq (mm MB SB m N most : Nat) (w : World) (hm : m < 2 ^ N) (hN : N ≤ 14) (h1 : w.cell? ⟨MB, 0, none⟩ = some (.int .i64 (m : Nat))) (h2 : w.cell? ⟨SB, 0, none⟩ = some (.int .i64 (most : Nat))) :
    SeqV Fence.wide mm Tryd.prog 55 #[.pointer (some ⟨MB, 0, none⟩), .pointer (some ⟨SB, 0, none⟩)] encP (PairV m) (fun _ => True) K2 (fun xs => xs = Lo.pairs m (Lo.parts m N most)) (fun pre => pre <+: Lo.pairs m (Lo.parts m N most)) (Lo.pairs m (Lo.parts m N most)).length w := by
  intro l J Jx W hW hJ _ hY h0
  have hxW : Ext w W := hW
  obtain ⟨W2, hW2⟩ : ∃ W2, (W.alloc (.cells #[.func (.yield l) #[] #[]] 86)).alloc (.cells #[.func (.func 56) #[] #[.pointer (some ⟨W.heap.size, 0, none⟩), .pointer (some ⟨MB, 0, none⟩), .pointer (some ⟨W.heap.size + 1, 0, none⟩)]] 96) = W2 := ⟨_, rfl⟩
  have hx2 : Ext W W2 := by rw [← hW2]; exact ((Ext.refl W).alloc _).alloc _
  have hJe : ∀ pre W1 W3, J pre W1 → Ext W1 W3 → J pre W3 := fun pre W1 W3 h hx => hJ pre _ _ none h hx.grownNone (fun r e => by cases e)
  have hJ2 : J [] W2 := hJe _ _ _ h0 hx2
  have hxw := hxW.trans hx2
  have hM : TakeAt W2 l W.heap.size MB (W.heap.size + 1) m := by
    refine ⟨hxw.cell h1, ?_, ?_⟩
    · rw [← hW2]; exact ((Ext.refl _).alloc _).cell (cell_of_row _ _ 0 _ _ (0, 0) (heap_new _ _))
    · rw [← hW2]
      have h := cell_of_row ((W.alloc (.cells #[.func (.yield l) #[] #[]] 86)).alloc (.cells #[.func (.func 56) #[] #[.pointer (some ⟨W.heap.size, 0, none⟩), .pointer (some ⟨MB, 0, none⟩), .pointer (some ⟨W.heap.size + 1, 0, none⟩)]] 96)) _ 0 _ _ (0, 0) (heap_new _ _)
      rw [World.size_alloc] at h
      exact h
  have c3 := hxw.cell h2
  obtain ⟨mn, hmn⟩ : ∃ mn, min most (Lo.els m N 0).length = mn := ⟨_, rfl⟩
  have hlen : (Lo.els m N 0).length = Ones.cnt m := by rw [cnt_num, Lo.num_is hm (by omega)]
  have hmi : min (most : Int) (Ones.cnt m : Nat) = (mn : Int) := by rw [← hmn, hlen]; omega
  have hmn16 : mn ≤ 16 := by
    have := Cd.cnt_le m
    omega
  have hm14 : m < 16384 := Nat.lt_of_lt_of_le hm (show 2 ^ N ≤ 2 ^ 14 from Nat.pow_le_pow_right (by decide) hN)
  obtain ⟨T, hT⟩ : ∃ T, Lo.pairs m (Lo.parts m N most) = T := ⟨_, rfl⟩
  have hfin : sofar m N (mn + 1) = T := by rw [← hT]; exact sofar_parts hmn
  rw [hT] at hY ⊢
  have hcall := fun mm' n pre W' => take_in l T.length J Jx hJe W.heap.size MB (W.heap.size + 1) m N hm (by omega) (fun m' pre x W1 h h2 h3 => YieldAt.anyDepth2 m' (hY pre x W1 h h2 h3)) n mm' 0 0 pre W'
  have HC := Lib.hid hcall
  have HM := Lib.hid (And.intro hM (And.intro c3 hJ2))
  have HJe := Lib.hid hJe
  have HW2 := Lib.hid hW2
  have HMI := Lib.hid hmi
  have HF := Lib.hid hfin
  clear hJ hY h0 hJ2 hcall hM hx2 h1 h2 hW hW2 hxW hJe hxw c3 hmn hlen hmi hfin hT hm
  have hsf : ∀ (w : World) (a : Addr) (f : Fn) (cap : Array Value), (store a (.func f #[] cap)).run Tryd.prog w = stored Tryd.prog w a (.func f #[] cap) .plain := fun w a f cap => run_store _ w a _ _ rfl
  refine callsIn_of_wp Tryd.func55 rfl trivial ?_ rfl
  simp only [Tryd.ntmps55, List.size_toArray, List.length_cons, List.length_nil, Nat.reduceAdd, Nat.reduceSub, Array.replicate_succ, Array.replicate_zero, List.push_toArray, List.append_toArray, List.nil_append, List.cons_append]
  gi_wp2
  rw [HW2.out]
  obtain ⟨YB, hYB⟩ : ∃ x, W.heap.size = x := ⟨_, rfl⟩
  obtain ⟨TB, hTB⟩ : ∃ x, YB + 1 = x := ⟨_, rfl⟩
  rw [hYB] at HM HC ⊢
  rw [hTB] at HM HC ⊢
  clear hsf hYB hTB HW2
  gi_loopw [5] (fun vn wr => ∃ n : Nat, n ≤ mn + 1 ∧ vn = .int .i64 (n : Nat) ∧ Hid (J (sofar m N n) wr ∧ K2 W2 wr)) (fun vn _ => mn + 1 - (intOf vn).toNat)
  case atStart => exact ⟨0, by omega, rfl, Lib.hid ⟨HM.out.2.2, K2.of_ext (Ext.refl _)⟩⟩
  case round =>
    obtain ⟨n, hn, rfl, HI⟩ := hrel
    have hk := HM.out.1.keep HI.out.2
    have b1 := hk.mb
    have b2 := HI.out.2.2 _ _ HM.out.2.1
    by_cases hle : n ≤ mn
    · gi_wp2_with fail
      refine wpIn_atEnd' (wo_cond mm MB SB m most mn n true wr hm14 (Lib.hid ⟨HMI.out, decide_eq_true hle⟩) b1 b2 _ _ _ _ _ _ _ _ _ _ _ _ _ _ _ _ _ _ _ ?_)
      rintro u7 u8 u9 u10 u11 u12 wx hx
      have hJx2 := HJe.out _ _ _ HI.out.1 hx
      have hK2 := HI.out.2.trans (K2.of_ext hx)
      have hk2 := HM.out.1.keep hK2
      have t1 := hk2.tb
      have hc := HC.out
      have hpre := sofar_pre m N (mn - n) (n + 1)
      rw [show n + 1 + (mn - n) = mn + 1 by omega, HF.out, sofar_succ] at hpre
      have hln : (sofar m N n).length + (Lo.takes m N n 0 0).length ≤ T.length := by
        have := hpre.length_le
        rw [List.length_append, Lo.pairs_len] at this
        exact this
      have HS := Lib.hid (And.intro hJx2 (And.intro hK2 (And.intro hk2 (And.intro hpre hln))))
      clear hJx2 hK2 hk2 hpre hln hk b1 b2 hx HI
      gi_wp2
      refine ⟨trivial, fun h => (by cases h), ?_⟩
      refine (HC.out (mm - 1) n (sofar m N n) wx (by omega) (Nat.zero_le _) (fun i hi => by simp [Cd.bitAt] at hi) (by decide) HS.out.2.2.1 HS.out.1 HS.out.2.2.2.2).mono ?_
      intro e W' h
      obtain ⟨v, rfl, b, rfl, ho⟩ := h
      have HO := Lib.hid ho
      clear ho t1 hc
      rcases HO.out with ⟨rfl, hJ3, hk3⟩ | ⟨rfl, q, hq, hx3⟩
      · have HN := Lib.hid (And.intro hJ3 (HS.out.2.1.trans hk3))
        clear hJ3 hk3 HO
        dsimp only
        gi_wp2
        go_roundw
        case rel => exact ⟨n + 1, by omega, by go_num, Lib.hid ⟨by rw [sofar_succ]; exact HN.out.1, HN.out.2⟩⟩
        case measure => simp [intOf]; omega
      · have HN := Lib.hid (And.intro hq hx3)
        clear hq hx3 HO
        dsimp only
        gi_wp2
        refine bodyPost_ret (v := .tuple #[]) (by simp [results, Tryd.f55, go_sem]) rfl ?_
        refine ⟨⟨_, rfl⟩, .inr ⟨sofar m N n ++ q, ?_, HN.out.2⟩⟩
        obtain ⟨r, hr⟩ := HN.out.1
        obtain ⟨r2, hr2⟩ := HS.out.2.2.2.1
        exact ⟨r ++ r2, by rw [← hr2, ← hr]; simp⟩
    · obtain rfl : n = mn + 1 := by omega
      gi_wp2_with fail
      refine wpIn_atEnd' (wo_cond mm MB SB m most mn (mn + 1) false wr hm14 (Lib.hid ⟨HMI.out, decide_eq_false hle⟩) b1 b2 _ _ _ _ _ _ _ _ _ _ _ _ _ _ _ _ _ _ _ ?_)
      rintro u7 u8 u9 u10 u11 u12 wx hx
      have hJx2 := HJe.out _ _ _ HI.out.1 hx
      rw [HF.out] at hJx2
      have HN := Lib.hid hJx2
      clear hJx2 hx b1 b2 hk HI
      gi_wp2
      go_end0
      exact ⟨⟨_, rfl⟩, .inl ⟨_, rfl, HN.out⟩⟩
end Go.Proofs.YtggfkpalkdkbdaaDoor

/- THE WALKS over package code: Pieces, first, the closures of Rows. -/
namespace Cd
/-- The number of pieces. -/
def pieces (d : Int) (gs : List (List Int)) (gl : Int) : Int := if check d gs gl = 0 then d + gs.length + gl else 0
theorem pieces_ok {d gl : Int} {gs : List (List Int)} (h : check d gs gl = 0) : pieces d gs gl = d + gs.length + gl := if_pos h
theorem pieces_no {d gl : Int} {gs : List (List Int)} (h : check d gs gl ≠ 0) : pieces d gs gl = 0 := if_neg h
/-- What a code has that Check accepts. -/
theorem check_ok {d gl : Int} {gs : List (List Int)} (h : check d gs gl = 0) : 1 ≤ d ∧ d ≤ 16 ∧ 0 ≤ gl ∧ gl ≤ 4 ∧ gs.length ≤ 24 ∧ d + gs.length + gl ≤ 24 := by
  by_cases h1 : d < 1 ∨ 16 < d ∨ gl < 0 ∨ 4 < gl
  · rw [check_range h1] at h; cases h
  · by_cases h2 : 24 < gs.length ∨ 24 < d + gs.length + gl
    · rw [check_limit h1 h2] at h; cases h
    · omega
theorem checkG_ok {d : Int} : ∀ {gs : List (List Int)} {s : Nat}, checkG d s gs = 0 → ∀ g ∈ gs, ∀ i ∈ g, 0 ≤ i ∧ i < d
  | [], _, _, g, hg, _, _ => by simp at hg
  | g0 :: r, s, h, g, hg, i, hi => by
    by_cases h0 : g0 = []
    · subst h0; rw [checkG_nil] at h; cases h
    · cases hb : bad d s g0 with
      | true => rw [checkG_bad h0 hb] at h; cases h
      | false =>
        rw [checkG_next h0 hb] at h
        rcases List.mem_cons.1 hg with rfl | hg
        · exact bad_bounds hb hi
        · exact checkG_ok h g hg i hi
theorem check_groups_ok {d gl : Int} {gs : List (List Int)} (h : check d gs gl = 0) : ∀ g ∈ gs, ∀ i ∈ g, 0 ≤ i ∧ i < d := by
  have hk := check_ok h
  rw [check_groups (by omega) (by omega)] at h
  exact checkG_ok h
/-- A row of n coefficients. -/
def rowOf (n : Nat) (g : Nat → UInt8) : List UInt8 := (List.range n).map g
def unitAt (k i : Nat) : UInt8 := if i = k then 1 else 0
def inAt (s i : Nat) : UInt8 := UInt8.ofNat (bitAt s i)
def gloAt (j i : Nat) : UInt8 := UInt8.ofNat (Gf.powN 2 ((i * (j + 1)) % 255))
def rows (d : Nat) (gs : List (List Int)) (gl : Nat) : List (List UInt8) :=
  (List.range d).map (fun k => rowOf d (unitAt k)) ++ gs.map (fun g => rowOf d (inAt (setOf 0 g))) ++ (List.range gl).map (fun j => rowOf d (gloAt j))
/-- The place of the first element that is not 0. -/
def first : List UInt8 → Nat
  | [] => 0
  | x :: r => if x = 0 then first r + 1 else 0
theorem first_at {l : List UInt8} : ∀ {k : Nat} (h : k < l.length), (∀ j, j < k → l[j]? = some 0) → l[k] ≠ 0 → first l = k := by
  induction l with
  | nil => intro k h; simp at h
  | cons x r ih =>
    intro k h hj hk
    cases k with
    | zero => simp at hk; simp [first, hk]
    | succ k =>
      have h0 := hj 0 (by omega)
      simp at h0
      subst h0
      have := ih (k := k) (by simpa using h) (fun j hjk => by have := hj (j + 1) (by omega); simpa using this) (by simpa using hk)
      simp [first, this]
theorem first_none {l : List UInt8} (h : ∀ j, j < l.length → l[j]? = some 0) : first l = l.length := by
  induction l with
  | nil => rfl
  | cons x r ih =>
    have h0 := h 0 (by simp)
    simp at h0
    subst h0
    have := ih (fun j hj => by have := h (j + 1) (by simpa using hj); simpa using this)
    simp [first, this]
theorem unitAt_eq (k : Nat) : unitAt k k = 1 := if_pos rfl
theorem unitAt_ne {k i : Nat} (h : i ≠ k) : unitAt k i = 0 := if_neg h
attribute [irreducible] unitAt inAt gloAt first pieces
end Cd
namespace Go.Proofs.YtggfkpalkdkbdaaDoor
open Go.RowKit

theorem cPieces_any (d gl : Int) (gs : List (List Int)) (G : Value) (w : World) (hG : Rs (Rs RI) w G gs) :
    Calls Tryd.prog 25 #[.agg #[.int .i64 d, G, .int .i64 gl]] w fun e w' => e = .returned (.int .i64 (Cd.pieces d gs gl)) ∧ Ext w w' := by
  have hx0 := (Ext.refl w).alloc (.cells #[.int .i64 d, G, .int .i64 gl] 24)
  have HX := Lib.hid (And.intro hx0 (Rs.ext (Rs.ext RI.ext) _ _ _ _ hx0 hG))
  obtain ⟨A, c, rfl, hl⟩ := hG.form
  clear hG hx0
  by_cases h0 : Cd.check d gs gl = 0
  · have hp := Cd.pieces_ok h0
    have hk := Cd.check_ok h0
    have e1 : (Cd.check d gs gl != 0) = false := by rw [h0]; rfl
    have HP := Lib.hid hp
    clear h0 hp
    go_enter Tryd.func25, Tryd.ntmps25
    go_wp2_with fail
    refine (cCheck_any d gl gs _ _ HX.out.2).mono ?_
    rintro e w1 ⟨rfl, hx1⟩
    have hc0 : w1.cell? ⟨w.heap.size, 0, none⟩ = some (.int .i64 d) := hx1.cell (by go_simp)
    have hc1 : w1.cell? ⟨w.heap.size, 1, none⟩ = some (.slice A gs.length c) := hx1.cell (by go_simp)
    have hc2 : w1.cell? ⟨w.heap.size, 2, none⟩ = some (.int .i64 gl) := hx1.cell (by go_simp)
    have HX1 := Lib.hid (HX.out.1.trans hx1)
    clear hx1
    go_wp2_with fail
    go_ret
    exact ⟨ret_int HP.out.symm, HX1.out⟩
  · have hp := Cd.pieces_no h0
    have e1 : (Cd.check d gs gl != 0) = true := by rw [bne_iff_ne]; exact h0
    have HP := Lib.hid hp
    clear h0 hp
    go_enter Tryd.func25, Tryd.ntmps25
    go_wp2_with fail
    refine (cCheck_any d gl gs _ _ HX.out.2).mono ?_
    rintro e w1 ⟨rfl, hx1⟩
    have HX1 := Lib.hid (HX.out.1.trans hx1)
    clear hx1
    go_wp2_with fail
    go_ret
    exact ⟨ret_int HP.out.symm, HX1.out⟩

theorem cFirst_any (l : List UInt8) (A : Option Addr) (c : Nat) (w : World) (hA : Rd w A (l.map bv)) (hl : l.length ≤ 140737488351232) :
    Calls Tryd.prog 82 #[.slice A l.length c] w fun e w' => e = .returned (.int .i64 (Cd.first l : Nat)) ∧ w = w' := by
  have HA := Lib.hid hA
  clear hA
  go_enter Tryd.func82, Tryd.ntmps82
  go_wp2_with fail
  go_loop [7] (fun vi => ∃ i : Nat, i ≤ l.length ∧ vi = .int .i64 i ∧ Hid (∀ j, j < i → l[j]? = some 0)) (fun vi => l.length - (intOf vi).toNat)
  case atStart => exact ⟨0, Nat.zero_le _, rfl, fun j h => absurd h (by omega)⟩
  case round =>
    obtain ⟨i, hi, rfl, HZ⟩ := hrel
    by_cases hlt : i < l.length
    · obtain ⟨ad, rfl, _, ha⟩ := HA.out.at (k := i) (by simpa using hlt)
      rw [List.getElem_map] at ha
      by_cases h0 : l[i] = 0
      · have hz : ∀ j, j < i + 1 → l[j]? = some 0 := fun j hj => by
          rcases Nat.lt_or_ge j i with h1 | h1
          · exact HZ.out j h1
          · obtain rfl : j = i := by omega
            rw [List.getElem?_eq_getElem hlt, h0]
        rw [h0] at ha
        have HZ2 := Lib.hid hz
        clear hz h0
        go_wp2_with fail
        go_round
        case rel => exact ⟨i + 1, by omega, by go_num, HZ2.out⟩
        case measure => simp [intOf]; omega
      · have hf := Cd.first_at hlt HZ.out h0
        have e1 : (((l[i].toNat : Nat) : Int) != 0) = true := by
          rw [bne_iff_ne]
          intro h
          apply h0
          have h2 : l[i].toNat = 0 := by omega
          exact UInt8.toNat_inj.1 h2
        have HF := Lib.hid hf
        clear hf h0
        go_wp2_with fail
        go_ret
        exact ⟨by rw [HF.out]; rfl, rfl⟩
    · obtain rfl : i = l.length := by omega
      have hf := Cd.first_none HZ.out
      have HF := Lib.hid hf
      clear hf
      go_wp2_with fail
      go_ret
      exact ⟨by rw [HF.out]; rfl, rfl⟩

theorem enters62 : ∀ args w, (callFunc 62 args).run Tryd.prog w = .ok (.enter 62 args) w := enters_of Tryd.func62 (by kernel_rfl) rfl
theorem enters63 : ∀ args w, (callFunc 63 args).run Tryd.prog w = .ok (.enter 63 args) w := enters_of Tryd.func63 (by kernel_rfl) rfl
theorem enters64 : ∀ args w, (callFunc 64 args).run Tryd.prog w = .ok (.enter 64 args) w := enters_of Tryd.func64 (by kernel_rfl) rfl
theorem rows2_any (i k P : Nat) (w : World) (h1 : w.cell? ⟨P, 0, none⟩ = some (.int .i64 k)) :
    Calls Tryd.prog 62 #[.int .i64 i, .pointer (some ⟨P, 0, none⟩)] w fun e w' => e = .returned (bv (Cd.unitAt k i)) ∧ Ext w w' := by
  by_cases h : i = k
  · subst h
    rw [Cd.unitAt_eq]
    go_enter Tryd.func62, Tryd.ntmps62
    go_wp2_with fail
    go_ret
    exact ⟨rfl, Ext.refl _⟩
  · rw [Cd.unitAt_ne h]
    have e1 : ((i : Int) == (k : Int)) = false := by rw [beq_eq_false_iff_ne]; omega
    clear h
    go_enter Tryd.func62, Tryd.ntmps62
    go_wp2_with fail
    go_ret
    exact ⟨rfl, Ext.refl _⟩
theorem rows3_any (i s P : Nat) (w : World) (hs : s < 65536) (hi : i < 16) (h1 : w.cell? ⟨P, 0, none⟩ = some (.int .i64 s)) :
    Calls Tryd.prog 63 #[.int .i64 i, .pointer (some ⟨P, 0, none⟩)] w fun e w' => e = .returned (bv (Cd.inAt s i)) ∧ Ext w w' := by
  have hm : bits .and .i64 ((s : Int) / 2 ^ i) 1 = ((Cd.bitAt s i : Nat) : Int) := by
    have hle : s / 2 ^ i ≤ s := Nat.div_le_self _ _
    have := odd64 (s / 2 ^ i) (by omega)
    rw [Cd.bitAt, ← this]
    simp
  have hb : Cd.bitAt s i < 2 := Nat.mod_lt _ (by decide)
  have hv : (Cd.inAt s i).toNat = Cd.bitAt s i := by
    unfold Cd.inAt
    rw [UInt8.toNat_ofNat']
    omega
  have HM := Lib.hid (And.intro hm hv)
  clear hm hv
  go_enter Tryd.func63, Tryd.ntmps63
  go_wp2_with fail
  go_ret
  exact ⟨ret_int (by rw [HM.out.1, HM.out.2]; omega), Ext.refl _⟩
theorem rows4_any (i j P : Nat) (w : World) (hT : Tab w) (hi : i < 16) (hj : j < 4) (h1 : w.cell? ⟨P, 0, none⟩ = some (.int .i64 j)) :
    Calls Tryd.prog 64 #[.int .i64 i, .pointer (some ⟨P, 0, none⟩)] w fun e w' => e = .returned (bv (Cd.gloAt j i)) ∧ Ext w w' := by
  have hm : i * (j + 1) < 64 := by
    have := Nat.mul_le_mul (show i ≤ 15 by omega) (show j + 1 ≤ 4 by omega)
    omega
  have hc : (i : Int) * ((j : Int) + 1) = ((i * (j + 1) : Nat) : Int) := by rw [Int.natCast_mul, Int.natCast_add]; rfl
  have hlo : 0 ≤ (i : Int) * ((j : Int) + 1) := by rw [hc]; omega
  have hhi : (i : Int) * ((j : Int) + 1) < 64 := by rw [hc]; omega
  have HC := Lib.hid (And.intro hc hm)
  have HT := Lib.hid hT
  clear hT hc hm
  generalize hz : (i : Int) * ((j : Int) + 1) = z at hlo hhi HC
  go_enter Tryd.func64, Tryd.ntmps64
  go_wp2_with fail
  refine (exp_any z _ HT.out (by omega) (by omega)).mono ?_
  rintro e w' ⟨rfl, rfl⟩
  go_wp2_with fail
  go_ret
  refine ⟨ret_int ?_, Ext.refl _⟩
  have h2 : (z % 255).toNat = i * (j + 1) % 255 := by have := HC.out.1; omega
  rw [h2]
  unfold Cd.gloAt
  rw [UInt8.toNat_ofNat', Nat.mod_eq_of_lt (Gf.powN_lt _)]

theorem Owns.front {w0 w : World} {L M : List LRow} (h : Owns w0 w (L ++ M)) : Owns w0 w L where
  ext := h.ext
  ok i r hr := h.ok i r (by rw [List.getElem?_append_left]; exact hr; exact (List.getElem?_eq_some_iff.1 hr).1)
  far i j a b hij ha hb := h.far i j a b hij (by rw [List.getElem?_append_left]; exact ha; exact (List.getElem?_eq_some_iff.1 ha).1) (by rw [List.getElem?_append_left]; exact hb; exact (List.getElem?_eq_some_iff.1 hb).1)
/-- A row that was made behind all others. -/
theorem Owns.behind {w0 w w' : World} {L : List LRow} (h : Owns w0 w L) (hx : Ext w w') {v : Value} {e s n : Nat} {xs : List Value} (ho : w'.ownsRow w.heap.size e s v n xs) : Owns w0 w' (L ++ [⟨v, e, s, n, xs⟩]) where
  ext := h.ext.trans hx
  ok i r hr := by
    rw [List.getElem?_append] at hr
    split at hr
    · exact (h.next hx).ok i r hr
    · have : r = ⟨v, e, s, n, xs⟩ := by
        cases hk : i - L.length with
        | zero => rw [hk] at hr; simpa using hr.symm
        | succ k => rw [hk] at hr; simp at hr
      subst this
      exact ⟨ho.1, ho.2.imp id fun ⟨g, cap, cur, h1, h2, r⟩ => ⟨g, cap, cur, h1, Nat.le_trans h.ext.size h2, r⟩⟩
  far i j a b hij ha hb := by
    have hlt : ∀ r : LRow, r.ok w0 w → r.far ⟨v, e, s, n, xs⟩ := fun r hr => by
      unfold LRow.far
      cases hv : r.v.ownBlock with
      | none => exact .inl rfl
      | some g =>
        refine .inr fun hh => ?_
        have h1 := (World.ownsRow.lt hr g hv).2
        have h2 := (ho.lt g hh.symm).1
        omega
    rw [List.getElem?_append] at ha hb
    split at ha
    · split at hb
      · exact h.far i j a b hij ha hb
      · have : b = ⟨v, e, s, n, xs⟩ := by
          cases hk : j - L.length with
          | zero => rw [hk] at hb; simpa using hb.symm
          | succ k => rw [hk] at hb; simp at hb
        subst this
        exact hlt a (h.ok i a ha)
    · have : a = ⟨v, e, s, n, xs⟩ := by
        cases hk : i - L.length with
        | zero => rw [hk] at ha; simpa using ha.symm
        | succ k => rw [hk] at ha; simp at ha
      subst this
      split at hb
      · exact LRow.far_symm (hlt b (h.ok j b hb))
      · exfalso
        have h1 : j - L.length = 0 := by
          cases hk : j - L.length with
          | zero => rfl
          | succ k => rw [hk] at hb; simp at hb
        have h2 : i - L.length = 0 := by
          cases hk : i - L.length with
          | zero => rfl
          | succ k => rw [hk] at ha; simp at ha
        omega

def inner1 (g : Nat) (r : List UInt8) : LRow := ⟨.slice (some ⟨g, 0, none⟩) r.length r.length, 5, 1, r.length, r.map bv⟩
def inner (hs : List Nat) (rs : List (List UInt8)) : List LRow := List.zipWith inner1 hs rs
/-- The rows of bytes that a call has made, in a variable of its own. -/
def RowsOut (w0 w : World) (P : Nat) (rs : List (List UInt8)) : Prop :=
  ∃ (A : Option Addr) (c : Nat) (hs : List Nat), hs.length = rs.length ∧ Owns w0 w (⟨.slice (some ⟨P, 0, none⟩) 1 1, 76, 1, 1, [.slice A rs.length c]⟩ :: ⟨.slice A rs.length c, 48, 1, rs.length, (inner hs rs).map (·.v)⟩ :: inner hs rs)
theorem RowsOut.next {w0 w w' : World} {P : Nat} {rs : List (List UInt8)} (h : RowsOut w0 w P rs) (hx : Ext w w') : RowsOut w0 w' P rs := by
  obtain ⟨A, c, hs, hl, h⟩ := h
  exact ⟨A, c, hs, hl, h.next hx⟩
theorem RowsOut.ext {w0 w : World} {P : Nat} {rs : List (List UInt8)} (h : RowsOut w0 w P rs) : Ext w0 w := by
  obtain ⟨A, c, hs, hl, h⟩ := h
  exact h.ext
theorem inner_snoc {hs : List Nat} {rs : List (List UInt8)} (h : hs.length = rs.length) (g : Nat) (r : List UInt8) : inner (hs ++ [g]) (rs ++ [r]) = inner hs rs ++ [inner1 g r] := by
  unfold inner
  rw [List.zipWith_append h]
  rfl
theorem info_bytes : (Tryd.prog.info? 48).map (fun i => (i.zero, i.size, i.bytes)) = some (some (.slice none 0 0), 1, 24) := by kernel_rfl

set_option maxRecDepth 100000 in
theorem rows1_any (w0 w : World) (P1 P5 d : Nat) (rs : List (List UInt8)) (F : FuncId) (cap : Array Value) (g : Nat → UInt8) (hd : d ≤ 16) (hr : rs.length < 100)
    (hE : ∀ args w, (callFunc F args).run Tryd.prog w = .ok (.enter F args) w)
    (hF : ∀ k, k < d → ∀ w', Ext w w' → Calls Tryd.prog F (#[.int .i64 k] ++ cap) w' fun e w'' => e = .returned (bv (g k)) ∧ Ext w' w'')
    (hc : w.cell? ⟨P1, 0, none⟩ = some (.int .i64 d)) (hO : RowsOut w0 w P5 rs) :
    Calls Tryd.prog 61 #[.func (.func F) #[] cap, .pointer (some ⟨P1, 0, none⟩), .pointer (some ⟨P5, 0, none⟩)] w fun e w' => e = .returned (.tuple #[]) ∧ RowsOut w0 w' P5 (rs ++ [Cd.rowOf d g]) := by
  have HF := Lib.hid hF
  have HO := Lib.hid hO
  clear hF hO
  obtain ⟨i0, hi, hz0, hz1, hz2⟩ := info_parts info_u8
  have HZ := Lib.hid hz2
  clear hz2
  go_enter Tryd.func61, Tryd.ntmps61
  go_wp2_with (refine wpList_make_full _ rfl (.tmp 7) (.tmp 7) 48 rfl w.heap.size 5 i0 (.int .u8 0) 1 Tryd.underlying48 hi hz0 hz1 _ _ _ _ d rfl rfl rfl rfl (by rw [HZ.out]; omega) (by unfold maxLen; omega) (Nat.le_refl _) ?_; intro w1 hown hgrow)
  have hx : Ext w w1 := (Ext.refl w).grown hgrow (fun k h => by cases h)
  have hown' : w1.ownsRow w.heap.size 5 1 (.slice (some ⟨w.heap.size, 0, none⟩) d d) d (part d 0 g) := by
    rw [part_zero, ← toList_madeCells_one]
    simpa [Value.cells] using hown
  have H0 := Lib.hid (And.intro hx hown')
  clear hown hown' hgrow hx
  go_loopw [5, 11] (fun vj vi wr => ∃ k : Nat, k ≤ d ∧ vi = .int .i64 k ∧ Hid (Ext w wr ∧ wr.ownsRow w.heap.size 5 1 (.slice (some ⟨w.heap.size, 0, none⟩) d d) d (part d k g))) (fun _ vi _ => d - (intOf vi).toNat)
  case atStart => exact ⟨0, Nat.zero_le _, rfl, H0.out⟩
  case round =>
    obtain ⟨k, hk, rfl, HR⟩ := hrel
    by_cases hlt : k < d
    · go_wp2_with fail
      refine (HF.out k hlt wr HR.out.1).mono ?_
      rintro e w2 ⟨rfl, hx2⟩
      have hown2 : w2.ownsRow w.heap.size 5 1 (.slice (some ⟨w.heap.size, 0, none⟩) d d) d (part d k g) := own_ext HR.out.2 hx2
      have hcc := hown2.cellAt k (by omega)
      rw [List.getElem?_eq_getElem (by rw [part_length g hk]; exact hlt)] at hcc
      have hf := hown2.frozenAt k
      have hst := (hown2.stored k (bv (g k))).1
      rw [part_set g hlt] at hst
      have hx3 : Ext w w2 := HR.out.1.trans hx2
      have HS := Lib.hid (And.intro hx3 hst)
      clear hown2 hst hx3 hx2
      go_wp2_with fail
      go_roundw
      case rel => exact ⟨k + 1, by omega, by go_num, HS.out.1.setCell (Nat.le_refl _) _, HS.out.2⟩
      case measure => simp [intOf]; omega
    · obtain rfl : k = d := by omega
      obtain ⟨A, c, hs, hsl, hL⟩ := HO.out
      have hL1 := hL.behind HR.out.1 HR.out.2
      rw [part_full] at hL1
      have hrow : (List.range k).map g = Cd.rowOf k g := rfl
      rw [hrow] at hL1
      have hc0 := hL1.cell 0 rfl 0 rfl
      have HL := Lib.hid hL1
      clear hL hL1
      go_wp2_with (refine wpl_append_owns (u := .slice (some ⟨w.heap.size, 0, none⟩) k k) 76 48 rfl (.tmp 21) (.tmp 23) rfl Tryd.underlying76 info_bytes rfl HL.out.push1 1 rfl rfl rfl (cell_of_row _ _ 0 _ _ (0, 0) (heap_new _ _)) rfl (by omega) (by decide) ?_; intro g1 c1 w3 hO3 _; have hc3 : w3.cell? ⟨P5, 0, none⟩ = some (.slice A rs.length c) := hO3.cell 0 rfl 0 rfl; have hf3 : w3.frozen? ⟨P5, 0, none⟩ = false := hO3.frozen 0 rfl 0)
      have hs3 := hO3.store 0 rfl 0 (.slice (some ⟨g1, 0, none⟩) (rs.length + 1) c1)
      have H3 := Lib.hid hs3
      clear hO3 hs3
      go_end0
      refine ⟨rfl, some ⟨g1, 0, none⟩, c1, hs ++ [w.heap.size], by simp [hsl], ?_⟩
      refine Owns.front (M := [⟨.slice (some ⟨wr.heap.size, 0, none⟩) 1 1, 48, 1, 1, [.slice (some ⟨w.heap.size, 0, none⟩) k k]⟩]) ?_
      rw [inner_snoc hsl]
      have h := H3.out
      simp [inner1, Cd.rowOf] at h ⊢
      exact h
end Go.Proofs.YtggfkpalkdkbdaaDoor

/- THE WALK over code.Rows. -/
namespace Cd
/-- The rows of a code; none if Check has an error. -/
def rowsOf (d : Int) (gs : List (List Int)) (gl : Int) : List (List UInt8) := if check d gs gl = 0 then rows d.toNat gs gl.toNat else []
theorem rowsOf_ok {d gl : Int} {gs : List (List Int)} (h : check d gs gl = 0) : rowsOf d gs gl = rows d.toNat gs gl.toNat := if_pos h
theorem rowsOf_no {d gl : Int} {gs : List (List Int)} (h : check d gs gl ≠ 0) : rowsOf d gs gl = [] := if_neg h
def rows1 (d k : Nat) : List (List UInt8) := (List.range k).map fun k => rowOf d (unitAt k)
def rows2 (d : Nat) (gs : List (List Int)) : List (List UInt8) := gs.map fun g => rowOf d (inAt (setOf 0 g))
def rows3 (d k : Nat) : List (List UInt8) := (List.range k).map fun j => rowOf d (gloAt j)
theorem rows_parts (d : Nat) (gs : List (List Int)) (gl : Nat) : rows1 d d ++ rows2 d gs ++ rows3 d gl = rows d gs gl := rfl
theorem rows1_succ (d k : Nat) : rows1 d (k + 1) = rows1 d k ++ [rowOf d (unitAt k)] := by simp [rows1, List.range_succ]
theorem rows3_succ (d k : Nat) : rows3 d (k + 1) = rows3 d k ++ [rowOf d (gloAt k)] := by simp [rows3, List.range_succ]
theorem rows2_take {d k : Nat} {gs : List (List Int)} (h : k < gs.length) : rows2 d (gs.take (k + 1)) = rows2 d (gs.take k) ++ [rowOf d (inAt (setOf 0 gs[k]))] := by
  rw [rows2, List.take_succ_eq_append_getElem h, List.map_append]; rfl
theorem rows1_length (d k : Nat) : (rows1 d k).length = k := by simp [rows1]
theorem rows2_length (d : Nat) (gs : List (List Int)) : (rows2 d gs).length = gs.length := by simp [rows2]
theorem rows3_length (d k : Nat) : (rows3 d k).length = k := by simp [rows3]
theorem rowOf_length (d : Nat) (g : Nat → UInt8) : (rowOf d g).length = d := by simp [rowOf]
theorem rows_len (d : Nat) (gs : List (List Int)) (gl : Nat) : (rows d gs gl).length = d + gs.length + gl := by
  rw [← rows_parts]; simp [rows1_length, rows2_length, rows3_length]; omega
theorem rows_width {d : Nat} {gs : List (List Int)} {gl : Nat} {r : List UInt8} (h : r ∈ rows d gs gl) : r.length = d := by
  simp only [rows, List.mem_append, List.mem_map] at h
  rcases h with (⟨k, _, rfl⟩ | ⟨g, _, rfl⟩) | ⟨k, _, rfl⟩ <;> exact rowOf_length _ _
attribute [irreducible] rowsOf rows1 rows2 rows3
end Cd
namespace Go.Proofs.YtggfkpalkdkbdaaDoor
open Go.RowKit

theorem RowsOut.rs {w0 w : World} {P : Nat} {rs : List (List UInt8)} (h : RowsOut w0 w P rs) (hw : ∀ r ∈ rs, r.length ≤ 9223372036854775807) (hn : rs.length ≤ 9223372036854775807) :
    ∃ A c, w.cell? ⟨P, 0, none⟩ = some (.slice A rs.length c) ∧ Rs (Rs RB) w (.slice A rs.length c) rs := by
  obtain ⟨A, c, hs, hl, hO⟩ := h
  refine ⟨A, c, hO.cell 0 rfl 0 rfl, A, c, rfl, hn, fun i r hi => ?_⟩
  have hi' : i < rs.length := (List.getElem?_eq_some_iff.1 hi).1
  have hr := (List.getElem?_eq_some_iff.1 hi).2
  have hin : (inner hs rs)[i]? = some (inner1 (hs[i]'(by omega)) r) := by
    unfold inner
    rw [List.getElem?_eq_getElem (by simp; omega), List.getElem_zipWith, hr]
  have hrd : Rd w A ((inner hs rs).map (·.v)) := hO.rd 1 rfl
  obtain ⟨ad, hA, _, hc⟩ := hrd i _ (by rw [List.getElem?_map, hin]; rfl)
  refine ⟨ad, _, hA, hc, ?_⟩
  refine Rs.of_rd ?_ (hw r (List.mem_of_getElem? hi))
  exact hO.rd (i + 2) (n := r.length) (by simpa [inner1] using hin)

theorem RowsOut.start {wb : World} : RowsOut wb (wb.alloc (.cells #[.slice none 0 0] 76)) wb.heap.size [] := by
  refine ⟨none, 0, [], rfl, ?_⟩
  have h1 := (Owns.start wb (L := [no, nilRow 48]) (by intro r hr; simp [no, nilRow] at hr; rcases hr with rfl | rfl <;> simp)).new 0 #[.slice none 0 0] 76 (by simp [maxLen])
  exact h1

theorem cRows_no (d gl : Int) (gs : List (List Int)) (G : Value) (w : World) (hG : Rs (Rs RI) w G gs) (h0 : Cd.check d gs gl ≠ 0) :
    Calls Tryd.prog 39 #[.agg #[.int .i64 d, G, .int .i64 gl]] w fun e w' => e = .returned (.tuple #[.slice none 0 0, .int .i64 (Cd.check d gs gl)]) ∧ Ext w w' := by
  have hx0 := (Ext.refl w).alloc (.cells #[.int .i64 d, G, .int .i64 gl] 24)
  have HX := Lib.hid (And.intro hx0 (Rs.ext (Rs.ext RI.ext) _ _ _ _ hx0 hG))
  obtain ⟨A, c, rfl, hl⟩ := hG.form
  clear hG hx0
  have e1 : (Cd.check d gs gl != 0) = true := by rw [bne_iff_ne]; exact h0
  clear h0
  go_enter Tryd.func39, Tryd.ntmps39
  go_wp2_with fail
  refine (cCheck_any d gl gs _ _ HX.out.2).mono ?_
  rintro e w1 ⟨rfl, hx1⟩
  have HX1 := Lib.hid (HX.out.1.trans hx1)
  clear hx1
  go_wp2_with fail
  go_ret2
  exact ⟨rfl, HX1.out⟩
set_option maxRecDepth 100000 in
theorem cRows_ok (d gl : Nat) (gs : List (List Int)) (G : Value) (w : World) (hT : Tab w) (hG : Rs (Rs RI) w G gs) (h0 : Cd.check d gs gl = 0) :
    Calls Tryd.prog 39 #[.agg #[.int .i64 d, G, .int .i64 gl]] w fun e w' => ∃ v, e = .returned (.tuple #[v, .int .i64 0]) ∧ Rs (Rs RB) w' v (Cd.rows d gs gl) ∧ Ext w w' := by
  have hx0 := (Ext.refl w).alloc (.cells #[.int .i64 d, G, .int .i64 gl] 24)
  have HX := Lib.hid (And.intro hx0 (Rs.ext (Rs.ext RI.ext) _ _ _ _ hx0 hG))
  have HT := Lib.hid hT
  obtain ⟨A, c, rfl, hl⟩ := hG.form
  have hk := Cd.check_ok h0
  obtain ⟨k1, k2, k3, k4, k5, k6⟩ := hk
  have H0 := Lib.hid h0
  clear hG hx0 hT h0 k1 k3
  have e1 : (Cd.check d gs gl != 0) = false := by rw [H0.out]; rfl
  go_enter Tryd.func39, Tryd.ntmps39
  go_wp2_with fail
  refine (cCheck_any d gl gs _ _ HX.out.2).mono ?_
  rintro e w1 ⟨rfl, hx1⟩
  have HX1 := Lib.hid (HX.out.1.trans hx1)
  have hc0 : w1.cell? ⟨w.heap.size, 0, none⟩ = some (.int .i64 d) := hx1.cell (by go_simp)
  have hc1 : w1.cell? ⟨w.heap.size, 1, none⟩ = some (.slice A gs.length c) := hx1.cell (by go_simp)
  have hc2 : w1.cell? ⟨w.heap.size, 2, none⟩ = some (.int .i64 gl) := hx1.cell (by go_simp)
  have HC := Lib.hid (And.intro hc0 (And.intro hc1 hc2))
  have HG := Lib.hid (Rs.ext (Rs.ext RI.ext) _ _ _ _ hx1 HX.out.2)
  clear hx1
  have HR0 := Lib.hid (RowsOut.start (wb := w1))
  have ha0 := HR0.out.ext.cell hc0
  have Q0 := Lib.hid ha0
  clear hc0 hc1 hc2
  go_wp2_with fail
  clear ha0
  go_loopw [22] (fun vi wr => ∃ k : Nat, k ≤ d ∧ vi = .int .i64 k ∧ Hid (RowsOut w1 wr w1.heap.size (Cd.rows1 d k))) (fun vi _ => d - (intOf vi).toNat)
  case atStart => exact ⟨0, Nat.zero_le _, rfl, by rw [show Cd.rows1 d 0 = [] from by simp [Cd.rows1]]; exact HR0.out⟩
  case round =>
    obtain ⟨k, hk, rfl, HR⟩ := hrel
    by_cases hlt : k < d
    · have hcd := (HR.out.ext.alloc (.cells #[.int .i64 k] 3)).cell HC.out.1
      have HCD := Lib.hid hcd
      clear hcd
      go_wp2_with fail
      refine (rows1_any w1 _ w.heap.size w1.heap.size d (Cd.rows1 d k) _ _ (Cd.unitAt k) (by omega) (by rw [Cd.rows1_length]; omega) enters62 ?_ HCD.out (HR.out.next ((Ext.refl _).alloc _))).mono ?_
      · intro i hi w' hx
        exact rows2_any i k _ w' (hx.cell (by go_simp))
      rintro e w2 ⟨rfl, ho⟩
      rw [← Cd.rows1_succ] at ho
      have HO := Lib.hid ho
      clear ho
      go_wp2_with fail
      go_roundw
      case rel => exact ⟨k + 1, by omega, by go_num, HO.out⟩
      case measure => simp [intOf]; omega
    · obtain rfl : k = d := by omega
      have hc1 := HR.out.ext.cell HC.out.2.1
      go_wp2_with fail
      clear hc1
      go_loopw [32] (fun vi wr => ∃ i : Nat, i ≤ gs.length ∧ vi = .int .i64 i ∧ Hid (RowsOut w1 wr w1.heap.size (Cd.rows1 k k ++ Cd.rows2 k (gs.take i)))) (fun vi _ => gs.length - (intOf vi).toNat)
      case atStart => exact ⟨0, Nat.zero_le _, rfl, by rw [List.take_zero, show Cd.rows2 k [] = [] from by simp [Cd.rows2], List.append_nil]; exact HR.out⟩
      case round =>
        obtain ⟨i, hi, rfl, HI⟩ := hrel
        by_cases hlt2 : i < gs.length
        · obtain ⟨ad, u, rfl, hcell, hu⟩ := HG.out.at hlt2
          obtain ⟨B, cB, rfl, hlB⟩ := hu.form
          have hcell' := HI.out.ext.cell hcell
          have HU := Lib.hid (Rs.ext RI.ext _ _ _ _ HI.out.ext hu)
          have hgb := Cd.check_groups_ok H0.out gs[i] (List.getElem_mem hlt2)
          have hstep := Cd.rows2_take (d := k) hlt2
          obtain ⟨g, hg⟩ : ∃ g, gs[i] = g := ⟨_, rfl⟩
          rw [hg] at hcell' HU hlB hgb hstep
          have HGB := Lib.hid (And.intro hgb hstep)
          clear hcell hu hgb hstep hg
          have hOs := ((Owns.start wr (L := []) (by simp)).push1 (u := .int .i64 0) (e := 3))
          rw [List.nil_append] at hOs
          have HS0 := Lib.hid hOs
          clear hOs
          go_wp2_with fail
          go_loopw [38] (fun vj wj => ∃ j s : Nat, j ≤ g.length ∧ vj = .int .i64 j ∧ s < 65536 ∧ Hid (Owns wr wj [⟨.slice (some ⟨wr.heap.size, 0, none⟩) 1 1, 3, 1, 1, [.int .i64 s]⟩] ∧ s = Cd.setOf 0 (g.take j))) (fun vj _ => g.length - (intOf vj).toNat)
          case atStart => exact ⟨0, 0, Nat.zero_le _, rfl, by omega, HS0.out, by rw [List.take_zero, Cd.setOf_nil]⟩
          case round =>
            obtain ⟨j, s, hj, rfl, hs, HS⟩ := hrel
            by_cases hlt3 : j < g.length
            · obtain ⟨bd, u, rfl, hbc, hu⟩ := HU.out.at hlt3
              obtain ⟨rfl, hlo, hhi⟩ := hu
              have hbc' := HS.out.1.ext.cell hbc
              clear hbc
              have hb2 := HGB.out.1 _ (List.getElem_mem hlt3)
              obtain ⟨m, hm⟩ : ∃ m : Nat, g[j] = (m : Int) := ⟨(g[j]).toNat, by omega⟩
              have hst := Cd.setOf_take (s := 0) hlt3
              rw [hm, Int.toNat_natCast, ← HS.out.2] at hst
              have hm16 : m < 16 := by omega
              rw [hm] at hbc'
              have hor := or_pow s m hs hm16
              have hcs := HS.out.1.cell 0 rfl 0 rfl
              have hfs := HS.out.1.frozen 0 rfl 0
              have HOR := Lib.hid (And.intro hor.1 (And.intro hst hor.2))
              clear hor hst hb2 hm hlo hhi
              go_wp2_with fail
              go_region
              all_goals go_wp2_with fail
              all_goals go_roundw
              case rel => exact ⟨j + 1, s ||| 2 ^ m, by omega, by go_num, HOR.out.2.2, by rw [HOR.out.1]; exact (HS.out.1.store 0 rfl 0 _).drew, HOR.out.2.1.symm⟩
              case measure => simp [intOf]; omega
            · obtain rfl : j = g.length := by omega
              have hse : s = Cd.setOf 0 g := by rw [HS.out.2, List.take_length]
              have hcs := HS.out.1.cell 0 rfl 0 rfl
              have HCS := Lib.hid (And.intro hcs (And.intro hse hs))
              have hro := HI.out.next HS.out.1.ext
              have hcd := hro.ext.cell HC.out.1
              have HRO := Lib.hid (And.intro hro hcd)
              clear hcs hse hro hcd
              go_wp2_with fail
              refine (rows1_any w1 _ w.heap.size w1.heap.size k (Cd.rows1 k k ++ Cd.rows2 k (gs.take i)) _ _ (Cd.inAt s) (by omega) (by rw [List.length_append, Cd.rows1_length, Cd.rows2_length, List.length_take]; omega) enters63 ?_ HRO.out.2 HRO.out.1).mono ?_
              · intro i hi w' hx
                exact rows3_any i s _ w' hs (by omega) (hx.cell HCS.out.1)
              rintro e w2 ⟨rfl, ho⟩
              rw [HCS.out.2.1, List.append_assoc, ← HGB.out.2] at ho
              have HO := Lib.hid ho
              clear ho
              go_wp2_with fail
              go_roundw
              case rel => exact ⟨i + 1, by omega, by go_num, HO.out⟩
              case measure => simp [intOf]; omega
        · obtain rfl : i = gs.length := by omega
          have hro := HI.out
          rw [List.take_length] at hro
          have hc2 := hro.ext.cell HC.out.2.2
          have HRO := Lib.hid hro
          clear hro
          go_wp2_with fail
          clear hc2
          go_loopw [53] (fun vj wr => ∃ j : Nat, j ≤ gl ∧ vj = .int .i64 j ∧ Hid (RowsOut w1 wr w1.heap.size (Cd.rows1 k k ++ Cd.rows2 k gs ++ Cd.rows3 k j))) (fun vj _ => gl - (intOf vj).toNat)
          case atStart => exact ⟨0, Nat.zero_le _, rfl, by rw [show Cd.rows3 k 0 = [] from by simp [Cd.rows3], List.append_nil]; exact HRO.out⟩
          case round =>
            obtain ⟨j, hj, rfl, HJ⟩ := hrel
            by_cases hlt3 : j < gl
            · have hcd := (HJ.out.ext.alloc (.cells #[.int .i64 j] 3)).cell HC.out.1
              have HCD := Lib.hid hcd
              clear hcd
              go_wp2_with fail
              refine (rows1_any w1 _ w.heap.size w1.heap.size k (Cd.rows1 k k ++ Cd.rows2 k gs ++ Cd.rows3 k j) _ _ (Cd.gloAt j) (by omega) (by simp only [List.length_append, Cd.rows1_length, Cd.rows2_length, Cd.rows3_length]; omega) enters64 ?_ HCD.out (HJ.out.next ((Ext.refl _).alloc _))).mono ?_
              · intro i hi w' hx
                exact rows4_any i j _ w' (((HT.out.ext HX1.out).ext HJ.out.ext).ext (((Ext.refl _).alloc _).trans hx)) (by omega) (by omega) (hx.cell (by go_simp))
              rintro e w2 ⟨rfl, ho⟩
              rw [List.append_assoc, ← Cd.rows3_succ] at ho
              have HO := Lib.hid ho
              clear ho
              go_wp2_with fail
              go_roundw
              case rel => exact ⟨j + 1, by omega, by go_num, HO.out⟩
              case measure => simp [intOf]; omega
            · obtain rfl : j = gl := by omega
              have hro := HJ.out
              rw [Cd.rows_parts] at hro
              obtain ⟨A2, c2, hcell, hrs⟩ := hro.rs (fun r hr => by rw [Cd.rows_width hr]; omega) (by rw [Cd.rows_len]; omega)
              have HRO := Lib.hid (And.intro hro hrs)
              clear hro hrs
              go_wp2_with fail
              go_ret2
              exact ⟨_, rfl, HRO.out.2, HX1.out.trans HRO.out.1.ext⟩
/-- `Rows` of a code: a row for each piece, and the first error; nothing that was there is changed. -/
theorem cRows_any (d gl : Int) (gs : List (List Int)) (G : Value) (w : World) (hT : Tab w) (hG : Rs (Rs RI) w G gs) :
    Calls Tryd.prog 39 #[.agg #[.int .i64 d, G, .int .i64 gl]] w fun e w' => ∃ v, e = .returned (.tuple #[v, .int .i64 (Cd.check d gs gl)]) ∧ Rs (Rs RB) w' v (Cd.rowsOf d gs gl) ∧ Ext w w' := by
  by_cases h0 : Cd.check d gs gl = 0
  · have hk := Cd.check_ok h0
    rw [Cd.rowsOf_ok h0, h0]
    obtain ⟨n, rfl⟩ : ∃ n : Nat, d = n := ⟨d.toNat, by omega⟩
    obtain ⟨m, rfl⟩ : ∃ m : Nat, gl = m := ⟨gl.toNat, by omega⟩
    exact cRows_ok n m gs G w hT hG h0
  · refine (cRows_no d gl gs G w hG h0).mono ?_
    rintro e w' ⟨rfl, hx⟩
    rw [Cd.rowsOf_no h0]
    exact ⟨_, rfl, ⟨none, 0, rfl, by simp, fun i x h => by simp at h⟩, hx⟩
end Go.Proofs.YtggfkpalkdkbdaaDoor

/- THE WALK over (*stairs).add. -/
namespace Cd
theorem first_eq : ∀ l : List UInt8, first l = Gf.firstNZ l
  | [] => by unfold first; rfl
  | x :: r => by
    have := first_eq r
    unfold first Gf.firstNZ
    split
    · rw [this]
    · rfl
end Cd
namespace Go.Proofs.YtggfkpalkdkbdaaDoor
open Go.RowKit

/-- 'append(out, xs...)' of a region's list of operations, any number of elements. -/
theorem wpl_append_all {P : Program} {w0 w : World} {L : List LRow} {ops : Array Oper} {rest : List Oper} {o : Oper} {a : Act} {Q : Exit → Act → World → Prop} (t e : TypeId) (hgd : o.guard = none) (s x : Operand)
    (ho : o.op = .call { callee := .builtin .append, args := #[s, x], argTypes := #[t, t] })
    {z : Value} {bytes : Nat} (ht : P.underlying t = some (.slice e)) (hi : (P.info? e).map (fun i => (i.zero, i.size, i.bytes)) = some (some z, 1, bytes)) (hzs : z.cells.size = 1)
    (h : Owns w0 w L) (i : Nat) {v : Value} {n : Nat} {xs : List Value} (hL : L[i]? = some ⟨v, e, 1, n, xs⟩) (hs : a.eval s = v) {ad : Addr} {m c : Nat} {news : List Value}
    (hx : a.eval x = .slice (some ad) m c) (hl : news.length = m) (hnews : ∀ j u, news[j]? = some u → w.cell? (ad.add j) = some u) (h1 : ∀ u ∈ news, u.oneCell' = true) (hm : 0 < m) (hn : n + m < 100000000000) (hb : bytes ≤ 100)
    (hK : ∀ g cap w', Owns w0 w' (L.set i ⟨.slice (some ⟨g, 0, none⟩) (n + m) cap, e, 1, n + m, xs ++ news⟩) → w.grownBy w' v.ownBlock → wpList P ops Q rest (a.put o.dst (.slice (some ⟨g, 0, none⟩) (n + m) cap)) w') :
    wpList P ops Q (o :: rest) a w := by
  refine wpList_plain hgd fun K hK' => ?_
  have hbb : (n + m) * bytes ≤ (n + m) * 100 := Nat.mul_le_mul_left _ hb
  obtain ⟨g, cap, w', hr, h2, _, h3⟩ := run_append_owns (P := P) t o.type e ht hi hzs (by decide) h i hL ad m c news (by omega) hnews h1 hm (by unfold maxLen; omega) (by omega)
  unfold Oper.wp execOp
  simp only [ho, resolve, invoke, builtin, Sem.run_bind, Sem.run_pure, Result.andThen_ok, List.map_toArray, List.map_cons, List.map_nil, hs, hx, hr]
  exact hK' _ _ (hK g cap w' h2 h3)

theorem mul_still (a b : UInt8) (w : World) (hT : Tab w) : Calls Tryd.prog 68 #[bv a, bv b] w fun e w'' => e = .returned (bv (Gf.mul a b)) ∧ w'' = w := (mul_u8 a b w hT).mono fun _ _ h => ⟨h.1, h.2.symm⟩
abbrev sv (p : List UInt8) : Value := .string (sb p)
theorem inv_u8 (a : UInt8) (w : World) (hT : Tab w) : Calls Tryd.prog 75 #[bv a] w fun e w' => e = .returned (.tuple #[bv (Gf.inv a), .int .i64 (Gf.noneI (a.toNat : Int))]) ∧ w = w' := by
  refine (inv_any (a.toNat : Int) w hT (by omega) (by have := Gf.lt8 a; omega)).mono ?_
  rintro e w' ⟨rfl, rfl⟩
  refine ⟨?_, rfl⟩
  rw [Int.toNat_natCast, ← Gf.inv_toNat]
/-- r after k of its elements were multiplied by c. -/
def halfMul (c : UInt8) (r : List UInt8) (k : Nat) : List UInt8 := (List.range r.length).map fun i => if i < k then Gf.mul c (r.getD i 0) else r.getD i 0
theorem halfMul_length (c : UInt8) (r : List UInt8) (k : Nat) : (halfMul c r k).length = r.length := by simp [halfMul]
theorem halfMul_zero (c : UInt8) (r : List UInt8) : halfMul c r 0 = r := by
  apply List.ext_getElem
  · exact halfMul_length c r 0
  · intro i h1 h2
    simp [halfMul, List.getElem?_eq_getElem h2]
theorem halfMul_full (c : UInt8) (r : List UInt8) : halfMul c r r.length = r.map (Gf.mul c) := by
  apply List.ext_getElem
  · simp [halfMul]
  · intro i h1 h2
    have h3 : i < r.length := by simpa using h2
    simp [halfMul, List.getElem?_eq_getElem h3]
    intro h
    omega
theorem halfMul_at {c : UInt8} {r : List UInt8} {i : Nat} (h : i < r.length) : (halfMul c r i)[i]? = some (r.getD i 0) := by
  unfold halfMul
  rw [List.getElem?_map, List.getElem?_eq_getElem (by simpa using h)]
  simp
theorem halfMul_set {c : UInt8} {r : List UInt8} {i : Nat} : (halfMul c r i).set i (Gf.mul c (r.getD i 0)) = halfMul c r (i + 1) := by
  apply List.ext_getElem
  · simp [halfMul]
  · intro j h1 h2
    rw [List.getElem_set]
    split
    · rename_i hij
      subst hij
      simp [halfMul]
    · rename_i hij
      simp only [halfMul, List.getElem_map, List.getElem_range]
      by_cases hj : j < i
      · rw [if_pos hj, if_pos (by omega)]
      · rw [if_neg hj, if_neg (by omega)]
/-- Rows of bytes that a call has made, of whatever room. -/
def innerC1 (h : Nat × Nat) (r : List UInt8) : LRow := ⟨.slice (some ⟨h.1, 0, none⟩) r.length h.2, 5, 1, r.length, r.map bv⟩
def innerC (hs : List (Nat × Nat)) (rs : List (List UInt8)) : List LRow := List.zipWith innerC1 hs rs
theorem innerC_snoc {hs : List (Nat × Nat)} {rs : List (List UInt8)} (h : hs.length = rs.length) (g : Nat × Nat) (r : List UInt8) : innerC (hs ++ [g]) (rs ++ [r]) = innerC hs rs ++ [innerC1 g r] := by
  unfold innerC
  rw [List.zipWith_append h]
  rfl
/-- The stairs that a call has made. -/
def StairsOut (w0 w : World) (P : Nat) (rows parts : List (List UInt8)) (n : Nat) : Prop :=
  ∃ (A B : Option Addr) (cA cB : Nat) (hs : List (Nat × Nat)), hs.length = rows.length ∧ parts.length = rows.length ∧
    Owns w0 w (⟨.slice (some ⟨P, 0, none⟩) 1 1, 122, 3, 1, [.slice A rows.length cA, .slice B rows.length cB, .int .i64 n]⟩ :: ⟨.slice A rows.length cA, 48, 1, rows.length, (innerC hs rows).map (·.v)⟩ :: ⟨.slice B rows.length cB, 9, 1, rows.length, parts.map sv⟩ :: innerC hs rows)
theorem StairsOut.ext {w0 w : World} {P n : Nat} {rs ps : List (List UInt8)} (h : StairsOut w0 w P rs ps n) : Ext w0 w := by
  obtain ⟨A, B, cA, cB, hs, h1, h2, h⟩ := h
  exact h.ext
theorem StairsOut.next {w0 w w' : World} {P n : Nat} {rs ps : List (List UInt8)} (h : StairsOut w0 w P rs ps n) (hx : Ext w w') : StairsOut w0 w' P rs ps n := by
  obtain ⟨A, B, cA, cB, hs, h1, h2, h⟩ := h
  exact ⟨A, B, cA, cB, hs, h1, h2, h.next hx⟩
theorem StairsOut.of {w0 w : World} {P m n g c cA cB : Nat} {A B : Option Addr} {rows parts : List (List UInt8)} {r q : List UInt8} {hs : List (Nat × Nat)} {X Y : LRow} (hl : hs.length = rows.length) (hp : parts.length = rows.length) (hm : r.length = m)
    (h : Owns w0 w (⟨.slice (some ⟨P, 0, none⟩) 1 1, 122, 3, 1, [.slice A (rows.length + 1) cA, .slice B (rows.length + 1) cB, .int .i64 n]⟩ :: ⟨.slice A (rows.length + 1) cA, 48, 1, rows.length + 1, (innerC hs rows).map (·.v) ++ [.slice (some ⟨g, 0, none⟩) m c]⟩ :: ⟨.slice B (rows.length + 1) cB, 9, 1, rows.length + 1, parts.map sv ++ [sv q]⟩ :: X :: Y :: (innerC hs rows ++ [innerC1 (g, c) r]))) :
    StairsOut w0 w P (rows ++ [r]) (parts ++ [q]) n := by
  subst hm
  refine ⟨A, B, cA, cB, hs ++ [(g, c)], by simp [hl], by simp [hp], ?_⟩
  have h2 := h.sublist (L' := _ :: _ :: _ :: (innerC hs rows ++ [innerC1 (g, c) r])) (((List.Sublist.refl _).cons Y |>.cons X).cons_cons _ |>.cons_cons _ |>.cons_cons _)
  rw [innerC_snoc hl]
  simp only [List.length_append, List.length_cons, List.length_nil, List.map_append, List.map_cons, List.map_nil]
  exact h2
theorem Owns.two {w0 w : World} {x y z : LRow} {Y : List LRow} (h : Owns w0 w (x :: y :: z :: Y)) : Owns w0 w (x :: y :: z :: no :: no :: Y) := by
  refine h.wider.wider.perm ?_
  show (x :: y :: z :: (Y ++ [no] ++ [no])).Perm (x :: y :: z :: ([no, no] ++ Y))
  rw [List.append_assoc]
  exact (((List.perm_append_comm).cons _).cons _).cons _
theorem info_str : (Tryd.prog.info? 9).map (fun i => (i.zero, i.size, i.bytes)) = some (some (.string ByteArray.empty), 1, 16) := by kernel_rfl
/-- r less its multiples of rows; the part that belongs to it. -/
def redPart (p : List UInt8) (r x q : List UInt8) : List UInt8 := if r.getD (Gf.firstNZ x) 0 = 0 then p else Gf.sum p (Gf.scale (r.getD (Gf.firstNZ x) 0) q)
def redTo (rows parts : List (List UInt8)) (r p : List UInt8) : Nat → List UInt8 × List UInt8
  | 0 => (r, p)
  | k + 1 => (Gf.redRow (redTo rows parts r p k).1 (rows.getD k []), redPart (redTo rows parts r p k).2 (redTo rows parts r p k).1 (rows.getD k []) (parts.getD k []))
/-- r after k of its elements were turned by x. -/
def halfRow (r x : List UInt8) (k : Nat) : List UInt8 := (List.range r.length).map fun i => if i < k then r.getD i 0 ^^^ Gf.mul (r.getD (Gf.firstNZ x) 0) (x.getD i 0) else r.getD i 0

/-- A row that is read, of a list of rows. -/
theorem StairsOut.look {w0 w : World} {P n : Nat} {rs ps : List (List UInt8)} (h : StairsOut w0 w P rs ps n) :
    ∃ (A B : Option Addr) (cA cB : Nat), w.cell? ⟨P, 0, none⟩ = some (.slice A rs.length cA) ∧ w.cell? ⟨P, 1, none⟩ = some (.slice B rs.length cB) ∧ w.cell? ⟨P, 2, none⟩ = some (.int .i64 n) ∧ ps.length = rs.length ∧
      (∀ k (hk : k < rs.length), ∃ ad g cg, A = some ad ∧ w.cell? (ad.add k) = some (.slice (some ⟨g, 0, none⟩) rs[k].length cg) ∧ Rd w (some ⟨g, 0, none⟩) (rs[k].map bv)) ∧
      (∀ k (hk : k < ps.length), ∃ bd, B = some bd ∧ w.cell? (bd.add k) = some (sv ps[k])) := by
  obtain ⟨A, B, cA, cB, hs, h1, h2, hO⟩ := h
  refine ⟨A, B, cA, cB, hO.cell 0 rfl 0 rfl, hO.cell 0 rfl 1 rfl, hO.cell 0 rfl 2 rfl, h2, fun k hk => ?_, fun k hk => ?_⟩
  · have hin : (innerC hs rs)[k]? = some (innerC1 (hs[k]'(by omega)) rs[k]) := by
      unfold innerC
      rw [List.getElem?_eq_getElem (by simp; omega), List.getElem_zipWith]
    have hrd : Rd w A ((innerC hs rs).map (·.v)) := hO.rd 1 rfl
    obtain ⟨ad, hA, _, hc⟩ := hrd k _ (by rw [List.getElem?_map, hin]; rfl)
    exact ⟨ad, _, _, hA, hc, hO.rd (k + 3) (n := rs[k].length) (by simpa [innerC1] using hin)⟩
  · have hrd : Rd w B (ps.map sv) := hO.rd 2 rfl
    obtain ⟨ad, hA, _, hc⟩ := hrd k (sv ps[k]) (by rw [List.getElem?_map, List.getElem?_eq_getElem hk]; rfl)
    exact ⟨ad, hA, hc⟩
theorem redTo_length (rows parts : List (List UInt8)) (r p : List UInt8) : ∀ k, (redTo rows parts r p k).1.length = r.length
  | 0 => rfl
  | k + 1 => by rw [redTo, Gf.redRow_length, redTo_length]
theorem redPart_zero {p r x q : List UInt8} (h : r.getD (Gf.firstNZ x) 0 = 0) : redPart p r x q = p := if_pos h
theorem redPart_nz {p r x q : List UInt8} (h : r.getD (Gf.firstNZ x) 0 ≠ 0) : redPart p r x q = Gf.sum p (Gf.scale (r.getD (Gf.firstNZ x) 0) q) := if_neg h
theorem redTo_part_le (rows parts : List (List UInt8)) (r p : List UInt8) (M : Nat) (hq : ∀ q ∈ parts, q.length ≤ M) (hp : p.length ≤ M) : ∀ k, (redTo rows parts r p k).2.length ≤ M
  | 0 => hp
  | k + 1 => by
    have ih := redTo_part_le rows parts r p M hq hp k
    have hg : (parts.getD k []).length ≤ M := by
      rw [List.getD_eq_getElem?_getD]
      cases hpk : parts[k]? with
      | none => simp
      | some q => exact hq q (List.mem_of_getElem? hpk)
    rw [redTo]
    show (redPart _ _ _ _).length ≤ M
    unfold redPart
    split
    · exact ih
    · simp only [Gf.sum, Gf.scale, List.length_map, List.length_range]
      omega
theorem halfRow_length (r x : List UInt8) (k : Nat) : (halfRow r x k).length = r.length := by simp [halfRow]
theorem halfRow_zero (r x : List UInt8) : halfRow r x 0 = r := by
  apply List.ext_getElem
  · exact halfRow_length r x 0
  · intro i h1 h2
    simp [halfRow, List.getElem?_eq_getElem h2]
theorem halfRow_full (r x : List UInt8) : halfRow r x r.length = Gf.redRow r x := by
  unfold halfRow Gf.redRow
  apply List.map_congr_left
  intro i hi
  rw [if_pos (by simpa using hi)]
theorem halfRow_at {r x : List UInt8} {i : Nat} (h : i < r.length) : (halfRow r x i)[i]? = some (r.getD i 0) := by
  unfold halfRow
  rw [List.getElem?_map, List.getElem?_eq_getElem (by simpa using h)]
  simp
theorem halfRow_set {r x : List UInt8} {i : Nat} : (halfRow r x i).set i (r.getD i 0 ^^^ Gf.mul (r.getD (Gf.firstNZ x) 0) (x.getD i 0)) = halfRow r x (i + 1) := by
  apply List.ext_getElem
  · simp [halfRow]
  · intro j h1 h2
    rw [List.getElem_set]
    split
    · rename_i hij
      subst hij
      simp [halfRow]
    · rename_i hij
      simp only [halfRow, List.getElem_map, List.getElem_range]
      by_cases hj : j < i
      · rw [if_pos hj, if_pos (by omega)]
      · rw [if_neg hj, if_neg (by omega)]
theorem redTo_take (rows parts : List (List UInt8)) (r p : List UInt8) : ∀ k, k ≤ rows.length → (redTo rows parts r p k).1 = Gf.reduce (rows.take k) r
  | 0, _ => rfl
  | k + 1, h => by
    have hk : k < rows.length := by omega
    rw [redTo]
    show Gf.redRow _ _ = _
    rw [redTo_take rows parts r p k (by omega), List.take_succ_eq_append_getElem hk, Gf.reduce, Gf.reduce, List.foldl_append, List.getD_eq_getElem?_getD, List.getElem?_eq_getElem hk]
    rfl
theorem redTo_full (rows parts : List (List UInt8)) (r p : List UInt8) : (redTo rows parts r p rows.length).1 = Gf.reduce rows r := by
  rw [redTo_take rows parts r p _ (Nat.le_refl _), List.take_length]
/-- What belongs to the row that is added. -/
def newPart (rows parts : List (List UInt8)) (l p : List UInt8) : List UInt8 := Gf.scale (Gf.inv ((Gf.reduce rows l).getD (Gf.firstNZ (Gf.reduce rows l)) 0)) (redTo rows parts l p rows.length).2
/-- The stairs with a row more, if it is no combination of them. -/
def addTo (rows parts : List (List UInt8)) (l p : List UInt8) : List (List UInt8) × List (List UInt8) :=
  match Gf.addRow rows l with
  | none => (rows, parts)
  | some t => (rows ++ [t], parts ++ [newPart rows parts l p])
theorem addTo_none {rows parts : List (List UInt8)} {l p : List UInt8} (h : Gf.addRow rows l = none) : addTo rows parts l p = (rows, parts) := by unfold addTo; rw [h]
theorem addTo_some {rows parts : List (List UInt8)} {l p t : List UInt8} (h : Gf.addRow rows l = some t) : addTo rows parts l p = (rows ++ [t], parts ++ [newPart rows parts l p]) := by unfold addTo; rw [h]
attribute [irreducible] redPart halfRow addTo

set_option maxRecDepth 100000 in
set_option maxHeartbeats 8000000 in
theorem cAdd_any (w0 w : World) (P : Nat) (rows parts : List (List UInt8)) (l p : List UInt8) (A : Addr) (c : Nat) (hT0 : Tab w0) (hA : Rd w (some A) (l.map bv)) (hn : 0 < l.length) (hn2 : l.length ≤ 16)
    (hS : StairsOut w0 w P rows parts l.length) (hw : Gf.Stairs l.length rows) (hr : rows.length < 100) (hq : ∀ q ∈ parts, q.length ≤ 140737488351232) (hp : p.length ≤ 140737488351232) :
    Calls Tryd.prog 81 #[.pointer (some ⟨P, 0, none⟩), .slice (some A) l.length c, .string (sb p)] w fun e w' => e = .returned (.bool (Gf.addRow rows l).isSome) ∧ StairsOut w0 w' P (addTo rows parts l p).1 (addTo rows parts l p).2 l.length := by
  have hT := hT0.ext hS.ext
  have HT := Lib.hid hT
  have HT0 := Lib.hid hT0
  have HA := Lib.hid hA
  have HS := Lib.hid hS
  have HW := Lib.hid hw
  obtain ⟨X, B, cX, cB, b0, b1, b2, hpl, hX, hB⟩ := hS.look
  have HB := Lib.hid (And.intro b0 (And.intro b1 b2))
  have HL := Lib.hid (And.intro hX hB)
  have HPL := Lib.hid hpl
  have HQ := Lib.hid (redTo_part_le rows parts l p _ hq hp)
  have HQ2 := Lib.hid hq
  clear hT hT0 hA hS hw b0 b1 b2 hX hB hpl hq hp
  have hO0 : Owns w (w.alloc (.cells #[] 5)) [⟨.slice (some ⟨w.heap.size, 0, none⟩) 0 0, 5, 1, 0, []⟩] := (Owns.start w (L := [no]) (by intro r hr; simp at hr; subst hr; exact ⟨rfl, rfl, rfl⟩)).new 0 #[] 5 (by simp [maxLen])
  have HO0 := Lib.hid hO0
  clear hO0
  have hnews : ∀ (j : Nat) (u : Value), (l.map bv)[j]? = some u → (w.alloc (.cells #[] 5)).cell? (A.add j) = some u := fun j u hj =>
    (((Ext.refl w).alloc _).cell (HA.out.all (List.getElem?_eq_some_iff.1 hj).1)).trans (by rw [(List.getElem?_eq_some_iff.1 hj).2])
  have hone : ∀ u ∈ l.map bv, u.oneCell' = true := by intro u hu; simp at hu; obtain ⟨b, _, rfl⟩ := hu; rfl
  have HN := Lib.hid (And.intro hnews hone)
  clear hnews hone
  go_enter Tryd.func81, Tryd.ntmps81
  go_wp2_with (refine wpl_append_all 48 5 rfl (.tmp 17) (.tmp 18) rfl Tryd.underlying48 info_u8 rfl HO0.out 0 rfl rfl rfl (List.length_map _) HN.out.1 HN.out.2 hn (by omega) (by decide) ?_; intro g1 c1 w3 hO3 _; have hb0 : w3.cell? ⟨P, 0, none⟩ = some (.slice X rows.length cX) := hO3.ext.cell HB.out.1)
  have hO3' : Owns w w3 [⟨.slice (some ⟨g1, 0, none⟩) l.length c1, 5, 1, l.length, (redTo rows parts l p 0).1.map bv⟩] := by simpa [redTo] using hO3
  have HO3 := Lib.hid hO3'
  clear hO3 hO3' hb0
  go_loopw [2, 25] (fun vp vk wr => ∃ k : Nat, k ≤ rows.length ∧ vk = .int .i64 k ∧ vp = sv (redTo rows parts l p k).2 ∧ Hid (Owns w wr [⟨.slice (some ⟨g1, 0, none⟩) l.length c1, 5, 1, l.length, (redTo rows parts l p k).1.map bv⟩])) (fun _ vk _ => rows.length - (intOf vk).toNat)
  case atStart => exact ⟨0, Nat.zero_le _, rfl, rfl, HO3.out⟩
  case round =>
    obtain ⟨k, hk, rfl, rfl, HR⟩ := hrel
    by_cases hlt : k < rows.length
    · obtain ⟨ad, g, cg, rfl, hx1, hx2⟩ := HL.out.1 k hlt
      have hxl := HW.out.len _ (List.getElem_mem hlt)
      have hxn := HW.out.nz _ (List.getElem_mem hlt)
      have hrl := redTo_length rows parts l p k
      have hstep : redTo rows parts l p (k + 1) = (Gf.redRow (redTo rows parts l p k).1 rows[k], redPart (redTo rows parts l p k).2 (redTo rows parts l p k).1 rows[k] (parts.getD k [])) := by
        rw [redTo, List.getD_eq_getElem?_getD, List.getElem?_eq_getElem hlt]; rfl
      obtain ⟨x, hx⟩ : ∃ x, rows[k] = x := ⟨_, rfl⟩
      obtain ⟨r, hr'⟩ : ∃ r, (redTo rows parts l p k).1 = r := ⟨_, rfl⟩
      obtain ⟨q, hq⟩ : ∃ q, (redTo rows parts l p k).2 = q := ⟨_, rfl⟩
      rw [hx] at hx1 hx2 hxl hxn hstep
      rw [hr'] at hstep hrl
      rw [hq] at hstep
      have hO := HR.out
      rw [hr'] at hO
      rw [hxl] at hx1
      have hx1' := hO.ext.cell hx1
      have HX2 := Lib.hid (Rd.ext hx2 hO.ext)
      have HX3 := Lib.hid hx2
      obtain ⟨f, hf⟩ : ∃ f, Gf.firstNZ x = f := ⟨_, rfl⟩
      rw [hf] at hxn
      have hcf := hO.cell 0 rfl f (u := bv (r.getD f 0)) (by rw [List.getElem?_map, List.getElem?_eq_getElem (by omega), List.getD_eq_getElem?_getD, List.getElem?_eq_getElem (by omega)]; rfl)
      have HST := Lib.hid (And.intro hstep (And.intro hf (And.intro hxl hrl)))
      have HO := Lib.hid hO
      clear hstep hx1 hx2 hO hx hr' hf hrl
      go_wp2_with fail
      rw [← hxl]
      refine (cFirst_any x _ _ _ HX2.out (by omega)).mono ?_
      rintro e w' ⟨rfl, rfl⟩
      rw [Cd.first_eq, HST.out.2.1, hxl]
      by_cases h0 : r.getD f 0 = 0
      · rw [h0] at hcf
        go_wp2_with fail
        go_roundw
        case rel => exact ⟨k + 1, by omega, by go_num, by rw [HST.out.1]; dsimp only; rw [redPart_zero (by rw [HST.out.2.1]; exact h0)], by rw [HST.out.1]; dsimp only; rw [Gf.redRow_same (by rw [HST.out.2.1]; exact h0)]; exact HO.out⟩
        case measure => simp [intOf]; omega
      · have ef : (((r.getD f 0).toNat : Int) != 0) = true := by
          rw [bne_iff_ne]
          intro h
          exact h0 (UInt8.toNat_inj.1 (by have : (r.getD f 0).toNat = 0 := by omega
                                          exact this))
        have H0 := Lib.hid h0
        obtain ⟨fv, hfv⟩ : ∃ fv, r.getD f 0 = fv := ⟨_, rfl⟩
        rw [hfv] at hcf ef
        have HF := Lib.hid hfv
        have HQQ := Lib.hid hq
        clear hfv h0 hq
        go_wp2_with fail
        go_loopw [40] (fun vi wi => ∃ i : Nat, i ≤ l.length ∧ vi = .int .i64 i ∧ Hid (Owns w wi [⟨.slice (some ⟨g1, 0, none⟩) l.length c1, 5, 1, l.length, (halfRow r x i).map bv⟩])) (fun vi _ => l.length - (intOf vi).toNat)
        case atStart => exact ⟨0, Nat.zero_le _, rfl, by rw [halfRow_zero]; exact HO.out⟩
        case round =>
          obtain ⟨i, hi, rfl, HI⟩ := hrel
          by_cases hli : i < l.length
          · have hri : i < r.length := by rw [HST.out.2.2.2]; exact hli
            have hca := HI.out.cell 0 rfl i (u := bv (r.getD i 0)) (by rw [List.getElem?_map, halfRow_at hri]; rfl)
            have hfa := HI.out.frozen 0 rfl i
            have hst := HI.out.store 0 rfl i (bv (r.getD i 0 ^^^ Gf.mul fv (x.getD i 0)))
            have hmap : ((halfRow r x i).map bv).set i (bv (r.getD i 0 ^^^ Gf.mul fv (x.getD i 0))) = (halfRow r x (i + 1)).map bv := by
              rw [← List.map_set, ← halfRow_set, HST.out.2.1, HF.out]
            have hxx := (Rd.ext HX3.out HI.out.ext).all (k := i) (by simpa using (by omega : i < x.length))
            have hxi : i < x.length := by omega
            have hxe : (x.map bv)[i]'(by simpa using hxi) = bv (x.getD i 0) := by
              rw [List.getElem_map, List.getD_eq_getElem?_getD, List.getElem?_eq_getElem hxi]; rfl
            rw [hxe] at hxx
            have hxr : bits .xor .u8 ((r.getD i 0).toNat : Int) ((Gf.mul fv (x.getD i 0)).toNat : Int) = ((r.getD i 0 ^^^ Gf.mul fv (x.getD i 0)).toNat : Int) := by
              rw [u8_xor_nat _ _ (Gf.lt8 _) (Gf.lt8 _), UInt8.toNat_xor]
            obtain ⟨ri, hre⟩ : ∃ ri, r.getD i 0 = ri := ⟨_, rfl⟩
            obtain ⟨xi, hxie⟩ : ∃ xi, x.getD i 0 = xi := ⟨_, rfl⟩
            rw [hre] at hca hst hmap hxr
            rw [hxie] at hst hmap hxr hxx
            have hTr := HT.out.ext HI.out.ext
            have HTR := Lib.hid hTr
            have HSM := Lib.hid (And.intro hst hmap)
            have HXR := Lib.hid hxr
            have hca' : wr.cell? ⟨g1, i, none⟩ = some (bv ri) := hca
            have hfa' : wr.frozen? ⟨g1, i, none⟩ = false := hfa
            have hxx' : wr.cell? ⟨g, i, none⟩ = some (bv xi) := by
              have ea : (⟨g, 0, none⟩ : Addr).add i = ⟨g, i, none⟩ := by unfold Addr.add; split <;> simp_all
              rw [← ea]; exact hxx
            clear hst hmap hxr hTr hre hxie hca hfa hxx hxi hxe
            go_wp2_with fail
            go_still_tail 12, (by kernel_rfl)
            still_call (mul_still fv xi wr.drew HTR.out)
            repeat still_step
            refine wpStill_nil ?_
            go_wp2_with fail
            go_roundw
            case rel => exact ⟨i + 1, by omega, by go_num, by rw [HXR.out, ← HSM.out.2]; exact HSM.out.1.drew⟩
            case measure => simp [intOf]; omega
          · obtain rfl : i = l.length := by omega
            have hfull := HI.out
            rw [← HST.out.2.2.2, halfRow_full, HST.out.2.2.2] at hfull
            have hkp : k < parts.length := by rw [HPL.out]; exact hlt
            obtain ⟨bd, rfl, hq1⟩ := HL.out.2 k hkp
            have hb1 := hfull.ext.cell HB.out.2.1
            have hq1' := hfull.ext.cell hq1
            have hql := HQ2.out _ (List.getElem_mem hkp)
            have hpe : parts.getD k [] = parts[k] := by rw [List.getD_eq_getElem?_getD, List.getElem?_eq_getElem hkp]; rfl
            obtain ⟨y, hy⟩ : ∃ y, parts[k] = y := ⟨_, rfl⟩
            rw [hy] at hq1' hql hpe
            have hT4 := HT.out.ext hfull.ext
            have HT4 := Lib.hid hT4
            have hqq := HQ.out k
            rw [HQQ.out] at hqq
            have HFU := Lib.hid hfull
            have HPE := Lib.hid hpe
            clear hfull hq1 hpe hy hT4
            go_wp2_with fail
            refine (scale_any fv (sb y) _ HT4.out (by rw [size_sb]; exact hql)).mono ?_
            rintro e w4 ⟨rfl, hx4⟩
            have HX4 := Lib.hid hx4
            clear hx4
            go_wp2_with fail
            try rw [HQQ.out]
            refine (sum_any _ _ _ ?_ ?_).mono ?_
            · rw [size_sb]; exact hqq
            · rw [size_sb]; simpa [Gf.scale] using hql
            rintro e w5 ⟨rfl, hx5⟩
            have HX5 := Lib.hid (HX4.out.trans hx5)
            clear hx5
            go_wp2_with fail
            go_roundw
            case rel =>
              have e2 : (redTo rows parts l p (k + 1)).1 = Gf.redRow r x := by rw [HST.out.1]
              have e1 : (redTo rows parts l p (k + 1)).2 = Gf.sum q (Gf.scale fv y) := by
                rw [HST.out.1]
                dsimp only
                rw [redPart_nz (by rw [HST.out.2.1]; exact H0.out), HST.out.2.1, HF.out, HPE.out]
              refine ⟨k + 1, by omega, by go_num, ?_, ?_⟩
              · rw [e1]
              · rw [e2]; exact HFU.out.next HX5.out
            case measure => simp [intOf]; omega
    · obtain rfl : k = rows.length := by omega
      have hO := HR.out
      rw [redTo_full] at hO
      have hlen := Gf.reduce_length rows l
      have hadd : Gf.addRow rows l = if Gf.firstNZ (Gf.reduce rows l) = l.length then none else some ((Gf.reduce rows l).map (Gf.mul (Gf.inv ((Gf.reduce rows l).getD (Gf.firstNZ (Gf.reduce rows l)) 0)))) := rfl
      obtain ⟨r, hr'⟩ : ∃ r, Gf.reduce rows l = r := ⟨_, rfl⟩
      rw [hr'] at hO hlen hadd
      have hle := Gf.firstNZ_le r
      have hrd : Rd wr (some ⟨g1, 0, none⟩) (r.map bv) := hO.rd 0 rfl
      have HO := Lib.hid hO
      have HRD := Lib.hid hrd
      have HADD := Lib.hid hadd
      have HRR := Lib.hid hr'
      clear hO hrd hadd hr'
      go_wp2_with fail
      rw [← hlen]
      refine (cFirst_any r _ _ _ HRD.out (by omega)).mono ?_
      rintro e w' ⟨rfl, rfl⟩
      rw [Cd.first_eq, hlen]
      by_cases h0 : Gf.firstNZ r = l.length
      · have hno : Gf.addRow rows l = none := by rw [HADD.out, if_pos h0]
        have HNO := Lib.hid hno
        clear hno
        rw [h0]
        go_wp2_with fail
        go_ret
        exact ⟨by rw [HNO.out]; rfl, by rw [addTo_none HNO.out]; exact HS.out.next HO.out.ext⟩
      · obtain ⟨f, hf⟩ : ∃ f, Gf.firstNZ r = f := ⟨_, rfl⟩
        rw [hf] at hle h0
        have hfl : f < l.length := by omega
        have hcf : wr.cell? ⟨g1, f, none⟩ = some (bv (r.getD f 0)) := HO.out.cell 0 rfl f (u := bv (r.getD f 0)) (by rw [List.getElem?_map, List.getElem?_eq_getElem (by omega), List.getD_eq_getElem?_getD, List.getElem?_eq_getElem (by omega)]; rfl)
        have e1 : ((f : Int) == (l.length : Int)) = false := by rw [beq_eq_false_iff_ne]; omega
        have hyes : Gf.addRow rows l = some (r.map (Gf.mul (Gf.inv (r.getD f 0)))) := by rw [HADD.out, if_neg (by rw [hf]; exact h0), hf]
        have HYES := Lib.hid hyes
        have HF := Lib.hid hf
        have HLEN := Lib.hid hlen
        have hT2 := HT.out.ext HO.out.ext
        have HT2 := Lib.hid hT2
        rw [hf]
        clear hyes hf hle h0 hlen hT2
        obtain ⟨fv, hfv⟩ : ∃ fv, r.getD f 0 = fv := ⟨_, rfl⟩
        rw [hfv] at hcf
        have HFV := Lib.hid hfv
        clear hfv
        go_wp2_with fail
        refine (inv_u8 fv _ HT2.out).mono ?_
        rintro e w' ⟨rfl, rfl⟩
        go_wp2_with fail
        go_loopw [84] (fun vi wi => ∃ i : Nat, i ≤ l.length ∧ vi = .int .i64 i ∧ Hid (Owns w wi [⟨.slice (some ⟨g1, 0, none⟩) l.length c1, 5, 1, l.length, (halfMul (Gf.inv fv) r i).map bv⟩])) (fun vi _ => l.length - (intOf vi).toNat)
        case atStart => exact ⟨0, Nat.zero_le _, rfl, by rw [halfMul_zero]; exact HO.out⟩
        case round =>
          obtain ⟨i, hi, rfl, HI⟩ := hrel
          by_cases hli : i < l.length
          · have hri : i < r.length := by rw [HLEN.out]; exact hli
            have hca : wr.cell? ⟨g1, i, none⟩ = some (bv (r.getD i 0)) := HI.out.cell 0 rfl i (u := bv (r.getD i 0)) (by rw [List.getElem?_map, halfMul_at hri]; rfl)
            have hfa : wr.frozen? ⟨g1, i, none⟩ = false := HI.out.frozen 0 rfl i
            have hst := HI.out.store 0 rfl i (bv (Gf.mul (Gf.inv fv) (r.getD i 0)))
            have hmap : ((halfMul (Gf.inv fv) r i).map bv).set i (bv (Gf.mul (Gf.inv fv) (r.getD i 0))) = (halfMul (Gf.inv fv) r (i + 1)).map bv := by
              rw [← List.map_set, ← halfMul_set]
            obtain ⟨ri, hre⟩ : ∃ ri, r.getD i 0 = ri := ⟨_, rfl⟩
            rw [hre] at hca hst hmap
            have HSM := Lib.hid (And.intro hst hmap)
            have hTr := HT.out.ext HI.out.ext
            have HTR := Lib.hid hTr
            clear hst hmap hTr hre
            go_wp2_with fail
            refine (mul_u8 _ _ _ HTR.out).mono ?_
            rintro e w' ⟨rfl, rfl⟩
            go_wp2_with fail
            go_roundw
            case rel => exact ⟨i + 1, by omega, by go_num, by rw [← HSM.out.2]; exact HSM.out.1⟩
            case measure => simp [intOf]; omega
          · obtain rfl : i = l.length := by omega
            have hnew : addTo rows parts l p = (rows ++ [r.map (Gf.mul (Gf.inv fv))], parts ++ [Gf.scale (Gf.inv fv) (redTo rows parts l p rows.length).2]) := by
              rw [addTo_some HYES.out]
              unfold newPart
              rw [HRR.out, HF.out, HFV.out]
            have HNEW := Lib.hid hnew
            have HQR := Lib.hid (HQ.out rows.length)
            have hsome : (Gf.addRow rows l).isSome = true := by rw [HYES.out]; rfl
            have HSOME := Lib.hid hsome
            have hrl : (r.map (Gf.mul (Gf.inv fv))).length = l.length := by rw [List.length_map]; exact HLEN.out
            obtain ⟨A', B', cA', cB', hs, hl1, hl2, hO⟩ := HS.out
            have hrow := HI.out.row 0 rfl
            rw [← HLEN.out, halfMul_full, HLEN.out] at hrow
            have h2 := hO.behind HI.out.ext hrow
            obtain ⟨r', hr'⟩ : ∃ r', r.map (Gf.mul (Gf.inv fv)) = r' := ⟨_, rfl⟩
            rw [hr'] at h2 hrl hnew
            have hin : (⟨.slice (some ⟨g1, 0, none⟩) l.length c1, 5, 1, l.length, r'.map bv⟩ : LRow) = innerC1 (g1, c1) r' := by unfold innerC1; rw [hrl]
            rw [hin] at h2
            have hO5 : Owns w0 wr.drew (⟨.slice (some ⟨P, 0, none⟩) 1 1, 122, 3, 1, [.slice A' rows.length cA', .slice B' rows.length cB', .int .i64 l.length]⟩ :: ⟨.slice A' rows.length cA', 48, 1, rows.length, (innerC hs rows).map (·.v)⟩ :: ⟨.slice B' rows.length cB', 9, 1, rows.length, parts.map sv⟩ :: no :: no :: (innerC hs rows ++ [innerC1 (g1, c1) r'])) := (Owns.two h2).drew
            have P0 : wr.cell? ⟨P, 0, none⟩ = some (.slice A' rows.length cA') := hO5.cell 0 rfl 0 rfl
            have P1 : wr.cell? ⟨P, 1, none⟩ = some (.slice B' rows.length cB') := hO5.cell 0 rfl 1 rfl
            have PA0 : (wr.alloc (.cells #[.slice (some ⟨g1, 0, none⟩) l.length c1] 48)).cell? ⟨P, 0, none⟩ = some (.slice A' rows.length cA') := ((Ext.refl wr).alloc _).cell P0
            have PA1 : (wr.alloc (.cells #[.slice (some ⟨g1, 0, none⟩) l.length c1] 48)).cell? ⟨P, 1, none⟩ = some (.slice B' rows.length cB') := ((Ext.refl wr).alloc _).cell P1
            have HO5 := Lib.hid hO5
            have HL5 := Lib.hid (And.intro hl1 (And.intro hl2 (And.intro hrl hnew)))
            clear hnew hsome hrl hO hrow h2 hin hO5 hl1 hl2 hr'
            go_wp2_with fail
            have HO := HO5
            go_region_law (first
              | (have hB : Owns w0 (World.drew (World.alloc wr (.cells #[.slice (some ⟨g1, 0, none⟩) l.length c1] 48))) _ := HO.out.new 3 #[.slice (some ⟨g1, 0, none⟩) l.length c1] 48 (by simp [maxLen]); refine step_append_owns 76 48 rfl (.tmp 102) (.tmp 104) rfl Tryd.underlying76 info_bytes rfl hB 1 rfl rfl rfl (hB.cell 3 rfl 0 rfl) rfl (by omega) (by decide) ?_; clear hB; intro g8 c8 w8 hO8 hx8; have HO := Lib.hid hO8; have P0 : w8.cell? ⟨P, 0, none⟩ = some (.slice A' rows.length cA') := hO8.cell 0 rfl 0 rfl; have P1 : w8.cell? ⟨P, 1, none⟩ = some (.slice B' rows.length cB') := hO8.cell 0 rfl 1 rfl; clear hO8 hx8)
              | (have hB := HO.out.new 4 #[sv (Gf.scale (Gf.inv fv) (redTo rows parts l p rows.length).2)] 9 (by simp [maxLen]); refine step_append_owns 34 9 rfl (.tmp 109) (.tmp 113) rfl Tryd.underlying34 info_str rfl hB 2 rfl rfl rfl (hB.cell 4 rfl 0 rfl) rfl (by omega) (by decide) ?_; clear hB; intro g17 c17 w17 hO17 hx17; have HO := Lib.hid hO17; have P0 : w17.cell? ⟨P, 0, none⟩ = some (.slice A' rows.length cA') := hO17.cell 0 rfl 0 rfl; have P1 : w17.cell? ⟨P, 1, none⟩ = some (.slice B' rows.length cB') := hO17.cell 0 rfl 1 rfl; have F0 : w17.frozen? ⟨P, 0, none⟩ = false := hO17.frozen 0 rfl 0; have F1 : w17.frozen? ⟨P, 1, none⟩ = false := hO17.frozen 0 rfl 1; clear hO17 hx17)
              | (go_simp; refine (scale_any (Gf.inv fv) (sb (redTo rows parts l p rows.length).2) _ (HT0.out.ext HO.out.ext) (by rw [size_sb]; exact HQR.out)).mono ?_; rintro e w15 ⟨rfl, hx15⟩; dsimp only; have hO15 := HO.out.next hx15; have HO := Lib.hid hO15; have P0 : w15.cell? ⟨P, 0, none⟩ = some (.slice A' rows.length cA') := hO15.cell 0 rfl 0 rfl; have P1 : w15.cell? ⟨P, 1, none⟩ = some (.slice B' rows.length cB') := hO15.cell 0 rfl 1 rfl; have P1' : (w15.alloc (.cells #[sv (Gf.scale (Gf.inv fv) (redTo rows parts l p rows.length).2)] 9)).cell? ⟨P, 1, none⟩ = some (.slice B' rows.length cB') := ((Ext.refl w15).alloc _).cell P1; clear hO15 hx15))
            all_goals go_wp2_with fail
            all_goals go_ret
            all_goals refine ⟨by rw [HSOME.out]; rfl, ?_⟩
            all_goals rw [HL5.out.2.2.2]
            all_goals first
              | exact StairsOut.of HL5.out.1 HL5.out.2.1 HL5.out.2.2.1 ((HO.out.store 0 rfl 0 _).store 0 rfl 1 _)
              | exact StairsOut.of HL5.out.1 HL5.out.2.1 HL5.out.2.2.1 ((HO.out.store 0 rfl 1 _).store 0 rfl 0 _)
end Go.Proofs.YtggfkpalkdkbdaaDoor

/- THE WALKS over collect (without pieces) and Recoverable. -/
namespace Cd
/-- The first k rows that are in a set. -/
def pickTo (rows : List (List UInt8)) (m k : Nat) : List (List UInt8) := (List.range k).filterMap fun i => if bitAt m i = 1 then rows[i]? else none
def pick (rows : List (List UInt8)) (m : Nat) : List (List UInt8) := pickTo rows m rows.length
theorem pickTo_zero (rows : List (List UInt8)) (m : Nat) : pickTo rows m 0 = [] := rfl
theorem pickTo_yes {rows : List (List UInt8)} {m k : Nat} (hk : k < rows.length) (h : bitAt m k = 1) : pickTo rows m (k + 1) = pickTo rows m k ++ [rows[k]] := by
  simp [pickTo, List.range_succ, List.filterMap_append, h, List.getElem?_eq_getElem hk]
theorem pickTo_no {rows : List (List UInt8)} {m k : Nat} (h : bitAt m k ≠ 1) : pickTo rows m (k + 1) = pickTo rows m k := by
  simp [pickTo, List.range_succ, List.filterMap_append, h]
theorem stairs_snoc (n : Nat) (L : List (List UInt8)) (r : List UInt8) : Gf.stairs n (L ++ [r]) = Gf.step n (Gf.stairs n L) r := by
  simp [Gf.stairs, List.foldl_append]
theorem pickTo_mem {rows : List (List UInt8)} {m k : Nat} {r : List UInt8} (h : r ∈ pickTo rows m k) : r ∈ rows := by
  simp only [pickTo, List.mem_filterMap] at h
  obtain ⟨i, _, h⟩ := h
  split at h
  · exact List.mem_of_getElem? h
  · cases h
theorem stairs_good {n : Nat} {L : List (List UInt8)} (hl : ∀ r ∈ L, r.length = n) : Gf.Stairs n (Gf.stairs n L) ∧ (Gf.stairs n L).length ≤ n := by
  have := Gf.stairs_inv L [] [] (by simpa using hl) ⟨by simp, by simp, by simp, by simp⟩ (by simp) (by simp) (fun _ r hr => by cases hr)
  exact ⟨this.1, this.2.1⟩
/-- Can a chunk be made again from a set of pieces? -/
def can (d gl : Int) (gs : List (List Int)) (m : Int) : Bool :=
  decide (check d gs gl = 0 ∧ 0 ≤ m ∧ m < 2 ^ (rowsOf d gs gl).length ∧ (Gf.stairs d.toNat (pick (rowsOf d gs gl) m.toNat)).length = d.toNat)
end Cd
namespace Go.Proofs.YtggfkpalkdkbdaaDoor
open Go.RowKit
theorem addTo_step {n : Nat} {S Ps : List (List UInt8)} {r p : List UInt8} (h : S.length < n) : (addTo S Ps r p).1 = Gf.step n S r := by
  unfold Gf.step
  rw [if_pos h]
  cases ha : Gf.addRow S r with
  | none => rw [addTo_none ha]
  | some t => rw [addTo_some ha]
theorem addTo_parts {S Ps : List (List UInt8)} {r p : List UInt8} {M : Nat} (hq : ∀ q ∈ Ps, q.length ≤ M) (hp : p.length ≤ M) : ∀ q ∈ (addTo S Ps r p).2, q.length ≤ M := by
  cases ha : Gf.addRow S r with
  | none => rw [addTo_none ha]; exact hq
  | some t =>
    rw [addTo_some ha]
    intro q h
    rcases List.mem_append.1 h with h | h
    · exact hq q h
    · simp only [List.mem_singleton] at h
      subst h
      have := redTo_part_le S Ps r p M hq hp S.length
      unfold newPart Gf.scale
      rw [List.length_map]
      exact this
/-- A block of three cells, as one element of three cells. -/
theorem Owns.one3 {w0 w : World} {g e : Nat} {xs : List Value} {L : List LRow} (h : Owns w0 w (⟨.slice (some ⟨g, 0, none⟩) 3 3, e, 1, 3, xs⟩ :: L)) : Owns w0 w (⟨.slice (some ⟨g, 0, none⟩) 1 1, e, 3, 1, xs⟩ :: L) where
  ext := h.ext
  ok i r hr := by
    cases i with
    | zero =>
      simp at hr
      subst hr
      have h0 := h.ok 0 _ rfl
      refine ⟨h0.1, ?_⟩
      rcases h0.2 with ⟨h2, h3⟩ | ⟨g', cap, cur, hv, hB, hh, h1, h2, h3, h4⟩
      · cases h2
      · injection hv with e1 e2 e3
        injection e1 with e1
        injection e1 with e1
        subst e1 e3
        exact .inr ⟨g, 1, cur, rfl, hB, hh, Nat.le_refl 1, by unfold maxLen; omega, by simpa using h3, by simpa using h4⟩
    | succ i => exact h.ok (i + 1) r hr
  far i j a b hij ha hb := by
    cases i with
    | zero =>
      cases j with
      | zero => exact absurd rfl hij
      | succ j =>
        simp at ha
        subst ha
        exact h.far 0 (j + 1) ⟨.slice (some ⟨g, 0, none⟩) 3 3, e, 1, 3, xs⟩ b (by omega) rfl hb
    | succ i =>
      cases j with
      | zero =>
        simp at hb
        subst hb
        exact h.far (i + 1) 0 a ⟨.slice (some ⟨g, 0, none⟩) 3 3, e, 1, 3, xs⟩ (by omega) ha rfl
      | succ j => exact h.far (i + 1) (j + 1) a b hij ha hb
theorem StairsOut.start {w : World} {n : Nat} : StairsOut w (w.alloc (.cells #[.slice none 0 0, .slice none 0 0, .int .i64 n] 122)) w.heap.size [] [] n := by
  refine ⟨none, none, 0, 0, [], rfl, rfl, ?_⟩
  have h1 := (Owns.start w (L := [no, nilRow 48, nilRow 9]) (by intro r hr; simp [no, nilRow] at hr; rcases hr with rfl | rfl | rfl <;> simp)).new 0 #[.slice none 0 0, .slice none 0 0, .int .i64 n] 122 (by simp [maxLen])
  exact h1.one3
/-- `collect` without pieces, in a good case: some rows, and a set of them. -/
theorem cCollect_in (d m : Nat) (rows : List (List UInt8)) (V : Value) (w : World) (hT : Tab w) (hR : Rs (Rs RB) w V rows) (hl : ∀ r ∈ rows, r.length = d) (hd : 0 < d) (hd2 : d ≤ 16) (hn : 0 < rows.length) (hn2 : rows.length ≤ 24) (hm : m < 2 ^ rows.length) :
    Calls Tryd.prog 48 #[V, .int .i64 m, .slice none 0 0] w fun e w' => ∃ p, e = .returned (.pointer p) ∧ (p = none ↔ (Gf.stairs d (Cd.pick rows m)).length ≠ d) ∧ Ext w w' := by
  have HT := Lib.hid hT
  have HR := Lib.hid hR
  have HL := Lib.hid hl
  obtain ⟨A, c, rfl, hl63⟩ := hR.form
  obtain ⟨ad0, u0, rfl, hcell0, hu0⟩ := hR.at hn
  obtain ⟨B0, c0, rfl, _⟩ := hu0.form
  have hd0 := hl _ (List.getElem_mem hn)
  rw [hd0] at hcell0
  have hm24 : m < 16777216 := Nat.lt_of_lt_of_le hm (Nat.pow_le_pow_right (by omega) hn2)
  have hcell0' : w.cell? ad0 = some (.slice B0 d c0) := by rw [← hcell0]; simp [Addr.add]
  have e1 : ((rows.length : Int) == 0) = false := by rw [beq_eq_false_iff_ne]; omega
  have e2 : (wrap64 (2 ^ rows.length) ≤ (m : Int)) = False := by
    rw [wrap_pow _ (by omega)]
    exact eq_false (by omega)
  have e3 : ¬ rows = [] := by intro h; rw [h] at hn; simp at hn
  have hS0 := Lib.hid (StairsOut.start (w := w) (n := d))
  clear hT hR hl hu0 hd0 hcell0
  go_enter Tryd.func48, Tryd.ntmps48
  go_wp2_with fail
  clear hcell0'
  go_loopw [36] (fun vi wr => ∃ (k : Nat) (Ps : List (List UInt8)), k ≤ rows.length ∧ vi = .int .i64 k ∧ Hid (StairsOut w wr w.heap.size (Gf.stairs d (Cd.pickTo rows m k)) Ps d ∧ ∀ q ∈ Ps, q.length ≤ 0)) (fun vi _ => rows.length - (intOf vi).toNat)
  case atStart => exact ⟨0, [], Nat.zero_le _, rfl, hS0.out, by simp⟩
  case round =>
    obtain ⟨k, Ps, hk, rfl, HI⟩ := hrel
    by_cases hlt : k < rows.length
    · have hx := HI.out.1.ext
      obtain ⟨ad, u, ead, hcell, hu⟩ := HR.out.at hlt
      injection ead with ead
      subst ead
      have hrl := HL.out _ (List.getElem_mem hlt)
      obtain ⟨B, cB, rfl, hlB⟩ := hu.form
      have hbd := hu.rd
      rw [hrl] at hcell
      have hgood := Cd.stairs_good (n := d) (L := Cd.pickTo rows m k) (fun r hr => HL.out r (Cd.pickTo_mem hr))
      have hcell' := hx.cell hcell
      have hmm : bits .and .i64 ((m : Int) / 2 ^ k) 1 = ((Cd.bitAt m k : Nat) : Int) := by
        have hle : m / 2 ^ k ≤ m := Nat.div_le_self _ _
        have := odd64 (m / 2 ^ k) (by omega)
        rw [Cd.bitAt, ← this]
        simp
      have hyes := Cd.pickTo_yes (m := m) hlt
      obtain ⟨r, hr⟩ : ∃ r, rows[k] = r := ⟨_, rfl⟩
      rw [hr] at hyes hrl hbd
      obtain ⟨S, hS⟩ : ∃ S, Gf.stairs d (Cd.pickTo rows m k) = S := ⟨_, rfl⟩
      have HSS := Lib.hid hS
      have hO := HI.out.1
      rw [hS] at hO hgood
      obtain ⟨X, Y, cX, cY, b0, b1, b2, _, _, _⟩ := hO.look
      have HO := Lib.hid hO
      have HGG := Lib.hid hgood
      have hsl : S.length ≤ d := hgood.2
      have HY := Lib.hid hyes
      have HB := Lib.hid hbd
      clear hgood hO hyes hcell hu hbd hr hS
      by_cases hb : Cd.bitAt m k = 1
      · rw [hb] at hmm
        by_cases hlS : S.length < d
        · go_wp2_with fail
          go_quiet (fail)
          go_wp2_with fail
          obtain ⟨bd, rfl, _, _⟩ := HB.out.at (k := 0) (by simp; omega)
          rw [← hrl]
          refine (cAdd_any w _ w.heap.size S Ps r [] bd cB HT.out (HB.out.ext (HO.out.ext.drewN nq)) (by omega) (by omega) (by rw [hrl]; exact HO.out.next ((Ext.refl wr).drewN nq)) (by rw [hrl]; exact HGG.out.1) (by omega) (fun q hq => Nat.le_trans (HI.out.2 q hq) (by omega)) (by simp)).mono ?_
          rintro e w2 ⟨rfl, ho⟩
          rw [hrl]
          rw [hrl, addTo_step hlS, ← HSS.out, ← Cd.stairs_snoc, ← HY.out hb] at ho
          have HO2 := Lib.hid ho
          clear ho
          go_wp2_with fail
          go_roundw
          case rel => exact ⟨k + 1, _, by omega, by go_num, HO2.out, addTo_parts HI.out.2 (by simp)⟩
          case measure => simp [intOf]; omega
        · have hst : Gf.stairs d (Cd.pickTo rows m (k + 1)) = S := by
            rw [HY.out hb, Cd.stairs_snoc, HSS.out, Gf.step, if_neg hlS]
          have HST := Lib.hid hst
          clear hst
          go_wp2_with fail
          go_quiet (fail)
          go_wp2_with fail
          go_roundw
          case rel => exact ⟨k + 1, Ps, by omega, by go_num, by rw [HST.out]; exact HO.out.next ((Ext.refl wr).drewN nq), HI.out.2⟩
          case measure => simp [intOf]; omega
      · have hst : Gf.stairs d (Cd.pickTo rows m (k + 1)) = S := by
          rw [Cd.pickTo_no hb, HSS.out]
        have HST := Lib.hid hst
        have eb : (((Cd.bitAt m k : Nat) : Int) == 1) = false := by rw [beq_eq_false_iff_ne]; omega
        clear hst
        go_wp2_with fail
        go_quiet (fail)
        go_wp2_with fail
        go_roundw
        case rel => exact ⟨k + 1, Ps, by omega, by go_num, by rw [HST.out]; exact HO.out.next ((Ext.refl wr).drewN nq), HI.out.2⟩
        case measure => simp [intOf]; omega
    · obtain rfl : k = rows.length := by omega
      have hO := HI.out.1
      have hpk : Cd.pickTo rows m rows.length = Cd.pick rows m := rfl
      rw [hpk] at hO
      obtain ⟨S, hS⟩ : ∃ S, Gf.stairs d (Cd.pick rows m) = S := ⟨_, rfl⟩
      rw [hS] at hO
      have hgood := Cd.stairs_good (n := d) (L := Cd.pick rows m) (fun r hr => HL.out r (Cd.pickTo_mem hr))
      rw [hS] at hgood
      have hsl : S.length ≤ d := hgood.2
      obtain ⟨X, Y, cX, cY, b0, b1, b2, _, _, _⟩ := hO.look
      have HO := Lib.hid hO
      have HS := Lib.hid hS
      clear hO hS hgood hpk
      by_cases hlS : S.length < d
      · go_wp2_with fail
        go_quiet (fail)
        go_wp2_with fail
        go_ret
        exact ⟨none, rfl, by rw [HS.out]; simp; omega, HO.out.ext.drewN nq⟩
      · go_wp2_with fail
        go_quiet (fail)
        go_wp2_with fail
        go_ret
        exact ⟨_, rfl, by rw [HS.out]; simp; omega, HO.out.ext.drewN nq⟩
/-- No rows: nothing can be made again. -/
theorem cCollect_no (m : Int) (w : World) (B : Option Addr) (c : Nat) : Calls Tryd.prog 48 #[.slice B 0 c, .int .i64 m, .slice none 0 0] w fun e w' => e = .returned (.pointer none) ∧ Ext w w' := by
  go_enter Tryd.func48, Tryd.ntmps48
  go_wp2_with fail
  go_ret
  exact ⟨rfl, Ext.refl _⟩
theorem cCollect_neg (m : Int) (n : Nat) (w : World) (B : Option Addr) (c : Nat) (hn : 0 < n) (hm : m < 0) : Calls Tryd.prog 48 #[.slice B n c, .int .i64 m, .slice none 0 0] w fun e w' => e = .returned (.pointer none) ∧ Ext w w' := by
  have e1 : ((n : Int) == 0) = false := by rw [beq_eq_false_iff_ne]; omega
  go_enter Tryd.func48, Tryd.ntmps48
  go_wp2_with fail
  go_ret
  exact ⟨rfl, Ext.refl _⟩
theorem cCollect_big (m : Int) (n : Nat) (w : World) (B : Option Addr) (c : Nat) (hn : 0 < n) (hn2 : n < 62) (h0 : 0 ≤ m) (hm : ((2 ^ n : Nat) : Int) ≤ m) : Calls Tryd.prog 48 #[.slice B n c, .int .i64 m, .slice none 0 0] w fun e w' => e = .returned (.pointer none) ∧ Ext w w' := by
  have e1 : ((n : Int) == 0) = false := by rw [beq_eq_false_iff_ne]; omega
  have e2 : (wrap64 (2 ^ n) ≤ m) = True := by
    rw [wrap_pow _ hn2]
    exact eq_true hm
  clear hm
  go_enter Tryd.func48, Tryd.ntmps48
  go_wp2_with fail
  go_ret
  exact ⟨rfl, Ext.refl _⟩
/-- `Recoverable`: true exactly if the rows of the set make stairs as wide as the code has data pieces. -/
theorem cRec_any (d gl m : Int) (gs : List (List Int)) (G : Value) (w : World) (hT : Tab w) (hG : Rs (Rs RI) w G gs) :
    Calls Tryd.prog 51 #[.agg #[.int .i64 d, G, .int .i64 gl], .int .i64 m] w fun e w' => e = .returned (.bool (Cd.can d gl gs m)) ∧ Ext w w' := by
  have hx0 := (Ext.refl w).alloc (.cells #[.int .i64 d, G, .int .i64 gl] 24)
  have HX := Lib.hid (And.intro hx0 (Rs.ext (Rs.ext RI.ext) _ _ _ _ hx0 hG))
  have HT := Lib.hid (hT.ext hx0)
  obtain ⟨A, c, rfl, hl⟩ := hG.form
  clear hG hx0 hT
  go_enter Tryd.func51, Tryd.ntmps51
  go_wp2_with fail
  refine (cRows_any d gl gs _ _ HT.out HX.out.2).mono ?_
  rintro e w1 ⟨v, rfl, hv, hx1⟩
  have HX1 := Lib.hid (HX.out.1.trans hx1)
  have HT1 := Lib.hid (HT.out.ext hx1)
  have HV := Lib.hid hv
  obtain ⟨B, cB, rfl, _⟩ := hv.form
  clear hx1 hv
  go_wp2_with fail
  by_cases h0 : Cd.check d gs gl = 0
  · have hk := Cd.check_ok h0
    have hr := Cd.rowsOf_ok h0
    have hlen := Cd.rows_len d.toNat gs gl.toNat
    have hwd : ∀ r ∈ Cd.rowsOf d gs gl, r.length = d.toNat := fun r h => Cd.rows_width (by rw [← hr]; exact h)
    rw [← hr] at hlen
    clear hr
    obtain ⟨R, hR⟩ : ∃ R, Cd.rowsOf d gs gl = R := ⟨_, rfl⟩
    have hcan : Cd.can d gl gs m = decide (0 ≤ m ∧ m < 2 ^ R.length ∧ (Gf.stairs d.toNat (Cd.pick R m.toNat)).length = d.toNat) := by
      unfold Cd.can
      rw [hR]
      simp only [h0, true_and]
    have HC := Lib.hid hcan
    rw [hR] at hlen hwd
    rw [hR]
    have hv := HV.out
    rw [hR] at hv
    have HV2 := Lib.hid hv
    have HWD := Lib.hid hwd
    clear hcan hwd hv
    by_cases hm0 : m < 0
    · refine (cCollect_neg m _ _ _ _ (by omega) hm0).mono ?_
      rintro e w2 ⟨rfl, hx2⟩
      go_wp2_with fail
      go_ret
      exact ⟨ret_bool (by rw [HC.out]; simp; omega), HX1.out.trans hx2⟩
    · obtain ⟨k, rfl⟩ : ∃ k : Nat, m = k := ⟨m.toNat, by omega⟩
      by_cases hm : k < 2 ^ R.length
      · refine (cCollect_in d.toNat k R _ _ HT1.out HV2.out HWD.out (by omega) (by omega) (by omega) (by omega) hm).mono ?_
        rintro e w2 ⟨p, rfl, hp, hx2⟩
        have hpb : Cd.can d gl gs (k : Int) = p.isSome := by
          rw [HC.out, Int.toNat_natCast]
          have hk2 : (k : Int) < 2 ^ R.length := by rw [nat_pow_cast]; omega
          cases p with
          | none =>
            have h1 := hp.1 rfl
            simp only [Option.isSome_none, decide_eq_false_iff_not]
            rintro ⟨_, _, h2⟩
            exact h1 h2
          | some q =>
            have h1 : (Gf.stairs d.toNat (Cd.pick R k)).length = d.toNat := Classical.byContradiction fun h => by cases hp.2 h
            simp only [Option.isSome_some, decide_eq_true_eq]
            exact ⟨by omega, hk2, h1⟩
        have HPB := Lib.hid hpb
        clear hpb hp
        go_wp2_with fail
        go_ret
        refine ⟨ret_bool ?_, HX1.out.trans hx2⟩
        rw [HPB.out]
        try (cases p <;> rfl)
      · refine (cCollect_big (k : Int) _ _ _ _ (by omega) (by omega) (by omega) (by omega)).mono ?_
        rintro e w2 ⟨rfl, hx2⟩
        go_wp2_with fail
        go_ret
        refine ⟨ret_bool ?_, HX1.out.trans hx2⟩
        rw [HC.out, nat_pow_cast]
        symm
        rw [decide_eq_false_iff_not]
        try omega
  · have hr := Cd.rowsOf_no h0
    rw [hr]
    have hcan : Cd.can d gl gs m = false := by
      unfold Cd.can
      simp [h0]
    have HC := Lib.hid hcan
    clear hcan hr h0
    refine (cCollect_no m _ _ _).mono ?_
    rintro e w2 ⟨rfl, hx2⟩
    go_wp2_with fail
    go_ret
    exact ⟨ret_bool HC.out.symm, HX1.out.trans hx2⟩
end Go.Proofs.YtggfkpalkdkbdaaDoor

/- THE WALK over suffices of package locate. -/
namespace Go.Proofs.YtggfkpalkdkbdaaDoor
open Go.RowKit Go.Shelf
attribute [local go_sem] Oper.semAt_some
theorem without_any (m most : Int) (w : World) : Calls Tryd.prog 34 #[.int .i64 m, .int .i64 most] w fun e w' => e = .returned (.func (.func 55) #[] #[.pointer (some ⟨w.heap.size, 0, none⟩), .pointer (some ⟨w.heap.size + 1, 0, none⟩)]) ∧ w' = (w.alloc (.cells #[.int .i64 m] 3)).alloc (.cells #[.int .i64 most] 3) := by
  go_enter Tryd.func34, Tryd.ntmps34
  go_wp2_with fail
  go_ret
  exact ⟨rfl, rfl⟩
set_option maxRecDepth 100000 in
set_option maxHeartbeats 8000000 in
theorem lSuff_any (d gl : Int) (gs : List (List Int)) (m most N : Nat) (G : Value) (w : World) (hT : Tab w) (hG : Rs (Rs RI) w G gs) (hm : m < 2 ^ N) (hN : N ≤ 14) :
    Calls Tryd.prog 30 #[.agg #[.int .i64 d, G, .int .i64 gl], .int .i64 (m : Nat), .int .i64 (most : Nat)] w fun e w' => e = .returned (.bool (Lo.suffP (fun t => Cd.can d gl gs (t : Int)) m N most)) ∧ Ext w w' := by
  obtain ⟨A, c, rfl, hl⟩ := hG.form
  obtain ⟨ng, hng⟩ : ∃ ng, gs.length = ng := ⟨_, rfl⟩
  rw [hng] at hG ⊢
  have hO : Owns w ((w.alloc (.cells #[.int .i64 d, .slice A ng c, .int .i64 gl] 24)).alloc (.cells #[.bool false] 4)) [⟨.slice (some ⟨w.heap.size, 0, none⟩) 3 3, 24, 1, 3, [.int .i64 d, .slice A ng c, .int .i64 gl]⟩, ⟨.slice (some ⟨(w.alloc (.cells #[.int .i64 d, .slice A ng c, .int .i64 gl] 24)).heap.size, 0, none⟩) 1 1, 4, 1, 1, [.bool false]⟩] :=
    ((Owns.start w (L := [no, no]) (by intro r hr; simp at hr; subst hr; exact ⟨rfl, rfl, rfl⟩)).new 0 #[.int .i64 d, .slice A ng c, .int .i64 gl] 24 (by simp [maxLen])).new 1 #[.bool false] 4 (by simp [maxLen])
  rw [World.size_alloc] at hO
  have hm14 : m < 16384 := Nat.lt_of_lt_of_le hm (show 2 ^ N ≤ 2 ^ 14 from Nat.pow_le_pow_right (by decide) hN)
  have HM := Lib.hid hm
  have HT := Lib.hid (hT.ext hO.ext)
  have HG := Lib.hid (Rs.ext (Rs.ext RI.ext) _ _ _ _ hO.ext hG)
  have HO := Lib.hid hO
  obtain ⟨cn, hcn⟩ : ∃ cn, Ones.cnt m = cn := ⟨_, rfl⟩
  have HON := Lib.hid (fun W => ones_any m W hm14)
  have HCN := Lib.hid hcn
  clear hT hG hO hng hl hm
  refine (callsIn_wide (n := 40)).1 ?_
  refine callsIn_of_wp_marks Tryd.func30 rfl trivial ?_ rfl
  simp only [Tryd.ntmps30, List.size_toArray, List.length_cons, List.length_nil, Nat.reduceAdd, Nat.reduceSub, Array.replicate_succ, Array.replicate_zero, List.push_toArray, List.append_toArray, List.nil_append, List.cons_append]
  gi_wp2_with fail
  obtain ⟨C, hC⟩ : ∃ C, w.heap.size = C := ⟨_, rfl⟩
  obtain ⟨Q, hQ⟩ : ∃ Q, C + 1 = Q := ⟨_, rfl⟩
  rw [hC, hQ] at HO
  rw [hC]
  try rw [hQ]
  obtain ⟨w1, hw1⟩ : ∃ x, (w.alloc (.cells #[.int .i64 d, .slice A ng c, .int .i64 gl] 24)).alloc (.cells #[.bool false] 4) = x := ⟨_, rfl⟩
  rw [hw1] at HO HT HG ⊢
  have HCS := Lib.hid hC
  clear hw1 hC hQ
  refine ⟨trivial, (callsIn_wide.2 (HON.out w1)).mono ?_⟩
  rintro e w' ⟨rfl, rfl⟩
  rw [hcn]
  by_cases hge : cn ≤ most
  · have hgi : (cn : Int) ≤ (most : Int) := by omega
    have hf : Lo.suffP (fun t => Cd.can d gl gs (t : Int)) m N most = false := by
      unfold Lo.suffP
      rw [decide_eq_false (by rw [← cnt_num, hcn]; omega)]
      rfl
    have q0 := HO.out.cell 1 rfl 0 rfl
    have f0 : w1.frozen? ⟨Q, 0, none⟩ = false := HO.out.frozen 1 rfl 0
    have HS := Lib.hid (And.intro hf (HO.out.store 1 rfl 0 (.bool false)).ext)
    have q1 := (HO.out.store 1 rfl 0 (.bool false)).cell 1 rfl 0 rfl
    clear hf hcn
    gi_wp2_with fail
    exact ⟨.bool false, by simp [results, Tryd.f30, go_sem, q1], by rw [HS.out.1], HS.out.2⟩
  · have hgi : ¬ (cn : Int) ≤ (most : Int) := by omega
    gi_wp2_with fail
    refine ⟨trivial, (callsIn_wide.2 (without_any (m : Int) (most : Int) w1)).mono ?_⟩
    rintro e w2 ⟨rfl, rfl⟩
    gi_wp2_with fail
    obtain ⟨W2, hW2⟩ : ∃ W2, (w1.alloc (.cells #[.int .i64 (m : Nat)] 3)).alloc (.cells #[.int .i64 (most : Nat)] 3) = W2 := ⟨_, rfl⟩
    have hx2 : Ext w1 W2 := by subst hW2; exact ((Ext.refl w1).alloc _).alloc _
    have hs2 : W2.heap.size = w1.heap.size + 2 := by subst hW2; simp
    have q1 : W2.cell? ⟨w1.heap.size, 0, none⟩ = some (.int .i64 (m : Nat)) := by subst hW2; go_simp
    have q2 : W2.cell? ⟨w1.heap.size + 1, 0, none⟩ = some (.int .i64 (most : Nat)) := by subst hW2; go_simp
    rw [hW2]
    have hO2 := HO.out.next hx2
    have HX2 := Lib.hid (And.intro hx2 hO2)
    have hQ1 : Q < w1.heap.size := ((HO.out.row 1 rfl).lt Q rfl).2
    have hw1s := HO.out.ext.size
    have hseq := without1_seq 39 w1.heap.size (w1.heap.size + 1) m N most W2 HM.out hN q1 q2
    clear hW2 hx2 hO2 q1 q2
    refine wpIn_rangeV rfl (by decide) (gf := 55) (lb := #[.pointer (some ⟨w1.heap.size, 0, none⟩), .pointer (some ⟨w1.heap.size + 1, 0, none⟩)]) rfl trivial (enters_of Tryd.func55 (by kernel_rfl) rfl) hseq K2.trans (fun W l o o' hl ho hc => ⟨by simp [World.putObj], fun a v e => cell_kept e (grownBy_putObj' W l o') (fun r er => by cases er; exact ⟨_, ho, hc⟩)⟩) (fun x W l o o' hl hv ho hc => hv) (fun _ => rfl)
      (fun pre W => (∀ x ∈ pre, Cd.can d gl gs ((x.1 : Nat) : Int) = true) ∧ Below W2.heap.size W2 W)
      (fun c pre W => (c = .ret ∧ ∃ x ∈ pre, Cd.can d gl gs ((x.1 : Nat) : Int) = false) ∧ W.cell? ⟨Q, 0, none⟩ = some (.bool false) ∧ Below w.heap.size w W)
      (fun _ _ _ => trivial)
      (OwnFrom.and (ownFrom_pure _ _) (ownFrom_below (Nat.le_refl _) (Nat.le_refl _)))
      (fun c => OwnFrom.and (ownFrom_pure _ _) (OwnFrom.and (Own.from (fun s A B row hs hg hr => cell_kept hs hg hr) _) (ownFrom_below (Nat.le_refl _) (by omega))))
      ⟨by simp, Below.refl _ _⟩
      (fun x => { tmps := #[.agg #[.int .i64 d, .slice A ng c, .int .i64 gl], .int .i64 (m : Nat), .int .i64 (most : Nat), .pointer (some ⟨C, 0, none⟩), undef, undef, .pointer (some ⟨Q, 0, none⟩), .int .i64 (x.1 : Nat), .int .i64 (most : Nat), .int .i64 (m : Nat), .int .u64 (m : Nat), .int .i64 (cn : Nat), .bool false, .int .i64 (m : Nat), .int .i64 (most : Nat), .func (.func 55) #[] #[.pointer (some ⟨w1.heap.size, 0, none⟩), .pointer (some ⟨w1.heap.size + 1, 0, none⟩)], .int .i64 (x.1 : Nat), .int .i64 (x.2 : Nat), undef, undef, undef, undef], defers := [] }) ?assign ?body ?done ?stop
    case assign =>
      intro l x W K hK
      unfold encP
      gi_wp2
      exact hK
    case body =>
      rintro l pre x W ⟨hcan, hB⟩ hV _
      have hX : Ext w1 W := HX2.out.1.trans hB
      have c0 := hX.cell (HO.out.cell 0 rfl 0 rfl)
      have c1 := hX.cell (HO.out.cell 0 rfl 1 rfl)
      have c2 := hX.cell (HO.out.cell 0 rfl 2 rfl)
      have hcall := cRec_any d gl ((x.1 : Nat) : Int) gs _ W (HT.out.ext hX) (Rs.ext (Rs.ext RI.ext) _ _ _ _ hX HG.out)
      obtain ⟨bb, hbb⟩ : ∃ bb, Cd.can d gl gs ((x.1 : Nat) : Int) = bb := ⟨_, rfl⟩
      rw [hbb] at hcall
      have HC := Lib.hid hcall
      have HI := Lib.hid (And.intro hcan (And.intro hB (And.intro hX hbb)))
      clear hcan hB hX hcall hbb hV
      gi_wp2_with fail
      refine ⟨trivial, (CallsIn.inRound l (callsIn_wide.2 HC.out)).mono ?_⟩
      rintro e w9 ⟨rfl, hx9⟩
      have HX9 := Lib.hid hx9
      cases bb with
      | true =>
        clear c0 c1 c2 hx9
        gi_wp2_with fail
        exact ⟨HX9.out.keepsOthers, K2.of_ext HX9.out, fun y hy => by
          rcases List.mem_append.1 hy with hy | hy
          · exact HI.out.1 y hy
          · rw [List.mem_singleton.1 hy]; exact HI.out.2.2.2, HI.out.2.1.trans (Below.mono HX9.out HI.out.2.1.size)⟩
      | false =>
        have hO9 := HO.out.next (HI.out.2.2.1.trans hx9)
        have q0 := hO9.cell 1 rfl 0 rfl
        have f0 : w9.frozen? ⟨Q, 0, none⟩ = false := hO9.frozen 1 rfl 0
        have HS := Lib.hid (hO9.store 1 rfl 0 (.bool false))
        clear c0 c1 c2 hx9 hO9
        gi_wp2_with fail
        exact ⟨HX9.out.keepsOthers.trans (KeepsOthers.setCell _ _ _), ⟨rfl, x, by simp, HI.out.2.2.2⟩, HS.out.cell 1 rfl 0 rfl, HS.out.ext⟩
    case done =>
      rintro D xs W hD rfl ⟨hcan, hB⟩ hK
      have hX : Ext w1 W := HX2.out.1.trans hB
      have hsf : Lo.suffP (fun t => Cd.can d gl gs (t : Int)) m N most = true := by
        unfold Lo.suffP
        rw [decide_eq_true (by rw [← cnt_num, hcn]; omega), Bool.true_and, List.all_eq_true]
        intro t ht
        exact hcan (m - t, t) (List.mem_map.2 ⟨t, ht, rfl⟩)
      have hO9 := HO.out.next hX
      have q0 := hO9.cell 1 rfl 0 rfl
      have f0 : W.frozen? ⟨Q, 0, none⟩ = false := hO9.frozen 1 rfl 0
      have HS := Lib.hid (And.intro (hO9.store 1 rfl 0 (.bool true)) (And.intro hK hsf))
      clear hcan hB hX hsf hO9 hK
      gi_wp2_with fail
      have hMk : MarksOk w1.heap.size (D + 1) (W.setCell ⟨Q, 0, none⟩ (.bool true)) [{ target := .collected D, args := #[] }] :=
        ⟨⟨D, rfl, by omega, Nat.lt_succ_self _, (KeepsOthers.setCell _ _ _).same D _ HS.out.2.1 rfl, fun d' hd' => by cases hd'⟩, trivial⟩
      refine leaves_marks hMk fun w' hw' => ?_
      have hr := (Below.cell hw' (p := ⟨Q, 0, none⟩) hQ1).trans (HS.out.1.cell 1 rfl 0 rfl)
      exact ⟨.bool true, by simp [results, Tryd.f30, go_sem, hr], by rw [HS.out.2.2], HS.out.1.ext.below.trans (Below.mono hw' hw1s)⟩
    case stop =>
      rintro D c pre W hD hS ⟨⟨rfl, x, hx, hcan⟩, hcell, hBw⟩ hK
      have hsf : Lo.suffP (fun t => Cd.can d gl gs (t : Int)) m N most = false := by
        unfold Lo.suffP
        rw [Bool.and_eq_false_iff]
        refine Or.inr (List.all_eq_false.2 ?_)
        obtain ⟨t, ht, e⟩ := List.mem_map.1 (hS.subset hx)
        refine ⟨t, ht, ?_⟩
        have h2 : Cd.can d gl gs ((m - t : Nat) : Int) = false := by rw [← e] at hcan; exact hcan
        show ¬ Cd.can d gl gs ((m - t : Nat) : Int) = true
        rw [h2]; simp
      gi_wp2_with fail
      have hMk : MarksOk w1.heap.size (D + 1) W [{ target := .collected D, args := #[] }] := ⟨⟨D, rfl, by omega, Nat.lt_succ_self _, hK, fun d' hd' => by cases hd'⟩, trivial⟩
      refine leaves_marks hMk fun w' hw' => ?_
      have hr := (Below.cell hw' (p := ⟨Q, 0, none⟩) hQ1).trans hcell
      exact ⟨.bool false, by simp [results, Tryd.f30, go_sem, hr], by rw [hsf], hBw.trans (Below.mono hw' hw1s)⟩
end Go.Proofs.YtggfkpalkdkbdaaDoor

/- CODES, in plain terms: pieces that fit data, and how they are solved for it. No program in sight. -/
namespace Cd
open Gf Go.Proofs.YtggfkpalkdkbdaaDoor
/-- The bytes p are what a row makes of data pieces D, L bytes each. -/
def Fits (d L : Nat) (D : Nat → Nat → UInt8) (r p : List UInt8) : Prop := p.length = L ∧ ∀ x, x < L → p.getD x 0 = sm d fun i => mul (r.getD i 0) (D i x)
theorem sum_get (s t : List UInt8) (x : Nat) : (sum s t).getD x 0 = s.getD x 0 ^^^ t.getD x 0 := by
  rcases Nat.lt_or_ge x (max s.length t.length) with h | h
  · exact getD_map_range _ _ h
  · have h1 : s.length ≤ x := by omega
    have h2 : t.length ≤ x := by omega
    rw [getD_out (l := s) h1, getD_out (l := t) h2, getD_out (by simp [sum]; omega)]
    rfl
theorem sum_len (s t : List UInt8) : (sum s t).length = max s.length t.length := by simp [sum]
theorem scale_len (c : UInt8) (s : List UInt8) : (scale c s).length = s.length := by simp [scale]
theorem scale_get (c : UInt8) (s : List UInt8) {x : Nat} (h : x < s.length) : (scale c s).getD x 0 = mul c (s.getD x 0) := by
  unfold scale
  rw [List.getD_eq_getElem?_getD, List.getElem?_map, List.getD_eq_getElem?_getD, List.getElem?_eq_getElem h]
  rfl
theorem Fits.plus {d L : Nat} {D : Nat → Nat → UInt8} {r p x q : List UInt8} (h : Fits d L D r p) (hx : Fits d L D x q) (f : UInt8) {t : List UInt8} (ht : ∀ i, i < d → t.getD i 0 = r.getD i 0 ^^^ mul f (x.getD i 0)) :
    Fits d L D t (sum p (scale f q)) := by
  refine ⟨by rw [sum_len, scale_len, h.1, hx.1]; simp, fun k hk => ?_⟩
  rw [sum_get, scale_get _ _ (by rw [hx.1]; exact hk), h.2 k hk, hx.2 k hk, sm_mul, ← sm_add]
  refine sm_congr fun i hi => ?_
  rw [ht i hi, xor_mul, mul_assoc]
theorem Fits.congr {d L : Nat} {D : Nat → Nat → UInt8} {r p t : List UInt8} (h : Fits d L D r p) (ht : ∀ i, i < d → t.getD i 0 = r.getD i 0) : Fits d L D t p :=
  ⟨h.1, fun k hk => by rw [h.2 k hk]; exact sm_congr fun i hi => by rw [ht i hi]⟩
theorem Fits.scaled {d L : Nat} {D : Nat → Nat → UInt8} {r p : List UInt8} (h : Fits d L D r p) (c : UInt8) : Fits d L D (r.map (mul c)) (scale c p) := by
  refine ⟨by rw [scale_len, h.1], fun k hk => ?_⟩
  rw [scale_get _ _ (by rw [h.1]; exact hk), h.2 k hk, sm_mul]
  refine sm_congr fun i hi => ?_
  rw [getD_map_mul, mul_assoc]
theorem Fits.red {d L : Nat} {D : Nat → Nat → UInt8} {r p x q : List UInt8} (h : Fits d L D r p) (hx : Fits d L D x q) (hr : r.length = d) : Fits d L D (redRow r x) (redPart p r x q) := by
  by_cases hf : r.getD (firstNZ x) 0 = 0
  · rw [redPart_zero hf, redRow_same hf]; exact h
  · rw [redPart_nz hf]
    exact h.plus hx _ fun i hi => redRow_get r x (by omega)
theorem Fits.redTo {d L : Nat} {D : Nat → Nat → UInt8} {S Ps : List (List UInt8)} {r p : List UInt8} (h : Fits d L D r p) (hr : r.length = d) (hS : ∀ k, k < S.length → Fits d L D (S.getD k []) (Ps.getD k [])) :
    ∀ k, k ≤ S.length → Fits d L D (redTo S Ps r p k).1 (redTo S Ps r p k).2
  | 0, _ => h
  | k + 1, hk => (Fits.redTo h hr hS k (by omega)).red (hS k (by omega)) (by rw [redTo_length, hr])
theorem getD_app {α : Type} (l : List α) (x y : α) (k : Nat) : (l ++ [x]).getD k y = if k = l.length then x else l.getD k y := by
  rw [List.getD_eq_getElem?_getD, List.getD_eq_getElem?_getD, List.getElem?_append]
  split
  · rename_i h
    rw [if_neg (by omega)]
  · rename_i h
    split
    · rename_i h2
      rw [h2]; simp
    · rename_i h2
      rw [List.getElem?_eq_none (by simp; omega), List.getElem?_eq_none (by omega)]
theorem Fits.add {d L : Nat} {D : Nat → Nat → UInt8} {S Ps : List (List UInt8)} {l p : List UInt8} (hl : l.length = d) (hp : Ps.length = S.length) (h : Fits d L D l p) (hS : ∀ k, k < S.length → Fits d L D (S.getD k []) (Ps.getD k [])) :
    ∀ k, k < (addTo S Ps l p).1.length → Fits d L D ((addTo S Ps l p).1.getD k []) ((addTo S Ps l p).2.getD k []) := by
  cases ha : addRow S l with
  | none => rw [addTo_none ha]; exact hS
  | some t =>
    rw [addTo_some ha]
    intro k hk
    rw [getD_app, getD_app, hp]
    by_cases hk2 : k = S.length
    · rw [if_pos hk2, if_pos hk2]
      have h1 := Fits.redTo h hl hS S.length (Nat.le_refl _)
      rw [redTo_full] at h1
      unfold addRow at ha
      split at ha
      · cases ha
      · injection ha with ha
        subst ha
        exact h1.scaled _
    · rw [if_neg hk2, if_neg hk2]
      exact hS k (by simp at hk; omega)
theorem addTo_len {S Ps : List (List UInt8)} {l p : List UInt8} (hp : Ps.length = S.length) : (addTo S Ps l p).2.length = (addTo S Ps l p).1.length := by
  cases ha : addRow S l with
  | none => rw [addTo_none ha]; exact hp
  | some t => rw [addTo_some ha]; simp [hp]
/-- All parts have L bytes. -/
def Even (L : Nat) (Ps : List (List UInt8)) : Prop := ∀ p ∈ Ps, p.length = L
theorem Even.get {L : Nat} {Ps : List (List UInt8)} (h : Even L Ps) {k : Nat} (hk : k < Ps.length) : (Ps.getD k []).length = L := by
  rw [List.getD_eq_getElem?_getD, List.getElem?_eq_getElem hk]
  exact h _ (List.getElem_mem hk)
theorem redTo_even {L : Nat} {S Ps : List (List UInt8)} {l p : List UInt8} (hp : Ps.length = S.length) (h : Even L Ps) (hl : p.length = L) : ∀ k, k ≤ S.length → (redTo S Ps l p k).2.length = L
  | 0, _ => hl
  | k + 1, hk => by
    have ih := redTo_even (l := l) hp h hl k (by omega)
    rw [redTo]
    show (redPart _ _ _ _).length = L
    by_cases hf : (redTo S Ps l p k).1.getD (firstNZ (S.getD k [])) 0 = 0
    · rw [redPart_zero hf]; exact ih
    · rw [redPart_nz hf, sum_len, scale_len, ih, h.get (by omega)]; simp
theorem addTo_even {L : Nat} {S Ps : List (List UInt8)} {l p : List UInt8} (hp : Ps.length = S.length) (h : Even L Ps) (hl : p.length = L) : Even L (addTo S Ps l p).2 := by
  cases ha : addRow S l with
  | none => rw [addTo_none ha]; exact h
  | some t =>
    rw [addTo_some ha]
    intro q hq
    rcases List.mem_append.1 hq with hq | hq
    · exact h q hq
    · obtain rfl := List.mem_singleton.1 hq
      show (scale _ _).length = L
      rw [scale_len]
      exact redTo_even hp h hl _ (Nat.le_refl _)
/-- collect's stairs and their parts, after k rows. -/
def colTo (n : Nat) (rows : List (List UInt8)) (m : Nat) (pieces : List (List UInt8)) : Nat → List (List UInt8) × List (List UInt8)
  | 0 => ([], [])
  | k + 1 => if bitAt m k = 1 ∧ (colTo n rows m pieces k).1.length < n then addTo (colTo n rows m pieces k).1 (colTo n rows m pieces k).2 (rows.getD k []) (pieces.getD k []) else colTo n rows m pieces k
def col (n : Nat) (rows : List (List UInt8)) (m : Nat) (pieces : List (List UInt8)) : List (List UInt8) × List (List UInt8) := colTo n rows m pieces rows.length
theorem colTo_yes {n : Nat} {rows : List (List UInt8)} {m : Nat} {pieces : List (List UInt8)} {k : Nat} (h : bitAt m k = 1) (h2 : (colTo n rows m pieces k).1.length < n) : colTo n rows m pieces (k + 1) = addTo (colTo n rows m pieces k).1 (colTo n rows m pieces k).2 (rows.getD k []) (pieces.getD k []) := if_pos ⟨h, h2⟩
theorem colTo_no {n : Nat} {rows : List (List UInt8)} {m : Nat} {pieces : List (List UInt8)} {k : Nat} (h : ¬ (bitAt m k = 1 ∧ (colTo n rows m pieces k).1.length < n)) : colTo n rows m pieces (k + 1) = colTo n rows m pieces k := if_neg h
theorem colTo_rows {n : Nat} {rows : List (List UInt8)} (m : Nat) (pieces : List (List UInt8)) : ∀ k, k ≤ rows.length → (colTo n rows m pieces k).1 = stairs n (pickTo rows m k)
  | 0, _ => rfl
  | k + 1, hk => by
    have ih := colTo_rows (n := n) (rows := rows) m pieces k (by omega)
    by_cases hb : bitAt m k = 1
    · rw [pickTo_yes (show k < rows.length by omega) hb, stairs_snoc, ← ih]
      by_cases hl : (colTo n rows m pieces k).1.length < n
      · rw [colTo_yes hb hl, addTo_step hl, List.getD_eq_getElem?_getD, List.getElem?_eq_getElem (show k < rows.length by omega)]
        rfl
      · rw [colTo_no (fun h => hl h.2), Gf.step, if_neg hl]
    · rw [pickTo_no hb, colTo_no (fun h => hb h.1), ih]
theorem colTo_len {n : Nat} {rows : List (List UInt8)} (m : Nat) (pieces : List (List UInt8)) : ∀ k, (colTo n rows m pieces k).2.length = (colTo n rows m pieces k).1.length
  | 0 => rfl
  | k + 1 => by
    have ih := colTo_len (n := n) (rows := rows) m pieces k
    rw [colTo]
    split
    · exact addTo_len ih
    · exact ih
theorem colTo_even {n L : Nat} {rows : List (List UInt8)} (m : Nat) (pieces : List (List UInt8)) (h : ∀ k, k < rows.length → bitAt m k = 1 → (pieces.getD k []).length = L) : ∀ k, k ≤ rows.length → Even L (colTo n rows m pieces k).2
  | 0, _ => fun p hp => by cases hp
  | k + 1, hk => by
    have ih := colTo_even (n := n) m pieces h k (by omega)
    rw [colTo]
    split
    · rename_i hc
      exact addTo_even (colTo_len m pieces k) ih (h k (by omega) hc.1)
    · exact ih
theorem colTo_fits {n L : Nat} {D : Nat → Nat → UInt8} {rows : List (List UInt8)} (m : Nat) (pieces : List (List UInt8)) (hr : ∀ r ∈ rows, r.length = n) (h : ∀ k, k < rows.length → bitAt m k = 1 → Fits n L D (rows.getD k []) (pieces.getD k [])) :
    ∀ k, k ≤ rows.length → ∀ j, j < (colTo n rows m pieces k).1.length → Fits n L D ((colTo n rows m pieces k).1.getD j []) ((colTo n rows m pieces k).2.getD j [])
  | 0, _ => fun j hj => by cases hj
  | k + 1, hk => by
    have ih := colTo_fits (n := n) m pieces hr h k (by omega)
    rw [colTo]
    split
    · rename_i hc
      refine Fits.add ?_ (colTo_len m pieces k) (h k (by omega) hc.1) ih
      rw [List.getD_eq_getElem?_getD, List.getElem?_eq_getElem (show k < rows.length by omega)]
      exact hr _ (List.getElem_mem _)
    · exact ih

/- The rows in the order of their first places. -/
theorem nodup_few : ∀ (n : Nat) (l : List Nat), l.Nodup → (∀ x ∈ l, x < n) → l.length ≤ n
  | 0, l, _, h => by
    cases l with
    | nil => simp
    | cons x r => exact absurd (h x (by simp)) (by omega)
  | n + 1, l, hn, h => by
    by_cases hm : n ∈ l
    · have h1 := nodup_few n (l.erase n) (hn.erase n) fun x hx => by
        have h2 := (hn.mem_erase_iff).1 hx
        have := h x h2.2
        omega
      rw [List.length_erase_of_mem hm] at h1
      omega
    · have := nodup_few n l hn fun x hx => by
        have := h x hx
        have : x ≠ n := fun e => hm (e ▸ hx)
        omega
      omega
theorem nodup_all {n : Nat} {l : List Nat} (hn : l.Nodup) (h : ∀ x ∈ l, x < n) (hl : l.length = n) {y : Nat} (hy : y < n) : y ∈ l := by
  by_cases hm : y ∈ l
  · exact hm
  · have := nodup_few n (y :: l) (List.nodup_cons.2 ⟨hm, hn⟩) fun x hx => by
      rcases List.mem_cons.1 hx with h1 | h1
      · rw [h1]; exact hy
      · exact h x h1
    simp at this
    omega
theorem firsts_nodup {n : Nat} {S : List (List UInt8)} (h : Stairs n S) : (S.map firstNZ).Nodup := by
  rw [List.nodup_iff_pairwise_ne, List.pairwise_map]
  have h2 : S.Pairwise fun x y => y ∈ S ∧ y.getD (firstNZ x) 0 = 0 := by
    rw [List.pairwise_iff_getElem]
    intro i j hi hj hij
    exact ⟨List.getElem_mem hj, List.pairwise_iff_getElem.1 h.tri i j hi hj hij⟩
  refine h2.imp ?_
  rintro x y ⟨hy, h1⟩ he
  rw [he, h.one y hy] at h1
  exact absurd h1 (by decide)
theorem Stairs.at {n : Nat} {S : List (List UInt8)} (h : Stairs n S) (hn : S.length = n) {a : Nat} (ha : a < n) : ∃ k, k < S.length ∧ firstNZ (S.getD k []) = a := by
  have h1 := nodup_all (firsts_nodup h) (fun x hx => by
    obtain ⟨y, hy, rfl⟩ := List.mem_map.1 hx
    exact h.nz y hy) (by rw [List.length_map, hn]) ha
  obtain ⟨y, hy, rfl⟩ := List.mem_map.1 h1
  obtain ⟨k, hk, rfl⟩ := List.getElem_of_mem hy
  exact ⟨k, hk, by rw [List.getD_eq_getElem?_getD, List.getElem?_eq_getElem hk]; rfl⟩
theorem Stairs.one_at {n : Nat} {S : List (List UInt8)} (h : Stairs n S) {i j : Nat} (hi : i < S.length) (hj : j < S.length) (he : firstNZ (S.getD i []) = firstNZ (S.getD j [])) : i = j := by
  have h1 := firsts_nodup h
  rw [List.nodup_iff_pairwise_ne, List.pairwise_map, List.pairwise_iff_getElem] at h1
  have e1 : S.getD i [] = S[i] := by rw [List.getD_eq_getElem?_getD, List.getElem?_eq_getElem hi]; rfl
  have e2 : S.getD j [] = S[j] := by rw [List.getD_eq_getElem?_getD, List.getElem?_eq_getElem hj]; rfl
  rw [e1, e2] at he
  rcases Nat.lt_trichotomy i j with h2 | h2 | h2
  · exact absurd he (h1 i j hi hj h2)
  · exact h2
  · exact absurd he.symm (h1 j i hj hi h2)
/-- The numbers under k of the rows whose first place is a. -/
def atTo (S : List (List UInt8)) (a k : Nat) : List Nat := (List.range k).filter fun i => firstNZ (S.getD i []) == a
/-- The numbers of the rows, by their first places. -/
def ordTo (S : List (List UInt8)) (a : Nat) : List Nat := (List.range a).flatMap fun b => atTo S b S.length
theorem atTo_zero (S : List (List UInt8)) (a : Nat) : atTo S a 0 = [] := rfl
theorem atTo_yes {S : List (List UInt8)} {a k : Nat} (h : firstNZ (S.getD k []) = a) : atTo S a (k + 1) = atTo S a k ++ [k] := by
  rw [List.getD_eq_getElem?_getD] at h
  simp [atTo, List.range_succ, List.filter_append, h]
theorem atTo_no {S : List (List UInt8)} {a k : Nat} (h : firstNZ (S.getD k []) ≠ a) : atTo S a (k + 1) = atTo S a k := by
  rw [List.getD_eq_getElem?_getD] at h
  simp [atTo, List.range_succ, List.filter_append, h]
theorem ordTo_succ (S : List (List UInt8)) (a : Nat) : ordTo S (a + 1) = ordTo S a ++ atTo S a S.length := by
  simp [ordTo, List.range_succ, List.flatMap_append]
theorem atTo_one {n : Nat} {S : List (List UInt8)} (h : Stairs n S) {j : Nat} (hj : j < S.length) : ∀ k, k ≤ S.length → atTo S (firstNZ (S.getD j [])) k = if j < k then [j] else []
  | 0, _ => by rw [if_neg (by omega)]; rfl
  | k + 1, hk => by
    have ih := atTo_one h hj k (by omega)
    by_cases he : firstNZ (S.getD k []) = firstNZ (S.getD j [])
    · obtain rfl := Stairs.one_at h (by omega) hj he
      rw [atTo_yes rfl, ih, if_neg (by omega), if_pos (by omega)]
      rfl
    · have hkj : j ≠ k := fun e => he (by rw [e])
      rw [atTo_no he, ih]
      by_cases hlt : j < k
      · rw [if_pos hlt, if_pos (by omega)]
      · rw [if_neg hlt, if_neg (by omega)]
theorem ordTo_spec {n : Nat} {S : List (List UInt8)} (h : Stairs n S) (hn : S.length = n) : ∀ a, a ≤ n → (ordTo S a).length = a ∧ ∀ b, b < a → (ordTo S a).getD b 0 < S.length ∧ firstNZ (S.getD ((ordTo S a).getD b 0) []) = b
  | 0, _ => ⟨rfl, fun b hb => absurd hb (by omega)⟩
  | a + 1, ha => by
    obtain ⟨h1, h2⟩ := ordTo_spec h hn a (by omega)
    obtain ⟨k, hk, hf⟩ := Stairs.at h hn (show a < n by omega)
    have h3 := atTo_one h hk S.length (Nat.le_refl _)
    rw [hf, if_pos hk] at h3
    rw [ordTo_succ, h3]
    refine ⟨by rw [List.length_append, h1]; rfl, fun b hb => ?_⟩
    rw [getD_app, h1]
    by_cases hba : b = a
    · rw [if_pos hba]; exact ⟨hk, by rw [hf, hba]⟩
    · rw [if_neg hba]; exact h2 b (by omega)
/-- Parts or rows in an order. -/
def byOrd (S : List (List UInt8)) (o : List Nat) : List (List UInt8) := o.map fun k => S.getD k []
theorem byOrd_get {S : List (List UInt8)} {o : List Nat} {k : Nat} (h : k < o.length) : (byOrd S o).getD k [] = S.getD (o.getD k 0) [] := by
  unfold byOrd
  rw [List.getD_eq_getElem?_getD, List.getElem?_map, List.getD_eq_getElem?_getD (l := o), List.getElem?_eq_getElem h]
  rfl
theorem byOrd_len (S : List (List UInt8)) (o : List Nat) : (byOrd S o).length = o.length := List.length_map _

/- Solving rows in the form of a triangle. -/
/-- A part less what is known of it: of the first i elements of its row. -/
def solRow (r : List UInt8) (a : Nat) (out : List (List UInt8)) (p : List UInt8) : Nat → List UInt8
  | 0 => p
  | i + 1 => if i ≠ a ∧ r.getD i 0 ≠ 0 then sum (solRow r a out p i) (scale (r.getD i 0) (out.getD i [])) else solRow r a out p i
theorem solRow_yes {r : List UInt8} {a : Nat} {out : List (List UInt8)} {p : List UInt8} {i : Nat} (h : i ≠ a) (h2 : r.getD i 0 ≠ 0) : solRow r a out p (i + 1) = sum (solRow r a out p i) (scale (r.getD i 0) (out.getD i [])) := if_pos ⟨h, h2⟩
theorem solRow_no {r : List UInt8} {a : Nat} {out : List (List UInt8)} {p : List UInt8} {i : Nat} (h : ¬ (i ≠ a ∧ r.getD i 0 ≠ 0)) : solRow r a out p (i + 1) = solRow r a out p i := if_neg h
/-- The data pieces after the rows k and more. -/
def solTo (T Ps : List (List UInt8)) (n : Nat) : Nat → List (List UInt8)
  | 0 => List.replicate n []
  | j + 1 => (solTo T Ps n j).set (firstNZ (T.getD (T.length - 1 - j) [])) (solRow (T.getD (T.length - 1 - j) []) (firstNZ (T.getD (T.length - 1 - j) [])) (solTo T Ps n j) (Ps.getD (T.length - 1 - j) []) (T.getD (T.length - 1 - j) []).length)
def sol (T Ps : List (List UInt8)) (n : Nat) : List (List UInt8) := solTo T Ps n T.length
theorem solTo_len (T Ps : List (List UInt8)) (n : Nat) : ∀ j, (solTo T Ps n j).length = n
  | 0 => by simp [solTo]
  | j + 1 => by rw [solTo, List.length_set, solTo_len T Ps n j]
/-- Rows in the form of a triangle, with ones. -/
structure Tri (n : Nat) (T : List (List UInt8)) : Prop where
  len : T.length = n
  wide : ∀ k, k < n → (T.getD k []).length = n
  first : ∀ k, k < n → firstNZ (T.getD k []) = k
  one : ∀ k, k < n → (T.getD k []).getD k 0 = 1
theorem solRow_len {L : Nat} {r : List UInt8} {a : Nat} {out : List (List UInt8)} {p : List UInt8} (hp : p.length = L) (ho : ∀ i, i < r.length → i ≠ a → r.getD i 0 ≠ 0 → (out.getD i []).length = L) : ∀ i, i ≤ r.length → (solRow r a out p i).length = L
  | 0, _ => hp
  | i + 1, hi => by
    have ih := solRow_len hp ho i (by omega)
    by_cases hc : i ≠ a ∧ r.getD i 0 ≠ 0
    · rw [solRow_yes hc.1 hc.2, sum_len, scale_len, ih, ho i (by omega) hc.1 hc.2]; simp
    · rw [solRow_no hc]; exact ih
theorem solRow_le {M : Nat} {r : List UInt8} {a : Nat} {out : List (List UInt8)} {p : List UInt8} (hp : p.length ≤ M) (ho : ∀ i, (out.getD i []).length ≤ M) : ∀ i, (solRow r a out p i).length ≤ M
  | 0 => hp
  | i + 1 => by
    have ih := solRow_le (r := r) (a := a) hp ho i
    by_cases hc : i ≠ a ∧ r.getD i 0 ≠ 0
    · rw [solRow_yes hc.1 hc.2, sum_len, scale_len]
      have := ho i
      omega
    · rw [solRow_no hc]; exact ih
theorem solRow_get {d : Nat} {D : Nat → Nat → UInt8} {L : Nat} {r : List UInt8} {a : Nat} {out : List (List UInt8)} {p : List UInt8} {x : Nat} (hx : x < L) (ho : ∀ i, i < r.length → i ≠ a → r.getD i 0 ≠ 0 → (out.getD i []).length = L ∧ (out.getD i []).getD x 0 = D i x) :
    ∀ i, i ≤ r.length → (solRow r a out p i).getD x 0 = p.getD x 0 ^^^ sm i fun j => if j = a then 0 else mul (r.getD j 0) (D j x)
  | 0, _ => by
    show p.getD x 0 = p.getD x 0 ^^^ 0
    rw [UInt8.xor_zero]
  | i + 1, hi => by
    have ih := solRow_get (d := d) (p := p) hx ho i (by omega)
    rw [sm, ← xor_assoc, ← ih]
    by_cases ha : i = a
    · rw [solRow_no (fun h => h.1 ha), if_pos ha, UInt8.xor_zero]
    · rw [if_neg ha]
      by_cases hz : r.getD i 0 = 0
      · rw [solRow_no (fun h => h.2 hz), hz, zero_mul, UInt8.xor_zero]
      · have h1 := ho i (by omega) ha hz
        rw [solRow_yes ha hz, sum_get, scale_get _ _ (by rw [h1.1]; exact hx), h1.2]
theorem getD_set {α : Type} {l : List α} {k j : Nat} {x y : α} (hk : k < l.length) : (l.set k x).getD j y = if j = k then x else l.getD j y := by
  rw [List.getD_eq_getElem?_getD, List.getElem?_set]
  by_cases h : k = j
  · subst h
    rw [if_pos rfl, if_pos rfl, if_pos hk]; rfl
  · rw [if_neg h, if_neg (Ne.symm h), List.getD_eq_getElem?_getD]
theorem tri_above {n : Nat} {T : List (List UInt8)} (hT : Tri n T) {k i : Nat} (hk : k < n) (h : i ≠ k) (hz : (T.getD k []).getD i 0 ≠ 0) : k < i := by
  rcases Nat.lt_or_ge k i with h1 | h1
  · exact h1
  · exact absurd (firstNZ_before (T.getD k []) i (by rw [hT.first k hk]; omega)) hz
theorem solTo_even {n L : Nat} {T Ps : List (List UInt8)} (hT : Tri n T) (hP : ∀ k, k < n → (Ps.getD k []).length = L) : ∀ j, j ≤ n → ∀ i, n - j ≤ i → i < n → ((solTo T Ps n j).getD i []).length = L
  | 0, _ => fun i h1 h2 => by omega
  | j + 1, hj => fun i h1 h2 => by
    have ih := solTo_even hT hP j (by omega)
    have hk : T.length - 1 - j < n := by rw [hT.len]; omega
    rw [solTo]
    obtain ⟨k, hkk⟩ : ∃ k, T.length - 1 - j = k := ⟨_, rfl⟩
    rw [hkk] at hk ⊢
    have hkj : k = n - 1 - j := by rw [← hkk, hT.len]
    rw [hT.first k hk, getD_set (by rw [solTo_len]; exact hk)]
    split
    · refine solRow_len (hP k hk) (fun i hi hne hz => ?_) _ (Nat.le_refl _)
      rw [hT.wide k hk] at hi
      have := tri_above hT hk hne hz
      exact ih i (by omega) hi
    · exact ih i (by omega) h2
theorem solTo_fits {n L : Nat} {D : Nat → Nat → UInt8} {T Ps : List (List UInt8)} (hT : Tri n T) (hP : ∀ k, k < n → Fits n L D (T.getD k []) (Ps.getD k [])) :
    ∀ j, j ≤ n → ∀ i, n - j ≤ i → i < n → ∀ x, x < L → ((solTo T Ps n j).getD i []).getD x 0 = D i x
  | 0, _ => fun i h1 h2 => by omega
  | j + 1, hj => fun i h1 h2 x hx => by
    have ih := solTo_fits hT hP j (by omega)
    have ihl := solTo_even hT (fun k hk => (hP k hk).1) j (by omega)
    have hk : T.length - 1 - j < n := by rw [hT.len]; omega
    rw [solTo]
    obtain ⟨k, hkk⟩ : ∃ k, T.length - 1 - j = k := ⟨_, rfl⟩
    rw [hkk] at hk ⊢
    have hkj : k = n - 1 - j := by rw [← hkk, hT.len]
    rw [hT.first k hk, getD_set (by rw [solTo_len]; exact hk)]
    split
    · rename_i hik
      subst hik
      rw [solRow_get (d := n) (D := D) hx (fun i' hi hne hz => by
        rw [hT.wide i hk] at hi
        have := tri_above hT hk hne hz
        exact ⟨ihl i' (by omega) hi, ih i' (by omega) hi x hx⟩) _ (Nat.le_refl _), (hP i hk).2 x hx, hT.wide i hk, ← sm_add]
      rw [sm_one (p := i) _ hk]
      · simp only [if_true]
        rw [hT.one i hk, one_mul]
        exact UInt8.xor_zero
      · intro m hm hne
        simp only [if_neg hne]
        exact UInt8.xor_self
    · exact ih i (by omega) h2 x hx
end Cd

/- CODES, in plain terms: what Encode and Decode compute, and that a chunk comes back. No program in sight. -/
namespace Cd
open Gf Go.Proofs.YtggfkpalkdkbdaaDoor
def sizeN (d n : Nat) : Nat := (n + d - 1) / d
/-- The bytes of each piece of a chunk of n bytes. -/
def sizeOf (d gl : Int) (gs : List (List Int)) (n : Int) : Int := if n < 0 ∨ 4096 < n ∨ check d gs gl ≠ 0 then 0 else (n + d - 1) / d
theorem sizeOf_no {d gl n : Int} {gs : List (List Int)} (h : n < 0 ∨ 4096 < n ∨ check d gs gl ≠ 0) : sizeOf d gl gs n = 0 := if_pos h
theorem sizeOf_ok {d gl n : Int} {gs : List (List Int)} (h : 0 ≤ n) (h2 : n ≤ 4096) (h3 : check d gs gl = 0) : sizeOf d gl gs n = (n + d - 1) / d := if_neg (by omega)
theorem sizeOf_nat {d gl n : Nat} {gs : List (List Int)} (h2 : n ≤ 4096) (h3 : check d gs gl = 0) : sizeOf d gl gs (n : Int) = ((sizeN d n : Nat) : Int) := by
  have hk := check_ok h3
  rw [sizeOf_ok (by omega) (by omega) h3, sizeN]
  have : ((n : Int) + d - 1) = ((n + d - 1 : Nat) : Int) := by omega
  rw [this]
  exact (Int.natCast_ediv _ _).symm
theorem size_ge {d : Nat} (hd : 0 < d) (n : Nat) : n ≤ d * sizeN d n := by
  unfold sizeN
  have h1 := Nat.div_add_mod (n + d - 1) d
  have h2 := Nat.mod_lt (n + d - 1) hd
  omega
theorem size_le {d : Nat} (hd : 0 < d) (n : Nat) : sizeN d n ≤ n := by
  unfold sizeN
  rw [Nat.div_le_iff_le_mul_add_pred hd]
  have h1 : n ≤ d * n := Nat.le_mul_of_pos_left n hd
  omega
/-- A chunk, filled up with zeros. -/
def fill (len : Nat) (data : List UInt8) : List UInt8 := data ++ List.replicate (len - data.length) 0
def cutAt (size : Nat) (full : List UInt8) (i : Nat) : List UInt8 := (full.drop (i * size)).take size
/-- The data pieces of a chunk. -/
def cuts (d : Nat) (data : List UInt8) : List (List UInt8) := (List.range d).map (cutAt (sizeN d data.length) (fill (d * sizeN d data.length) data))
/-- The pieces that rows make of data pieces. -/
def encRows (rows parts : List (List UInt8)) : List (List UInt8) := rows.map fun r => combS r parts
def encode (d gl : Int) (gs : List (List Int)) (data : List UInt8) : List (List UInt8) := encRows (rowsOf d gs gl) (cuts d.toNat data)
/-- Both results of Encode. -/
def encL (d gl : Int) (gs : List (List Int)) (data : List UInt8) : List (List UInt8) := if check d gs gl = 0 ∧ data.length ≤ 4096 then encode d gl gs data else []
def encE (d gl : Int) (gs : List (List Int)) (data : List UInt8) : Int := if check d gs gl ≠ 0 then check d gs gl else if 4096 < data.length then 2 else 0
theorem encL_ok {d gl : Int} {gs : List (List Int)} {data : List UInt8} (h : check d gs gl = 0) (h2 : data.length ≤ 4096) : encL d gl gs data = encode d gl gs data := if_pos ⟨h, h2⟩
theorem encL_no {d gl : Int} {gs : List (List Int)} {data : List UInt8} (h : check d gs gl ≠ 0) : encL d gl gs data = [] := if_neg fun h2 => h h2.1
theorem encL_big {d gl : Int} {gs : List (List Int)} {data : List UInt8} (h : 4096 < data.length) : encL d gl gs data = [] := if_neg fun h2 => by omega
theorem encE_ok {d gl : Int} {gs : List (List Int)} {data : List UInt8} (h : check d gs gl = 0) (h2 : data.length ≤ 4096) : encE d gl gs data = 0 := by rw [encE, if_neg (by simp [h]), if_neg (by omega)]
theorem encE_no {d gl : Int} {gs : List (List Int)} {data : List UInt8} (h : check d gs gl ≠ 0) : encE d gl gs data = check d gs gl := if_pos h
theorem encE_big {d gl : Int} {gs : List (List Int)} {data : List UInt8} (h0 : check d gs gl = 0) (h : 4096 < data.length) : encE d gl gs data = 2 := by rw [encE, if_neg (by simp [h0]), if_pos h]
theorem fill_len {len : Nat} {data : List UInt8} (h : data.length ≤ len) : (fill len data).length = len := by simp [fill]; omega
theorem cuts_len (d : Nat) (data : List UInt8) : (cuts d data).length = d := by simp [cuts]
theorem cutAt_len {size d i : Nat} {full : List UInt8} (h : full.length = d * size) (hi : i < d) : (cutAt size full i).length = size := by
  have h1 : (i + 1) * size ≤ d * size := Nat.mul_le_mul_right size hi
  rw [Nat.succ_mul] at h1
  simp [cutAt]
  omega
theorem cutAt_get {size i x : Nat} {full : List UInt8} (hx : x < size) : (cutAt size full i).getD x 0 = full.getD (i * size + x) 0 := by
  unfold cutAt
  rw [List.getD_eq_getElem?_getD, List.getElem?_take, if_pos hx, List.getElem?_drop, List.getD_eq_getElem?_getD]
theorem cuts_get {d : Nat} {data : List UInt8} {i : Nat} (h : i < d) : (cuts d data).getD i [] = cutAt (sizeN d data.length) (fill (d * sizeN d data.length) data) i := by
  unfold cuts
  rw [List.getD_eq_getElem?_getD, List.getElem?_map, List.getElem?_range h]
  rfl
theorem cuts_even {d : Nat} (hd : 0 < d) (data : List UInt8) {i : Nat} (h : i < d) : ((cuts d data).getD i []).length = sizeN d data.length := by
  rw [cuts_get h]
  exact cutAt_len (fill_len (size_ge hd _)) h
theorem cuts_all {d : Nat} (hd : 0 < d) (data : List UInt8) {p : List UInt8} (hp : p ∈ cuts d data) : p.length = sizeN d data.length := by
  obtain ⟨i, hi, rfl⟩ := List.getElem_of_mem hp
  have h1 : i < d := by rw [cuts_len] at hi; exact hi
  have := cuts_even hd data h1
  rw [List.getD_eq_getElem?_getD, List.getElem?_eq_getElem hi] at this
  exact this
/-- The byte x of the data piece i. -/
def dataAt (d : Nat) (data : List UInt8) (i x : Nat) : UInt8 := ((cuts d data).getD i []).getD x 0
theorem comb_sm (r : List UInt8) (parts : List (List UInt8)) (x : Nat) : ∀ k, comb r parts x k = sm k fun i => mul (r.getD i 0) ((parts.getD i []).getD x 0)
  | 0 => rfl
  | k + 1 => by rw [comb, comb_sm r parts x k, sm]
theorem comb_takes {d : Nat} (hd : 0 < d) (data : List UInt8) {r : List UInt8} (hr : r.length = d) : combOk r (cuts d data) = true := by
  unfold combOk
  rw [Bool.and_eq_true, beq_iff_eq, List.all_eq_true, hr, cuts_len]
  refine ⟨rfl, fun p hp => ?_⟩
  rw [beq_iff_eq, cuts_all hd data hp]
  cases hc : cuts d data with
  | nil => have := cuts_len d data; rw [hc] at this; simp at this; omega
  | cons q l => exact (cuts_all hd data (by rw [hc]; simp)).symm
theorem comb_fits {d : Nat} (hd : 0 < d) (data : List UInt8) {r : List UInt8} (hr : r.length = d) : Fits d (sizeN d data.length) (dataAt d data) r (combS r (cuts d data)) := by
  rw [combS_ok (comb_takes hd data hr)]
  have hh : ((cuts d data).headD []).length = sizeN d data.length := by
    cases hc : cuts d data with
    | nil => have := cuts_len d data; rw [hc] at this; simp at this; omega
    | cons q l => exact cuts_all hd data (by rw [hc]; simp)
  refine ⟨by rw [combine, List.length_map, List.length_range, hh], fun x hx => ?_⟩
  unfold combine
  rw [hh, getD_map_range _ _ hx, hr, comb_sm]
  rfl
theorem flat_cuts {size : Nat} {full : List UInt8} : ∀ k, (((List.range k).map (cutAt size full)).flatten) = full.take (k * size)
  | 0 => by simp
  | k + 1 => by
    rw [List.range_succ, List.map_append, List.flatten_append, flat_cuts k, Nat.succ_mul, List.take_add]
    simp [cutAt]
theorem cuts_flat {d : Nat} (hd : 0 < d) (data : List UInt8) : (cuts d data).flatten = fill (d * sizeN d data.length) data := by
  unfold cuts
  rw [flat_cuts, List.take_of_length_le (by rw [fill_len (size_ge hd _)]; exact Nat.le_refl _)]
theorem fill_take (len : Nat) (data : List UInt8) : (fill len data).take data.length = data := by simp [fill]

/-- The data pieces, solved from a set of pieces. -/
def solved (d gl : Int) (gs : List (List Int)) (m : Nat) (pieces : List (List UInt8)) : List (List UInt8) :=
  sol (byOrd (col d.toNat (rowsOf d gs gl) m pieces).1 (ordTo (col d.toNat (rowsOf d gs gl) m pieces).1 d.toNat)) (byOrd (col d.toNat (rowsOf d gs gl) m pieces).2 (ordTo (col d.toNat (rowsOf d gs gl) m pieces).1 d.toNat)) d.toNat
def chunkOf (d gl : Int) (gs : List (List Int)) (n m : Nat) (pieces : List (List UInt8)) : List UInt8 := (solved d gl gs m pieces).flatten.take n
/-- Has a piece of the set another length? Is it another one than that of a chunk? -/
def badLen (size m : Nat) (pieces : List (List UInt8)) : Bool := (List.range pieces.length).any fun k => bitAt m k == 1 && (pieces.getD k []).length != size
def badOne (m : Nat) (l pieces : List (List UInt8)) : Bool := (List.range pieces.length).any fun k => bitAt m k == 1 && l.getD k [] != pieces.getD k []
theorem badLen_iff {size m : Nat} {pieces : List (List UInt8)} : badLen size m pieces = true ↔ ∃ k, k < pieces.length ∧ bitAt m k = 1 ∧ (pieces.getD k []).length ≠ size := by
  unfold badLen
  rw [List.any_eq_true]
  simp only [List.mem_range, Bool.and_eq_true, beq_iff_eq, bne_iff_ne]
theorem badOne_iff {m : Nat} {l pieces : List (List UInt8)} : badOne m l pieces = true ↔ ∃ k, k < pieces.length ∧ bitAt m k = 1 ∧ l.getD k [] ≠ pieces.getD k [] := by
  unfold badOne
  rw [List.any_eq_true]
  simp only [List.mem_range, Bool.and_eq_true, beq_iff_eq, bne_iff_ne]
def badArgs (d gl : Int) (gs : List (List Int)) (n m : Int) (pieces : List (List UInt8)) : Bool := decide (n < 0 ∨ 4096 < n ∨ m < 0 ∨ ((2 ^ (rowsOf d gs gl).length : Nat) : Int) ≤ m ∨ pieces.length ≠ (rowsOf d gs gl).length)
/-- Decode's error, and its chunk. -/
def decE (d gl : Int) (gs : List (List Int)) (n m : Int) (pieces : List (List UInt8)) : Int :=
  if check d gs gl ≠ 0 then check d gs gl
  else if badArgs d gl gs n m pieces then 1
  else if badLen (sizeN d.toNat n.toNat) m.toNat pieces then 1
  else if can d gl gs m = false then 17
  else if badOne m.toNat (encode d gl gs (chunkOf d gl gs n.toNat m.toNat pieces)) pieces then 14
  else 0
def decS (d gl : Int) (gs : List (List Int)) (n m : Int) (pieces : List (List UInt8)) : List UInt8 := if decE d gl gs n m pieces = 0 then chunkOf d gl gs n.toNat m.toNat pieces else []
section
variable {d gl : Int} {gs : List (List Int)} {n m : Int} {pieces : List (List UInt8)}
theorem decE_no (h : check d gs gl ≠ 0) : decE d gl gs n m pieces = check d gs gl := if_pos h
theorem decE_arg (h : check d gs gl = 0) (h2 : badArgs d gl gs n m pieces = true) : decE d gl gs n m pieces = 1 := by rw [decE, if_neg (by simp [h]), if_pos h2]
theorem decE_len (h : check d gs gl = 0) (h2 : badArgs d gl gs n m pieces = false) (h3 : badLen (sizeN d.toNat n.toNat) m.toNat pieces = true) : decE d gl gs n m pieces = 1 := by rw [decE, if_neg (by simp [h]), if_neg (by simp [h2]), if_pos h3]
theorem decE_lost (h : check d gs gl = 0) (h2 : badArgs d gl gs n m pieces = false) (h3 : badLen (sizeN d.toNat n.toNat) m.toNat pieces = false) (h4 : can d gl gs m = false) : decE d gl gs n m pieces = 17 := by rw [decE, if_neg (by simp [h]), if_neg (by simp [h2]), if_neg (by simp [h3]), if_pos h4]
theorem decE_bad (h : check d gs gl = 0) (h2 : badArgs d gl gs n m pieces = false) (h3 : badLen (sizeN d.toNat n.toNat) m.toNat pieces = false) (h4 : can d gl gs m = true) (h5 : badOne m.toNat (encode d gl gs (chunkOf d gl gs n.toNat m.toNat pieces)) pieces = true) : decE d gl gs n m pieces = 14 := by
  rw [decE, if_neg (by simp [h]), if_neg (by simp [h2]), if_neg (by simp [h3]), if_neg (by simp [h4]), if_pos h5]
theorem decE_ok (h : check d gs gl = 0) (h2 : badArgs d gl gs n m pieces = false) (h3 : badLen (sizeN d.toNat n.toNat) m.toNat pieces = false) (h4 : can d gl gs m = true) (h5 : badOne m.toNat (encode d gl gs (chunkOf d gl gs n.toNat m.toNat pieces)) pieces = false) : decE d gl gs n m pieces = 0 := by
  rw [decE, if_neg (by simp [h]), if_neg (by simp [h2]), if_neg (by simp [h3]), if_neg (by simp [h4]), if_neg (by simp [h5])]
theorem decS_ok (h : decE d gl gs n m pieces = 0) : decS d gl gs n m pieces = chunkOf d gl gs n.toNat m.toNat pieces := if_pos h
theorem decS_no (h : decE d gl gs n m pieces ≠ 0) : decS d gl gs n m pieces = [] := if_neg h
end
theorem encode_len (d gl : Int) (gs : List (List Int)) (data : List UInt8) : (encode d gl gs data).length = (rowsOf d gs gl).length := by simp [encode, encRows]
theorem encode_get {d gl : Int} {gs : List (List Int)} {data : List UInt8} {k : Nat} (hk : k < (rowsOf d gs gl).length) : (encode d gl gs data).getD k [] = combS ((rowsOf d gs gl).getD k []) (cuts d.toNat data) := by
  unfold encode encRows
  rw [List.getD_eq_getElem?_getD, List.getElem?_map, List.getD_eq_getElem?_getD, List.getElem?_eq_getElem hk]
  rfl
section
variable {d gl : Int} {gs : List (List Int)}
theorem rowsOf_width (h : check d gs gl = 0) {r : List UInt8} (hr : r ∈ rowsOf d gs gl) : r.length = d.toNat := by
  rw [rowsOf_ok h] at hr
  exact rows_width hr
theorem rowsOf_at (h : check d gs gl = 0) {k : Nat} (hk : k < (rowsOf d gs gl).length) : ((rowsOf d gs gl).getD k []).length = d.toNat := by
  rw [List.getD_eq_getElem?_getD, List.getElem?_eq_getElem hk]
  exact rowsOf_width h (List.getElem_mem hk)
theorem rowsOf_len (h : check d gs gl = 0) : ((rowsOf d gs gl).length : Int) = d + gs.length + gl := by
  have hk := check_ok h
  rw [rowsOf_ok h, rows_len]
  omega
theorem encode_fits (h : check d gs gl = 0) (data : List UInt8) {k : Nat} (hk : k < (rowsOf d gs gl).length) : Fits d.toNat (sizeN d.toNat data.length) (dataAt d.toNat data) ((rowsOf d gs gl).getD k []) ((encode d gl gs data).getD k []) := by
  have hc := check_ok h
  rw [encode_get hk]
  exact comb_fits (by omega) data (rowsOf_at h hk)
theorem encode_even (h : check d gs gl = 0) (data : List UInt8) {k : Nat} (hk : k < (rowsOf d gs gl).length) : ((encode d gl gs data).getD k []).length = sizeN d.toNat data.length := (encode_fits h data hk).1
theorem can_def {m : Nat} : can d gl gs (m : Int) = true ↔ check d gs gl = 0 ∧ m < 2 ^ (rowsOf d gs gl).length ∧ (stairs d.toNat (pick (rowsOf d gs gl) m)).length = d.toNat := by
  unfold can
  rw [decide_eq_true_eq, Int.toNat_natCast, nat_pow_cast]
  constructor
  · rintro ⟨h1, _, h2, h3⟩; exact ⟨h1, by omega, h3⟩
  · rintro ⟨h1, h2, h3⟩; exact ⟨h1, by omega, by omega, h3⟩
theorem col_good (h : check d gs gl = 0) (m : Nat) (pieces : List (List UInt8)) : Stairs d.toNat (col d.toNat (rowsOf d gs gl) m pieces).1 ∧ (col d.toNat (rowsOf d gs gl) m pieces).1 = stairs d.toNat (pick (rowsOf d gs gl) m) := by
  have h1 := colTo_rows (n := d.toNat) (rows := rowsOf d gs gl) m pieces _ (Nat.le_refl _)
  refine ⟨?_, h1⟩
  unfold col
  rw [h1]
  exact (stairs_good fun r hr => rowsOf_width h (pickTo_mem hr)).1
/-- The rows in order, as a triangle. -/
theorem col_tri (h : check d gs gl = 0) {m : Nat} (hc : can d gl gs (m : Int) = true) (pieces : List (List UInt8)) :
    Tri d.toNat (byOrd (col d.toNat (rowsOf d gs gl) m pieces).1 (ordTo (col d.toNat (rowsOf d gs gl) m pieces).1 d.toNat)) := by
  obtain ⟨h1, h2⟩ := col_good h m pieces
  have h3 := (can_def.1 hc).2.2
  rw [← h2] at h3
  obtain ⟨S, hS⟩ : ∃ S, (col d.toNat (rowsOf d gs gl) m pieces).1 = S := ⟨_, rfl⟩
  rw [hS] at h1 h3 ⊢
  obtain ⟨o1, o2⟩ := ordTo_spec h1 h3 d.toNat (Nat.le_refl _)
  have hget : ∀ k, k < d.toNat → (byOrd S (ordTo S d.toNat)).getD k [] ∈ S := fun k hk => by
    rw [byOrd_get (by omega), List.getD_eq_getElem?_getD, List.getElem?_eq_getElem (o2 k hk).1]
    exact List.getElem_mem _
  have hfst : ∀ k, k < d.toNat → firstNZ ((byOrd S (ordTo S d.toNat)).getD k []) = k := fun k hk => by
    rw [byOrd_get (by omega)]; exact (o2 k hk).2
  refine ⟨by rw [byOrd_len, o1], fun k hk => h1.len _ (hget k hk), hfst, fun k hk => ?_⟩
  have := h1.one _ (hget k hk)
  rw [hfst k hk] at this
  exact this
theorem solved_len (d gl : Int) (gs : List (List Int)) (m : Nat) (pieces : List (List UInt8)) : (solved d gl gs m pieces).length = d.toNat := solTo_len _ _ _ _
theorem solved_even (h : check d gs gl = 0) {m L : Nat} (hc : can d gl gs (m : Int) = true) {pieces : List (List UInt8)} (hp : ∀ k, k < (rowsOf d gs gl).length → bitAt m k = 1 → (pieces.getD k []).length = L) {i : Nat} (hi : i < d.toNat) : ((solved d gl gs m pieces).getD i []).length = L := by
  obtain ⟨h1, h2⟩ := col_good h m pieces
  have h3 := (can_def.1 hc).2.2
  rw [← h2] at h3
  have hT := col_tri h hc pieces
  have he := colTo_even (n := d.toNat) (rows := rowsOf d gs gl) m pieces hp _ (Nat.le_refl _)
  have hl : (col d.toNat (rowsOf d gs gl) m pieces).2.length = (col d.toNat (rowsOf d gs gl) m pieces).1.length := colTo_len _ _ _
  obtain ⟨o1, o2⟩ := ordTo_spec h1 h3 d.toNat (Nat.le_refl _)
  unfold solved sol
  rw [hT.len]
  refine solTo_even hT (fun k hk => ?_) _ (Nat.le_refl _) i (by omega) hi
  rw [byOrd_get (by omega)]
  exact he.get (by show _ < (col _ _ _ _).2.length; rw [hl]; exact (o2 k hk).1)
/-- Pieces that fit a chunk are solved for its data pieces. -/
theorem solved_data (h : check d gs gl = 0) {m : Nat} (hc : can d gl gs (m : Int) = true) {pieces : List (List UInt8)} {data : List UInt8} (hp : ∀ k, k < (rowsOf d gs gl).length → bitAt m k = 1 → pieces.getD k [] = (encode d gl gs data).getD k []) : solved d gl gs m pieces = cuts d.toNat data := by
  have hk := check_ok h
  obtain ⟨h1, h2⟩ := col_good h m pieces
  have h3 := (can_def.1 hc).2.2
  rw [← h2] at h3
  have hT := col_tri h hc pieces
  have hf := colTo_fits (n := d.toNat) (rows := rowsOf d gs gl) m pieces (fun r hr => rowsOf_width h hr) (fun k hk hb => by rw [hp k hk hb]; exact encode_fits h data hk) _ (Nat.le_refl _)
  have hl : ∀ {i : Nat}, i < d.toNat → ((solved d gl gs m pieces).getD i []).length = sizeN d.toNat data.length := fun hi => solved_even h hc (pieces := pieces) (fun k hk hb => by rw [hp k hk hb]; exact encode_even h data hk) hi
  obtain ⟨o1, o2⟩ := ordTo_spec h1 h3 d.toNat (Nat.le_refl _)
  have hx : ∀ i, i < d.toNat → ∀ x, x < sizeN d.toNat data.length → ((solved d gl gs m pieces).getD i []).getD x 0 = dataAt d.toNat data i x := fun i hi x hx => by
    unfold solved sol
    rw [hT.len]
    refine solTo_fits (D := dataAt d.toNat data) hT (fun k hk => ?_) _ (Nat.le_refl _) i (by omega) hi x hx
    rw [byOrd_get (by omega), byOrd_get (by omega)]
    exact hf _ (o2 k hk).1
  apply List.ext_getElem
  · rw [solved_len, cuts_len]
  · intro i i1 i2
    have hi : i < d.toNat := by rw [solved_len] at i1; exact i1
    have e1 : (solved d gl gs m pieces)[i] = (solved d gl gs m pieces).getD i [] := by rw [List.getD_eq_getElem?_getD, List.getElem?_eq_getElem i1]; rfl
    have e2 : (cuts d.toNat data)[i] = (cuts d.toNat data).getD i [] := by rw [List.getD_eq_getElem?_getD, List.getElem?_eq_getElem i2]; rfl
    rw [e1, e2]
    apply List.ext_getElem
    · rw [hl hi, cuts_even (by omega) data hi]
    · intro x x1 x2
      have hxx : x < sizeN d.toNat data.length := by rw [hl hi] at x1; exact x1
      have := hx i hi x hxx
      unfold dataAt at this
      rw [List.getD_eq_getElem?_getD, List.getElem?_eq_getElem x1, List.getD_eq_getElem?_getD (i := x), List.getElem?_eq_getElem x2] at this
      exact this
theorem chunk_data (h : check d gs gl = 0) {m : Nat} (hc : can d gl gs (m : Int) = true) {pieces : List (List UInt8)} {data : List UInt8} (hp : ∀ k, k < (rowsOf d gs gl).length → bitAt m k = 1 → pieces.getD k [] = (encode d gl gs data).getD k []) : chunkOf d gl gs data.length m pieces = data := by
  have hk := check_ok h
  rw [chunkOf, solved_data h hc hp, cuts_flat (by omega), fill_take]
theorem badArgs_not {n m : Nat} {pieces : List (List UInt8)} (hn : n ≤ 4096) (hm : m < 2 ^ (rowsOf d gs gl).length) (hp : pieces.length = (rowsOf d gs gl).length) : badArgs d gl gs (n : Int) (m : Int) pieces = false := by
  unfold badArgs
  rw [decide_eq_false_iff_not]
  omega
/-- DECODE UNDOES ENCODE. -/
theorem dec_enc (h : check d gs gl = 0) {m : Nat} (hc : can d gl gs (m : Int) = true) {pieces : List (List UInt8)} {data : List UInt8} (hl : data.length ≤ 4096) (hpl : pieces.length = (rowsOf d gs gl).length) (hp : ∀ k, k < (rowsOf d gs gl).length → bitAt m k = 1 → pieces.getD k [] = (encode d gl gs data).getD k []) :
    decE d gl gs (data.length : Int) (m : Int) pieces = 0 ∧ decS d gl gs (data.length : Int) (m : Int) pieces = data := by
  have hb1 := badArgs_not hl (can_def.1 hc).2.1 hpl
  have hb2 : badLen (sizeN d.toNat ((data.length : Int)).toNat) ((m : Int)).toNat pieces = false := by
    rw [Int.toNat_natCast, Int.toNat_natCast, ← Bool.not_eq_true, badLen_iff]
    rintro ⟨k, h1, h2, h3⟩
    rw [hpl] at h1
    rw [hp k h1 h2, encode_even h data h1] at h3
    exact h3 rfl
  have hch := chunk_data h hc hp
  have hb3 : badOne ((m : Int)).toNat (encode d gl gs (chunkOf d gl gs ((data.length : Int)).toNat ((m : Int)).toNat pieces)) pieces = false := by
    rw [Int.toNat_natCast, Int.toNat_natCast, hch, ← Bool.not_eq_true, badOne_iff]
    rintro ⟨k, h1, h2, h3⟩
    rw [hpl] at h1
    exact h3 (hp k h1 h2).symm
  have he := decE_ok h hb1 hb2 hc hb3
  refine ⟨he, ?_⟩
  rw [decS_ok he, Int.toNat_natCast, Int.toNat_natCast, hch]
end
end Cd

/- THE WALKS over checked, Detects and Corrects of package locate. -/
namespace Lo
section
variable {d gl : Int} {gs : List (List Int)} {m wrong : Int}
/-- The error of a code and a set. -/
def chkE (d gl : Int) (gs : List (List Int)) (m : Int) : Int := if Cd.check d gs gl ≠ 0 then Cd.check d gs gl else if m < 0 ∨ ((2 ^ (Cd.rowsOf d gs gl).length : Nat) : Int) ≤ m then 1 else 0
theorem chkE_bad (h : Cd.check d gs gl ≠ 0) : chkE d gl gs m = Cd.check d gs gl := if_pos h
theorem chkE_arg (h : Cd.check d gs gl = 0) (h2 : m < 0 ∨ ((2 ^ (Cd.rowsOf d gs gl).length : Nat) : Int) ≤ m) : chkE d gl gs m = 1 := by unfold chkE; rw [if_neg (by rw [h]; simp), if_pos h2]
theorem chkE_fine (h : Cd.check d gs gl = 0) (h2 : ¬ (m < 0 ∨ ((2 ^ (Cd.rowsOf d gs gl).length : Nat) : Int) ≤ m)) : chkE d gl gs m = 0 := by unfold chkE; rw [if_neg (by rw [h]; simp), if_neg h2]
theorem chkE_ok (h : chkE d gl gs m = 0) : Cd.check d gs gl = 0 ∧ 0 ≤ m ∧ m < ((2 ^ (Cd.rowsOf d gs gl).length : Nat) : Int) := by
  by_cases h0 : Cd.check d gs gl = 0
  · by_cases h1 : m < 0 ∨ ((2 ^ (Cd.rowsOf d gs gl).length : Nat) : Int) ≤ m
    · rw [chkE_arg h0 h1] at h; cases h
    · exact ⟨h0, by omega, by omega⟩
  · rw [chkE_bad h0] at h; exact absurd h h0
def detE (d gl : Int) (gs : List (List Int)) (m wrong : Int) : Int := if chkE d gl gs m ≠ 0 then chkE d gl gs m else if wrong < 0 ∨ 4 < wrong then 3 else 0
def detB (d gl : Int) (gs : List (List Int)) (m wrong : Int) : Bool := if detE d gl gs m wrong = 0 then suffP (fun t => Cd.can d gl gs (t : Int)) m.toNat (Cd.rowsOf d gs gl).length (wrong.toNat) else false
theorem det_bad (h : chkE d gl gs m ≠ 0) : detB d gl gs m wrong = false ∧ detE d gl gs m wrong = chkE d gl gs m := by
  have h1 : detE d gl gs m wrong = chkE d gl gs m := if_pos h
  exact ⟨by unfold detB; rw [if_neg (by rw [h1]; exact h)], h1⟩
theorem det_range (h : chkE d gl gs m = 0) (h2 : wrong < 0 ∨ 4 < wrong) : detB d gl gs m wrong = false ∧ detE d gl gs m wrong = 3 := by
  have h1 : detE d gl gs m wrong = 3 := by unfold detE; rw [if_neg (by rw [h]; simp), if_pos h2]
  exact ⟨by unfold detB; rw [if_neg (by rw [h1]; decide)], h1⟩
theorem det_ok (h : chkE d gl gs m = 0) (h2 : ¬ (wrong < 0 ∨ 4 < wrong)) : detB d gl gs m wrong = suffP (fun t => Cd.can d gl gs (t : Int)) m.toNat (Cd.rowsOf d gs gl).length (wrong.toNat) ∧ detE d gl gs m wrong = 0 := by
  have h1 : detE d gl gs m wrong = 0 := by unfold detE; rw [if_neg (by rw [h]; simp), if_neg h2]
  exact ⟨by unfold detB; rw [if_pos h1], h1⟩
def corE (d gl : Int) (gs : List (List Int)) (m wrong : Int) : Int := if chkE d gl gs m ≠ 0 then chkE d gl gs m else if wrong < 0 ∨ 2 < wrong then 3 else 0
def corB (d gl : Int) (gs : List (List Int)) (m wrong : Int) : Bool := if corE d gl gs m wrong = 0 then suffP (fun t => Cd.can d gl gs (t : Int)) m.toNat (Cd.rowsOf d gs gl).length (2 * wrong.toNat) else false
theorem cor_bad (h : chkE d gl gs m ≠ 0) : corB d gl gs m wrong = false ∧ corE d gl gs m wrong = chkE d gl gs m := by
  have h1 : corE d gl gs m wrong = chkE d gl gs m := if_pos h
  exact ⟨by unfold corB; rw [if_neg (by rw [h1]; exact h)], h1⟩
theorem cor_range (h : chkE d gl gs m = 0) (h2 : wrong < 0 ∨ 2 < wrong) : corB d gl gs m wrong = false ∧ corE d gl gs m wrong = 3 := by
  have h1 : corE d gl gs m wrong = 3 := by unfold corE; rw [if_neg (by rw [h]; simp), if_pos h2]
  exact ⟨by unfold corB; rw [if_neg (by rw [h1]; decide)], h1⟩
theorem cor_ok (h : chkE d gl gs m = 0) (h2 : ¬ (wrong < 0 ∨ 2 < wrong)) : corB d gl gs m wrong = suffP (fun t => Cd.can d gl gs (t : Int)) m.toNat (Cd.rowsOf d gs gl).length (2 * wrong.toNat) ∧ corE d gl gs m wrong = 0 := by
  have h1 : corE d gl gs m wrong = 0 := by unfold corE; rw [if_neg (by rw [h]; simp), if_neg h2]
  exact ⟨by unfold corB; rw [if_pos h1], h1⟩
end
end Lo
namespace Go.Proofs.YtggfkpalkdkbdaaDoor
open Go.RowKit
set_option maxHeartbeats 8000000 in
set_option maxRecDepth 100000 in
theorem lChecked_any (d gl : Int) (gs : List (List Int)) (m : Int) (G : Value) (w : World) (hG : Rs (Rs RI) w G gs) :
    Calls Tryd.prog 29 #[.agg #[.int .i64 d, G, .int .i64 gl], .int .i64 m] w fun e w' => e = .returned (.int .i64 (Lo.chkE d gl gs m)) ∧ Ext w w' := by
  obtain ⟨GA, Gc, rfl, _⟩ := hG.form
  obtain ⟨ng, hng⟩ : ∃ ng, gs.length = ng := ⟨_, rfl⟩
  rw [hng] at hG ⊢
  have hB : Owns w (w.alloc (.cells #[.int .i64 d, .slice GA ng Gc, .int .i64 gl] 24)) [⟨.slice (some ⟨w.heap.size, 0, none⟩) 3 3, 24, 1, 3, [.int .i64 d, .slice GA ng Gc, .int .i64 gl]⟩] := (Owns.start w (L := [no]) (by intro r hr; simp at hr; subst hr; exact ⟨rfl, rfl, rfl⟩)).new 0 #[.int .i64 d, .slice GA ng Gc, .int .i64 gl] 24 (by simp [maxLen])
  have HG := Lib.hid hG
  have HB := Lib.hid hB
  clear hG hB hng
  go_enter Tryd.func29, Tryd.ntmps29
  go_upto_region 1 with fail
  obtain ⟨C, hC⟩ : ∃ C, w.heap.size = C := ⟨_, rfl⟩
  rw [hC] at HB ⊢
  obtain ⟨w1, hw1⟩ : ∃ x, w.alloc (.cells #[.int .i64 d, .slice GA ng Gc, .int .i64 gl] 24) = x := ⟨_, rfl⟩
  rw [hw1] at HB ⊢
  clear hw1 hC
  have b0 : w1.cell? ⟨C, 0, none⟩ = some (.int .i64 d) := HB.out.cell 0 rfl 0 rfl
  have b1 : w1.cell? ⟨C, 1, none⟩ = some (.slice GA ng Gc) := HB.out.cell 0 rfl 1 rfl
  have b2 : w1.cell? ⟨C, 2, none⟩ = some (.int .i64 gl) := HB.out.cell 0 rfl 2 rfl
  have HCK := Lib.hid (cCheck_any d gl gs _ w1 (Rs.ext (Rs.ext RI.ext) _ _ _ _ HB.out.ext HG.out))
  go_wp2_with fail
  refine HCK.out.mono ?_
  clear HCK
  rintro e w2 ⟨rfl, hx2⟩
  have HB2 := Lib.hid (HB.out.next hx2)
  clear hx2 b0 b1 b2
  obtain ⟨ck, hck⟩ : ∃ ck, Cd.check d gs gl = ck := ⟨_, rfl⟩
  rw [hck]
  have HC := Lib.hid hck
  clear hck
  by_cases h0 : ck = 0
  case neg =>
    have hne : (ck == 0) = false := by rw [beq_eq_false_iff_ne]; exact h0
    have hne2 : (ck != 0) = true := by rw [bne_iff_ne]; exact h0
    have HE := Lib.hid (Lo.chkE_bad (m := m) (show Cd.check d gs gl ≠ 0 by rw [HC.out]; exact h0))
    clear h0
    go_wp2_with fail
    go_ret
    exact ⟨by rw [HE.out, HC.out]; rfl, HB2.out.ext⟩
  case pos =>
    subst h0
    by_cases hm0 : m < 0
    · have HE := Lib.hid (Lo.chkE_arg HC.out (Or.inl hm0))
      go_wp2_with fail
      go_ret
      exact ⟨by rw [HE.out]; rfl, HB2.out.ext⟩
    · have hpc := cPieces_any d gl gs _ w2 (Rs.ext (Rs.ext RI.ext) _ _ _ _ HB2.out.ext HG.out)
      have hpn : Cd.pieces d gs gl = ((Cd.rowsOf d gs gl).length : Int) := by rw [Cd.pieces_ok HC.out, ← Cd.rowsOf_len HC.out]
      have hn24 : (Cd.rowsOf d gs gl).length ≤ 24 := by have h1 := Cd.rowsOf_len HC.out; have h2 := Cd.check_ok HC.out; omega
      obtain ⟨n, hn⟩ : ∃ n, (Cd.rowsOf d gs gl).length = n := ⟨_, rfl⟩
      rw [hpn, hn] at hpc
      rw [hn] at hn24
      obtain ⟨M, hM⟩ : ∃ M, 2 ^ n = M := ⟨_, rfl⟩
      have hMw : IntKind.i64.wrap (2 ^ n) = (M : Int) := by
        have h := wrap_pow n (by omega)
        rw [IntKind.wrap_i64, ← hM]
        unfold wrap64 at h
        exact h
      have HP := Lib.hid hpc
      have HN := Lib.hid (And.intro hn hM)
      have b0 : w2.cell? ⟨C, 0, none⟩ = some (.int .i64 d) := HB2.out.cell 0 rfl 0 rfl
      have b1 : w2.cell? ⟨C, 1, none⟩ = some (.slice GA ng Gc) := HB2.out.cell 0 rfl 1 rfl
      have b2 : w2.cell? ⟨C, 2, none⟩ = some (.int .i64 gl) := HB2.out.cell 0 rfl 2 rfl
      clear hpc hpn hn hM
      go_wp2_with fail
      refine HP.out.mono ?_
      clear HP
      rintro e w3 ⟨rfl, hx3⟩
      have HX := Lib.hid (HB2.out.ext.trans hx3)
      clear hx3 b0 b1 b2
      by_cases hmM : (M : Int) ≤ m
      · have HE := Lib.hid (Lo.chkE_arg HC.out (Or.inr (show ((2 ^ (Cd.rowsOf d gs gl).length : Nat) : Int) ≤ m by rw [HN.out.1, HN.out.2]; exact hmM)))
        go_wp2_with fail
        go_ret
        exact ⟨by rw [HE.out]; rfl, HX.out⟩
      · have HE := Lib.hid (Lo.chkE_fine (m := m) HC.out (by rw [HN.out.1, HN.out.2]; omega))
        go_wp2_with fail
        go_ret
        exact ⟨by rw [HE.out]; rfl, HX.out⟩
set_option maxHeartbeats 8000000 in
set_option maxRecDepth 100000 in
theorem lDetects_any (d gl : Int) (gs : List (List Int)) (m wrong : Int) (G : Value) (w : World) (hT : Tab w) (hG : Rs (Rs RI) w G gs) (hP : Cd.check d gs gl = 0 → (Cd.rowsOf d gs gl).length ≤ 14) :
    Calls Tryd.prog 11 #[.agg #[.int .i64 d, G, .int .i64 gl], .int .i64 m, .int .i64 wrong] w fun e w' => e = .returned (.tuple #[.bool (Lo.detB d gl gs m wrong), .int .i64 (Lo.detE d gl gs m wrong)]) ∧ Ext w w' := by
  obtain ⟨GA, Gc, rfl, _⟩ := hG.form
  obtain ⟨ng, hng⟩ : ∃ ng, gs.length = ng := ⟨_, rfl⟩
  rw [hng] at hG ⊢
  have hB : Owns w (w.alloc (.cells #[.int .i64 d, .slice GA ng Gc, .int .i64 gl] 24)) [⟨.slice (some ⟨w.heap.size, 0, none⟩) 3 3, 24, 1, 3, [.int .i64 d, .slice GA ng Gc, .int .i64 gl]⟩] := (Owns.start w (L := [no]) (by intro r hr; simp at hr; subst hr; exact ⟨rfl, rfl, rfl⟩)).new 0 #[.int .i64 d, .slice GA ng Gc, .int .i64 gl] 24 (by simp [maxLen])
  have HG := Lib.hid hG
  have HB := Lib.hid hB
  clear hG hB hng
  have HT := Lib.hid (hT.ext HB.out.ext)
  have HP := Lib.hid hP
  clear hT hP
  go_enter Tryd.func11, Tryd.ntmps11
  go_upto_region 1 with fail
  obtain ⟨C, hC⟩ : ∃ C, w.heap.size = C := ⟨_, rfl⟩
  rw [hC] at HB ⊢
  obtain ⟨w1, hw1⟩ : ∃ x, w.alloc (.cells #[.int .i64 d, .slice GA ng Gc, .int .i64 gl] 24) = x := ⟨_, rfl⟩
  rw [hw1] at HB HT ⊢
  clear hw1 hC
  have b0 : w1.cell? ⟨C, 0, none⟩ = some (.int .i64 d) := HB.out.cell 0 rfl 0 rfl
  have b1 : w1.cell? ⟨C, 1, none⟩ = some (.slice GA ng Gc) := HB.out.cell 0 rfl 1 rfl
  have b2 : w1.cell? ⟨C, 2, none⟩ = some (.int .i64 gl) := HB.out.cell 0 rfl 2 rfl
  have HCK := Lib.hid (lChecked_any d gl gs m _ w1 (Rs.ext (Rs.ext RI.ext) _ _ _ _ HB.out.ext HG.out))
  go_wp2_with fail
  refine HCK.out.mono ?_
  clear HCK
  rintro e w2 ⟨rfl, hx2⟩
  have HB2 := Lib.hid (HB.out.next hx2)
  have HT2 := Lib.hid (HT.out.ext hx2)
  clear hx2 b0 b1 b2 HT
  obtain ⟨er, her⟩ : ∃ er, Lo.chkE d gl gs m = er := ⟨_, rfl⟩
  rw [her]
  have HER := Lib.hid her
  clear her
  by_cases h0 : er = 0
  case neg =>
    have hne : (er == 0) = false := by rw [beq_eq_false_iff_ne]; exact h0
    have hne2 : (er != 0) = true := by rw [bne_iff_ne]; exact h0
    have hr := Lo.det_bad (wrong := wrong) (show Lo.chkE d gl gs m ≠ 0 by rw [HER.out]; exact h0)
    rw [HER.out] at hr
    have HR := Lib.hid hr
    clear hr h0
    go_wp2_with fail
    go_ret2
    rw [HR.out.1, HR.out.2]
    exact ⟨rfl, HB2.out.ext⟩
  case pos =>
    subst h0
    obtain ⟨hck, hm0, hm1⟩ := Lo.chkE_ok HER.out
    obtain ⟨M, rfl⟩ : ∃ M : Nat, m = M := ⟨m.toNat, by omega⟩
    have hm2 : M < 2 ^ (Cd.rowsOf d gs gl).length := by omega
    have hP14 := HP.out hck
    have HK := Lib.hid (And.intro hm2 hP14)
    clear hck hm0 hm1 hm2 hP14
    by_cases hw0 : wrong < 0
    · have hr := Lo.det_range HER.out (show wrong < 0 ∨ 4 < wrong from Or.inl hw0)
      have HR := Lib.hid hr
      clear hr
      go_wp2_with fail
      go_ret2
      rw [HR.out.1, HR.out.2]
      exact ⟨rfl, HB2.out.ext⟩
    · by_cases hw4 : 4 < wrong
      · have hr := Lo.det_range HER.out (show wrong < 0 ∨ 4 < wrong from Or.inr hw4)
        have HR := Lib.hid hr
        clear hr
        go_wp2_with fail
        go_ret2
        rw [HR.out.1, HR.out.2]
        exact ⟨rfl, HB2.out.ext⟩
      · obtain ⟨e, rfl⟩ : ∃ e : Nat, wrong = e := ⟨wrong.toNat, by omega⟩
        have hr := Lo.det_ok HER.out (show ¬ ((e : Int) < 0 ∨ 4 < (e : Int)) by omega)
        rw [Int.toNat_natCast, Int.toNat_natCast] at hr
        have HR := Lib.hid hr
        have HS := Lib.hid (lSuff_any d gl gs M (e) (Cd.rowsOf d gs gl).length _ w2 HT2.out (Rs.ext (Rs.ext RI.ext) _ _ _ _ HB2.out.ext HG.out) HK.out.1 HK.out.2)
        have b0 : w2.cell? ⟨C, 0, none⟩ = some (.int .i64 d) := HB2.out.cell 0 rfl 0 rfl
        have b1 : w2.cell? ⟨C, 1, none⟩ = some (.slice GA ng Gc) := HB2.out.cell 0 rfl 1 rfl
        have b2 : w2.cell? ⟨C, 2, none⟩ = some (.int .i64 gl) := HB2.out.cell 0 rfl 2 rfl
        clear hr
        go_wp2_with fail
        refine HS.out.mono ?_
        clear HS
        rintro e2 w3 ⟨rfl, hx3⟩
        obtain ⟨bb, hbb⟩ : ∃ bb, Lo.suffP (fun t => Cd.can d gl gs (t : Int)) M (Cd.rowsOf d gs gl).length (e) = bb := ⟨_, rfl⟩
        have HX := Lib.hid (And.intro (HB2.out.ext.trans hx3) hbb)
        rw [hbb]
        clear hx3 b0 b1 b2 hbb
        go_wp2_with fail
        go_ret2
        rw [HR.out.1, HR.out.2, HX.out.2]
        exact ⟨rfl, HX.out.1⟩
set_option maxHeartbeats 8000000 in
set_option maxRecDepth 100000 in
theorem lCorrects_any (d gl : Int) (gs : List (List Int)) (m wrong : Int) (G : Value) (w : World) (hT : Tab w) (hG : Rs (Rs RI) w G gs) (hP : Cd.check d gs gl = 0 → (Cd.rowsOf d gs gl).length ≤ 14) :
    Calls Tryd.prog 12 #[.agg #[.int .i64 d, G, .int .i64 gl], .int .i64 m, .int .i64 wrong] w fun e w' => e = .returned (.tuple #[.bool (Lo.corB d gl gs m wrong), .int .i64 (Lo.corE d gl gs m wrong)]) ∧ Ext w w' := by
  obtain ⟨GA, Gc, rfl, _⟩ := hG.form
  obtain ⟨ng, hng⟩ : ∃ ng, gs.length = ng := ⟨_, rfl⟩
  rw [hng] at hG ⊢
  have hB : Owns w (w.alloc (.cells #[.int .i64 d, .slice GA ng Gc, .int .i64 gl] 24)) [⟨.slice (some ⟨w.heap.size, 0, none⟩) 3 3, 24, 1, 3, [.int .i64 d, .slice GA ng Gc, .int .i64 gl]⟩] := (Owns.start w (L := [no]) (by intro r hr; simp at hr; subst hr; exact ⟨rfl, rfl, rfl⟩)).new 0 #[.int .i64 d, .slice GA ng Gc, .int .i64 gl] 24 (by simp [maxLen])
  have HG := Lib.hid hG
  have HB := Lib.hid hB
  clear hG hB hng
  have HT := Lib.hid (hT.ext HB.out.ext)
  have HP := Lib.hid hP
  clear hT hP
  go_enter Tryd.func12, Tryd.ntmps12
  go_upto_region 1 with fail
  obtain ⟨C, hC⟩ : ∃ C, w.heap.size = C := ⟨_, rfl⟩
  rw [hC] at HB ⊢
  obtain ⟨w1, hw1⟩ : ∃ x, w.alloc (.cells #[.int .i64 d, .slice GA ng Gc, .int .i64 gl] 24) = x := ⟨_, rfl⟩
  rw [hw1] at HB HT ⊢
  clear hw1 hC
  have b0 : w1.cell? ⟨C, 0, none⟩ = some (.int .i64 d) := HB.out.cell 0 rfl 0 rfl
  have b1 : w1.cell? ⟨C, 1, none⟩ = some (.slice GA ng Gc) := HB.out.cell 0 rfl 1 rfl
  have b2 : w1.cell? ⟨C, 2, none⟩ = some (.int .i64 gl) := HB.out.cell 0 rfl 2 rfl
  have HCK := Lib.hid (lChecked_any d gl gs m _ w1 (Rs.ext (Rs.ext RI.ext) _ _ _ _ HB.out.ext HG.out))
  go_wp2_with fail
  refine HCK.out.mono ?_
  clear HCK
  rintro e w2 ⟨rfl, hx2⟩
  have HB2 := Lib.hid (HB.out.next hx2)
  have HT2 := Lib.hid (HT.out.ext hx2)
  clear hx2 b0 b1 b2 HT
  obtain ⟨er, her⟩ : ∃ er, Lo.chkE d gl gs m = er := ⟨_, rfl⟩
  rw [her]
  have HER := Lib.hid her
  clear her
  by_cases h0 : er = 0
  case neg =>
    have hne : (er == 0) = false := by rw [beq_eq_false_iff_ne]; exact h0
    have hne2 : (er != 0) = true := by rw [bne_iff_ne]; exact h0
    have hr := Lo.cor_bad (wrong := wrong) (show Lo.chkE d gl gs m ≠ 0 by rw [HER.out]; exact h0)
    rw [HER.out] at hr
    have HR := Lib.hid hr
    clear hr h0
    go_wp2_with fail
    go_ret2
    rw [HR.out.1, HR.out.2]
    exact ⟨rfl, HB2.out.ext⟩
  case pos =>
    subst h0
    obtain ⟨hck, hm0, hm1⟩ := Lo.chkE_ok HER.out
    obtain ⟨M, rfl⟩ : ∃ M : Nat, m = M := ⟨m.toNat, by omega⟩
    have hm2 : M < 2 ^ (Cd.rowsOf d gs gl).length := by omega
    have hP14 := HP.out hck
    have HK := Lib.hid (And.intro hm2 hP14)
    clear hck hm0 hm1 hm2 hP14
    by_cases hw0 : wrong < 0
    · have hr := Lo.cor_range HER.out (show wrong < 0 ∨ 2 < wrong from Or.inl hw0)
      have HR := Lib.hid hr
      clear hr
      go_wp2_with fail
      go_ret2
      rw [HR.out.1, HR.out.2]
      exact ⟨rfl, HB2.out.ext⟩
    · by_cases hw4 : 2 < wrong
      · have hr := Lo.cor_range HER.out (show wrong < 0 ∨ 2 < wrong from Or.inr hw4)
        have HR := Lib.hid hr
        clear hr
        go_wp2_with fail
        go_ret2
        rw [HR.out.1, HR.out.2]
        exact ⟨rfl, HB2.out.ext⟩
      · obtain ⟨e, rfl⟩ : ∃ e : Nat, wrong = e := ⟨wrong.toNat, by omega⟩
        have hr := Lo.cor_ok HER.out (show ¬ ((e : Int) < 0 ∨ 2 < (e : Int)) by omega)
        rw [Int.toNat_natCast, Int.toNat_natCast] at hr
        have HR := Lib.hid hr
        have HS := Lib.hid (lSuff_any d gl gs M (2 * e) (Cd.rowsOf d gs gl).length _ w2 HT2.out (Rs.ext (Rs.ext RI.ext) _ _ _ _ HB2.out.ext HG.out) HK.out.1 HK.out.2)
        have b0 : w2.cell? ⟨C, 0, none⟩ = some (.int .i64 d) := HB2.out.cell 0 rfl 0 rfl
        have b1 : w2.cell? ⟨C, 1, none⟩ = some (.slice GA ng Gc) := HB2.out.cell 0 rfl 1 rfl
        have b2 : w2.cell? ⟨C, 2, none⟩ = some (.int .i64 gl) := HB2.out.cell 0 rfl 2 rfl
        clear hr
        go_wp2_with fail
        refine HS.out.mono ?_
        clear HS
        rintro e2 w3 ⟨rfl, hx3⟩
        obtain ⟨bb, hbb⟩ : ∃ bb, Lo.suffP (fun t => Cd.can d gl gs (t : Int)) M (Cd.rowsOf d gs gl).length (2 * e) = bb := ⟨_, rfl⟩
        have HX := Lib.hid (And.intro (HB2.out.ext.trans hx3) hbb)
        rw [hbb]
        clear hx3 b0 b1 b2 hbb
        go_wp2_with fail
        go_ret2
        rw [HR.out.1, HR.out.2, HX.out.2]
        exact ⟨rfl, HX.out.1⟩
end Go.Proofs.YtggfkpalkdkbdaaDoor

/- THE WALKS over Combine of package gf. -/
namespace Go.Proofs.YtggfkpalkdkbdaaDoor
open Go.RowKit

/-- Combine's closure: the byte at one place of the combination. -/
theorem comb1_any (k P1 P2 : Nat) (coef : List UInt8) (parts : List (List UInt8)) (A B : Option Addr) (n ca cb : Nat) (w : World) (hT : Tab w) (hn : n = coef.length) (hn' : n = parts.length)
    (hl : n ≤ 140737488351232) (hk : ∀ i, i < n → k < (parts.getD i []).length)
    (h1 : w.cell? ⟨P1, 0, none⟩ = some (.slice A n ca)) (h2 : w.cell? ⟨P2, 0, none⟩ = some (.slice B n cb)) (hA : Rd w A (coef.map bv)) (hB : Rd w B (parts.map fun p => .string (sb p))) :
    Calls Tryd.prog 100 #[.int .i64 k, .pointer (some ⟨P1, 0, none⟩), .pointer (some ⟨P2, 0, none⟩)] w fun e w' => e = .returned (bv (Gf.comb coef parts k coef.length)) ∧ Ext w w' := by
  have HT := Lib.hid hT
  have HA := Lib.hid hA
  have HB := Lib.hid hB
  have HK := Lib.hid hk
  have HN := Lib.hid (And.intro hn hn')
  clear hT hA hB hk hn hn'
  go_enter Tryd.func100, Tryd.ntmps100
  go_wp2_with fail
  go_loop [5, 10] (fun vx vi => ∃ i : Nat, i ≤ n ∧ vi = .int .i64 i ∧ vx = bv (Gf.comb coef parts k i)) (fun _ vi => n - (intOf vi).toNat)
  case atStart => exact ⟨0, Nat.zero_le _, rfl, rfl⟩
  case round =>
    obtain ⟨i, hi, rfl, rfl⟩ := hrel
    by_cases hlt : i < n
    · have hlc : i < coef.length := by rw [← HN.out.1]; exact hlt
      have hlp : i < parts.length := by rw [← HN.out.2]; exact hlt
      obtain ⟨ad, rfl, _, ha⟩ := HA.out.at (k := i) (by simpa using hlc)
      obtain ⟨bd, rfl, _, hb⟩ := HB.out.at (k := i) (by simpa using hlp)
      rw [List.getElem_map] at ha hb
      have hkk : k < (sb parts[i]).size := by
        have := HK.out i hlt
        rw [List.getD_eq_getElem?_getD, List.getElem?_eq_getElem hlp] at this
        simpa using this
      have hstep : Gf.comb coef parts k (i + 1) = Gf.comb coef parts k i ^^^ Gf.mul coef[i] ((sb parts[i])[k]'hkk) := by
        rw [Gf.comb, get_bl, List.getD_eq_getElem?_getD, List.getElem?_eq_getElem hlc, List.getD_eq_getElem?_getD (l := parts), List.getElem?_eq_getElem hlp, List.getD_eq_getElem?_getD]
        simp only [Option.getD_some]
        rw [List.getElem?_eq_getElem (by simpa using hkk)]
        rfl
      have hx : bits .xor .u8 ((Gf.comb coef parts k i).toNat : Int) ((Gf.mul coef[i] ((sb parts[i])[k]'hkk)).toNat : Int) = ((Gf.comb coef parts k (i + 1)).toNat : Int) := by
        rw [u8_xor_nat _ _ (Gf.lt8 _) (Gf.lt8 _), hstep, UInt8.toNat_xor]
      have HX := Lib.hid hx
      clear hx hstep
      go_wp2_with fail
      refine (mul_u8 _ _ _ HT.out).mono ?_
      rintro e w' ⟨rfl, rfl⟩
      go_wp2_with fail
      go_round
      case rel => exact ⟨i + 1, by omega, by go_num, by rw [HX.out]⟩
      case measure => simp [intOf]; omega
    · obtain rfl : i = n := by omega
      have HI := Lib.hid HN.out.1
      go_wp2_with fail
      go_ret
      exact ⟨by rw [← HI.out]; rfl, Ext.refl _⟩

theorem enters100 : ∀ args w, (callFunc 100 args).run Tryd.prog w = .ok (.enter 100 args) w := enters_of Tryd.func100 (by kernel_rfl) rfl

theorem combine_ne (A B : Option Addr) (n m ca cb : Nat) (w : World) (hne : n ≠ m) :
    Calls Tryd.prog 80 #[.slice A n ca, .slice B m cb] w fun e w' => e = .returned (.tuple #[.string (sb []), .int .i64 1]) ∧ Ext w w' := by
  have h1 : ((n : Int) != (m : Int)) = true := by rw [bne_iff_ne]; omega
  clear hne
  go_enter Tryd.func80, Tryd.ntmps80
  go_wp2_with fail
  go_ret2
  exact ⟨rfl, ((Ext.refl _).alloc _).alloc _⟩
/-- The length that Combine has taken after i parts. -/
def headN (parts : List (List UInt8)) (i : Nat) : Nat := if i = 0 then 0 else (parts.headD []).length
theorem combine_eq (coef : List UInt8) (parts : List (List UInt8)) (A B : Option Addr) (n ca cb : Nat) (w : World) (hT : Tab w) (hn : n = coef.length) (hn' : n = parts.length)
    (hl : n ≤ 140737488351232) (hs : ∀ p ∈ parts, p.length ≤ 140737488351232) (hA : Rd w A (coef.map bv)) (hB : Rd w B (parts.map fun p => .string (sb p))) :
    Calls Tryd.prog 80 #[.slice A n ca, .slice B n cb] w fun e w' => e = .returned (.tuple #[.string (sb (Gf.combS coef parts)), .int .i64 (Gf.combE coef parts)]) ∧ Ext w w' := by
  have HT := Lib.hid hT
  have HA := Lib.hid hA
  have HB := Lib.hid hB
  have HS := Lib.hid hs
  have HN := Lib.hid (And.intro hn hn')
  clear hT hA hB hs hn hn'
  go_enter Tryd.func80, Tryd.ntmps80
  go_wp2_with fail
  have hW : Ext w ((w.alloc (.cells #[.slice A n ca] 48)).alloc (.cells #[.slice B n cb] 34)) := ((Ext.refl w).alloc _).alloc _
  have HW := Lib.hid hW
  clear hW
  go_loop [6, 16] (fun vn vi => ∃ i : Nat, i ≤ n ∧ vi = .int .i64 i ∧ vn = .int .i64 (headN parts i : Nat) ∧ Hid (∀ j, j < i → (parts.getD j []).length = (parts.headD []).length)) (fun _ vi => n - (intOf vi).toNat)
  case atStart => exact ⟨0, Nat.zero_le _, rfl, rfl, fun j hj => absurd hj (by omega)⟩
  case round =>
    obtain ⟨i, hi, rfl, rfl, HJ⟩ := hrel
    by_cases hlt : i < n
    · have hlp : i < parts.length := by rw [← HN.out.2]; exact hlt
      obtain ⟨bd, rfl, _, hb⟩ := (HB.out.ext HW.out).at (k := i) (by simpa using hlp)
      rw [List.getElem_map] at hb
      have hsz : parts[i].length ≤ 140737488351232 := HS.out _ (List.getElem_mem _)
      have hgd : parts.getD i [] = parts[i] := by rw [List.getD_eq_getElem?_getD, List.getElem?_eq_getElem hlp]; rfl
      have HG := Lib.hid hgd
      clear hgd
      by_cases h0 : i = 0
      · subst h0
        have hb0 : ((w.alloc (.cells #[.slice A n ca] 48)).alloc (.cells #[.slice (some bd) n cb] 34)).cell? bd = some (.string (sb parts[0])) := hb
        have hh : (parts.headD []).length = parts[0].length := by
          cases parts with
          | nil => simp at hlp
          | cons a l => rfl
        have HH := Lib.hid hh
        clear hh
        go_wp2_with fail
        go_round
        case rel => exact ⟨1, by omega, by go_num, by rw [headN, if_neg (by omega), HH.out], fun j hj => by
          obtain rfl : j = 0 := by omega
          rw [HH.out, HG.out]⟩
        case measure => simp [intOf]; omega
      · have hn0 : headN parts i = (parts.headD []).length := if_neg h0
        have HN0 := Lib.hid hn0
        clear hn0
        by_cases he : parts[i].length = (parts.headD []).length
        · have e1 : ((parts[i].length : Int) != (headN parts i : Int)) = false := by
            rw [HN0.out, he]; simp
          have e2 : ((i : Int) == 0) = false := by rw [beq_eq_false_iff_ne]; omega
          have HE := Lib.hid he
          have H0 := Lib.hid h0
          clear he h0
          go_wp2_with fail
          go_round
          case rel => exact ⟨i + 1, by omega, by go_num, by rw [HN0.out, headN, if_neg (by omega)], fun j hj => by
            by_cases hji : j = i
            · rw [hji, HG.out, HE.out]
            · exact HJ.out j (by omega)⟩
          case measure => simp [intOf]; omega
        · have e1 : ((parts[i].length : Int) != (headN parts i : Int)) = true := by
            rw [HN0.out, bne_iff_ne]; omega
          have e2 : ((i : Int) == 0) = false := by rw [beq_eq_false_iff_ne]; omega
          have hno : Gf.combOk coef parts = false := by
            rw [Bool.eq_false_iff]
            intro h
            unfold Gf.combOk at h
            rw [Bool.and_eq_true, List.all_eq_true] at h
            exact he (by simpa using h.2 _ (List.getElem_mem hlp))
          have HO := Lib.hid hno
          clear he h0 hno
          go_wp2_with fail
          go_ret2
          exact ⟨by rw [Gf.combS_no HO.out, Gf.combE_no HO.out]; rfl, HW.out⟩
    · obtain rfl : i = n := by omega
      have hok : Gf.combOk coef parts = true := by
        unfold Gf.combOk
        rw [Bool.and_eq_true, List.all_eq_true]
        refine ⟨by simp [← HN.out.1, ← HN.out.2], fun p hp => ?_⟩
        obtain ⟨j, hj, rfl⟩ := List.getElem_of_mem hp
        have := HJ.out j (by rw [HN.out.2]; exact hj)
        rw [List.getD_eq_getElem?_getD, List.getElem?_eq_getElem hj] at this
        simpa using this
      have hhd : headN parts i = (parts.headD []).length := by
        unfold headN
        split
        · rename_i h
          have := HN.out.2
          rw [h] at this
          cases parts with
          | nil => rfl
          | cons a l => simp at this
        · rfl
      have hle : headN parts i ≤ 140737488351232 := by
        rw [hhd]
        cases parts with
        | nil => simp
        | cons a l => exact HS.out a (by simp)
      have HO := Lib.hid hok
      have HD := Lib.hid hhd
      clear hok hhd
      go_wp2_with fail
      refine (build_any (headN parts i) hle _ _ (fun k => Gf.comb coef parts k coef.length) _ enters100 ?_).mono ?_
      · intro k hk w' hx
        refine comb1_any k _ _ coef parts A B i ca cb w' ((HT.out.ext HW.out).ext hx) HN.out.1 HN.out.2 hl (fun j hj => ?_) (hx.cell (by go_simp)) (hx.cell (by go_simp)) ((HA.out.ext HW.out).ext hx) ((HB.out.ext HW.out).ext hx)
        rw [HJ.out j hj, ← HD.out]
        exact hk
      rintro e w1 ⟨rfl, hx⟩
      go_wp2_with fail
      go_ret2
      refine ⟨?_, HW.out.trans hx⟩
      rw [Gf.combS_ok HO.out, Gf.combE_ok HO.out, Gf.combine, ← HD.out]
      rfl
/-- What Combine returns. -/
theorem combine_any (coef : List UInt8) (parts : List (List UInt8)) (A B : Option Addr) (n m ca cb : Nat) (w : World) (hT : Tab w) (hn : n = coef.length) (hm : m = parts.length)
    (hl : n ≤ 140737488351232) (hs : ∀ p ∈ parts, p.length ≤ 140737488351232) (hA : Rd w A (coef.map bv)) (hB : Rd w B (parts.map fun p => .string (sb p))) :
    Calls Tryd.prog 80 #[.slice A n ca, .slice B m cb] w fun e w' => e = .returned (.tuple #[.string (sb (Gf.combS coef parts)), .int .i64 (Gf.combE coef parts)]) ∧ Ext w w' := by
  by_cases h : n = m
  · subst h
    exact combine_eq coef parts A B n ca cb w hT hn hm hl hs hA hB
  · have h' := Gf.combOk_ne (coef := coef) (parts := parts) (by omega)
    rw [Gf.combS_no h', Gf.combE_no h']
    exact combine_ne A B n m ca cb w h
end Go.Proofs.YtggfkpalkdkbdaaDoor

/- THE WALKS over Size and Encode. -/
namespace Go.Proofs.YtggfkpalkdkbdaaDoor
open Go.RowKit
/- COPY FROM A STRING, and a part of a slice. -/
section
variable {P : Program} {w0 w : World} {L : List LRow}
theorem run_copy_str (dT sT ty elem : TypeId) (g dLen dCap : Nat) (l : List UInt8) (cur : Array Value) (t : TypeId)
    (hu : P.underlying dT = some (.slice elem)) (hs : (P.info? elem).map (·.size) = some 1) (hg : w.heap[g]? = some (.cells cur t (0, 0))) (hn : l.length ≤ dLen) (hfit : l.length ≤ cur.size) :
    (Builtin.copy_ #[dT, sT] ty #[.slice (some ⟨g, 0, none⟩) dLen dCap, .string (sb l)]).run P w = .ok (goInt l.length) (w.setRow g (l.map bv ++ cur.toList.drop l.length).toArray) := by
  have h1 : ∀ v ∈ l.map bv, v.oneCell' = true := fun v hv => by
    obtain ⟨b, _, rfl⟩ := List.mem_map.1 hv
    rfl
  have hst := run_storeCells_at P g 0 t (l.map bv) 0 cur w hg (by simpa using hfit) h1
  have hmin : Nat.min (sb l).size dLen = l.length := by rw [size_sb]; exact Nat.min_eq_left hn
  have hex : ((sb l).extract 0 l.length).data.toList = l := by simp [sb]
  have hcells : (Array.map (fun b : UInt8 => Value.int .u8 (b.toNat : Int)) ((sb l).extract 0 l.length).data).toList = l.map bv := by
    rw [Array.toList_map, hex]
  cases hq : P.info? elem with
  | none => simp [hq] at hs
  | some i =>
    simp only [Builtin.copy_, sizeOf, typeInfo, Builtin.lenOf, Builtin.firstCells, Sem.run_bind, Sem.run_pure, Result.andThen_ok, run_underlying hu, hmin, hcells, List.getElem?_toArray, List.getElem?_cons_zero, List.getElem?_cons_succ]
    have hst2 : (storeCells ⟨g, 0, none⟩ (l.map bv)).run P w = .ok () (w.setRow g (l.map bv ++ cur.toList.drop l.length).toArray) := by simpa using hst
    simp [hq, hst2]
theorem Owns.copied (h : Owns w0 w L) (i : Nat) {g n c e : Nat} {xs : List Value} (hi : L[i]? = some ⟨.slice (some ⟨g, 0, none⟩) n c, e, 1, n, xs⟩) (l : List UInt8) (hl : l.length ≤ n) :
    ∃ cur, w.heap[g]? = some (.cells cur e (0, 0)) ∧ l.length ≤ cur.size ∧ Owns w0 (w.setRow g (l.map bv ++ cur.toList.drop l.length).toArray) (L.set i ⟨.slice (some ⟨g, 0, none⟩) n c, e, 1, n, l.map bv ++ xs.drop l.length⟩) := by
  have h1 := h.row i hi
  have hB := (h1.lt g rfl).1
  rcases h1.2 with ⟨h2, _⟩ | ⟨g', cap, cur, hv, _, hg, hc, hm, hs, ht⟩
  · cases h2
  · injection hv with e1 e2 e3
    injection e1 with e1
    injection e1 with e1
    subst e1 e3
    rw [Nat.mul_one] at hs ht
    refine ⟨cur, hg, by omega, h.put i _ ?_ ?_ ?_ ?_⟩
    · exact below_setRow h.ext hB _
    · refine ⟨?_, .inr ⟨g, c, (l.map bv ++ cur.toList.drop l.length).toArray, rfl, hB, setRow_heap w g _ _ e _ hg, hc, hm, ?_, ?_⟩⟩
      · have := h1.1
        simp
        omega
      · simp
        omega
      · show List.take (n * 1) _ = _
        rw [Nat.mul_one, List.toList_toArray, List.take_append, List.take_of_length_le (by simpa using hl), ← ht, List.length_map, List.drop_take]
    · intro j r hj hr g' hg'
      have hf := h.far j i _ _ hj hr hi
      refine setRow_other w g g' _ ?_
      rintro rfl
      rcases hf with h2 | h2
      · rw [hg'] at h2; cases h2
      · exact h2 hg'
    · intro j r hj hr
      have := h.far i j _ _ (Ne.symm hj) hi hr
      exact this
theorem wpl_copy_str {ops : Array Oper} {rest : List Oper} {o : Oper} {a : Act} {Q : Exit → Act → World → Prop} (hgd : o.guard = none) (d s : Operand) (dT sT : TypeId)
    (ho : o.op = .call { callee := .builtin .copy, args := #[d, s], argTypes := #[dT, sT] }) {e : TypeId} (hu : P.underlying dT = some (.slice e)) (hsz : (P.info? e).map (·.size) = some 1)
    (h : Owns w0 w L) (i : Nat) {g n c : Nat} {xs : List Value} (hL : L[i]? = some ⟨.slice (some ⟨g, 0, none⟩) n c, e, 1, n, xs⟩) (hd : a.eval d = .slice (some ⟨g, 0, none⟩) n c) {l : List UInt8} (hs : a.eval s = .string (sb l)) (hl : l.length ≤ n)
    (hK : ∀ w', Owns w0 w' (L.set i ⟨.slice (some ⟨g, 0, none⟩) n c, e, 1, n, l.map bv ++ xs.drop l.length⟩) → wpList P ops Q rest (a.put o.dst (goInt l.length)) w') :
    wpList P ops Q (o :: rest) a w := by
  refine wpList_plain hgd fun K hK' => ?_
  obtain ⟨cur, hg, hc, hO⟩ := h.copied i hL l hl
  have hr := run_copy_str (P := P) (w := w) dT sT o.type e g n c l cur e hu hsz hg hl hc
  unfold Oper.wp execOp
  simp only [ho, resolve, invoke, builtin, Sem.run_bind, Sem.run_pure, Result.andThen_ok, List.map_toArray, List.map_cons, List.map_nil, hd, hs, hr]
  exact hK' _ _ (hK _ hO)
theorem run_part (t e : TypeId) (hu : P.underlying t = some (.slice e)) (hsz : (P.info? e).map (·.size) = some 1) (ad : Addr) (n c l h : Nat) (hlh : l ≤ h) (hhc : h ≤ c) :
    (Instr.sliceAt t (.slice (some ad) n c) (some (.int .i64 (l : Int))) (some (.int .i64 (h : Int))) none).run P w = .ok (.slice (if c = l then some ad else some (ad.add l)) (h - l) (c - l)) w := by
  have e1 : (0 : Int) ≤ (h : Int) ∧ (h : Int) ≤ (c : Int) := by omega
  have e2 : (0 : Int) ≤ (l : Int) ∧ (l : Int) ≤ (h : Int) := by omega
  cases hq : P.info? e with
  | none => simp [hq] at hsz
  | some i =>
    have hi : i.size = 1 := by simpa [hq] using hsz
    simp [Instr.sliceAt, Instr.slice, Instr.sliceBounds, Instr.sliceBound, asIntOf, run_underlying hu, sizeOf, typeInfo, hq, hi, e1, e2, hlh, hhc]
theorem wpl_part {ops : Array Oper} {rest : List Oper} {o : Oper} {a : Act} {Q : Exit → Act → World → Prop} (hgd : o.guard = none) (t e : TypeId) (x lo hi : Operand) (ho : o.op = .slice t x (some lo) (some hi) none)
    (hu : P.underlying t = some (.slice e)) (hsz : (P.info? e).map (·.size) = some 1) {ad : Addr} {n c l h : Nat} (hx : a.eval x = .slice (some ad) n c) (hlo : a.eval lo = .int .i64 (l : Int)) (hhi : a.eval hi = .int .i64 (h : Int)) (hlh : l ≤ h) (hhc : h ≤ c)
    (hK : ∀ A, A = (if c = l then some ad else some (ad.add l)) → wpList P ops Q rest (a.put o.dst (.slice A (h - l) (c - l))) w) :
    wpList P ops Q (o :: rest) a w := by
  refine wpList_plain hgd fun K hK' => ?_
  have hr := run_part (P := P) (w := w) t e hu hsz ad n c l h hlh hhc
  unfold Oper.wp execOp
  simp only [ho, Option.map_some, Option.map_none, hx, hlo, hhi, hr, Sem.run_bind, Sem.run_pure, Result.andThen_ok]
  exact hK' _ _ (hK _ rfl)
end
end Go.Proofs.YtggfkpalkdkbdaaDoor
