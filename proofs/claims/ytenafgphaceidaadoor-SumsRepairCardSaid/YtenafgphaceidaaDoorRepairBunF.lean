/- What the program's functions do, step by step: part F of the texts for this claim; no condition beyond what each theorem states. -/
import Derived.Deep.DeepCutAuto
import Derived.Deep.CutRange
import Derived.Deep.CutBlock
import Derived.Deep.RegionHeld3
import Derived.Test.YtenafgphaceidaaDoorRepairBunA
import Derived.Test.YtenafgphaceidaaDoorRepairBunB
import Derived.Test.YtenafgphaceidaaDoorRepairBunC
import Derived.Test.YtenafgphaceidaaDoorRepairBunD
import Derived.Test.YtenafgphaceidaaDoorRepairBunE
/- THE LOOPS OF Tree, each a declaration of its own. -/
namespace Go.Proofs.YtenafgphaceidaaDoor
open Go.RowKit
open Go.Maps (Keyed)
open Go.WideMaps Go.ChangeMaps Go.MapKept Go.WideShapes
/-! The least fuel. -/
theorem least_ex (p : Nat → Prop) : ∀ n, p n → ∃ f, p f ∧ ∀ g, g < f → ¬ p g := by
  intro n
  induction n using Nat.strongRecOn with
  | ind n ih =>
    intro h
    by_cases hm : ∃ m, m < n ∧ p m
    · obtain ⟨m, h1, h2⟩ := hm
      exact ih m h1 h2
    · exact ⟨n, h, fun g hg hp => hm ⟨g, hg, hp⟩⟩
open Classical in
/-- The least number of which something is true. -/
noncomputable def minOf (p : Nat → Prop) : Nat := if h : ∃ n, p n then Classical.choose (least_ex p _ (Classical.choose_spec h)) else 0
theorem minOf_spec {p : Nat → Prop} (h : ∃ n, p n) : p (minOf p) := by
  unfold minOf
  rw [dif_pos h]
  exact (Classical.choose_spec (least_ex p _ (Classical.choose_spec h))).1
theorem minOf_le {p : Nat → Prop} {n : Nat} (h : p n) : minOf p ≤ n := by
  have he : ∃ n, p n := ⟨n, h⟩
  unfold minOf
  rw [dif_pos he]
  rcases Nat.lt_or_ge n (Classical.choose (least_ex p _ (Classical.choose_spec he))) with h1 | h1
  · exact absurd h ((Classical.choose_spec (least_ex p _ (Classical.choose_spec he))).2 n h1)
  · exact h1
attribute [irreducible] minOf
/-- What the search reads and writes. -/
structure BW (W0 w : World) (bn : Nat) (vq : Value) (q : Nat) (nx : List (Int × Int)) : Prop where
  ext : Ext W0 w
  ge : W0.heap.size ≤ bn
  map : ∃ D : DataW Unit, w.ownsMap Tryd.prog 3 (plainElem Tryd.prog 3) bn nx.length D ∧ MSays D (Su.nextOf nx)
  row : QRow W0 w vq ((Su.heads q nx).map (.int .i64))
theorem BW.next {W0 w w' : World} {bn q : Nat} {vq : Value} {nx : List (Int × Int)} (h : BW W0 w bn vq q nx) (hx : Ext w w') : BW W0 w' bn vq q nx :=
  ⟨h.ext.trans hx, h.ge, by obtain ⟨D, h1, h2⟩ := h.map; exact ⟨D, ownsMap_ext h1 hx, h2⟩, h.row.next hx⟩
theorem ex_lookup {P : Program} {o : Oper} {a : Act} {w : World} {t : TypeId} {m k : Operand} {u v r : Value} (ho : o.op = .lookup t m k false) (hm : a.eval m = u) (hk : a.eval k = v) (hr : (Instr.lookup t u v false).run P w = .ok r w) : (execOp a.eval o).run P w = .ok (.value r) w := by
  unfold execOp
  simp only [ho, hm, hk, hr, Sem.run_bind, Sem.run_pure, Result.andThen_ok]
theorem ex_build2 {P : Program} {o : Oper} {a : Act} {w : World} {t : TypeId} {x y : Operand} {u v r : Value} (ho : o.op = .build t #[(0, x), (1, y)]) (hx : a.eval x = u) (hy : a.eval y = v) (hr : (Instr.build t #[(0, u), (1, v)]).run P w = .ok r w) : (execOp a.eval o).run P w = .ok (.value r) w := by
  unfold execOp
  simp only [ho, List.map_toArray, List.map_cons, List.map_nil, hx, hy, hr, Sem.run_bind, Sem.run_pure, Result.andThen_ok]
theorem boolZero (w : World) : (zeroValue 4).run Tryd.prog w = .ok (.bool false) w := by kernel_rfl
theorem plainElem_bool_inv {H : Type} {P : Program} {e : TypeId} (he : P.underlying e = some .bool) {v : Value} {z : DataW H × List MemPlace} (h : plainElem P e v = some z) : ∃ x, v = .bool x ∧ z = (.lit (.bool x), []) := by
  unfold plainElem at h
  rw [he] at h
  cases v <;> simp at h
  subst h
  exact ⟨_, rfl, rfl⟩
set_option maxRecDepth 100000 in
/-- A look into the map of the used hops. -/
theorem look_hop {w : World} {b n : Nat} {D : DataW Unit} {U : List (Int × Int)} (h : w.ownsMap Tryd.prog 65 (plainElem Tryd.prog 4) b n D) (hS : USays D U) {x y : Int} (hx : r64 x) (hy : r64 y) :
    (Instr.lookup 79 (.map (some b)) (.agg #[.int .i64 x, .int .i64 y]) false).run Tryd.prog w = .ok (.bool (decide ((x, y) ∈ U))) w := by
  obtain ⟨v, ps, hrun, hv⟩ := h.lookup hopKeyed Tryd.underlying79 (boolZero w) (plainElem_bool Tryd.underlying4 false) (hopKey_of hx hy)
  rw [(hS x y hx hy).2] at hv
  obtain ⟨z, rfl, hz⟩ := plainElem_bool_inv Tryd.underlying4 hv
  injection hz with hz _
  injection hz with hz
  injection hz with hz
  rw [hrun, hz]
set_option maxRecDepth 100000 in
/-- A look into a map of houses. -/
theorem look_int {w : World} {b n : Nat} {D : DataW Unit} {nx : Int → Option Int} (h : w.ownsMap Tryd.prog 3 (plainElem Tryd.prog 3) b n D) (hS : MSays D nx) {y : Int} (hy : r64 y) :
    (Instr.lookup 72 (.map (some b)) (.int .i64 y) false).run Tryd.prog w = .ok (.int .i64 ((nx y).getD 0)) w := by
  obtain ⟨c, hrun, hat, _⟩ := h.lookup_int hopLaw Tryd.underlying72 Tryd.underlying3 (hopZero w) (Go.Maps.keyOf_int_mk Tryd.underlying3 (WalkArith.wf_i64 hy))
  rw [hrun]
  rw [(hS y).2] at hat
  cases hn : nx y with
  | none =>
    rw [hn] at hat
    injection hat with hat
    injection hat with _ hat
    rw [← hat]
    rfl
  | some z =>
    rw [hn] at hat
    injection hat with hat
    injection hat with _ hat
    rw [← hat]
    rfl
/-- 'queue = append(queue, a)'. -/
theorem wpl_push {ops : Array Oper} {rest : List Oper} {o : Oper} {a : Act} {Q : Exit → Act → World → Prop} {w0 w : World} (hgd : o.guard = none) (s x : Operand)
    (ho : o.op = .call { callee := .builtin .append, args := #[s, x], argTypes := #[23, 23] }) (hx0 : Ext w0 w) {v : Value} {xs : List Value} (h : QRow w0 w v xs) (hs : a.eval s = v) {g0 : Nat} {z : Int}
    (hx : a.eval x = .slice (some ⟨g0, 0, none⟩) 1 1) (hu : w.cell? ⟨g0, 0, none⟩ = some (.int .i64 z)) (hm : xs.length < 1000000000000)
    (hK : ∀ v' w', QRow w0 w' v' (xs ++ [.int .i64 z]) → Ext w0 w' → (∀ (b : Nat) (k : TypeId) (R : Value → Option (DataW Unit × List MemPlace)) (n : Nat) (D : DataW Unit), w.ownsMap Tryd.prog k R b n D → w'.ownsMap Tryd.prog k R b n D) → wpList Tryd.prog ops Q rest (a.put o.dst v') w') :
    wpList Tryd.prog ops Q (o :: rest) a w := by
  refine wpList_plain hgd fun K hK' => ?_
  obtain ⟨v', w', hrun, h1, h2, h3⟩ := QRow.push (P := Tryd.prog) hx0 23 o.type 3 Tryd.underlying23 info_int rfl h hu rfl hm (by decide)
  unfold Oper.wp execOp
  simp only [ho, resolve, invoke, builtin, Sem.run_bind, Sem.run_pure, Result.andThen_ok, List.map_toArray, List.map_cons, List.map_nil, hs, hx, hrun]
  exact hK' _ _ (hK v' w' h1 h2 h3)
noncomputable def bfs_known_code : Code := ((Tryd.f16.body.bind (regionOf 18)).getD .skip)
def bfs_known_dsts : List (Option Nat) := [some 68, some 69, some 70, some 71, some 72, some 73, some 74, some 75, some 76, some 77, some 78]
theorem bfs_known_apart : apartD bfs_known_dsts = true := by decide +kernel
set_option maxRecDepth 1000000 in
set_option maxHeartbeats 16000000 in
theorem bfs_known (wr : World) (c0 c1 c2 c3 c4 c5 c6 c7 c8 c9 c10 c11 c12 c14 c15 c16 c17 c18 c19 c20 c21 c22 c23 c24 c25 c26 c27 c28 c29 c30 c31 c32 c33 c34 c35 c36 c37 c38 c39 c40 c41 c42 c43 c44 c45 c46 c47 c48 c49 c50 c51 c52 c53 c54 c55 c56 c57 c58 c59 c60 c61 c62 c63 c64 c65 c66 c67 c68 c69 c70 c71 c72 c73 c74 c75 c76 c77 c78 c79 c80 c81 c82 c83 c84 c85 c86 c87 c88 c89 c90 c91 c92 c93 c94 c95 c96 c97 c98 c99 c100 c101 c102 c103 c104 c105 c106 c107 c108 c109 c110 c111 c112 c113 c114 c115 c116 c117 c118 c119 c120 c121 c122 c123 c124 c125 c126 c127 c128 c129 c130 c131 c132 c133 c134 c135 : Value) (df : List Deferred) (K : Act → World → Prop)
    (hK : ∀  (u68 u69 u70 u71 u72 u73 u74 u75 u76 u77 : Value) (wx : World), Ext wr wx → K ⟨#[c0, c1, c2, c3, c4, c5, c6, c7, c8, c9, c10, c11, c12, .bool true, c14, c15, c16, c17, c18, c19, c20, c21, c22, c23, c24, c25, c26, c27, c28, c29, c30, c31, c32, c33, c34, c35, c36, c37, c38, c39, c40, c41, c42, c43, c44, c45, c46, c47, c48, c49, c50, c51, c52, c53, c54, c55, c56, c57, c58, c59, c60, c61, c62, c63, c64, c65, c66, c67, u68, u69, u70, u71, u72, u73, u74, u75, u76, u77, .bool false, c79, c80, c81, c82, c83, c84, c85, c86, c87, c88, c89, c90, c91, c92, c93, c94, c95, c96, c97, c98, c99, c100, c101, c102, c103, c104, c105, c106, c107, c108, c109, c110, c111, c112, c113, c114, c115, c116, c117, c118, c119, c120, c121, c122, c123, c124, c125, c126, c127, c128, c129, c130, c131, c132, c133, c134, c135], df⟩ wx) :
    Code.wp Tryd.prog bfs_known_code (AtEnd K) ⟨#[c0, c1, c2, c3, c4, c5, c6, c7, c8, c9, c10, c11, c12, .bool true, c14, c15, c16, c17, c18, c19, c20, c21, c22, c23, c24, c25, c26, c27, c28, c29, c30, c31, c32, c33, c34, c35, c36, c37, c38, c39, c40, c41, c42, c43, c44, c45, c46, c47, c48, c49, c50, c51, c52, c53, c54, c55, c56, c57, c58, c59, c60, c61, c62, c63, c64, c65, c66, c67, c68, c69, c70, c71, c72, c73, c74, c75, c76, c77, c78, c79, c80, c81, c82, c83, c84, c85, c86, c87, c88, c89, c90, c91, c92, c93, c94, c95, c96, c97, c98, c99, c100, c101, c102, c103, c104, c105, c106, c107, c108, c109, c110, c111, c112, c113, c114, c115, c116, c117, c118, c119, c120, c121, c122, c123, c124, c125, c126, c127, c128, c129, c130, c131, c132, c133, c134, c135], df⟩ wr := by
  conv => arg 2; whnf
  refine region_inv (by kernel_rfl) [[], [0], [1], [2], [2], [2], [5, 2], [6, 2], [4, 7, 2], [3, 8, 2], [2, 9]] (by kernel_rfl) [0, 1, 2, 3, 4, 5, 6, 7, 8, 9, 10] (by decide +kernel) (by decide +kernel) (by decide +kernel) (fun L a wc => Inv bfs_known_dsts [.bool true, .bool false, .bool false, undef, undef, undef, undef, undef, undef, undef, .bool false] ⟨#[c0, c1, c2, c3, c4, c5, c6, c7, c8, c9, c10, c11, c12, .bool true, c14, c15, c16, c17, c18, c19, c20, c21, c22, c23, c24, c25, c26, c27, c28, c29, c30, c31, c32, c33, c34, c35, c36, c37, c38, c39, c40, c41, c42, c43, c44, c45, c46, c47, c48, c49, c50, c51, c52, c53, c54, c55, c56, c57, c58, c59, c60, c61, c62, c63, c64, c65, c66, c67, c68, c69, c70, c71, c72, c73, c74, c75, c76, c77, c78, c79, c80, c81, c82, c83, c84, c85, c86, c87, c88, c89, c90, c91, c92, c93, c94, c95, c96, c97, c98, c99, c100, c101, c102, c103, c104, c105, c106, c107, c108, c109, c110, c111, c112, c113, c114, c115, c116, c117, c118, c119, c120, c121, c122, c123, c124, c125, c126, c127, c128, c129, c130, c131, c132, c133, c134, c135], df⟩ L a ∧ Hid (Ext wr wc)) ⟨Inv.start, Lib.hid ((Ext.refl wr).drew)⟩ ?_ ?_
  · refine ⟨?_, ?_, ?_, ?_, ?_, ?_, ?_, ?_, ?_, ?_, ?_, trivial⟩
    · -- 0 move
      rintro L a wc ⟨hv, HO⟩ hL hc hd
      exact wpOp_val rfl rfl (ex_move rfl ((hv.fixed 13 (by decide)).trans rfl)) ⟨hv.put bfs_known_apart 0 rfl (Nat.le_of_ble_eq_true rfl) (Nat.le_of_ble_eq_true rfl) rfl, HO⟩
    · -- 1 un
      rintro L a wc ⟨hv, HO⟩ hL hc hd
      exact wpOp_val rfl rfl (ex_un rfl (hv.get 0 rfl rfl (hd 0 (by decide))) (by go_simp)) ⟨hv.put bfs_known_apart 1 rfl (Nat.le_of_ble_eq_true rfl) (Nat.le_of_ble_eq_true rfl) rfl, HO⟩
    · -- 2 move
      rintro L a wc ⟨hv, HO⟩ hL hc hd
      exact wpOp_val rfl rfl (ex_move rfl (hv.get 1 rfl rfl (hd 1 (by decide)))) ⟨hv.put bfs_known_apart 2 rfl (Nat.le_of_ble_eq_true rfl) (Nat.le_of_ble_eq_true rfl) rfl, HO⟩
    · -- 3 off
      rintro L a wc ⟨hv, HO⟩ hL hc hd
      exact wpOp_off rfl ((wanted_at rfl rfl (hv.get 2 rfl rfl (hd 2 (by decide)))).trans rfl) ⟨hv.put bfs_known_apart 3 rfl (Nat.le_of_ble_eq_true rfl) (Nat.le_of_ble_eq_true rfl) rfl, HO⟩
    · -- 4 off
      rintro L a wc ⟨hv, HO⟩ hL hc hd
      exact wpOp_off rfl ((wanted_at rfl rfl (hv.get 2 rfl rfl (hd 2 (by decide)))).trans rfl) ⟨hv.put bfs_known_apart 4 rfl (Nat.le_of_ble_eq_true rfl) (Nat.le_of_ble_eq_true rfl) rfl, HO⟩
    · -- 5 off
      rintro L a wc ⟨hv, HO⟩ hL hc hd
      exact wpOp_off rfl ((wanted_at rfl rfl (hv.get 2 rfl rfl (hd 2 (by decide)))).trans rfl) ⟨hv.put bfs_known_apart 5 rfl (Nat.le_of_ble_eq_true rfl) (Nat.le_of_ble_eq_true rfl) rfl, HO⟩
    · -- 6 off
      rintro L a wc ⟨hv, HO⟩ hL hc hd
      exact wpOp_off rfl ((wanted_at rfl rfl (hv.get 2 rfl rfl (hd 2 (by decide)))).trans rfl) ⟨hv.put bfs_known_apart 6 rfl (Nat.le_of_ble_eq_true rfl) (Nat.le_of_ble_eq_true rfl) rfl, HO⟩
    · -- 7 off
      rintro L a wc ⟨hv, HO⟩ hL hc hd
      exact wpOp_off rfl ((wanted_at rfl rfl (hv.get 2 rfl rfl (hd 2 (by decide)))).trans rfl) ⟨hv.put bfs_known_apart 7 rfl (Nat.le_of_ble_eq_true rfl) (Nat.le_of_ble_eq_true rfl) rfl, HO⟩
    · -- 8 off
      rintro L a wc ⟨hv, HO⟩ hL hc hd
      exact wpOp_off rfl ((wanted_at rfl rfl (hv.get 2 rfl rfl (hd 2 (by decide)))).trans rfl) ⟨hv.put bfs_known_apart 8 rfl (Nat.le_of_ble_eq_true rfl) (Nat.le_of_ble_eq_true rfl) rfl, HO⟩
    · -- 9 off
      rintro L a wc ⟨hv, HO⟩ hL hc hd
      exact wpOp_off rfl ((wanted_at rfl rfl (hv.get 2 rfl rfl (hd 2 (by decide)))).trans rfl) ⟨hv.put bfs_known_apart 9 rfl (Nat.le_of_ble_eq_true rfl) (Nat.le_of_ble_eq_true rfl) rfl, HO⟩
    · -- 10 pick
      rintro L a wc ⟨hv, HO⟩ hL hc hd
      exact wpOp_val rfl rfl (ex_pick rfl (hv.get 2 rfl rfl (hd 2 (by decide))) rfl) ⟨hv.put bfs_known_apart 10 rfl (Nat.le_of_ble_eq_true rfl) (Nat.le_of_ble_eq_true rfl) rfl, HO⟩
  · rintro L a wc ⟨hv, HO⟩ hall
    show K a wc
    have ha := act_lit a
    rw [hv.size, hv.defers] at ha
    have hl : ∀ f : Nat → Value, ((List.range (⟨#[c0, c1, c2, c3, c4, c5, c6, c7, c8, c9, c10, c11, c12, .bool true, c14, c15, c16, c17, c18, c19, c20, c21, c22, c23, c24, c25, c26, c27, c28, c29, c30, c31, c32, c33, c34, c35, c36, c37, c38, c39, c40, c41, c42, c43, c44, c45, c46, c47, c48, c49, c50, c51, c52, c53, c54, c55, c56, c57, c58, c59, c60, c61, c62, c63, c64, c65, c66, c67, c68, c69, c70, c71, c72, c73, c74, c75, c76, c77, c78, c79, c80, c81, c82, c83, c84, c85, c86, c87, c88, c89, c90, c91, c92, c93, c94, c95, c96, c97, c98, c99, c100, c101, c102, c103, c104, c105, c106, c107, c108, c109, c110, c111, c112, c113, c114, c115, c116, c117, c118, c119, c120, c121, c122, c123, c124, c125, c126, c127, c128, c129, c130, c131, c132, c133, c134, c135], df⟩ : Act).tmps.size).map f).toArray = #[f 0, f 1, f 2, f 3, f 4, f 5, f 6, f 7, f 8, f 9, f 10, f 11, f 12, f 13, f 14, f 15, f 16, f 17, f 18, f 19, f 20, f 21, f 22, f 23, f 24, f 25, f 26, f 27, f 28, f 29, f 30, f 31, f 32, f 33, f 34, f 35, f 36, f 37, f 38, f 39, f 40, f 41, f 42, f 43, f 44, f 45, f 46, f 47, f 48, f 49, f 50, f 51, f 52, f 53, f 54, f 55, f 56, f 57, f 58, f 59, f 60, f 61, f 62, f 63, f 64, f 65, f 66, f 67, f 68, f 69, f 70, f 71, f 72, f 73, f 74, f 75, f 76, f 77, f 78, f 79, f 80, f 81, f 82, f 83, f 84, f 85, f 86, f 87, f 88, f 89, f 90, f 91, f 92, f 93, f 94, f 95, f 96, f 97, f 98, f 99, f 100, f 101, f 102, f 103, f 104, f 105, f 106, f 107, f 108, f 109, f 110, f 111, f 112, f 113, f 114, f 115, f 116, f 117, f 118, f 119, f 120, f 121, f 122, f 123, f 124, f 125, f 126, f 127, f 128, f 129, f 130, f 131, f 132, f 133, f 134, f 135] := fun _ => rfl
    rw [hl] at ha
    simp only [hv.fixed 0 (by decide), hv.fixed 1 (by decide), hv.fixed 2 (by decide), hv.fixed 3 (by decide), hv.fixed 4 (by decide), hv.fixed 5 (by decide), hv.fixed 6 (by decide), hv.fixed 7 (by decide), hv.fixed 8 (by decide), hv.fixed 9 (by decide), hv.fixed 10 (by decide), hv.fixed 11 (by decide), hv.fixed 12 (by decide), hv.fixed 13 (by decide), hv.fixed 14 (by decide), hv.fixed 15 (by decide), hv.fixed 16 (by decide), hv.fixed 17 (by decide), hv.fixed 18 (by decide), hv.fixed 19 (by decide), hv.fixed 20 (by decide), hv.fixed 21 (by decide), hv.fixed 22 (by decide), hv.fixed 23 (by decide), hv.fixed 24 (by decide), hv.fixed 25 (by decide), hv.fixed 26 (by decide), hv.fixed 27 (by decide), hv.fixed 28 (by decide), hv.fixed 29 (by decide), hv.fixed 30 (by decide), hv.fixed 31 (by decide), hv.fixed 32 (by decide), hv.fixed 33 (by decide), hv.fixed 34 (by decide), hv.fixed 35 (by decide), hv.fixed 36 (by decide), hv.fixed 37 (by decide), hv.fixed 38 (by decide), hv.fixed 39 (by decide), hv.fixed 40 (by decide), hv.fixed 41 (by decide), hv.fixed 42 (by decide), hv.fixed 43 (by decide), hv.fixed 44 (by decide), hv.fixed 45 (by decide), hv.fixed 46 (by decide), hv.fixed 47 (by decide), hv.fixed 48 (by decide), hv.fixed 49 (by decide), hv.fixed 50 (by decide), hv.fixed 51 (by decide), hv.fixed 52 (by decide), hv.fixed 53 (by decide), hv.fixed 54 (by decide), hv.fixed 55 (by decide), hv.fixed 56 (by decide), hv.fixed 57 (by decide), hv.fixed 58 (by decide), hv.fixed 59 (by decide), hv.fixed 60 (by decide), hv.fixed 61 (by decide), hv.fixed 62 (by decide), hv.fixed 63 (by decide), hv.fixed 64 (by decide), hv.fixed 65 (by decide), hv.fixed 66 (by decide), hv.fixed 67 (by decide), hv.fixed 79 (by decide), hv.fixed 80 (by decide), hv.fixed 81 (by decide), hv.fixed 82 (by decide), hv.fixed 83 (by decide), hv.fixed 84 (by decide), hv.fixed 85 (by decide), hv.fixed 86 (by decide), hv.fixed 87 (by decide), hv.fixed 88 (by decide), hv.fixed 89 (by decide), hv.fixed 90 (by decide), hv.fixed 91 (by decide), hv.fixed 92 (by decide), hv.fixed 93 (by decide), hv.fixed 94 (by decide), hv.fixed 95 (by decide), hv.fixed 96 (by decide), hv.fixed 97 (by decide), hv.fixed 98 (by decide), hv.fixed 99 (by decide), hv.fixed 100 (by decide), hv.fixed 101 (by decide), hv.fixed 102 (by decide), hv.fixed 103 (by decide), hv.fixed 104 (by decide), hv.fixed 105 (by decide), hv.fixed 106 (by decide), hv.fixed 107 (by decide), hv.fixed 108 (by decide), hv.fixed 109 (by decide), hv.fixed 110 (by decide), hv.fixed 111 (by decide), hv.fixed 112 (by decide), hv.fixed 113 (by decide), hv.fixed 114 (by decide), hv.fixed 115 (by decide), hv.fixed 116 (by decide), hv.fixed 117 (by decide), hv.fixed 118 (by decide), hv.fixed 119 (by decide), hv.fixed 120 (by decide), hv.fixed 121 (by decide), hv.fixed 122 (by decide), hv.fixed 123 (by decide), hv.fixed 124 (by decide), hv.fixed 125 (by decide), hv.fixed 126 (by decide), hv.fixed 127 (by decide), hv.fixed 128 (by decide), hv.fixed 129 (by decide), hv.fixed 130 (by decide), hv.fixed 131 (by decide), hv.fixed 132 (by decide), hv.fixed 133 (by decide), hv.fixed 134 (by decide), hv.fixed 135 (by decide), hv.get 10 (d := 78) rfl rfl (hall 10 (by decide))] at ha
    rw [ha]
    exact hK _ _ _ _ _ _ _ _ _ _ wc HO.out
noncomputable def bfs_look_code : Code := ((Tryd.f16.body.bind (regionOf 18)).getD .skip)
def bfs_look_dsts : List (Option Nat) := [some 68, some 69, some 70, some 71, some 72, some 73, some 74, some 75, some 76, some 77, some 78]
theorem bfs_look_apart : apartD bfs_look_dsts = true := by decide +kernel
set_option maxRecDepth 1000000 in
set_option maxHeartbeats 16000000 in
theorem bfs_look (wr : World) (P7 b g off m cq aa : Nat) (y : Int) (x : Bool) (p7 : wr.cell? ⟨P7, 0, none⟩ = some (.map (some b))) (cy : wr.cell? ⟨g, off, none⟩ = some (.int .i64 y)) (HL : Hid (∀ w1, Ext wr w1 → (Instr.lookup 79 (.map (some b)) (.agg #[.int .i64 (aa : Nat), .int .i64 y]) false).run Tryd.prog w1 = .ok (.bool x) w1)) (c0 c1 c2 c3 c4 c5 c6 c8 c9 c12 c14 c15 c16 c17 c18 c19 c20 c21 c22 c23 c24 c25 c26 c27 c28 c29 c30 c31 c32 c33 c34 c35 c36 c37 c38 c39 c40 c41 c42 c43 c44 c45 c46 c47 c48 c49 c50 c51 c52 c53 c54 c55 c56 c57 c58 c59 c60 c61 c62 c63 c64 c65 c66 c67 c68 c69 c70 c71 c72 c73 c74 c75 c76 c77 c78 c79 c80 c81 c82 c83 c84 c85 c86 c87 c88 c89 c90 c91 c92 c93 c94 c95 c96 c97 c98 c99 c100 c101 c102 c103 c104 c105 c106 c107 c108 c109 c110 c111 c112 c113 c114 c115 c116 c117 c118 c119 c120 c121 c122 c123 c124 c125 c126 c127 c128 c129 c130 c131 c132 c133 c134 c135 : Value) (df : List Deferred) (K : Act → World → Prop)
    (hK : ∀  (u68 u69 u70 u71 u72 u73 u74 u75 u76 u77 : Value) (wx : World), Ext wr wx → K ⟨#[c0, c1, c2, c3, c4, c5, c6, .pointer (some ⟨P7, 0, none⟩), c8, c9, .slice (some ⟨g, off, none⟩) (m + 1) cq, .int .i64 (aa : Nat), c12, .bool false, c14, c15, c16, c17, c18, c19, c20, c21, c22, c23, c24, c25, c26, c27, c28, c29, c30, c31, c32, c33, c34, c35, c36, c37, c38, c39, c40, c41, c42, c43, c44, c45, c46, c47, c48, c49, c50, c51, c52, c53, c54, c55, c56, c57, c58, c59, c60, c61, c62, c63, c64, c65, c66, c67, u68, u69, u70, u71, u72, u73, u74, u75, u76, u77, .bool x, c79, c80, c81, c82, c83, c84, c85, c86, c87, c88, c89, c90, c91, c92, c93, c94, c95, c96, c97, c98, c99, c100, c101, c102, c103, c104, c105, c106, c107, c108, c109, c110, c111, c112, c113, c114, c115, c116, c117, c118, c119, c120, c121, c122, c123, c124, c125, c126, c127, c128, c129, c130, c131, c132, c133, c134, c135], df⟩ wx) :
    Code.wp Tryd.prog bfs_look_code (AtEnd K) ⟨#[c0, c1, c2, c3, c4, c5, c6, .pointer (some ⟨P7, 0, none⟩), c8, c9, .slice (some ⟨g, off, none⟩) (m + 1) cq, .int .i64 (aa : Nat), c12, .bool false, c14, c15, c16, c17, c18, c19, c20, c21, c22, c23, c24, c25, c26, c27, c28, c29, c30, c31, c32, c33, c34, c35, c36, c37, c38, c39, c40, c41, c42, c43, c44, c45, c46, c47, c48, c49, c50, c51, c52, c53, c54, c55, c56, c57, c58, c59, c60, c61, c62, c63, c64, c65, c66, c67, c68, c69, c70, c71, c72, c73, c74, c75, c76, c77, c78, c79, c80, c81, c82, c83, c84, c85, c86, c87, c88, c89, c90, c91, c92, c93, c94, c95, c96, c97, c98, c99, c100, c101, c102, c103, c104, c105, c106, c107, c108, c109, c110, c111, c112, c113, c114, c115, c116, c117, c118, c119, c120, c121, c122, c123, c124, c125, c126, c127, c128, c129, c130, c131, c132, c133, c134, c135], df⟩ wr := by
  conv => arg 2; whnf
  refine region_inv (by kernel_rfl) [[], [0], [1], [2], [2], [2], [5, 2], [6, 2], [4, 7, 2], [3, 8, 2], [2, 9]] (by kernel_rfl) [0, 1, 2, 3, 4, 5, 6, 7, 8, 9, 10] (by decide +kernel) (by decide +kernel) (by decide +kernel) (fun L a wc => Inv bfs_look_dsts [.bool false, .bool true, .bool true, .map (some b), .int .i64 (aa : Nat), .slice (some ⟨g, off, none⟩) (m + 1) cq, .pointer (some ⟨g, off, none⟩), .int .i64 y, .agg #[.int .i64 (aa : Nat), .int .i64 y], .bool x, .bool x] ⟨#[c0, c1, c2, c3, c4, c5, c6, .pointer (some ⟨P7, 0, none⟩), c8, c9, .slice (some ⟨g, off, none⟩) (m + 1) cq, .int .i64 (aa : Nat), c12, .bool false, c14, c15, c16, c17, c18, c19, c20, c21, c22, c23, c24, c25, c26, c27, c28, c29, c30, c31, c32, c33, c34, c35, c36, c37, c38, c39, c40, c41, c42, c43, c44, c45, c46, c47, c48, c49, c50, c51, c52, c53, c54, c55, c56, c57, c58, c59, c60, c61, c62, c63, c64, c65, c66, c67, c68, c69, c70, c71, c72, c73, c74, c75, c76, c77, c78, c79, c80, c81, c82, c83, c84, c85, c86, c87, c88, c89, c90, c91, c92, c93, c94, c95, c96, c97, c98, c99, c100, c101, c102, c103, c104, c105, c106, c107, c108, c109, c110, c111, c112, c113, c114, c115, c116, c117, c118, c119, c120, c121, c122, c123, c124, c125, c126, c127, c128, c129, c130, c131, c132, c133, c134, c135], df⟩ L a ∧ Hid (Ext wr wc)) ⟨Inv.start, Lib.hid ((Ext.refl wr).drew)⟩ ?_ ?_
  · refine ⟨?_, ?_, ?_, ?_, ?_, ?_, ?_, ?_, ?_, ?_, ?_, trivial⟩
    · -- 0 move
      rintro L a wc ⟨hv, HO⟩ hL hc hd
      exact wpOp_val rfl rfl (ex_move rfl ((hv.fixed 13 (by decide)).trans rfl)) ⟨hv.put bfs_look_apart 0 rfl (Nat.le_of_ble_eq_true rfl) (Nat.le_of_ble_eq_true rfl) rfl, HO⟩
    · -- 1 un
      rintro L a wc ⟨hv, HO⟩ hL hc hd
      exact wpOp_val rfl rfl (ex_un rfl (hv.get 0 rfl rfl (hd 0 (by decide))) (by go_simp)) ⟨hv.put bfs_look_apart 1 rfl (Nat.le_of_ble_eq_true rfl) (Nat.le_of_ble_eq_true rfl) rfl, HO⟩
    · -- 2 move
      rintro L a wc ⟨hv, HO⟩ hL hc hd
      exact wpOp_val rfl rfl (ex_move rfl (hv.get 1 rfl rfl (hd 1 (by decide)))) ⟨hv.put bfs_look_apart 2 rfl (Nat.le_of_ble_eq_true rfl) (Nat.le_of_ble_eq_true rfl) rfl, HO⟩
    · -- 3 load
      rintro L a wc ⟨hv, HO⟩ hL hc hd
      have e7 : wc.cell? ⟨P7, 0, none⟩ = some (.map (some b)) := HO.out.cell p7
      exact wpOp_val rfl ((wanted_at rfl rfl (hv.get 2 rfl rfl (hd 2 (by decide)))).trans rfl) (ex_load rfl ((hv.fixed 7 (by decide)).trans rfl) (by go_simp)) ⟨hv.put bfs_look_apart 3 rfl (Nat.le_of_ble_eq_true rfl) (Nat.le_of_ble_eq_true rfl) rfl, HO⟩
    · -- 4 move
      rintro L a wc ⟨hv, HO⟩ hL hc hd
      exact wpOp_val rfl ((wanted_at rfl rfl (hv.get 2 rfl rfl (hd 2 (by decide)))).trans rfl) (ex_move rfl ((hv.fixed 11 (by decide)).trans rfl)) ⟨hv.put bfs_look_apart 4 rfl (Nat.le_of_ble_eq_true rfl) (Nat.le_of_ble_eq_true rfl) rfl, HO⟩
    · -- 5 move
      rintro L a wc ⟨hv, HO⟩ hL hc hd
      exact wpOp_val rfl ((wanted_at rfl rfl (hv.get 2 rfl rfl (hd 2 (by decide)))).trans rfl) (ex_move rfl ((hv.fixed 10 (by decide)).trans rfl)) ⟨hv.put bfs_look_apart 5 rfl (Nat.le_of_ble_eq_true rfl) (Nat.le_of_ble_eq_true rfl) rfl, HO⟩
    · -- 6 index
      rintro L a wc ⟨hv, HO⟩ hL hc hd
      have b1 : (0 : Int) < (m : Int) + 1 := by omega
      exact wpOp_val rfl ((wanted_at rfl rfl (hv.get 2 rfl rfl (hd 2 (by decide)))).trans rfl) (ex_index rfl (hv.get 5 rfl rfl (hd 5 (by decide))) rfl (by go_simp)) ⟨hv.put bfs_look_apart 6 rfl (Nat.le_of_ble_eq_true rfl) (Nat.le_of_ble_eq_true rfl) rfl, HO⟩
    · -- 7 load
      rintro L a wc ⟨hv, HO⟩ hL hc hd
      have eQ : wc.cell? ⟨g, off, none⟩ = some (.int .i64 y) := HO.out.cell cy
      exact wpOp_val rfl ((wanted_at rfl rfl (hv.get 2 rfl rfl (hd 2 (by decide)))).trans rfl) (ex_load rfl (hv.get 6 rfl rfl (hd 6 (by decide))) (by go_simp)) ⟨hv.put bfs_look_apart 7 rfl (Nat.le_of_ble_eq_true rfl) (Nat.le_of_ble_eq_true rfl) rfl, HO⟩
    · -- 8 raw
      rintro L a wc ⟨hv, HO⟩ hL hc hd
      exact wpOp_val rfl ((wanted_at rfl rfl (hv.get 2 rfl rfl (hd 2 (by decide)))).trans rfl) (ex_build2 rfl (hv.get 4 rfl rfl (hd 4 (by decide))) (hv.get 7 rfl rfl (hd 7 (by decide))) (by go_simp)) ⟨hv.put bfs_look_apart 8 rfl (Nat.le_of_ble_eq_true rfl) (Nat.le_of_ble_eq_true rfl) rfl, HO⟩
    · -- 9 raw
      rintro L a wc ⟨hv, HO⟩ hL hc hd
      exact wpOp_val rfl ((wanted_at rfl rfl (hv.get 2 rfl rfl (hd 2 (by decide)))).trans rfl) (ex_lookup rfl (hv.get 3 rfl rfl (hd 3 (by decide))) (hv.get 8 rfl rfl (hd 8 (by decide))) (HL.out wc HO.out)) ⟨hv.put bfs_look_apart 9 rfl (Nat.le_of_ble_eq_true rfl) (Nat.le_of_ble_eq_true rfl) rfl, HO⟩
    · -- 10 pick
      rintro L a wc ⟨hv, HO⟩ hL hc hd
      exact wpOp_val rfl rfl (ex_pick rfl (hv.get 2 rfl rfl (hd 2 (by decide))) ((if_pos rfl).trans (hv.get 9 rfl rfl (hd 9 (by decide))))) ⟨hv.put bfs_look_apart 10 rfl (Nat.le_of_ble_eq_true rfl) (Nat.le_of_ble_eq_true rfl) rfl, HO⟩
  · rintro L a wc ⟨hv, HO⟩ hall
    show K a wc
    have ha := act_lit a
    rw [hv.size, hv.defers] at ha
    have hl : ∀ f : Nat → Value, ((List.range (⟨#[c0, c1, c2, c3, c4, c5, c6, .pointer (some ⟨P7, 0, none⟩), c8, c9, .slice (some ⟨g, off, none⟩) (m + 1) cq, .int .i64 (aa : Nat), c12, .bool false, c14, c15, c16, c17, c18, c19, c20, c21, c22, c23, c24, c25, c26, c27, c28, c29, c30, c31, c32, c33, c34, c35, c36, c37, c38, c39, c40, c41, c42, c43, c44, c45, c46, c47, c48, c49, c50, c51, c52, c53, c54, c55, c56, c57, c58, c59, c60, c61, c62, c63, c64, c65, c66, c67, c68, c69, c70, c71, c72, c73, c74, c75, c76, c77, c78, c79, c80, c81, c82, c83, c84, c85, c86, c87, c88, c89, c90, c91, c92, c93, c94, c95, c96, c97, c98, c99, c100, c101, c102, c103, c104, c105, c106, c107, c108, c109, c110, c111, c112, c113, c114, c115, c116, c117, c118, c119, c120, c121, c122, c123, c124, c125, c126, c127, c128, c129, c130, c131, c132, c133, c134, c135], df⟩ : Act).tmps.size).map f).toArray = #[f 0, f 1, f 2, f 3, f 4, f 5, f 6, f 7, f 8, f 9, f 10, f 11, f 12, f 13, f 14, f 15, f 16, f 17, f 18, f 19, f 20, f 21, f 22, f 23, f 24, f 25, f 26, f 27, f 28, f 29, f 30, f 31, f 32, f 33, f 34, f 35, f 36, f 37, f 38, f 39, f 40, f 41, f 42, f 43, f 44, f 45, f 46, f 47, f 48, f 49, f 50, f 51, f 52, f 53, f 54, f 55, f 56, f 57, f 58, f 59, f 60, f 61, f 62, f 63, f 64, f 65, f 66, f 67, f 68, f 69, f 70, f 71, f 72, f 73, f 74, f 75, f 76, f 77, f 78, f 79, f 80, f 81, f 82, f 83, f 84, f 85, f 86, f 87, f 88, f 89, f 90, f 91, f 92, f 93, f 94, f 95, f 96, f 97, f 98, f 99, f 100, f 101, f 102, f 103, f 104, f 105, f 106, f 107, f 108, f 109, f 110, f 111, f 112, f 113, f 114, f 115, f 116, f 117, f 118, f 119, f 120, f 121, f 122, f 123, f 124, f 125, f 126, f 127, f 128, f 129, f 130, f 131, f 132, f 133, f 134, f 135] := fun _ => rfl
    rw [hl] at ha
    simp only [hv.fixed 0 (by decide), hv.fixed 1 (by decide), hv.fixed 2 (by decide), hv.fixed 3 (by decide), hv.fixed 4 (by decide), hv.fixed 5 (by decide), hv.fixed 6 (by decide), hv.fixed 7 (by decide), hv.fixed 8 (by decide), hv.fixed 9 (by decide), hv.fixed 10 (by decide), hv.fixed 11 (by decide), hv.fixed 12 (by decide), hv.fixed 13 (by decide), hv.fixed 14 (by decide), hv.fixed 15 (by decide), hv.fixed 16 (by decide), hv.fixed 17 (by decide), hv.fixed 18 (by decide), hv.fixed 19 (by decide), hv.fixed 20 (by decide), hv.fixed 21 (by decide), hv.fixed 22 (by decide), hv.fixed 23 (by decide), hv.fixed 24 (by decide), hv.fixed 25 (by decide), hv.fixed 26 (by decide), hv.fixed 27 (by decide), hv.fixed 28 (by decide), hv.fixed 29 (by decide), hv.fixed 30 (by decide), hv.fixed 31 (by decide), hv.fixed 32 (by decide), hv.fixed 33 (by decide), hv.fixed 34 (by decide), hv.fixed 35 (by decide), hv.fixed 36 (by decide), hv.fixed 37 (by decide), hv.fixed 38 (by decide), hv.fixed 39 (by decide), hv.fixed 40 (by decide), hv.fixed 41 (by decide), hv.fixed 42 (by decide), hv.fixed 43 (by decide), hv.fixed 44 (by decide), hv.fixed 45 (by decide), hv.fixed 46 (by decide), hv.fixed 47 (by decide), hv.fixed 48 (by decide), hv.fixed 49 (by decide), hv.fixed 50 (by decide), hv.fixed 51 (by decide), hv.fixed 52 (by decide), hv.fixed 53 (by decide), hv.fixed 54 (by decide), hv.fixed 55 (by decide), hv.fixed 56 (by decide), hv.fixed 57 (by decide), hv.fixed 58 (by decide), hv.fixed 59 (by decide), hv.fixed 60 (by decide), hv.fixed 61 (by decide), hv.fixed 62 (by decide), hv.fixed 63 (by decide), hv.fixed 64 (by decide), hv.fixed 65 (by decide), hv.fixed 66 (by decide), hv.fixed 67 (by decide), hv.fixed 79 (by decide), hv.fixed 80 (by decide), hv.fixed 81 (by decide), hv.fixed 82 (by decide), hv.fixed 83 (by decide), hv.fixed 84 (by decide), hv.fixed 85 (by decide), hv.fixed 86 (by decide), hv.fixed 87 (by decide), hv.fixed 88 (by decide), hv.fixed 89 (by decide), hv.fixed 90 (by decide), hv.fixed 91 (by decide), hv.fixed 92 (by decide), hv.fixed 93 (by decide), hv.fixed 94 (by decide), hv.fixed 95 (by decide), hv.fixed 96 (by decide), hv.fixed 97 (by decide), hv.fixed 98 (by decide), hv.fixed 99 (by decide), hv.fixed 100 (by decide), hv.fixed 101 (by decide), hv.fixed 102 (by decide), hv.fixed 103 (by decide), hv.fixed 104 (by decide), hv.fixed 105 (by decide), hv.fixed 106 (by decide), hv.fixed 107 (by decide), hv.fixed 108 (by decide), hv.fixed 109 (by decide), hv.fixed 110 (by decide), hv.fixed 111 (by decide), hv.fixed 112 (by decide), hv.fixed 113 (by decide), hv.fixed 114 (by decide), hv.fixed 115 (by decide), hv.fixed 116 (by decide), hv.fixed 117 (by decide), hv.fixed 118 (by decide), hv.fixed 119 (by decide), hv.fixed 120 (by decide), hv.fixed 121 (by decide), hv.fixed 122 (by decide), hv.fixed 123 (by decide), hv.fixed 124 (by decide), hv.fixed 125 (by decide), hv.fixed 126 (by decide), hv.fixed 127 (by decide), hv.fixed 128 (by decide), hv.fixed 129 (by decide), hv.fixed 130 (by decide), hv.fixed 131 (by decide), hv.fixed 132 (by decide), hv.fixed 133 (by decide), hv.fixed 134 (by decide), hv.fixed 135 (by decide), hv.get 10 (d := 78) rfl rfl (hall 10 (by decide))] at ha
    rw [ha]
    exact hK _ _ _ _ _ _ _ _ _ _ wc HO.out
noncomputable def bfs_in_code : Code := ((Tryd.f16.body.bind (loopOf 18)).getD .skip)
set_option maxRecDepth 1000000 in
set_option maxHeartbeats 16000000 in
theorem bfs_in (W0 w00 wr : World) (g0 N b P6 P7 P8 bn n q : Nat) (y : Int) (vq0 : Value) (W : List Su.Way) (U nx0 : List (Int × Int)) (hn12 : n ≤ 12) (hyn : 0 ≤ y ∧ y < (n : Int)) (hq : q < nx0.length) (HKN : Hid (Su.Known n nx0)) (HY : Hid ((nx0.getD q (0, 0)).1 = y)) (HT : Hid (TW w00 W0 g0 N b P6 P7 P8 W U ∧ True)) (HB : Hid (BW W0 wr bn vq0 q nx0)) (c0 c1 c2 c3 c4 c5 c6 c8 c11 c12 c13 c14 c15 c16 c17 c18 c19 c20 c21 c22 c23 c24 c25 c26 c27 c28 c29 c30 c31 c32 c33 c34 c35 c36 c37 c38 c39 c40 c41 c42 c43 c44 c45 c46 c47 c48 c49 c50 c51 c52 c53 c54 c55 c56 c57 c60 c61 c62 c63 c64 c65 c66 c67 c68 c69 c70 c71 c72 c73 c74 c75 c76 c77 c78 c79 c80 c81 c82 c83 c84 c85 c86 c87 c88 c89 c90 c91 c92 c93 c94 c95 c96 c97 c98 c99 c100 c101 c102 c103 c104 c105 c106 c107 c108 c109 c110 c111 c112 c113 c114 c115 c116 c117 c118 c119 c120 c121 c122 c123 c124 c125 c126 c127 c128 c129 c130 c131 c132 c133 c134 c135 : Value) (df : List Deferred) (Q0 : Exit → Act → World → Prop)
    (hexit : ∀ (u10 u11 u12 u13 u59 u60 u61 u62 u63 u64 u65 u66 u67 u68 u69 u70 u71 u72 u73 u74 u75 u76 u77 u78 u79 u80 u81 u82 u83 u84 u85 u86 u87 u88 : Value) (wx : World), BW W0 wx bn u10 q (Su.rep (Su.bfsStep U y) n nx0) → Q0 (.exit 2) ⟨#[c0, c1, c2, c3, c4, c5, c6, .pointer (some ⟨P7, 0, none⟩), c8, .map (some bn), u10, u11, u12, u13, c14, c15, c16, c17, c18, c19, c20, c21, c22, c23, c24, c25, c26, c27, c28, c29, c30, c31, c32, c33, c34, c35, c36, c37, c38, c39, c40, c41, c42, c43, c44, c45, c46, c47, c48, c49, c50, c51, c52, c53, c54, c55, c56, c57, .int .i64 (n : Nat), u59, u60, u61, u62, u63, u64, u65, u66, u67, u68, u69, u70, u71, u72, u73, u74, u75, u76, u77, u78, u79, u80, u81, u82, u83, u84, u85, u86, u87, u88, c89, c90, c91, c92, c93, c94, c95, c96, c97, c98, c99, c100, c101, c102, c103, c104, c105, c106, c107, c108, c109, c110, c111, c112, c113, c114, c115, c116, c117, c118, c119, c120, c121, c122, c123, c124, c125, c126, c127, c128, c129, c130, c131, c132, c133, c134, c135], df⟩ wx) :
    Code.wp Tryd.prog bfs_in_code Q0 ⟨#[c0, c1, c2, c3, c4, c5, c6, .pointer (some ⟨P7, 0, none⟩), c8, .map (some bn), vq0, c11, c12, c13, c14, c15, c16, c17, c18, c19, c20, c21, c22, c23, c24, c25, c26, c27, c28, c29, c30, c31, c32, c33, c34, c35, c36, c37, c38, c39, c40, c41, c42, c43, c44, c45, c46, c47, c48, c49, c50, c51, c52, c53, c54, c55, c56, c57, .int .i64 (n : Nat), .int .i64 0, c60, c61, c62, c63, c64, c65, c66, c67, c68, c69, c70, c71, c72, c73, c74, c75, c76, c77, c78, c79, c80, c81, c82, c83, c84, c85, c86, c87, c88, c89, c90, c91, c92, c93, c94, c95, c96, c97, c98, c99, c100, c101, c102, c103, c104, c105, c106, c107, c108, c109, c110, c111, c112, c113, c114, c115, c116, c117, c118, c119, c120, c121, c122, c123, c124, c125, c126, c127, c128, c129, c130, c131, c132, c133, c134, c135], df⟩ wr := by
  have HE := Lib.hid hexit
  clear hexit
  conv => arg 2; whnf
  dsimp only
  go_loopw [10, 59] (fun vq vi wr => ∃ a : Nat, a ≤ n ∧ vi = .int .i64 a ∧ Hid (BW W0 wr bn vq q (Su.rep (Su.bfsStep U y) a nx0))) (fun _ vi _ => n - (intOf vi).toNat)
  case atStart => exact ⟨0, Nat.zero_le _, rfl, HB⟩
  case round =>
    obtain ⟨a, ha, rfl, HI⟩ := hrel
    by_cases hlt : a < n
    case neg =>
      obtain rfl : a = n := by omega
      go_wp2_with fail
      exact HE.out _ _ _ _ _ _ _ _ _ _ _ _ _ _ _ _ _ _ _ _ _ _ _ _ _ _ _ _ _ _ _ _ _ _ wr HI.out
    case pos =>
    obtain ⟨X, hX⟩ : ∃ X, Su.rep (Su.bfsStep U y) a nx0 = X := ⟨_, rfl⟩
    have hstep : Su.rep (Su.bfsStep U y) (a + 1) nx0 = Su.bfsStep U y a X := by rw [Su.rep_succ, hX]
    have hkn : Su.Known n X := by rw [← hX]; exact Su.Known.rep hyn HKN.out a ha
    have hge : nx0.length ≤ X.length := by rw [← hX]; exact Su.rep_len_ge U y nx0 a
    have hqX : q < X.length := by omega
    have hyX : (X.getD q (0, 0)).1 = y := by rw [← hX, Su.rep_getD U y nx0 a hq]; exact HY.out
    have hXl := hkn.len
    rw [hX] at HI
    have hrow := HI.out.row
    obtain ⟨m, hm⟩ : ∃ m, X.length - (q + 1) = m := ⟨_, rfl⟩
    have hhl : (Su.heads (q + 1) X).length = m := by rw [Su.heads_len]; exact hm
    rw [Su.heads_cons hqX, hyX, List.map_cons] at hrow
    obtain ⟨g, off, cq, rfl, hcells⟩ := hrow.form
    rw [List.length_cons, List.length_map, hhl] at HI ⊢
    have hcy : wr.cell? ⟨g, off, none⟩ = some (.int .i64 y) := hcells 0 _ rfl
    obtain ⟨D, hD, hS⟩ := HI.out.map
    have HD := Lib.hid (And.intro hD hS)
    have HST := Lib.hid hstep
    have hp7 := HT.out.1.p7
    have p7 := HI.out.ext.cell hp7
    obtain ⟨DU, hDU, hSU⟩ := HT.out.1.own
    have HDU := Lib.hid (And.intro hDU hSU)
    have ha64 : r64 (a : Int) := ⟨by omega, by omega⟩
    have hy64 : r64 y := ⟨by omega, by omega⟩
    have HR64 := Lib.hid (And.intro ha64 hy64)
    have HFX := Lib.hid (And.intro hkn (And.intro hqX hyX))
    clear hstep hkn hX hyX hrow hcells hD hS hp7 hDU hSU ha64 hy64 hm hhl hge hqX
    cases hn : Su.nextOf X (a : Int) with
    | some z =>
      have HZ := Lib.hid (show (Su.nextOf X (a : Int)).getD 0 = z ∧ (Su.nextOf X (a : Int)).isSome = true by rw [hn]; exact ⟨rfl, rfl⟩)
      have HNO := Lib.hid (Su.bfsStep_known (U := U) (y := y) hn)
      clear hn
      go_wp2_with (at_lookup; refine wpl_look rfl _ _ rfl bn X.length rfl HD.out.1 HD.out.2 rfl (by omega) (by omega) HZ.out.1 HZ.out.2 ?_)
      refine wp_atEnd (bfs_known wr _ _ _ _ _ _ _ _ _ _ _ _ _ _ _ _ _ _ _ _ _ _ _ _ _ _ _ _ _ _ _ _ _ _ _ _ _ _ _ _ _ _ _ _ _ _ _ _ _ _ _ _ _ _ _ _ _ _ _ _ _ _ _ _ _ _ _ _ _ _ _ _ _ _ _ _ _ _ _ _ _ _ _ _ _ _ _ _ _ _ _ _ _ _ _ _ _ _ _ _ _ _ _ _ _ _ _ _ _ _ _ _ _ _ _ _ _ _ _ _ _ _ _ _ _ _ _ _ _ _ _ _ _ _ _ _ _ ?_)
      intro u68 u69 u70 u71 u72 u73 u74 u75 u76 u77 wx hx
      have HX := Lib.hid hx
      clear hx hcy p7
      go_wp2_with fail
      go_roundw
      case rel => exact ⟨a + 1, by omega, by go_num, Lib.hid (by rw [HST.out, HNO.out]; exact HI.out.next HX.out)⟩
      case measure => simp [intOf]; omega
    | none =>
      have HZ := Lib.hid (show (Su.nextOf X (a : Int)).getD 0 = 0 ∧ (Su.nextOf X (a : Int)).isSome = false by rw [hn]; exact ⟨rfl, rfl⟩)
      have HN0 := Lib.hid hn
      obtain ⟨x, hxU⟩ : ∃ x, decide (((a : Int), y) ∈ U) = x := ⟨_, rfl⟩
      have HLK : Hid (∀ w1, Ext wr w1 → (Instr.lookup 79 (.map (some b)) (.agg #[.int .i64 (a : Nat), .int .i64 y]) false).run Tryd.prog w1 = .ok (.bool x) w1) := Lib.hid fun w1 hx1 => by
        rw [look_hop (ownsMap_ext HDU.out.1 (HI.out.ext.trans hx1)) HDU.out.2 HR64.out.1 HR64.out.2, hxU]
      have HXU := Lib.hid hxU
      clear hn hxU
      go_wp2_with (at_lookup; refine wpl_look rfl _ _ rfl bn X.length rfl HD.out.1 HD.out.2 rfl (by omega) (by omega) HZ.out.1 HZ.out.2 ?_)
      refine wp_atEnd (bfs_look wr P7 b g off m cq a y x p7 hcy HLK _ _ _ _ _ _ _ _ _ _ _ _ _ _ _ _ _ _ _ _ _ _ _ _ _ _ _ _ _ _ _ _ _ _ _ _ _ _ _ _ _ _ _ _ _ _ _ _ _ _ _ _ _ _ _ _ _ _ _ _ _ _ _ _ _ _ _ _ _ _ _ _ _ _ _ _ _ _ _ _ _ _ _ _ _ _ _ _ _ _ _ _ _ _ _ _ _ _ _ _ _ _ _ _ _ _ _ _ _ _ _ _ _ _ _ _ _ _ _ _ _ _ _ _ _ _ _ _ _ _ _ _ _ _ ?_)
      intro u68 u69 u70 u71 u72 u73 u74 u75 u76 u77 wx hx
      have HX := Lib.hid hx
      have hcy2 := hx.cell hcy
      clear hx hcy p7
      cases x with
      | false =>
        have HNO := Lib.hid (Su.bfsStep_no (nx := X) (of_decide_eq_false HXU.out))
        clear hcy2
        go_wp2_with fail
        go_roundw
        case rel => exact ⟨a + 1, by omega, by go_num, Lib.hid (by rw [HST.out, HNO.out]; exact HI.out.next HX.out)⟩
        case measure => simp [intOf]; omega
      | true =>
        have HYES := Lib.hid (Su.bfsStep_yes HN0.out (of_decide_eq_true HXU.out))
        have hkey := Go.Maps.keyOf_int_mk Tryd.underlying3 (WalkArith.wf_i64 HR64.out.1)
        have hwf : (Lit.int .i64 y).wf = true := WalkArith.wf_i64 HR64.out.2
        go_wp2_with (first | (at_mapUpdate; refine wpList_mapUpdate_own _ rfl _ _ _ 72 rfl 3 3 hopLaw Tryd.underlying72 _ bn X.length D rfl (ownsMap_ext HD.out.1 HX.out) (by unfold maxLen; omega) _ _ _ rfl rfl hkey (.lit (.int .i64 y)) [] (plainElem_int Tryd.underlying3 hwf) ?_; intro w5 hown5 hgrow5; have H5 := Lib.hid (And.intro hown5 hgrow5); clear hown5 hgrow5; have hq5 := Lib.hid ((HI.out.row.next HX.out).mapped (ownsMap_ext HD.out.1 HX.out) H5.out.2); have hx5 := Lib.hid ((HI.out.ext.trans HX.out).grown H5.out.2 (fun k hk => by injection hk with hk; rw [← hk]; exact HI.out.ge))) | (refine wpl_push (z := (a : Int)) rfl (.tmp 84) (.tmp 86) rfl (hx5.out.alloc _) (hq5.out.next ((Ext.refl _).alloc _)) rfl rfl (by go_simp) (by rw [List.length_map, Su.heads_len]; omega) ?_; intro v8 w8 hq8 hx8 hm8; have H8 := Lib.hid (And.intro hq8 (And.intro hx8 hm8)); clear hq8 hx8 hm8))
        have hw8 := H8.out.2.2 _ _ _ _ _ (H5.out.1.alloc _)
        have HW8 := Lib.hid hw8
        clear hw8 hkey hwf hcy2
        go_roundw
        case rel => exact ⟨a + 1, by omega, by go_num, Lib.hid (by
          rw [HST.out, HYES.out]
          refine ⟨H8.out.2.1, HI.out.ge, ⟨_, by rw [List.length_append]; exact HW8.out, HD.out.2.hop HD.out.1.isMap HN0.out⟩, ?_⟩
          rw [Su.heads_snoc (Nat.le_of_lt HFX.out.2.1), List.map_append]
          exact H8.out.1)⟩
        case measure => simp [intOf]; omega

end Go.Proofs.YtenafgphaceidaaDoor

/- THE OTHER LOOPS OF Tree, each a declaration of its own. -/
namespace Go.Proofs.YtenafgphaceidaaDoor
open Go.RowKit
open Go.Maps (Keyed)
open Go.WideMaps Go.ChangeMaps Go.MapKept Go.WideShapes
def BRel (W0 : World) (bn n : Nat) (U R : List (Int × Int)) (f : Nat) (vq : Value) (wr : World) : Prop :=
  ∃ (q : Nat) (nx : List (Int × Int)), q ≤ nx.length ∧ f + q = n + 1 ∧ BW W0 wr bn vq q nx ∧ Su.Known n nx ∧ Su.bfs U n f q nx = R
/-- The marks' row. -/
def srow (g n : Nat) (S : List Bool) : LRow := ⟨.slice (some ⟨g, 0, none⟩) n n, 4, 1, n, S.map .bool⟩
/-- All cells but those of one block are as they were. -/
def Apart (g : Nat) (w w' : World) : Prop := ∀ p v, p.block ≠ g → w.cell? p = some v → w'.cell? p = some v
theorem Apart.refl (g : Nat) (w : World) : Apart g w w := fun _ _ _ h => h
theorem Apart.trans {g : Nat} {a b c : World} (h : Apart g a b) (k : Apart g b c) : Apart g a c := fun p v hp hv => k p v hp (h p v hp hv)
theorem Apart.set {g : Nat} {a b : World} (h : Apart g a b) (k : Nat) (u : Value) : Apart g a (b.setCell ⟨g, k, none⟩ u) := fun p v hp hv => by
  rw [World.cell?_setCell_other _ _ _ _ (fun e => hp (by rw [← e]))]
  exact h p v hp hv
def MRel (W1 W2 : World) (g n : Nat) (R : List (Int × Int)) (tg : Int) (S' : List Bool) (f : Nat) (va : Value) (wr : World) : Prop :=
  ∃ (a : Int) (S : List Bool), va = .int .i64 a ∧ 0 ≤ a ∧ a < (n : Int) ∧ S.length = n ∧ Su.offs S ≤ f ∧ Owns W1 wr [srow g n S] ∧ Su.mark R tg (f + 1) a S = S' ∧ Apart g W2 wr
theorem next_range {n : Nat} {R : List (Int × Int)} (hn : 0 < n) (h : Su.Known n R) (a : Int) : 0 ≤ (Su.nextOf R a).getD 0 ∧ (Su.nextOf R a).getD 0 < (n : Int) := by
  cases hq : Su.nextOf R a with
  | none => simp only [Option.getD_none]; omega
  | some b =>
    have := h.ran _ (Su.nextOf_some hq)
    simpa using this
theorem srow_apart {W1 w : World} {g n : Nat} {S : List Bool} (h : Owns W1 w [srow g n S]) {p : Addr} {z : Int} (hp : w.cell? p = some (.int .i64 z)) : p.block ≠ g := by
  intro e
  rcases (h.row 0 rfl).2 with ⟨hv, _⟩ | ⟨g', cap, cur, hv, _, hg, _, _, hsz, ht⟩
  · cases hv
  · injection hv with e1 e2 e3
    injection e1 with e1
    injection e1 with e1 _ _
    subst e1
    unfold World.cell? at hp
    rw [e, hg] at hp
    have hmem : (Value.int .i64 z) ∈ cur.toList := by
      cases hs : p.spot with
      | none =>
        rw [hs] at hp
        simp only at hp
        exact Array.mem_toList_iff.2 (Array.mem_of_getElem? hp)
      | some q => rw [hs] at hp; simp at hp
    have hcur : cur.toList = S.map Value.bool := by
      rw [← ht, List.take_of_length_le (by simp; omega)]
    rw [hcur] at hmem
    obtain ⟨b, _, hb⟩ := List.mem_map.1 hmem
    cases hb
/-- Hops, as cells. -/
def hcells : List (Int × Int) → List Value
  | [] => []
  | x :: l => .int .i64 x.1 :: .int .i64 x.2 :: hcells l
theorem hcells_snoc : ∀ (l : List (Int × Int)) (x : Int × Int), hcells (l ++ [x]) = hcells l ++ [.int .i64 x.1, .int .i64 x.2]
  | [], x => rfl
  | y :: l, x => by rw [List.cons_append, hcells, hcells, hcells_snoc l x]; rfl
theorem hcells_at : ∀ (l : List (Int × Int)) (i : Nat) (x : Int × Int), l[i]? = some x → (hcells l)[i * 2]? = some (.int .i64 x.1) ∧ (hcells l)[i * 2 + 1]? = some (.int .i64 x.2)
  | [], i, x, h => by simp at h
  | y :: l, 0, x, h => by simp at h; subst h; exact ⟨rfl, rfl⟩
  | y :: l, i + 1, x, h => by
    have h1 := hcells_at l i x (by simpa using h)
    rw [show (i + 1) * 2 = i * 2 + 1 + 1 by omega]
    exact h1
/-- A row of hops, read. -/
theorem RL.of_own {w0 w : World} {A : Option Addr} {m c : Nat} {l : List (Int × Int)} (h : w.ownsRow w0.heap.size 65 2 (.slice A m c) m (hcells l)) (hm : m = l.length) (hl : l.length ≤ 100) (hb : ∀ x ∈ l, r64 x.1 ∧ r64 x.2) : RL w (.slice A m c) l := by
  subst hm
  refine ⟨A, c, rfl, by omega, fun i x hi => ?_⟩
  obtain ⟨c1, c2⟩ := hcells_at l i x hi
  have hil : i < l.length := by
    rcases Nat.lt_or_ge i l.length with h1 | h1
    · exact h1
    · rw [List.getElem?_eq_none h1] at hi; cases hi
  rcases h.2 with ⟨_, h0⟩ | ⟨g, cap, cur, hv, _⟩
  · omega
  · injection hv with e1 e2 e3
    subst e1
    have k1 := h.cellAt (g := g) (i * 2) (by omega)
    have k2 := h.cellAt (g := g) (i * 2 + 1) (by omega)
    refine ⟨⟨g, 0, none⟩, rfl, ?_, ?_, (hb x (List.mem_of_getElem? hi)).1.1, (hb x (List.mem_of_getElem? hi)).1.2, (hb x (List.mem_of_getElem? hi)).2.1, (hb x (List.mem_of_getElem? hi)).2.2⟩
    · rw [Addr.add_lit, Nat.zero_add, k1]; exact c1
    · rw [Addr.add_lit]
      show w.cell? ⟨g, 0 + i * 2 + 1, none⟩ = _
      rw [Nat.zero_add, k2]; exact c2
theorem info_hop : (Tryd.prog.info? 65).map (fun i => (i.zero, i.size, i.bytes)) = some (some (.agg #[.int .i64 0, .int .i64 0]), 2, 16) := by kernel_rfl
/-- 'out = append(out, hop)'. -/
theorem wpl_append_hop {w0 w : World} {L : List LRow} {ops : Array Oper} {rest : List Oper} {o : Oper} {a : Act} {Q : Exit → Act → World → Prop} (hgd : o.guard = none) (s x : Operand)
    (ho : o.op = .call { callee := .builtin .append, args := #[s, x], argTypes := #[26, 26] })
    (h : Owns w0 w L) (i : Nat) {v : Value} {n : Nat} {l : List (Int × Int)} (hL : L[i]? = some ⟨v, 65, 2, n, hcells l⟩) (hs : a.eval s = v) {g0 : Nat} {y : Int × Int}
    (hx : a.eval x = .slice (some ⟨g0, 0, none⟩) 1 1) (hu : w.cell? ⟨g0, 0, none⟩ = some (.int .i64 y.1)) (hu2 : w.cell? ⟨g0, 1, none⟩ = some (.int .i64 y.2)) (hm : n < 1000000000000)
    (hK : ∀ g cap w', Owns w0 w' (L.set i ⟨.slice (some ⟨g, 0, none⟩) (n + 1) cap, 65, 2, n + 1, hcells (l ++ [y])⟩) → w.grownBy w' v.ownBlock → wpList Tryd.prog ops Q rest (a.put o.dst (.slice (some ⟨g, 0, none⟩) (n + 1) cap)) w') :
    wpList Tryd.prog ops Q (o :: rest) a w := by
  refine wpList_plain hgd fun K hK' => ?_
  obtain ⟨g, cap, w', hr, h2, _, h3⟩ := run_append_owns (P := Tryd.prog) 26 o.type 65 Tryd.underlying26 info_hop rfl (by decide) h i hL ⟨g0, 0, none⟩ 1 1 [.int .i64 y.1, .int .i64 y.2] rfl (fun j z hj => by
    match j, hj with
    | 0, hj => simp at hj; subst hj; exact hu
    | 1, hj => simp at hj; subst hj; exact hu2) (fun z hz => by
    simp at hz
    rcases hz with rfl | rfl <;> rfl) (by decide) (by unfold maxLen; omega) (by omega)
  rw [← hcells_snoc] at h2
  unfold Oper.wp execOp
  simp only [ho, resolve, invoke, builtin, Sem.run_bind, Sem.run_pure, Result.andThen_ok, List.map_toArray, List.map_cons, List.map_nil, hs, hx, hr]
  exact hK' _ _ (hK g cap w' h2 h3)
noncomputable def bfs_out_code : Code := ((Tryd.f16.body.bind (loopOf 13)).getD .skip)
set_option maxRecDepth 1000000 in
set_option maxHeartbeats 16000000 in
theorem bfs_out (W0 w00 wr : World) (A : Option Addr) (B c g0 N b P6 P7 P8 bn n : Nat) (vq0 : Value) (W : List Su.Way) (U R : List (Int × Int)) (hn12 : n ≤ 12) (hd0 : W0.cell? ⟨B, 0, none⟩ = some (.slice A n c)) (HD0 : Hid (W0.cell? ⟨B, 0, none⟩ = some (.slice A n c))) (HT : Hid (TW w00 W0 g0 N b P6 P7 P8 W U ∧ True)) (HB : Hid (∃ f, BRel W0 bn n U R f vq0 wr)) (c0 c2 c3 c4 c5 c6 c8 c11 c12 c13 c14 c15 c16 c17 c18 c19 c20 c21 c22 c23 c24 c25 c26 c27 c28 c29 c30 c31 c32 c33 c34 c35 c36 c37 c38 c39 c40 c41 c42 c43 c44 c45 c46 c47 c48 c49 c50 c51 c52 c53 c54 c55 c56 c57 c58 c59 c60 c61 c62 c63 c64 c65 c66 c67 c68 c69 c70 c71 c72 c73 c74 c75 c76 c77 c78 c79 c80 c81 c82 c83 c84 c85 c86 c87 c88 c89 c90 c91 c92 c93 c94 c95 c96 c97 c98 c99 c100 c101 c102 c103 c104 c105 c106 c107 c108 c109 c110 c111 c112 c113 c114 c115 c116 c117 c118 c119 c120 c121 c122 c123 c124 c125 c126 c127 c128 c129 c130 c131 c132 c133 c134 c135 : Value) (df : List Deferred) (Q0 : Exit → Act → World → Prop)
    (hexit : ∀ (u10 u11 u12 u13 u51 u52 u53 u54 u55 u56 u57 u58 u59 u60 u61 u62 u63 u64 u65 u66 u67 u68 u69 u70 u71 u72 u73 u74 u75 u76 u77 u78 u79 u80 u81 u82 u83 u84 u85 u86 u87 u88 : Value) (wx : World), (∃ q, BW W0 wx bn u10 q R ∧ Su.Known n R) → Q0 (.exit 0) ⟨#[c0, .pointer (some ⟨B, 0, none⟩), c2, c3, c4, c5, c6, .pointer (some ⟨P7, 0, none⟩), c8, .map (some bn), u10, u11, u12, u13, c14, c15, c16, c17, c18, c19, c20, c21, c22, c23, c24, c25, c26, c27, c28, c29, c30, c31, c32, c33, c34, c35, c36, c37, c38, c39, c40, c41, c42, c43, c44, c45, c46, c47, c48, c49, c50, u51, u52, u53, u54, u55, u56, u57, u58, u59, u60, u61, u62, u63, u64, u65, u66, u67, u68, u69, u70, u71, u72, u73, u74, u75, u76, u77, u78, u79, u80, u81, u82, u83, u84, u85, u86, u87, u88, c89, c90, c91, c92, c93, c94, c95, c96, c97, c98, c99, c100, c101, c102, c103, c104, c105, c106, c107, c108, c109, c110, c111, c112, c113, c114, c115, c116, c117, c118, c119, c120, c121, c122, c123, c124, c125, c126, c127, c128, c129, c130, c131, c132, c133, c134, c135], df⟩ wx) :
    Code.wp Tryd.prog bfs_out_code Q0 ⟨#[c0, .pointer (some ⟨B, 0, none⟩), c2, c3, c4, c5, c6, .pointer (some ⟨P7, 0, none⟩), c8, .map (some bn), vq0, c11, c12, c13, c14, c15, c16, c17, c18, c19, c20, c21, c22, c23, c24, c25, c26, c27, c28, c29, c30, c31, c32, c33, c34, c35, c36, c37, c38, c39, c40, c41, c42, c43, c44, c45, c46, c47, c48, c49, c50, c51, c52, c53, c54, c55, c56, c57, c58, c59, c60, c61, c62, c63, c64, c65, c66, c67, c68, c69, c70, c71, c72, c73, c74, c75, c76, c77, c78, c79, c80, c81, c82, c83, c84, c85, c86, c87, c88, c89, c90, c91, c92, c93, c94, c95, c96, c97, c98, c99, c100, c101, c102, c103, c104, c105, c106, c107, c108, c109, c110, c111, c112, c113, c114, c115, c116, c117, c118, c119, c120, c121, c122, c123, c124, c125, c126, c127, c128, c129, c130, c131, c132, c133, c134, c135], df⟩ wr := by
  have HE := Lib.hid hexit
  clear hexit
  conv => arg 2; whnf
  dsimp only
  go_loopw [10] (fun vq wr => Hid (∃ f, BRel W0 bn n U R f vq wr)) (fun vq wr => minOf fun f => BRel W0 bn n U R f vq wr)
  case atStart => exact HB
  case round =>
    obtain ⟨f, hf⟩ : ∃ f, minOf (fun f => BRel W0 bn n U R f u10 wr) = f := ⟨_, rfl⟩
    have hsp := minOf_spec hrel.out
    rw [hf] at hsp
    have HF := Lib.hid hf
    clear hf
    obtain ⟨q, nx, hq, hfq, hbw, hkn, hR⟩ := hsp
    have hxl := hkn.len
    have d0 : wr.cell? ⟨B, 0, none⟩ = some (.slice A n c) := hbw.ext.cell hd0
    by_cases hlt : q < nx.length
    case neg =>
      have hrow := hbw.row
      have hh : Su.heads q nx = [] := List.length_eq_zero_iff.1 (by rw [Su.heads_len]; omega)
      have hRx := Su.bfs_end (U := U) (n := n) (f := f) hlt
      rw [hR] at hRx
      rw [hh] at hrow
      obtain ⟨g, off, cq, hv, _⟩ := hrow.form
      have hbw2 := hbw
      rw [← hRx] at hbw2 hkn
      subst hv
      have HEND := Lib.hid (And.intro hbw2 hkn)
      simp only [List.map_nil, List.length_nil] at HEND ⊢
      clear hrow hh hRx hbw hbw2 hkn hR hrel hd0 HB d0
      go_wp2_with fail
      exact HE.out _ _ _ _ _ _ _ _ _ _ _ _ _ _ _ _ _ _ _ _ _ _ _ _ _ _ _ _ _ _ _ _ _ _ _ _ _ _ _ _ _ _ wr ⟨q, HEND.out⟩
    case pos =>
      obtain ⟨g', rfl⟩ : ∃ g', f = g' + 1 := ⟨f - 1, by omega⟩
      have hrow := hbw.row
      rw [Su.heads_cons hlt, List.map_cons] at hrow
      obtain ⟨g, off, cq, hv, _⟩ := hrow.form
      rw [List.length_cons] at hv
      obtain ⟨m, hm⟩ : ∃ m, ((Su.heads (q + 1) nx).map (Value.int .i64)).length = m := ⟨_, rfl⟩
      rw [hm] at hv
      subst hv
      have hyn := hkn.at hlt
      obtain ⟨y, hy⟩ : ∃ y, (nx.getD q (0, 0)).1 = y := ⟨_, rfl⟩
      have hgo := Su.bfs_go (U := U) (n := n) (f := g') hlt
      rw [hR, hy] at hgo
      rw [hy] at hyn
      have HG := Lib.hid (And.intro hgo (And.intro hfq hkn))
      have HY := Lib.hid hy
      have HBW := Lib.hid hbw
      have HKN := Lib.hid hkn
      have HQ := Lib.hid hlt
      have m0 : (0 : Int) < (m : Int) + 1 := by omega
      clear hgo hfq hkn hy hbw hrow hm hR hrel hd0 HB hq
      go_wp2_with fail
      refine bfs_in W0 w00 wr g0 N b P6 P7 P8 bn n q y _ W U nx hn12 hyn hlt HKN HY HT HBW _ _ _ _ _ _ _ _ _ _ _ _ _ _ _ _ _ _ _ _ _ _ _ _ _ _ _ _ _ _ _ _ _ _ _ _ _ _ _ _ _ _ _ _ _ _ _ _ _ _ _ _ _ _ _ _ _ _ _ _ _ _ _ _ _ _ _ _ _ _ _ _ _ _ _ _ _ _ _ _ _ _ _ _ _ _ _ _ _ _ _ _ _ _ _ _ _ _ _ _ _ _ _ _ _ _ _ _ _ _ _ _ _ _ _ _ _ _ _ _ _ _ _ _ _ _ _ _ _ _ _ _ _ ?_
      intro u10 u11 u12 u13 u59 u60 u61 u62 u63 u64 u65 u66 u67 u68 u69 u70 u71 u72 u73 u74 u75 u76 u77 u78 u79 u80 u81 u82 u83 u84 u85 u86 u87 u88 wx hbx
      have hqX : q < (Su.rep (Su.bfsStep U y) n nx).length := Nat.lt_of_lt_of_le HQ.out (Su.rep_len_ge U y nx n)
      have hrow := hbx.row
      rw [Su.heads_cons hqX, Su.rep_getD U y nx n HQ.out, List.map_cons] at hrow
      obtain ⟨v', hrun, hrow'⟩ := QRow.tail (P := Tryd.prog) 23 Tryd.underlying23 (by kernel_rfl) hrow
      have HX := Lib.hid (And.intro hbx (And.intro hrow' hqX))
      have d0 : wx.cell? ⟨B, 0, none⟩ = some (.slice A n c) := hbx.ext.cell HD0.out
      clear hbx hrow' hqX hrow d0
      go_wp2_with fail
      have hnew : BRel W0 bn n U R g' v' wx := ⟨q + 1, _, HX.out.2.2, by have := HG.out.2.1; omega, ⟨HX.out.1.ext, HX.out.1.ge, HX.out.1.map, HX.out.2.1⟩, Su.Known.rep hyn HG.out.2.2 n (Nat.le_refl _), HG.out.1.symm⟩
      have HNEW := Lib.hid hnew
      clear hnew hrun
      go_roundw
      case rel => exact Lib.hid ⟨g', HNEW.out⟩
      case measure =>
        have h1 := minOf_le (p := fun f => BRel W0 bn n U R f v' wx) HNEW.out
        have h2 := HF.out
        omega

noncomputable def mark_in_code : Code := ((Tryd.f16.body.bind (loopOf 28)).getD .skip)
set_option maxRecDepth 1000000 in
set_option maxHeartbeats 16000000 in
theorem mark_in (W1 W2 wr : World) (B bn gs n : Nat) (tg : Int) (va0 : Value) (R : List (Int × Int)) (S' : List Bool) (D : DataW Unit) (hn12 : n ≤ 12) (HD2 : Hid (W1.cell? ⟨B, 2, none⟩ = some (.int .i64 tg))) (HM : Hid (W1.ownsMap Tryd.prog 3 (plainElem Tryd.prog 3) bn R.length D ∧ MSays D (Su.nextOf R) ∧ Su.Known n R)) (HB : Hid (∃ f, MRel W1 W2 gs n R tg S' f va0 wr)) (c0 c2 c3 c4 c5 c6 c7 c8 c10 c11 c12 c13 c15 c17 c18 c19 c20 c21 c22 c23 c24 c25 c26 c27 c28 c29 c30 c31 c32 c33 c34 c35 c36 c37 c38 c39 c40 c41 c42 c43 c44 c45 c46 c47 c48 c49 c50 c51 c52 c53 c54 c55 c56 c57 c58 c59 c60 c61 c62 c63 c64 c65 c66 c67 c68 c69 c70 c71 c72 c73 c74 c75 c76 c77 c78 c79 c80 c81 c82 c83 c84 c85 c86 c87 c88 c89 c90 c91 c92 c93 c94 c95 c96 c97 c98 c99 c100 c101 c102 c103 c104 c105 c106 c107 c108 c109 c110 c111 c112 c113 c114 c115 c116 c117 c118 c119 c120 c121 c122 c123 c124 c125 c126 c127 c128 c129 c130 c131 c132 c133 c134 c135 : Value) (df : List Deferred) (Q0 : Exit → Act → World → Prop)
    (hexit : ∀ (u16 u100 u101 u102 u103 u104 u105 u106 u107 u108 u109 u110 u111 u112 u113 u114 u115 u116 : Value) (wx : World), Owns W1 wx [srow gs n S'] ∧ Apart gs W2 wx → Q0 (.exit 6) ⟨#[c0, .pointer (some ⟨B, 0, none⟩), c2, c3, c4, c5, c6, c7, c8, .map (some bn), c10, c11, c12, c13, .slice (some ⟨gs, 0, none⟩) n n, c15, u16, c17, c18, c19, c20, c21, c22, c23, c24, c25, c26, c27, c28, c29, c30, c31, c32, c33, c34, c35, c36, c37, c38, c39, c40, c41, c42, c43, c44, c45, c46, c47, c48, c49, c50, c51, c52, c53, c54, c55, c56, c57, c58, c59, c60, c61, c62, c63, c64, c65, c66, c67, c68, c69, c70, c71, c72, c73, c74, c75, c76, c77, c78, c79, c80, c81, c82, c83, c84, c85, c86, c87, c88, c89, c90, c91, c92, c93, c94, c95, c96, c97, c98, c99, u100, u101, u102, u103, u104, u105, u106, u107, u108, u109, u110, u111, u112, u113, u114, u115, u116, c117, c118, c119, c120, c121, c122, c123, c124, c125, c126, c127, c128, c129, c130, c131, c132, c133, c134, c135], df⟩ wx) :
    Code.wp Tryd.prog mark_in_code Q0 ⟨#[c0, .pointer (some ⟨B, 0, none⟩), c2, c3, c4, c5, c6, c7, c8, .map (some bn), c10, c11, c12, c13, .slice (some ⟨gs, 0, none⟩) n n, c15, va0, c17, c18, c19, c20, c21, c22, c23, c24, c25, c26, c27, c28, c29, c30, c31, c32, c33, c34, c35, c36, c37, c38, c39, c40, c41, c42, c43, c44, c45, c46, c47, c48, c49, c50, c51, c52, c53, c54, c55, c56, c57, c58, c59, c60, c61, c62, c63, c64, c65, c66, c67, c68, c69, c70, c71, c72, c73, c74, c75, c76, c77, c78, c79, c80, c81, c82, c83, c84, c85, c86, c87, c88, c89, c90, c91, c92, c93, c94, c95, c96, c97, c98, c99, c100, c101, c102, c103, c104, c105, c106, c107, c108, c109, c110, c111, c112, c113, c114, c115, c116, c117, c118, c119, c120, c121, c122, c123, c124, c125, c126, c127, c128, c129, c130, c131, c132, c133, c134, c135], df⟩ wr := by
  have HE := Lib.hid hexit
  clear hexit
  conv => arg 2; whnf
  dsimp only
  go_loopw [16] (fun va wr => Hid (∃ f, MRel W1 W2 gs n R tg S' f va wr)) (fun va wr => minOf fun f => MRel W1 W2 gs n R tg S' f va wr)
  case atStart => exact HB
  case round =>
    obtain ⟨f, hf⟩ : ∃ f, minOf (fun f => MRel W1 W2 gs n R tg S' f u16 wr) = f := ⟨_, rfl⟩
    have hsp := minOf_spec hrel.out
    rw [hf] at hsp
    have HF := Lib.hid hf
    clear hf hrel HB
    obtain ⟨a, S, rfl, ha0, han, hSl, hoff, hO, hmk, hap⟩ := hsp
    have HAP := Lib.hid hap
    clear hap
    obtain ⟨k, rfl⟩ : ∃ k : Nat, a = k := ⟨a.toNat, by omega⟩
    have hkn : k < n := by omega
    have hkS : k < S.length := by omega
    have d2 : wr.cell? ⟨B, 2, none⟩ = some (.int .i64 tg) := hO.ext.cell HD2.out
    have HO := Lib.hid (And.intro hO (And.intro hmk (And.intro hSl hoff)))
    clear hO hmk hSl hoff
    by_cases ht : (k : Int) = tg
    · have e1 : ((k : Int) != tg) = false := by rw [ht]; simp
      have hS : S = S' := (Su.mark_tgt (R := R) (f := f + 1) (S := S) ht).symm.trans HO.out.2.1
      have HS := Lib.hid hS
      clear ht hS
      go_wp2_with fail
      exact HE.out _ _ _ _ _ _ _ _ _ _ _ _ _ _ _ _ _ _ wr ⟨by rw [← HS.out]; exact HO.out.1, HAP.out⟩
    · have e1 : ((k : Int) != tg) = true := by rw [bne_iff_ne]; exact ht
      have hcell := HO.out.1.cell 0 rfl k (u := .bool S[k]) (by simp [hkS])
      have hgd : S.getD (k : Int).toNat false = S[k] := by rw [Int.toNat_natCast, List.getD_eq_getElem?_getD, List.getElem?_eq_getElem hkS]; rfl
      obtain ⟨x, hx⟩ : ∃ x, S[k] = x := ⟨_, rfl⟩
      rw [hx] at hcell hgd
      have HGD := Lib.hid (And.intro hgd ht)
      clear hx hgd ht
      cases x with
      | true =>
        have hS : S = S' := (Su.mark_on (R := R) (t := tg) (f := f + 1) HGD.out.1).symm.trans HO.out.2.1
        have HS := Lib.hid hS
        clear hS
        go_wp2_with fail
        exact HE.out _ _ _ _ _ _ _ _ _ _ _ _ _ _ _ _ _ _ wr ⟨by rw [← HS.out]; exact HO.out.1, HAP.out⟩
      | false =>
        have hfr := HO.out.1.frozen 0 rfl k
        have hst := HO.out.1.store 0 rfl k (.bool true)
        have hOS : Owns W1 (wr.setCell ⟨gs, k, none⟩ (.bool true)) [srow gs n (S.set k true)] := by
          have e : (S.map Value.bool).set k (.bool true) = (S.set k true).map Value.bool := by rw [List.map_set]
          have := hst
          rw [e] at this
          exact this
        have hlk := look_int (ownsMap_ext HM.out.1 hOS.ext) HM.out.2.1 (y := (k : Int)) ⟨by omega, by omega⟩
        have hr := next_range (by omega) HM.out.2.2 (k : Int)
        have hg := Su.mark_go (R := R) (f := f) HGD.out.2 HGD.out.1
        rw [Int.toNat_natCast, HO.out.2.1] at hg
        have hofs := Su.offs_set (S := S) (i := k) (by have := HGD.out.1; rwa [Int.toNat_natCast] at this) hkS
        have hof2 := HO.out.2.2.2
        obtain ⟨b, hb⟩ : ∃ b, (Su.nextOf R (k : Int)).getD 0 = b := ⟨_, rfl⟩
        rw [hb] at hlk hr hg
        obtain ⟨g', rfl⟩ : ∃ g', f = g' + 1 := ⟨f - 1, by omega⟩
        have hlen2 : (S.set k true).length = n := by rw [List.length_set]; exact HO.out.2.2.1
        have hnew : MRel W1 W2 gs n R tg S' g' (.int .i64 b) (wr.setCell ⟨gs, k, none⟩ (.bool true)) := ⟨b, S.set k true, rfl, hr.1, hr.2, hlen2, by omega, hOS, hg.symm, HAP.out.set k _⟩
        have HNEW := Lib.hid hnew
        clear hst hOS hr hg hofs hof2 hb hlen2 hnew hkS
        go_wp2_with fail
        clear hcell hfr hlk d2
        go_roundw
        case rel => exact Lib.hid ⟨g', HNEW.out⟩
        case measure =>
          have h1 := minOf_le (p := fun f => MRel W1 W2 gs n R tg S' f (.int .i64 b) (wr.setCell ⟨gs, k, none⟩ (.bool true))) HNEW.out
          have h2 := HF.out
          omega

noncomputable def mark_out_code : Code := ((Tryd.f16.body.bind (loopOf 25)).getD .skip)
set_option maxRecDepth 1000000 in
set_option maxHeartbeats 16000000 in
theorem mark_out (W1 wr W2 : World) (LA : Option Addr) (B bn gs n nl cl : Nat) (tg : Int) (R : List (Int × Int)) (L : List Int) (D : DataW Unit) (hn12 : n ≤ 12) (hnl : nl ≤ 12) (HD2 : Hid (W1.cell? ⟨B, 2, none⟩ = some (.int .i64 tg))) (HL : Hid (Rs RI W2 (.slice LA nl cl) L ∧ L.length = nl)) (HR : Hid (∀ x ∈ L, 0 ≤ x ∧ x < (n : Int))) (HM : Hid (W1.ownsMap Tryd.prog 3 (plainElem Tryd.prog 3) bn R.length D ∧ MSays D (Su.nextOf R) ∧ Su.Known n R)) (HO0 : Hid (Owns W1 W2 [srow gs n (Su.marksTo R tg L n 0)])) (HW2 : W2 = wr) (c0 c2 c3 c4 c5 c6 c7 c8 c10 c11 c12 c13 c15 c16 c17 c18 c19 c20 c21 c22 c23 c24 c25 c26 c27 c28 c29 c30 c31 c32 c33 c34 c35 c36 c37 c38 c39 c40 c41 c42 c43 c44 c45 c46 c47 c48 c49 c50 c51 c52 c53 c54 c55 c56 c57 c58 c59 c60 c61 c62 c63 c64 c65 c66 c67 c68 c69 c70 c71 c72 c73 c74 c75 c76 c77 c78 c79 c80 c81 c82 c83 c84 c85 c86 c87 c88 c89 c90 c91 c92 c93 c97 c98 c99 c100 c101 c102 c103 c104 c105 c106 c107 c108 c109 c110 c111 c112 c113 c114 c115 c116 c117 c118 c119 c120 c121 c122 c123 c124 c125 c126 c127 c128 c129 c130 c131 c132 c133 c134 c135 : Value) (df : List Deferred) (Q0 : Exit → Act → World → Prop)
    (hexit : ∀ (u16 u96 u97 u98 u99 u100 u101 u102 u103 u104 u105 u106 u107 u108 u109 u110 u111 u112 u113 u114 u115 u116 u117 : Value) (wx : World), Owns W1 wx [srow gs n (Su.marksTo R tg L n nl)] → Q0 (.exit 4) ⟨#[c0, .pointer (some ⟨B, 0, none⟩), c2, c3, c4, c5, c6, c7, c8, .map (some bn), c10, c11, c12, c13, .slice (some ⟨gs, 0, none⟩) n n, c15, u16, c17, c18, c19, c20, c21, c22, c23, c24, c25, c26, c27, c28, c29, c30, c31, c32, c33, c34, c35, c36, c37, c38, c39, c40, c41, c42, c43, c44, c45, c46, c47, c48, c49, c50, c51, c52, c53, c54, c55, c56, c57, c58, c59, c60, c61, c62, c63, c64, c65, c66, c67, c68, c69, c70, c71, c72, c73, c74, c75, c76, c77, c78, c79, c80, c81, c82, c83, c84, c85, c86, c87, c88, c89, c90, c91, c92, c93, .slice LA nl cl, .int .i64 (nl : Nat), u96, u97, u98, u99, u100, u101, u102, u103, u104, u105, u106, u107, u108, u109, u110, u111, u112, u113, u114, u115, u116, u117, c118, c119, c120, c121, c122, c123, c124, c125, c126, c127, c128, c129, c130, c131, c132, c133, c134, c135], df⟩ wx) :
    Code.wp Tryd.prog mark_out_code Q0 ⟨#[c0, .pointer (some ⟨B, 0, none⟩), c2, c3, c4, c5, c6, c7, c8, .map (some bn), c10, c11, c12, c13, .slice (some ⟨gs, 0, none⟩) n n, c15, c16, c17, c18, c19, c20, c21, c22, c23, c24, c25, c26, c27, c28, c29, c30, c31, c32, c33, c34, c35, c36, c37, c38, c39, c40, c41, c42, c43, c44, c45, c46, c47, c48, c49, c50, c51, c52, c53, c54, c55, c56, c57, c58, c59, c60, c61, c62, c63, c64, c65, c66, c67, c68, c69, c70, c71, c72, c73, c74, c75, c76, c77, c78, c79, c80, c81, c82, c83, c84, c85, c86, c87, c88, c89, c90, c91, c92, c93, .slice LA nl cl, .int .i64 (nl : Nat), .int .i64 0, c97, c98, c99, c100, c101, c102, c103, c104, c105, c106, c107, c108, c109, c110, c111, c112, c113, c114, c115, c116, c117, c118, c119, c120, c121, c122, c123, c124, c125, c126, c127, c128, c129, c130, c131, c132, c133, c134, c135], df⟩ wr := by
  have HE := Lib.hid hexit
  clear hexit
  conv => arg 2; whnf
  dsimp only
  subst HW2
  go_loopw [96] (fun vi wr => ∃ k : Nat, k ≤ nl ∧ vi = .int .i64 k ∧ Hid (Owns W1 wr [srow gs n (Su.marksTo R tg L n k)] ∧ Apart gs W2 wr)) (fun vi _ => nl - (intOf vi).toNat)
  case atStart => exact ⟨0, Nat.zero_le _, rfl, Lib.hid ⟨HO0.out, Apart.refl _ _⟩⟩
  case round =>
    obtain ⟨k, hk, rfl, HI⟩ := hrel
    by_cases hlt : k < nl
    · have hkl : k < L.length := by rw [HL.out.2]; exact hlt
      obtain ⟨ad, u, rfl, hc, hu⟩ := HL.out.1.at hkl
      obtain ⟨rfl, _, _⟩ := hu
      have hcell := HI.out.2 _ _ (srow_apart HO0.out hc) hc
      have hgd := getD_get (x := (0 : Int)) hkl
      have hmem : L[k] ∈ L := List.getElem_mem hkl
      have hra := HR.out _ hmem
      obtain ⟨x, hx⟩ : ∃ x, L[k] = x := ⟨_, rfl⟩
      rw [hx] at hcell hgd hra
      have hst := Su.marksTo_succ R tg L n k
      rw [hgd] at hst
      have hml := Su.marksTo_len R tg L n k
      have HB2 : Hid (∃ f, MRel W1 W2 gs n R tg (Su.marksTo R tg L n (k + 1)) f (.int .i64 x) wr) := Lib.hid ⟨n, x, Su.marksTo R tg L n k, rfl, hra.1, hra.2, hml, by
        have := List.count_le_length (a := false) (l := Su.marksTo R tg L n k)
        unfold Su.offs
        omega, HI.out.1, hst.symm, HI.out.2⟩
      clear hst hml hgd hmem hra hc hx
      go_wp2_with fail
      refine mark_in W1 W2 wr B bn gs n tg _ R (Su.marksTo R tg L n (k + 1)) D hn12 HD2 HM HB2 _ _ _ _ _ _ _ _ _ _ _ _ _ _ _ _ _ _ _ _ _ _ _ _ _ _ _ _ _ _ _ _ _ _ _ _ _ _ _ _ _ _ _ _ _ _ _ _ _ _ _ _ _ _ _ _ _ _ _ _ _ _ _ _ _ _ _ _ _ _ _ _ _ _ _ _ _ _ _ _ _ _ _ _ _ _ _ _ _ _ _ _ _ _ _ _ _ _ _ _ _ _ _ _ _ _ _ _ _ _ _ _ _ _ _ _ _ _ _ _ _ _ _ _ _ _ _ _ _ _ _ _ _ _ ?_
      intro u16 u100 u101 u102 u103 u104 u105 u106 u107 u108 u109 u110 u111 u112 u113 u114 u115 u116 wx hx
      have HX := Lib.hid hx
      clear hx hcell
      go_wp2_with fail
      go_roundw
      case rel => exact ⟨k + 1, by omega, by go_num, HX⟩
      case measure => simp [intOf]; omega
    · obtain rfl : k = nl := by omega
      go_wp2_with fail
      exact HE.out _ _ _ _ _ _ _ _ _ _ _ _ _ _ _ _ _ _ _ _ _ _ _ wr HI.out.1

noncomputable def out_loop_code : Code := ((Tryd.f16.body.bind (loopOf 33)).getD .skip)
set_option maxRecDepth 1000000 in
set_option maxHeartbeats 16000000 in
theorem out_loop (W1 W2 wr : World) (bn gs n : Nat) (R : List (Int × Int)) (S : List Bool) (D : DataW Unit) (hn12 : n ≤ 12) (HS : Hid (Owns W1 W2 [srow gs n S] ∧ S.length = n)) (HM : Hid (W2.ownsMap Tryd.prog 3 (plainElem Tryd.prog 3) bn R.length D ∧ MSays D (Su.nextOf R))) (HO0 : Hid (Owns W2 wr [⟨.slice none 0 0, 65, 2, 0, []⟩])) (c0 c1 c2 c3 c4 c5 c6 c7 c8 c10 c11 c12 c13 c14 c15 c16 c18 c19 c20 c21 c22 c23 c24 c25 c26 c27 c28 c29 c30 c31 c32 c33 c34 c35 c36 c37 c38 c39 c40 c41 c42 c43 c44 c45 c46 c47 c48 c49 c50 c51 c52 c53 c54 c55 c56 c57 c58 c59 c60 c61 c62 c63 c64 c65 c66 c67 c68 c69 c70 c71 c72 c73 c74 c75 c76 c77 c78 c79 c80 c81 c82 c83 c84 c85 c86 c87 c88 c89 c90 c91 c92 c93 c94 c95 c96 c97 c98 c99 c100 c101 c102 c103 c104 c105 c106 c107 c108 c109 c110 c111 c112 c113 c114 c115 c116 c117 c121 c122 c123 c124 c125 c126 c127 c128 c129 c130 c131 c132 c133 c134 c135 : Value) (df : List Deferred) (Q0 : Exit → Act → World → Prop)
    (hexit : ∀ (u17 u18 u19 u120 u121 u122 u123 u124 u125 u126 u127 u128 u129 u130 u131 u132 u133 u134 : Value) (wx : World), (∃ A' m c', u17 = .slice A' m c' ∧ m = (Su.outTo R S n).length ∧ Owns W2 wx [⟨.slice A' m c', 65, 2, m, hcells (Su.outTo R S n)⟩]) → Q0 (.exit 8) ⟨#[c0, c1, c2, c3, c4, c5, c6, c7, c8, .map (some bn), c10, c11, c12, c13, c14, c15, c16, u17, u18, u19, c20, c21, c22, c23, c24, c25, c26, c27, c28, c29, c30, c31, c32, c33, c34, c35, c36, c37, c38, c39, c40, c41, c42, c43, c44, c45, c46, c47, c48, c49, c50, c51, c52, c53, c54, c55, c56, c57, c58, c59, c60, c61, c62, c63, c64, c65, c66, c67, c68, c69, c70, c71, c72, c73, c74, c75, c76, c77, c78, c79, c80, c81, c82, c83, c84, c85, c86, c87, c88, c89, c90, c91, c92, c93, c94, c95, c96, c97, c98, c99, c100, c101, c102, c103, c104, c105, c106, c107, c108, c109, c110, c111, c112, c113, c114, c115, c116, c117, .slice (some ⟨gs, 0, none⟩) n n, .int .i64 (n : Nat), u120, u121, u122, u123, u124, u125, u126, u127, u128, u129, u130, u131, u132, u133, u134, c135], df⟩ wx) :
    Code.wp Tryd.prog out_loop_code Q0 ⟨#[c0, c1, c2, c3, c4, c5, c6, c7, c8, .map (some bn), c10, c11, c12, c13, c14, c15, c16, .slice none 0 0, c18, c19, c20, c21, c22, c23, c24, c25, c26, c27, c28, c29, c30, c31, c32, c33, c34, c35, c36, c37, c38, c39, c40, c41, c42, c43, c44, c45, c46, c47, c48, c49, c50, c51, c52, c53, c54, c55, c56, c57, c58, c59, c60, c61, c62, c63, c64, c65, c66, c67, c68, c69, c70, c71, c72, c73, c74, c75, c76, c77, c78, c79, c80, c81, c82, c83, c84, c85, c86, c87, c88, c89, c90, c91, c92, c93, c94, c95, c96, c97, c98, c99, c100, c101, c102, c103, c104, c105, c106, c107, c108, c109, c110, c111, c112, c113, c114, c115, c116, c117, .slice (some ⟨gs, 0, none⟩) n n, .int .i64 (n : Nat), .int .i64 0, c121, c122, c123, c124, c125, c126, c127, c128, c129, c130, c131, c132, c133, c134, c135], df⟩ wr := by
  have HE := Lib.hid hexit
  clear hexit
  conv => arg 2; whnf
  dsimp only
  go_loopw [17, 120] (fun vo vi wr => ∃ (k : Nat) (A' : Option Addr) (m c' : Nat), k ≤ n ∧ vi = .int .i64 k ∧ vo = .slice A' m c' ∧ m ≤ k ∧ Hid (m = (Su.outTo R S k).length ∧ Owns W2 wr [⟨.slice A' m c', 65, 2, m, hcells (Su.outTo R S k)⟩])) (fun _ vi _ => n - (intOf vi).toNat)
  case atStart => exact ⟨0, none, 0, 0, Nat.zero_le _, rfl, rfl, Nat.le_refl _, Lib.hid (by rw [Su.outTo_zero]; exact ⟨rfl, HO0.out⟩)⟩
  case round =>
    obtain ⟨k, A', m, c', hk, rfl, rfl, hm, HI⟩ := hrel
    by_cases hlt : k < n
    · have hkS : k < S.length := by rw [HS.out.2]; exact hlt
      have hcell0 := HS.out.1.cell 0 rfl k (u := .bool S[k]) (by simp [hkS])
      have hcell := HI.out.2.ext.cell hcell0
      have hgd : S.getD k false = S[k] := getD_get hkS
      obtain ⟨x, hx⟩ : ∃ x, S[k] = x := ⟨_, rfl⟩
      rw [hx] at hcell hgd
      have HGD := Lib.hid hgd
      clear hx hgd hcell0 hkS
      cases x with
      | false =>
        have HST := Lib.hid (Su.outTo_no (R := R) HGD.out)
        go_wp2_with fail
        clear hcell
        go_roundw
        case rel => exact ⟨k + 1, A', m, c', by omega, by go_num, rfl, by omega, Lib.hid (by rw [HST.out]; exact HI.out)⟩
        case measure => simp [intOf]; omega
      | true =>
        have hst := Su.outTo_yes (R := R) HGD.out
        have hlk := look_int (ownsMap_ext HM.out.1 HI.out.2.ext) HM.out.2 (y := (k : Int)) ⟨by omega, by omega⟩
        obtain ⟨b, hb⟩ : ∃ b, (Su.nextOf R (k : Int)).getD 0 = b := ⟨_, rfl⟩
        rw [hb] at hst hlk
        have HST := Lib.hid hst
        clear hst hb
        go_wp2_with (refine wpl_append_hop (y := ((k : Int), b)) rfl (.tmp 126) (.tmp 132) rfl (HI.out.2.alloc _) 0 rfl rfl rfl (by go_simp) (by go_simp) (by omega) ?_; intro g8 c8 w8 hO8 _)
        have HO8 := Lib.hid hO8
        clear hO8 hlk hcell
        go_roundw
        case rel => exact ⟨k + 1, some ⟨g8, 0, none⟩, m + 1, c8, by omega, by go_num, rfl, by omega, Lib.hid (by
          rw [HST.out]
          exact ⟨by rw [List.length_append, ← HI.out.1]; rfl, HO8.out⟩)⟩
        case measure => simp [intOf]; omega
    · obtain rfl : k = n := by omega
      go_wp2_with fail
      exact HE.out _ _ _ _ _ _ _ _ _ _ _ _ _ _ _ _ _ _ wr ⟨A', m, c', rfl, HI.out.1, HI.out.2⟩

end Go.Proofs.YtenafgphaceidaaDoor

/- THE WALK over Tree of package sums. -/
namespace Su
/-- The hops that are used. -/
def usedF (fuel : Nat) (h : Ha) : List (Int × Int) := if senders h = [] then [] else (walkF (2 ^ (senders h).length) (ways h) fuel (2 ^ (senders h).length - 1) h.tgt.toNat []).getD []
theorem usedF_nil {fuel : Nat} {h : Ha} (hs : senders h = []) : usedF fuel h = [] := if_pos hs
theorem usedF_some {fuel : Nat} {h : Ha} (hs : senders h ≠ []) {U : List (Int × Int)} (hw : walkF (2 ^ (senders h).length) (ways h) fuel (2 ^ (senders h).length - 1) h.tgt.toNat [] = some U) : usedF fuel h = U := by rw [usedF, if_neg hs, hw]; rfl
/-- What Tree returns. -/
def tree (fuel : Nat) (h : Ha) : List (Int × Int) × Int := if (least h).2 ≠ 0 then ([], (least h).2) else (treeOf h (usedF fuel h), 0)
theorem tree_err {fuel : Nat} {h : Ha} (he : (least h).2 ≠ 0) : tree fuel h = ([], (least h).2) := if_pos he
theorem tree_ok {fuel : Nat} {h : Ha} (he : (least h).2 = 0) : tree fuel h = (treeOf h (usedF fuel h), 0) := if_neg (by simp [he])
theorem least_check {h : Ha} (he : (least h).2 = 0) : check h = 0 := by
  by_cases hc : check h = 0
  · exact hc
  · rw [least_err hc] at he
    exact absurd he hc
end Su
namespace Go.Proofs.YtenafgphaceidaaDoor
open Go.RowKit
open Go.Maps (Keyed)
open Go.WideMaps Go.ChangeMaps Go.MapKept Go.WideShapes
/-- What Tree leaves. -/
def TreeOut (res : List (Int × Int) × Int) (w : World) (e : Ending) (w' : World) : Prop :=
  ∃ A n c, e = .returned (.tuple #[.slice A n c, .int .i64 res.2]) ∧ RL w' (.slice A n c) res.1 ∧ Ext w w'
theorem tree_nil {w w' : World} {res : List (Int × Int) × Int} {x : Int} (hr : res = ([], x)) (hx : Ext w w') : TreeOut res w (.returned (.tuple #[.slice none 0 0, .int .i64 x])) w' :=
  ⟨none, 0, 0, by rw [hr], by rw [hr]; exact ⟨none, 0, rfl, by simp, fun i x hi => by simp at hi⟩, hx⟩
/-- A map literal's entry. -/
theorem wpl_insert {H : Type} {P : Program} (w : World) {ops : Array Oper} {rest : List Oper} {o : Oper} {a : Act} {Q : Exit → Act → World → Prop}
    (hg : o.guard = none) (m x v : Operand) (t : TypeId) (hop : o.op = Op.insert t m x v)
    (k e : TypeId) (K : Keyed P k) (ht : P.underlying t = some (.map k e)) (R : Value → Option (DataW H × List MemPlace)) (b n : Nat) (D : DataW H)
    (hm : a.eval m = .map (some b)) (hown : w.ownsMap P k R b n D) (hn : n < maxLen) (key val : Value) (kl : Lit) (hx : a.eval x = key) (hv : a.eval v = val) (hkey : keyOf P k key = some kl)
    (d : DataW H) (ps : List MemPlace) (hval : R val = some (d, ps))
    (hK : ∀ w', w'.ownsMap P k R b (n + 1) (D.put kl d) → w.grownBy w' (some b) → wpList P ops Q rest (a.put o.dst undef) w') :
    wpList P ops Q (o :: rest) a w := by
  refine wpList_plain hg fun K' hK' => ?_
  obtain ⟨w', hrun, r1, r2⟩ := hown.update K ht hn hkey hval
  unfold Oper.wp
  simp [execOp, hop, hm, hx, hv, hrun, Result.andThen]
  exact hK' _ _ (hK w' r1 r2)
/-- The search's things, before the walk through the table. -/
theorem tw_start {w1 w2 : World} {g N' : Nat} {W : List Su.Way} (hO : Owns w1 w2 [wrow g N' W]) (hl : W.length = N' * 12) : TW w2 ((((w2.alloc (.cells #[.slice (some ⟨g, 0, none⟩) N' N'] 74)).alloc (.map #[] 0)).alloc (.cells #[.map (some (w2.heap.size + 1))] 79)).alloc (.cells #[.func (.func 35) #[] #[.pointer (some ⟨w2.heap.size, 0, none⟩), .pointer (some ⟨w2.heap.size + 1 + 1, 0, none⟩), .pointer (some ⟨w2.heap.size + 1 + 1 + 1, 0, none⟩)]] 80)) g N' (w2.heap.size + 1) w2.heap.size (w2.heap.size + 1 + 1) (w2.heap.size + 1 + 1 + 1) W [] where
  ext := ((((Ext.refl w2).alloc _).alloc _).alloc _).alloc _
  ge := by omega
  tab s v hs hv := by
    have hx4 : Ext w2 ((((w2.alloc (.cells #[.slice (some ⟨g, 0, none⟩) N' N'] 74)).alloc (.map #[] 0)).alloc (.cells #[.map (some (w2.heap.size + 1))] 79)).alloc (.cells #[.func (.func 35) #[] #[.pointer (some ⟨w2.heap.size, 0, none⟩), .pointer (some ⟨w2.heap.size + 1 + 1, 0, none⟩), .pointer (some ⟨w2.heap.size + 1 + 1 + 1, 0, none⟩)]] 80)) := ((((Ext.refl w2).alloc _).alloc _).alloc _).alloc _
    have h := ways_at hO hl hs hv
    exact ⟨hx4.cell h.c0, hx4.cell h.c1, hx4.cell h.c2⟩
  p6 := by go_simp
  p7 := by go_simp
  p8 := by go_simp
  own := ⟨.map [], by
    have := World.ownsMap_made (H := Unit) (w2.alloc (.cells #[.slice (some ⟨g, 0, none⟩) N' N'] 74)) Tryd.prog 65 (plainElem Tryd.prog 4)
    have h2 := (this.alloc (.cells #[.map (some (w2.heap.size + 1))] 79)).alloc (.cells #[.func (.func 35) #[] #[.pointer (some ⟨w2.heap.size, 0, none⟩), .pointer (some ⟨w2.heap.size + 1 + 1, 0, none⟩), .pointer (some ⟨w2.heap.size + 1 + 1 + 1, 0, none⟩)]] 80)
    simpa using h2, USays.start⟩
theorem outTo_range {n : Nat} {R : List (Int × Int)} (hn : 0 < n) (h : Su.Known n R) (S : List Bool) : ∀ k, k ≤ n → ∀ x ∈ Su.outTo R S k, (0 ≤ x.1 ∧ x.1 < (n : Int)) ∧ 0 ≤ x.2 ∧ x.2 < (n : Int)
  | 0, _, x, hx => by rw [Su.outTo_zero] at hx; cases hx
  | k + 1, hk, x, hx => by
    cases hs : S.getD k false with
    | true =>
      rw [Su.outTo_yes hs] at hx
      rcases List.mem_append.1 hx with hx | hx
      · exact outTo_range hn h S k (by omega) x hx
      · rw [List.mem_singleton] at hx
        subst hx
        exact ⟨⟨by simp, by simp; omega⟩, next_range hn h _⟩
    | false =>
      rw [Su.outTo_no hs] at hx
      exact outTo_range hn h S k (by omega) x hx
theorem info_bool1 : (Tryd.prog.info? 4).map (fun i => (i.zero, i.size, i.bytes)) = some (some (.bool false), 1, 1) := by kernel_rfl
set_option maxHeartbeats 8000000 in
set_option maxRecDepth 100000 in
theorem uTree_any (fuel : Nat) (h : Su.Ha) (v : Value) (w : World) (hv : RH w v h)
    (hterm : (Su.least h).2 = 0 → Su.senders h ≠ [] → ∃ U, Su.walkF (2 ^ (Su.senders h).length) (Su.ways h) fuel (2 ^ (Su.senders h).length - 1) h.tgt.toNat [] = some U) :
    Calls Tryd.prog 16 #[v] w fun e w' => TreeOut (Su.tree fuel h) w e w' := by
  have hvv := hv
  obtain ⟨A, B, c, d, rfl, hG, hS, hl1, hl2, hb1, hb2⟩ := hv.open
  have hx0 := (Ext.refl w).alloc (.cells #[.slice A h.pr.length c, .slice B h.src.length d, .int .i64 h.tgt] 25)
  have HX0 := Lib.hid hx0
  have HV := Lib.hid (RH.ext _ _ _ _ hx0 hvv)
  clear hv hvv hG hS hx0
  by_cases he : (Su.least h).2 = 0
  case neg =>
    have e1 : ((Su.least h).2 != 0) = true := by rw [bne_iff_ne]; exact he
    have HC := Lib.hid (Su.tree_err (fuel := fuel) he)
    clear he hterm
    go_enter Tryd.func16, Tryd.ntmps16
    go_wp2_with fail
    refine (uLeast_any h _ _ HV.out).mono ?_
    rintro ee w1 ⟨rfl, hx1⟩
    have HX1 := Lib.hid (HX0.out.trans hx1)
    clear hx1
    go_wp2_with fail
    go_ret2
    exact tree_nil HC.out HX1.out
  case pos =>
  have e1 : ((Su.least h).2 != 0) = false := by rw [he]; rfl
  have hc0 := Su.least_check he
  have hk := Su.ok_of hc0
  have HC := Lib.hid (Su.tree_ok (fuel := fuel) he)
  have hterm := hterm he
  obtain ⟨t, ht⟩ : ∃ t : Nat, h.tgt = t := ⟨h.tgt.toNat, by have := hk.tgt; omega⟩
  obtain ⟨n, hn⟩ : ∃ n, h.pr.length = n := ⟨_, rfl⟩
  have htn : t < n := by have := hk.tgt; omega
  have hn12 : n ≤ 12 := by have := hk.few; omega
  have h8 := hk.send
  have hmm : 2 ^ (Su.senders h).length ≤ 256 := Nat.pow_le_pow_right (by decide) h8
  have hpos := Nat.two_pow_pos (Su.senders h).length
  have hlen := Su.waysTo_len h (2 ^ (Su.senders h).length)
  rw [← Su.ways_def] at hlen
  have hnil : Su.senders h = [] ↔ 2 ^ (Su.senders h).length = 1 := by
    constructor
    · intro e; rw [e]; rfl
    · intro e
      rcases Nat.eq_zero_or_pos (Su.senders h).length with h1 | h1
      · exact List.length_eq_zero_iff.1 h1
      · exfalso
        obtain ⟨k, hk⟩ : ∃ k, (Su.senders h).length = k + 1 := ⟨(Su.senders h).length - 1, by omega⟩
        have := Nat.two_pow_pos k
        rw [hk, Nat.pow_succ] at e
        omega
  obtain ⟨N, hN⟩ : ∃ N, 2 ^ (Su.senders h).length = N := ⟨_, rfl⟩
  have hus := Su.usedF_some (fuel := fuel) (h := h)
  rw [hN] at hmm hpos hlen hnil hus
  rw [ht, hN, Int.toNat_natCast] at hterm
  rw [ht, Int.toNat_natCast] at hus
  have HF := Lib.hid (And.intro hlen (And.intro hnil (And.intro hN (And.intro hk (And.intro ht hn)))))
  have HTM := Lib.hid (And.intro hterm hus)
  rw [ht, hn] at HV HX0 ⊢
  have hE := @enters35
  have hmk := @run_makeMap Tryd.prog
  have hsf : ∀ (w : World) (a : Addr) (f : Fn) (cap : Array Value), (store a (.func f #[] cap)).run Tryd.prog w = stored Tryd.prog w a (.func f #[] cap) .plain := fun w a f cap => run_store _ w a _ _ rfl
  clear he hc0 ht hk hlen hnil h8 hterm hus hN hn
  go_enter Tryd.func16, Tryd.ntmps16
  go_wp2_with fail
  refine (uLeast_any h _ _ HV.out).mono ?_
  rintro ee w1 ⟨rfl, hx1⟩
  have d0 : w1.cell? ⟨w.heap.size, 0, none⟩ = some (.slice A n c) := hx1.cell (by go_simp)
  have d1 : w1.cell? ⟨w.heap.size, 1, none⟩ = some (.slice B h.src.length d) := hx1.cell (by go_simp)
  have d2 : w1.cell? ⟨w.heap.size, 2, none⟩ = some (.int .i64 (t : Int)) := hx1.cell (by go_simp)
  have HX1 := Lib.hid hx1
  have HD := Lib.hid (And.intro d0 (And.intro d1 d2))
  clear hx1
  go_wp2_with fail
  clear d0 d1 d2
  refine (uWays_any h _ _ (RH.ext _ _ _ _ HX1.out HV.out) HF.out.2.2.2.1).mono ?_
  rintro ee w2 ⟨g, N', rfl, hN', hO⟩
  obtain rfl : N' = N := by rw [hN', HF.out.2.2.1]
  have HO := Lib.hid hO
  have d0 := hO.ext.cell HD.out.1
  have d1 := hO.ext.cell HD.out.2.1
  have d2 := hO.ext.cell HD.out.2.2
  clear hO hN' e1
  have hx4 : Ext w2 ((((w2.alloc (.cells #[.slice (some ⟨g, 0, none⟩) N' N'] 74)).alloc (.map #[] 0)).alloc (.cells #[.map (some (w2.heap.size + 1))] 79)).alloc (.cells #[.func (.func 35) #[] #[.pointer (some ⟨w2.heap.size, 0, none⟩), .pointer (some ⟨w2.heap.size + 1 + 1, 0, none⟩), .pointer (some ⟨w2.heap.size + 1 + 1 + 1, 0, none⟩)]] 80)) := ((((Ext.refl w2).alloc _).alloc _).alloc _).alloc _
  have hTW := tw_start HO.out HF.out.1
  have c0 := hx4.cell d0
  have c1 := hx4.cell d1
  have c2 := hx4.cell d2
  have HX4 := Lib.hid hx4
  have HTW := Lib.hid hTW
  have HCS := Lib.hid (And.intro d0 (And.intro d1 d2))
  clear hx4 hTW d0 d1 d2
  rcases Nat.lt_or_ge 1 N' with h1 | h1
  · have hs : Su.senders h ≠ [] := fun e => by have := HF.out.2.1.1 e; omega
    obtain ⟨U, hU⟩ := HTM.out.1 hs
    have HUS := Lib.hid (HTM.out.2 hs hU)
    obtain ⟨M, hM⟩ : ∃ M, N' - 1 = M := ⟨_, rfl⟩
    have hM2 : (N' : Int) - 1 = (M : Int) := by omega
    rw [hM] at hU
    have HU := Lib.hid hU
    clear hs hU hM
    go_wp2_with fail
    refine (tree1_any w2 g N' (w2.heap.size + 1) w2.heap.size (w2.heap.size + 1 + 1) (w2.heap.size + 1 + 1 + 1) (Su.ways h) hmm fuel M t [] U _ HU.out HTW.out).mono ?_
    rintro ee w5 ⟨rfl, hT5, hk5⟩
    have HT5 := Lib.hid hT5
    have d0 := hk5 _ _ c0
    have d1 := hk5 _ _ c1
    have d2 := hk5 _ _ c2
    clear hT5 hk5 c0 c1 c2 hM2

    have HMD := Lib.hid (World.ownsMap_made (H := Unit) w5 Tryd.prog 3 (plainElem Tryd.prog 3))
    have hkey := Go.Maps.keyOf_int_mk Tryd.underlying3 (WalkArith.wf_i64 (n := (t : Int)) ⟨by omega, by omega⟩)
    have hwf : (Lit.int .i64 (t : Int)).wf = true := WalkArith.wf_i64 ⟨by omega, by omega⟩
    have x0 : (w5.alloc (.map #[] 0)).cell? ⟨w.heap.size, 0, none⟩ = some (.slice A n c) := ((Ext.refl w5).alloc _).cell d0
    have x1 : (w5.alloc (.map #[] 0)).cell? ⟨w.heap.size, 1, none⟩ = some (.slice B h.src.length d) := ((Ext.refl w5).alloc _).cell d1
    have x2 : (w5.alloc (.map #[] 0)).cell? ⟨w.heap.size, 2, none⟩ = some (.int .i64 (t : Int)) := ((Ext.refl w5).alloc _).cell d2
    have HD5 := Lib.hid (And.intro d0 (And.intro d1 d2))
    clear d0 d1 d2
    go_wp2_with (refine wpl_insert _ rfl _ _ _ 72 rfl 3 3 hopLaw Tryd.underlying72 _ w5.heap.size 0 (.map []) rfl HMD.out (by unfold maxLen; omega) _ _ _ rfl rfl hkey (.lit (.int .i64 (t : Int))) [] (plainElem_int Tryd.underlying3 hwf) ?_; intro w6 hown6 hgrow6; have HM6 := Lib.hid (And.intro hown6 hgrow6); clear hown6 hgrow6; have y2 := grown_cell HMD.out HM6.out.2 x2)
    have hx6 : Ext w5 (w6.alloc (.cells #[.int .i64 (t : Int)] 3)) := (((Ext.refl w5).alloc _).grown HM6.out.2 (fun k hk => by injection hk with hk; rw [← hk]; exact Nat.le_refl _)).alloc _
    have hrow6 : QRow w5 (w6.alloc (.cells #[.int .i64 (t : Int)] 3)) (.slice (some ⟨w6.heap.size, 0, none⟩) 1 1) ((Su.heads 0 [((t : Int), (t : Int))]).map (.int .i64)) := by
      have ho := (Owns.start (L := [no]) w6 (by intro r hr; simp [no] at hr; subst hr; simp)).new 0 #[.int .i64 (t : Int)] 3 (by simp [maxLen])
      have hq := QRow.of_row (w0 := w6) (ho.row 0 rfl) (by simp)
      obtain ⟨g', off', c', e1, e2, e3⟩ := hq
      refine ⟨g', off', c', e1, ?_, e3⟩
      have := ((Ext.refl w5).alloc (.map #[] 0)).size
      have := HM6.out.2.size
      omega
    have hms : MSays ((DataW.map []).put (.int .i64 (t : Int)) (.lit (.int .i64 (t : Int)))) (Su.nextOf [((t : Int), (t : Int))]) := (MSays.start (Su.nextOf []) (fun _ => rfl)).hop ⟨[], rfl⟩ rfl
    have hkn : Su.Known n [((t : Int), (t : Int))] := ⟨by simp, fun x hx => by simp at hx; subst hx; constructor <;> simp <;> omega, fun x hx => by simp at hx; subst hx; constructor <;> simp <;> omega⟩
    have hbf : Su.bfs U n (n + 1) 0 [((t : Int), (t : Int))] = Su.known h U := by unfold Su.known; rw [HF.out.2.2.2.2.1, HF.out.2.2.2.2.2]
    have HB : Hid (∃ f, BRel w5 w5.heap.size n U (Su.known h U) f (.slice (some ⟨w6.heap.size, 0, none⟩) 1 1) (w6.alloc (.cells #[.int .i64 (t : Int)] 3))) :=
      Lib.hid ⟨n + 1, 0, _, Nat.zero_le _, rfl, ⟨hx6, Nat.le_refl _, ⟨_, HM6.out.1.alloc _, hms⟩, hrow6⟩, hkn, hbf⟩
    clear hx6 hrow6 hms hkn hbf hkey hwf x0 x1 x2 y2
    refine bfs_out w5 w2 _ A w.heap.size c g N' (w2.heap.size + 1) w2.heap.size (w2.heap.size + 1 + 1) (w2.heap.size + 1 + 1 + 1) w5.heap.size n _ (Su.ways h) U (Su.known h U) hn12 HD5.out.1 (Lib.hid HD5.out.1) (Lib.hid ⟨HT5.out, trivial⟩) HB _ _ _ _ _ _ _ _ _ _ _ _ _ _ _ _ _ _ _ _ _ _ _ _ _ _ _ _ _ _ _ _ _ _ _ _ _ _ _ _ _ _ _ _ _ _ _ _ _ _ _ _ _ _ _ _ _ _ _ _ _ _ _ _ _ _ _ _ _ _ _ _ _ _ _ _ _ _ _ _ _ _ _ _ _ _ _ _ _ _ _ _ _ _ _ _ _ _ _ _ _ _ _ _ _ _ _ _ _ _ _ _ _ _ _ _ _ _ _ _ _ _ _ _ _ _ _ _ _ _ _ _ _ _ ?_
    rintro u10 u11 u12 u13 u51 u52 u53 u54 u55 u56 u57 u58 u59 u60 u61 u62 u63 u64 u65 u66 u67 u68 u69 u70 u71 u72 u73 u74 u75 u76 u77 u78 u79 u80 u81 u82 u83 u84 u85 u86 u87 u88 wx ⟨q, hbw, hkn⟩
    obtain ⟨D, hD, hms⟩ := hbw.map
    have HM := Lib.hid (And.intro hD (And.intro hms hkn))
    have HX := Lib.hid hbw.ext
    clear hbw hkn hD hms HB HM6 HMD
    obtain ⟨R, hR⟩ : ∃ R, Su.known h U = R := ⟨_, rfl⟩
    rw [hR] at HM
    have HRR := Lib.hid hR
    clear hR
    obtain ⟨bn, hbn⟩ : ∃ bn, w5.heap.size = bn := ⟨_, rfl⟩
    rw [hbn] at HM ⊢
    clear hbn
    have x0 := HX.out.cell HD5.out.1
    have x1 := HX.out.cell HD5.out.2.1
    have x2 := HX.out.cell HD5.out.2.2
    have HDX := Lib.hid (And.intro x0 (And.intro x1 x2))
    obtain ⟨i0, hi, hz0, hz1, hz2⟩ := info_parts info_bool1
    have HZ := Lib.hid hz2
    clear hz2
    go_wp2_with (refine wpList_make_full _ rfl (.tmp 91) (.tmp 91) 81 rfl wx.heap.size 4 i0 (.bool false) 1 Tryd.underlying81 hi hz0 hz1 _ _ _ _ n rfl rfl rfl rfl (by rw [HZ.out]; omega) (by unfold maxLen; omega) (Nat.le_refl _) ?_; intro w7 hown7 hgrow7; have HO7 := Lib.hid (And.intro hown7 hgrow7); clear hown7 hgrow7; have HX7 := Lib.hid ((Ext.refl wx).grown HO7.out.2 (fun k hk => by cases hk)); have z0 := HX7.out.cell HDX.out.1; have z1 := HX7.out.cell HDX.out.2.1; have z2 := HX7.out.cell HDX.out.2.2)
    clear x0 x1 x2 z0 z1 z2 hi hz0 hz1
    have hOw : Owns wx w7 [srow wx.heap.size n (List.replicate n false)] := Owns.single HX7.out (by
      have := HO7.out.1
      have e : (madeCells (Value.bool false).cells (n * 1)).toList = (List.replicate n false).map Value.bool := by
        rw [Nat.mul_one, show (Value.bool false).cells = #[.bool false] from rfl, toList_madeCells_one]
        simp
      rw [e] at this
      exact this)
    have HXA := Lib.hid ((HX1.out.trans HO.out.ext).trans (HT5.out.ext.trans (HX.out.trans HX7.out)))
    refine (uSenders_any h _ _ (RH.ext _ _ _ _ HXA.out HV.out) (fun k hk => Nat.le_trans (Su.send_few HF.out.2.2.2.1.src k hk) (by rw [HF.out.2.2.2.2.2]; exact hn12))).mono ?_
    rintro ee w8 ⟨LA, nl, cl, rfl, hL8, hx8⟩
    have hnl := hL8.len
    have HO8 : Hid (Owns wx w8 [srow wx.heap.size n (Su.marksTo R t (Su.senders h) n 0)]) := Lib.hid (by rw [Su.marksTo_zero]; exact hOw.next hx8)
    have h8 := HF.out.2.2.2.1.send
    have hnl8 : nl ≤ 12 := by omega
    have hrr : ∀ x ∈ Su.senders h, 0 ≤ x ∧ x < (n : Int) := fun x hx => by
      have := HF.out.2.2.2.1.src x ((Su.senders_mem h x).1 hx).2
      rw [HF.out.2.2.2.2.2] at this
      exact this
    have HRG := Lib.hid hrr
    have HL8 := Lib.hid (And.intro hL8 hnl.symm)
    have HX8 := Lib.hid hx8
    clear hOw hL8 hx8 hnl h8 hrr
    go_wp2_with fail
    refine mark_out wx _ w8 LA w.heap.size bn wx.heap.size n nl cl t R (Su.senders h) D hn12 hnl8 (Lib.hid HDX.out.2.2) HL8 HRG HM HO8 rfl _ _ _ _ _ _ _ _ _ _ _ _ _ _ _ _ _ _ _ _ _ _ _ _ _ _ _ _ _ _ _ _ _ _ _ _ _ _ _ _ _ _ _ _ _ _ _ _ _ _ _ _ _ _ _ _ _ _ _ _ _ _ _ _ _ _ _ _ _ _ _ _ _ _ _ _ _ _ _ _ _ _ _ _ _ _ _ _ _ _ _ _ _ _ _ _ _ _ _ _ _ _ _ _ _ _ _ _ _ _ _ _ _ _ _ _ _ _ _ _ _ _ _ _ _ _ _ _ _ _ _ _ ?_
    intro u16 u96 u97 u98 u99 u100 u101 u102 u103 u104 u105 u106 u107 u108 u109 u110 u111 u112 u113 u114 u115 u116 u117 w9 hO9
    have hml := Su.marksTo_len R t (Su.senders h) n nl
    have HO9 := Lib.hid (And.intro hO9 hml)
    have HM9 := Lib.hid (And.intro (ownsMap_ext HM.out.1 hO9.ext) HM.out.2.1)
    clear hO9 hml
    go_wp2_with fail
    refine out_loop wx w9 _ bn wx.heap.size n R (Su.marksTo R t (Su.senders h) n nl) D hn12 HO9 HM9 (Lib.hid (Owns.start _ (by intro r hr; simp at hr; subst hr; simp))) _ _ _ _ _ _ _ _ _ _ _ _ _ _ _ _ _ _ _ _ _ _ _ _ _ _ _ _ _ _ _ _ _ _ _ _ _ _ _ _ _ _ _ _ _ _ _ _ _ _ _ _ _ _ _ _ _ _ _ _ _ _ _ _ _ _ _ _ _ _ _ _ _ _ _ _ _ _ _ _ _ _ _ _ _ _ _ _ _ _ _ _ _ _ _ _ _ _ _ _ _ _ _ _ _ _ _ _ _ _ _ _ _ _ _ _ _ _ _ _ _ _ _ _ _ _ _ _ _ _ _ _ _ ?_
    rintro u17 u18 u19 u120 u121 u122 u123 u124 u125 u126 u127 u128 u129 u130 u131 u132 u133 u134 w10 ⟨A', m, c', rfl, hm, hO10⟩
    have hml := Su.outTo_len R (Su.marksTo R t (Su.senders h) n nl) n
    have htree : Su.treeOf h U = Su.outTo R (Su.marksTo R t (Su.senders h) n nl) n := by
      unfold Su.treeOf
      rw [HRR.out, HF.out.2.2.2.2.1, HF.out.2.2.2.2.2, HL8.out.2]
    have hrl : RL w10 (.slice A' m c') (Su.treeOf h U) := by
      rw [htree]
      exact RL.of_own (hO10.row 0 rfl) hm (by omega) (fun x hx => by
        have := outTo_range (n := n) (by omega) HM.out.2.2 (Su.marksTo R t (Su.senders h) n nl) n (Nat.le_refl _) x hx
        exact ⟨⟨by omega, by omega⟩, by omega, by omega⟩)
    have HEND := Lib.hid (And.intro hrl hO10.ext)
    have HXE := Lib.hid (HX0.out.trans ((HX1.out.trans HO.out.ext).trans (HT5.out.ext.trans (HX.out.trans (HO9.out.1.ext.trans hO10.ext)))))
    clear hm hO10 hml htree hrl
    go_wp2_with fail
    go_ret2
    refine ⟨A', m, c', ret_two rfl (v_int (by rw [HC.out])), ?_, HXE.out⟩
    rw [HC.out, HUS.out]
    exact HEND.out.1
  · have h1' : N' = 1 := by omega
    have HUS := Lib.hid (Su.usedF_nil (fuel := fuel) (HF.out.2.1.2 h1'))
    clear h1'
    go_upto_region 10 with fail
    obtain ⟨w5, hw5⟩ : ∃ w5, ((((w2.alloc (.cells #[.slice (some ⟨g, 0, none⟩) N' N'] 74)).alloc (.map #[] 0)).alloc (.cells #[.map (some (w2.heap.size + 1))] 79)).alloc (.cells #[.func (.func 35) #[] #[.pointer (some ⟨w2.heap.size, 0, none⟩), .pointer (some ⟨w2.heap.size + 1 + 1, 0, none⟩), .pointer (some ⟨w2.heap.size + 1 + 1 + 1, 0, none⟩)]] 80)) = w5 := ⟨_, rfl⟩
    rw [hw5] at HTW c0 c1 c2 ⊢
    have HT5 := HTW
    have d0 := c0
    have d1 := c1
    have d2 := c2
    obtain ⟨U, hUU⟩ : ∃ U : List (Int × Int), [] = U := ⟨_, rfl⟩
    rw [hUU] at HT5 HUS
    clear hw5 c0 c1 c2 hUU HX4 HTW

    have HMD := Lib.hid (World.ownsMap_made (H := Unit) w5 Tryd.prog 3 (plainElem Tryd.prog 3))
    have hkey := Go.Maps.keyOf_int_mk Tryd.underlying3 (WalkArith.wf_i64 (n := (t : Int)) ⟨by omega, by omega⟩)
    have hwf : (Lit.int .i64 (t : Int)).wf = true := WalkArith.wf_i64 ⟨by omega, by omega⟩
    have x0 : (w5.alloc (.map #[] 0)).cell? ⟨w.heap.size, 0, none⟩ = some (.slice A n c) := ((Ext.refl w5).alloc _).cell d0
    have x1 : (w5.alloc (.map #[] 0)).cell? ⟨w.heap.size, 1, none⟩ = some (.slice B h.src.length d) := ((Ext.refl w5).alloc _).cell d1
    have x2 : (w5.alloc (.map #[] 0)).cell? ⟨w.heap.size, 2, none⟩ = some (.int .i64 (t : Int)) := ((Ext.refl w5).alloc _).cell d2
    have HD5 := Lib.hid (And.intro d0 (And.intro d1 d2))
    clear d0 d1 d2
    go_wp2_with (refine wpl_insert _ rfl _ _ _ 72 rfl 3 3 hopLaw Tryd.underlying72 _ w5.heap.size 0 (.map []) rfl HMD.out (by unfold maxLen; omega) _ _ _ rfl rfl hkey (.lit (.int .i64 (t : Int))) [] (plainElem_int Tryd.underlying3 hwf) ?_; intro w6 hown6 hgrow6; have HM6 := Lib.hid (And.intro hown6 hgrow6); clear hown6 hgrow6; have y2 := grown_cell HMD.out HM6.out.2 x2)
    have hx6 : Ext w5 (w6.alloc (.cells #[.int .i64 (t : Int)] 3)) := (((Ext.refl w5).alloc _).grown HM6.out.2 (fun k hk => by injection hk with hk; rw [← hk]; exact Nat.le_refl _)).alloc _
    have hrow6 : QRow w5 (w6.alloc (.cells #[.int .i64 (t : Int)] 3)) (.slice (some ⟨w6.heap.size, 0, none⟩) 1 1) ((Su.heads 0 [((t : Int), (t : Int))]).map (.int .i64)) := by
      have ho := (Owns.start (L := [no]) w6 (by intro r hr; simp [no] at hr; subst hr; simp)).new 0 #[.int .i64 (t : Int)] 3 (by simp [maxLen])
      have hq := QRow.of_row (w0 := w6) (ho.row 0 rfl) (by simp)
      obtain ⟨g', off', c', e1, e2, e3⟩ := hq
      refine ⟨g', off', c', e1, ?_, e3⟩
      have := ((Ext.refl w5).alloc (.map #[] 0)).size
      have := HM6.out.2.size
      omega
    have hms : MSays ((DataW.map []).put (.int .i64 (t : Int)) (.lit (.int .i64 (t : Int)))) (Su.nextOf [((t : Int), (t : Int))]) := (MSays.start (Su.nextOf []) (fun _ => rfl)).hop ⟨[], rfl⟩ rfl
    have hkn : Su.Known n [((t : Int), (t : Int))] := ⟨by simp, fun x hx => by simp at hx; subst hx; constructor <;> simp <;> omega, fun x hx => by simp at hx; subst hx; constructor <;> simp <;> omega⟩
    have hbf : Su.bfs U n (n + 1) 0 [((t : Int), (t : Int))] = Su.known h U := by unfold Su.known; rw [HF.out.2.2.2.2.1, HF.out.2.2.2.2.2]
    have HB : Hid (∃ f, BRel w5 w5.heap.size n U (Su.known h U) f (.slice (some ⟨w6.heap.size, 0, none⟩) 1 1) (w6.alloc (.cells #[.int .i64 (t : Int)] 3))) :=
      Lib.hid ⟨n + 1, 0, _, Nat.zero_le _, rfl, ⟨hx6, Nat.le_refl _, ⟨_, HM6.out.1.alloc _, hms⟩, hrow6⟩, hkn, hbf⟩
    clear hx6 hrow6 hms hkn hbf hkey hwf x0 x1 x2 y2
    refine bfs_out w5 w2 _ A w.heap.size c g N' (w2.heap.size + 1) w2.heap.size (w2.heap.size + 1 + 1) (w2.heap.size + 1 + 1 + 1) w5.heap.size n _ (Su.ways h) U (Su.known h U) hn12 HD5.out.1 (Lib.hid HD5.out.1) (Lib.hid ⟨HT5.out, trivial⟩) HB _ _ _ _ _ _ _ _ _ _ _ _ _ _ _ _ _ _ _ _ _ _ _ _ _ _ _ _ _ _ _ _ _ _ _ _ _ _ _ _ _ _ _ _ _ _ _ _ _ _ _ _ _ _ _ _ _ _ _ _ _ _ _ _ _ _ _ _ _ _ _ _ _ _ _ _ _ _ _ _ _ _ _ _ _ _ _ _ _ _ _ _ _ _ _ _ _ _ _ _ _ _ _ _ _ _ _ _ _ _ _ _ _ _ _ _ _ _ _ _ _ _ _ _ _ _ _ _ _ _ _ _ _ _ ?_
    rintro u10 u11 u12 u13 u51 u52 u53 u54 u55 u56 u57 u58 u59 u60 u61 u62 u63 u64 u65 u66 u67 u68 u69 u70 u71 u72 u73 u74 u75 u76 u77 u78 u79 u80 u81 u82 u83 u84 u85 u86 u87 u88 wx ⟨q, hbw, hkn⟩
    obtain ⟨D, hD, hms⟩ := hbw.map
    have HM := Lib.hid (And.intro hD (And.intro hms hkn))
    have HX := Lib.hid hbw.ext
    clear hbw hkn hD hms HB HM6 HMD
    obtain ⟨R, hR⟩ : ∃ R, Su.known h U = R := ⟨_, rfl⟩
    rw [hR] at HM
    have HRR := Lib.hid hR
    clear hR
    obtain ⟨bn, hbn⟩ : ∃ bn, w5.heap.size = bn := ⟨_, rfl⟩
    rw [hbn] at HM ⊢
    clear hbn
    have x0 := HX.out.cell HD5.out.1
    have x1 := HX.out.cell HD5.out.2.1
    have x2 := HX.out.cell HD5.out.2.2
    have HDX := Lib.hid (And.intro x0 (And.intro x1 x2))
    obtain ⟨i0, hi, hz0, hz1, hz2⟩ := info_parts info_bool1
    have HZ := Lib.hid hz2
    clear hz2
    go_wp2_with (refine wpList_make_full _ rfl (.tmp 91) (.tmp 91) 81 rfl wx.heap.size 4 i0 (.bool false) 1 Tryd.underlying81 hi hz0 hz1 _ _ _ _ n rfl rfl rfl rfl (by rw [HZ.out]; omega) (by unfold maxLen; omega) (Nat.le_refl _) ?_; intro w7 hown7 hgrow7; have HO7 := Lib.hid (And.intro hown7 hgrow7); clear hown7 hgrow7; have HX7 := Lib.hid ((Ext.refl wx).grown HO7.out.2 (fun k hk => by cases hk)); have z0 := HX7.out.cell HDX.out.1; have z1 := HX7.out.cell HDX.out.2.1; have z2 := HX7.out.cell HDX.out.2.2)
    clear x0 x1 x2 z0 z1 z2 hi hz0 hz1
    have hOw : Owns wx w7 [srow wx.heap.size n (List.replicate n false)] := Owns.single HX7.out (by
      have := HO7.out.1
      have e : (madeCells (Value.bool false).cells (n * 1)).toList = (List.replicate n false).map Value.bool := by
        rw [Nat.mul_one, show (Value.bool false).cells = #[.bool false] from rfl, toList_madeCells_one]
        simp
      rw [e] at this
      exact this)
    have HXA := Lib.hid ((HX1.out.trans HO.out.ext).trans (HT5.out.ext.trans (HX.out.trans HX7.out)))
    refine (uSenders_any h _ _ (RH.ext _ _ _ _ HXA.out HV.out) (fun k hk => Nat.le_trans (Su.send_few HF.out.2.2.2.1.src k hk) (by rw [HF.out.2.2.2.2.2]; exact hn12))).mono ?_
    rintro ee w8 ⟨LA, nl, cl, rfl, hL8, hx8⟩
    have hnl := hL8.len
    have HO8 : Hid (Owns wx w8 [srow wx.heap.size n (Su.marksTo R t (Su.senders h) n 0)]) := Lib.hid (by rw [Su.marksTo_zero]; exact hOw.next hx8)
    have h8 := HF.out.2.2.2.1.send
    have hnl8 : nl ≤ 12 := by omega
    have hrr : ∀ x ∈ Su.senders h, 0 ≤ x ∧ x < (n : Int) := fun x hx => by
      have := HF.out.2.2.2.1.src x ((Su.senders_mem h x).1 hx).2
      rw [HF.out.2.2.2.2.2] at this
      exact this
    have HRG := Lib.hid hrr
    have HL8 := Lib.hid (And.intro hL8 hnl.symm)
    have HX8 := Lib.hid hx8
    clear hOw hL8 hx8 hnl h8 hrr
    go_wp2_with fail
    refine mark_out wx _ w8 LA w.heap.size bn wx.heap.size n nl cl t R (Su.senders h) D hn12 hnl8 (Lib.hid HDX.out.2.2) HL8 HRG HM HO8 rfl _ _ _ _ _ _ _ _ _ _ _ _ _ _ _ _ _ _ _ _ _ _ _ _ _ _ _ _ _ _ _ _ _ _ _ _ _ _ _ _ _ _ _ _ _ _ _ _ _ _ _ _ _ _ _ _ _ _ _ _ _ _ _ _ _ _ _ _ _ _ _ _ _ _ _ _ _ _ _ _ _ _ _ _ _ _ _ _ _ _ _ _ _ _ _ _ _ _ _ _ _ _ _ _ _ _ _ _ _ _ _ _ _ _ _ _ _ _ _ _ _ _ _ _ _ _ _ _ _ _ _ _ ?_
    intro u16 u96 u97 u98 u99 u100 u101 u102 u103 u104 u105 u106 u107 u108 u109 u110 u111 u112 u113 u114 u115 u116 u117 w9 hO9
    have hml := Su.marksTo_len R t (Su.senders h) n nl
    have HO9 := Lib.hid (And.intro hO9 hml)
    have HM9 := Lib.hid (And.intro (ownsMap_ext HM.out.1 hO9.ext) HM.out.2.1)
    clear hO9 hml
    go_wp2_with fail
    refine out_loop wx w9 _ bn wx.heap.size n R (Su.marksTo R t (Su.senders h) n nl) D hn12 HO9 HM9 (Lib.hid (Owns.start _ (by intro r hr; simp at hr; subst hr; simp))) _ _ _ _ _ _ _ _ _ _ _ _ _ _ _ _ _ _ _ _ _ _ _ _ _ _ _ _ _ _ _ _ _ _ _ _ _ _ _ _ _ _ _ _ _ _ _ _ _ _ _ _ _ _ _ _ _ _ _ _ _ _ _ _ _ _ _ _ _ _ _ _ _ _ _ _ _ _ _ _ _ _ _ _ _ _ _ _ _ _ _ _ _ _ _ _ _ _ _ _ _ _ _ _ _ _ _ _ _ _ _ _ _ _ _ _ _ _ _ _ _ _ _ _ _ _ _ _ _ _ _ _ _ ?_
    rintro u17 u18 u19 u120 u121 u122 u123 u124 u125 u126 u127 u128 u129 u130 u131 u132 u133 u134 w10 ⟨A', m, c', rfl, hm, hO10⟩
    have hml := Su.outTo_len R (Su.marksTo R t (Su.senders h) n nl) n
    have htree : Su.treeOf h U = Su.outTo R (Su.marksTo R t (Su.senders h) n nl) n := by
      unfold Su.treeOf
      rw [HRR.out, HF.out.2.2.2.2.1, HF.out.2.2.2.2.2, HL8.out.2]
    have hrl : RL w10 (.slice A' m c') (Su.treeOf h U) := by
      rw [htree]
      exact RL.of_own (hO10.row 0 rfl) hm (by omega) (fun x hx => by
        have := outTo_range (n := n) (by omega) HM.out.2.2 (Su.marksTo R t (Su.senders h) n nl) n (Nat.le_refl _) x hx
        exact ⟨⟨by omega, by omega⟩, by omega, by omega⟩)
    have HEND := Lib.hid (And.intro hrl hO10.ext)
    have HXE := Lib.hid (HX0.out.trans ((HX1.out.trans HO.out.ext).trans (HT5.out.ext.trans (HX.out.trans (HO9.out.1.ext.trans hO10.ext)))))
    clear hm hO10 hml htree hrl
    go_wp2_with fail
    go_ret2
    refine ⟨A', m, c', ret_two rfl (v_int (by rw [HC.out])), ?_, HXE.out⟩
    rw [HC.out, HUS.out]
    exact HEND.out.1
end Go.Proofs.YtenafgphaceidaaDoor

/- THE WALK THROUGH THE TABLE ENDS, and what its hops are. -/
namespace Su
/-- The price of all hops of a list. -/
def sumP (h : Ha) : List (Int × Int) → Int
  | [] => 0
  | x :: l => price h x.1 x.2 + sumP h l
theorem sumP_append (h : Ha) (a b : List (Int × Int)) : sumP h (a ++ b) = sumP h a + sumP h b := by
  induction a with
  | nil => simp [sumP]
  | cons x a ih => rw [List.cons_append, sumP, sumP, ih]; omega
/-- A hop that a tree may have. -/
def HopFine (h : Ha) (n : Nat) (x : Int × Int) : Prop := (0 ≤ x.1 ∧ x.1 < (n : Int)) ∧ (0 ≤ x.2 ∧ x.2 < (n : Int)) ∧ x.1 ≠ x.2 ∧ 0 ≤ price h x.1 x.2
/-- A way by hops of a list. -/
inductive Conn (E : List (Int × Int)) : Int → Int → Prop
  | refl (a : Int) : Conn E a a
  | step {a b c : Int} : Conn E a b → (b, c) ∈ E → Conn E a c
theorem Conn.mono {E E' : List (Int × Int)} (h : ∀ x ∈ E, x ∈ E') {a b : Int} (k : Conn E a b) : Conn E' a b := by
  induction k with
  | refl => exact .refl _
  | step _ hm ih => exact .step ih (h _ hm)
theorem sub_and : ∀ (s x : Nat), x &&& s = x → x &&& (s - x) = 0 := by
  intro s
  induction s using Nat.strongRecOn with
  | ind s ih =>
    intro x h
    rcases Nat.eq_zero_or_pos s with h0 | h0
    · subst h0; simp
    · have a1 := Nat.and_div_two (a := x) (b := s)
      have m1 := and_mod2 x s
      rw [h] at a1 m1
      have hle : x / 2 ≤ s / 2 := by rw [a1]; exact Nat.and_le_right
      have p1 : x % 2 = 0 ∨ x % 2 = 1 := by omega
      have p2 : s % 2 = 0 ∨ s % 2 = 1 := by omega
      have hi := ih (s / 2) (by omega) (x / 2) a1.symm
      have b1 := Nat.and_div_two (a := x) (b := s - x)
      have c1 := and_mod2 x (s - x)
      have hm2 : x % 2 ≤ s % 2 := by rcases p1 with p1 | p1 <;> rcases p2 with p2 | p2 <;> rw [p1, p2] at m1 <;> omega
      rw [show (s - x) / 2 = s / 2 - x / 2 by omega, hi] at b1
      rw [show (s - x) % 2 = s % 2 - x % 2 by omega] at c1
      rcases p1 with p1 | p1 <;> rcases p2 with p2 | p2 <;> rw [p1, p2] at c1 <;> omega
theorem split_bits {s x j : Nat} (h : x &&& s = x) (hb : s.testBit j = true) : x.testBit j = true ∨ (s - x).testBit j = true := by
  have h1 := or_add x (s - x) (sub_and s x h)
  have hle : x ≤ s := by rw [← h]; exact Nat.and_le_right
  rw [show x + (s - x) = s by omega] at h1
  rw [← h1, Nat.testBit_or, Bool.or_eq_true] at hb
  exact hb
theorem walkF_mono {N : Nat} {W : List Way} : ∀ f s v U V, walkF N W f s v U = some V → walkF N W (f + 1) s v U = some V
  | 0, _, _, _, _, h => by cases h
  | f + 1, s, v, U, V, h => by
    have hin := walkF_in h
    rw [walkF, if_pos hin]
    by_cases h1 : 0 ≤ (get W (s * 12 + v)).frm
    · obtain ⟨h2, h3⟩ := walkF_from h h1
      rw [if_pos h1, if_pos h2]
      exact walkF_mono f _ _ _ _ h3
    · rw [if_neg h1]
      by_cases h2 : 0 < (get W (s * 12 + v)).half
      · obtain ⟨h3, X, h4, h5⟩ := walkF_half h h1 h2
        rw [if_pos h2, if_pos h3, walkF_mono f _ _ _ _ h4, Option.bind_some]
        exact walkF_mono f _ _ _ _ h5
      · rw [if_neg h2, walkF_end h h1 h2]
theorem walkF_le {N : Nat} {W : List Way} {f s v : Nat} {U V : List (Int × Int)} (h : walkF N W f s v U = some V) : ∀ g, f ≤ g → walkF N W g s v U = some V := by
  intro g hg
  obtain ⟨d, rfl⟩ : ∃ d, g = f + d := ⟨g - f, by omega⟩
  clear hg
  induction d with
  | zero => exact h
  | succ d ih => exact walkF_mono _ _ _ _ _ ih
theorem walk_ends {h : Ha} (k : Ok h) {n : Nat} (hn : h.pr.length = n) : ∀ s, 0 < s → s < 2 ^ (senders h).length → ∀ v, v < n → 0 ≤ (row (ways h) s v).cost → ∀ U : List (Int × Int), U.length + 12 * (2 * s - 1) < 1000000 →
    ∃ f E, walkF (2 ^ (senders h).length) (ways h) f s v U = some (U ++ E) ∧ E.length ≤ 12 * (2 * s - 1) ∧ sumP h E ≤ (row (ways h) s v).cost ∧ (∀ x ∈ E, HopFine h n x) ∧ ∀ j, j < (senders h).length → s.testBit j = true → Conn E ((senders h).getD j 0) v := by
  have hn12 : n ≤ 12 := by have := k.few; omega
  have h256 : 2 ^ (senders h).length ≤ 256 := Nat.pow_le_pow_right (by decide) k.send
  intro s
  induction s using Nat.strongRecOn with
  | ind s ih =>
    intro hs0 hsN
    have hrow := table_ok k hn hs0 hsN
    obtain ⟨r0, hinv, hshape⟩ := hrow.inv
    have deep : ∀ d v, v < n → GoodD (row (ways h) s) d v → 0 ≤ (row (ways h) s v).cost → ∀ U : List (Int × Int), U.length + (12 * (2 * s - 2) + d) < 1000000 →
        ∃ f E, walkF (2 ^ (senders h).length) (ways h) f s v U = some (U ++ E) ∧ E.length ≤ 12 * (2 * s - 2) + d ∧ sumP h E ≤ (row (ways h) s v).cost ∧ (∀ x ∈ E, HopFine h n x) ∧ ∀ j, j < (senders h).length → s.testBit j = true → Conn E ((senders h).getD j 0) v := by
      intro d
      induction d with
      | zero =>
        intro v hv hg hc U hU
        obtain ⟨hf, _⟩ := hg
        have e := hinv.base v hf
        have hsh := hshape v
        rw [← e] at hsh
        have eg : get (ways h) (s * 12 + v) = row (ways h) s v := (row_at (by omega)).symm
        rcases hsh.2 with h1 | ⟨h1, h2, j, hj, hsj, hvj⟩ | ⟨x, hx, hx0, hxs, hxm, _, ha, hb, hsum⟩
        · omega
        · refine ⟨1, [], ?_, by simp, by rw [h1]; exact Int.le_refl _, fun x hx => (by cases hx), fun i hi hbit => ?_⟩
          · rw [walkF, if_pos ⟨hsN, by omega, by omega⟩, eg, if_neg (by omega), if_neg (by omega), List.append_nil]
          · rw [hsj, Nat.testBit_two_pow] at hbit
            have : j = i := of_decide_eq_true hbit
            subst this
            rw [hvj]
            exact .refl _
        · obtain ⟨f1, E1, a1, a2, a3, a4, a5⟩ := ih x hxs hx0 (by omega) v hv ha U (by omega)
          obtain ⟨f2, E2, b1, b2, b3, b4, b5⟩ := ih (s - x) (by omega) (by omega) (by omega) v hv hb (U ++ E1) (by rw [List.length_append]; omega)
          refine ⟨max f1 f2 + 1, E1 ++ E2, ?_, by rw [List.length_append]; omega, by rw [sumP_append]; omega, fun y hy => ?_, fun j hj hbit => ?_⟩
          · rw [walkF, if_pos ⟨hsN, by omega, by omega⟩, eg, if_neg (by omega), if_pos (by omega), if_pos (by omega), hx, Int.toNat_natCast, walkF_le a1 _ (Nat.le_max_left _ _), Option.bind_some, walkF_le b1 _ (Nat.le_max_right _ _), List.append_assoc]
          · rcases List.mem_append.1 hy with hy | hy
            · exact a4 y hy
            · exact b4 y hy
          · rcases split_bits hxm hbit with h1 | h1
            · exact (a5 j hj h1).mono fun y hy => List.mem_append_left _ hy
            · exact (b5 j hj h1).mono fun y hy => List.mem_append_right _ hy
      | succ d ihd =>
        intro v hv hg hc U hU
        obtain ⟨u, hu, gu⟩ := hg
        obtain ⟨u', hun, _, hu', huv, hp, hu0, hle, hhalf⟩ := hinv.step v (by omega)
        obtain rfl : u' = u := by omega
        obtain ⟨f, E, a1, a2, a3, a4, a5⟩ := ihd u' hun gu hu0 (U ++ [((u' : Int), (v : Int))]) (by rw [List.length_append]; simp; omega)
        have eg : get (ways h) (s * 12 + v) = row (ways h) s v := (row_at (by omega)).symm
        refine ⟨f + 1, ((u' : Int), (v : Int)) :: E, ?_, by simp; omega, by rw [sumP]; simp only; omega, fun y hy => ?_, fun j hj hbit => ?_⟩
        · rw [walkF, if_pos ⟨hsN, by omega, by omega⟩, eg, if_pos (by omega), if_pos (by omega), hu, Int.toNat_natCast, a1, List.append_assoc]
          rfl
        · rcases List.mem_cons.1 hy with hy | hy
          · subst hy
            exact ⟨⟨by simp, by simp; omega⟩, ⟨by simp, by simp; omega⟩, by simp; omega, hp⟩
          · exact a4 y hy
        · exact .step ((a5 j hj hbit).mono fun y hy => List.mem_cons_of_mem _ hy) List.mem_cons_self
    intro v hv hc U hU
    obtain ⟨d, hd⟩ := hinv.good v hc
    have hsh := good_short hinv hv hd
    obtain ⟨f, E, a1, a2, a3, a4, a5⟩ := deep d v hv hd hc U (by omega)
    exact ⟨f, E, a1, by omega, a3, a4, a5⟩
end Su

/- THE WALKS over the example and same of law 19. -/
namespace Go.Proofs.YtenafgphaceidaaDoor
open Go.RowKit
set_option maxHeartbeats 2000000 in
set_option maxRecDepth 100000 in
/-- Are two lists of hops equal? -/
theorem lSame_any (a b : List (Int × Int)) (v u : Value) (w : World) (ha : RL w v a) (hb : RL w u b) :
    Calls Tryd.prog 26 #[v, u] w fun e w' => e = .returned (.bool (decide (a = b))) ∧ Ext w w' := by
  obtain ⟨A, ca, rfl, h1⟩ := ha.form
  obtain ⟨B, cb, rfl, h2⟩ := hb.form
  have HA := Lib.hid ha
  have HB := Lib.hid hb
  clear ha hb
  by_cases hl : a.length = b.length
  · have e1 : ((a.length : Int) != (b.length : Int)) = false := by rw [hl]; simp
    have HL := Lib.hid hl
    clear hl
    go_enter Tryd.func26, Tryd.ntmps26
    go_wp2_with fail
    go_loopw [13] (fun vi wr => ∃ i : Nat, i ≤ a.length ∧ vi = .int .i64 i ∧ Hid (Ext w wr ∧ ∀ j, j < i → a.getD j (0, 0) = b.getD j (0, 0))) (fun vi _ => a.length - (intOf vi).toNat)
    case atStart => exact ⟨0, Nat.zero_le _, rfl, Lib.hid ⟨Ext.refl _, fun j hj => absurd hj (Nat.not_lt_zero j)⟩⟩
    case round =>
      obtain ⟨i, hi, rfl, HJ⟩ := hrel
      by_cases hlt : i < a.length
      · have hlt2 : i < b.length := by have := HL.out; omega
        obtain ⟨ad, f, t, hA, hft, k1, k2, _, _⟩ := HA.out.at hlt
        obtain ⟨bd, f', t', hB, hft', k1', k2', _, _⟩ := HB.out.at hlt2
        subst hA
        subst hB
        have HF := Lib.hid (And.intro hft hft')
        have q1 := HJ.out.1.cell k1
        have q2 := HJ.out.1.cell k2
        have q1' := HJ.out.1.cell k1'
        have q2' := HJ.out.1.cell k2'
        clear k1 k2 k1' k2'
        clear hft hft'
        by_cases hf : f = f'
        · have ef : (f == f') = true := by rw [hf]; simp
          by_cases ht : t = t'
          · have et : (t == t') = true := by rw [ht]; simp
            have HE := Lib.hid (show (f, t) = (f', t') by rw [hf, ht])
            clear hf ht
            go_wp2_with fail
            go_quiet (fail)
            go_wp2_with fail
            clear q1 q2 q1' q2'
            go_roundw
            case rel => exact ⟨i + 1, by omega, by go_num, Lib.hid ⟨HJ.out.1.drewN _, fun j hj => by
              by_cases hji : j = i
              · rw [hji, HF.out.1, HF.out.2]; exact HE.out
              · exact HJ.out.2 j (by omega)⟩⟩
            case measure => simp [intOf]; omega
          · have et : (t == t') = false := by rw [beq_eq_false_iff_ne]; exact ht
            have hd : decide (a = b) = false := decide_eq_false fun e => ht (by
              have h1 := HF.out.1
              rw [e, HF.out.2] at h1
              injection h1 with _ h1
              exact h1.symm)
            have HD := Lib.hid hd
            clear hf ht hd
            go_wp2_with fail
            go_quiet (fail)
            go_wp2_with fail
            go_ret
            exact ⟨ret_bool HD.out.symm, HJ.out.1.drewN _⟩
        · have ef : (f == f') = false := by rw [beq_eq_false_iff_ne]; exact hf
          have hd : decide (a = b) = false := decide_eq_false fun e => hf (by
            have h1 := HF.out.1
            rw [e, HF.out.2] at h1
            injection h1 with h1 _
            exact h1.symm)
          have HD := Lib.hid hd
          clear hf hd
          go_wp2_with fail
          go_quiet (fail)
          go_wp2_with fail
          go_ret
          exact ⟨ret_bool HD.out.symm, HJ.out.1.drewN _⟩
      · obtain rfl : i = a.length := by omega
        have hd : decide (a = b) = true := by
          rw [decide_eq_true_eq]
          apply List.ext_getElem HL.out
          intro j h1 h2
          have := HJ.out.2 j h1
          rwa [getD_get h1, getD_get h2] at this
        have HD := Lib.hid hd
        clear hd
        go_wp2_with fail
        go_ret
        exact ⟨ret_bool HD.out.symm, HJ.out.1⟩
  · have e1 : ((a.length : Int) != (b.length : Int)) = true := by rw [bne_iff_ne]; omega
    have hd : decide (a = b) = false := decide_eq_false fun e => hl (by rw [e])
    have HD := Lib.hid hd
    clear hd hl
    go_enter Tryd.func26, Tryd.ntmps26
    go_wp2_with fail
    go_ret
    exact ⟨ret_bool HD.out.symm, Ext.refl _⟩
end Go.Proofs.YtenafgphaceidaaDoor

/- Mul, Scale, Sum of the specification of layer 4; Has and SameTexts of that of layer 7. -/
namespace Go.Proofs.YtenafgphaceidaaDoor
open Go.RowKit
theorem toList_sb (l : List UInt8) : (sb l).toList = l := by rw [ByteArray.toList_eq]; rfl
theorem sb_same {e p : List UInt8} (h : e = p) : (!(sb e).toList == (sb p).toList) = false := by subst h; simp
theorem sb_other {e p : List UInt8} (h : e ≠ p) : (!(sb e).toList == (sb p).toList) = true := by rw [toList_sb, toList_sb]; simp [h]


theorem decide_ne {α : Type} [DecidableEq α] {a b : α} (h : a ≠ b) : false = decide (a = b) := by simp [h]
theorem rSameTexts_any (ra rb : List (List UInt8)) (VA VB : Value) (w : World) (hA : Rs RS w VA ra) (hB : Rs RS w VB rb) :
    Calls Tryd.prog 20 #[VA, VB] w fun e w' => e = .returned (.bool (decide (ra = rb))) ∧ Ext w w' := by
  obtain ⟨A, ca, rfl, hla⟩ := hA.form
  obtain ⟨B, cb, rfl, hlb⟩ := hB.form
  have HA := Lib.hid hA
  have HB := Lib.hid hB
  clear hA hB
  by_cases hl : ra.length = rb.length
  · have e0 : ((ra.length : Int) != (rb.length : Int)) = false := by rw [hl]; simp
    have HL := Lib.hid hl
    clear hl
    go_enter Tryd.func20, Tryd.ntmps20
    go_wp2_with fail
    go_loopw [5] (fun vi wr => ∃ i : Nat, i ≤ ra.length ∧ vi = .int .i64 i ∧ Hid (Ext w wr ∧ ∀ j, j < i → ra.getD j [] = rb.getD j [])) (fun vi _ => ra.length - (intOf vi).toNat)
    case atStart => exact ⟨0, Nat.zero_le _, rfl, Lib.hid (And.intro (Ext.refl _) fun j hj => absurd hj (Nat.not_lt_zero j))⟩
    case round =>
      obtain ⟨i, hi, rfl, HI⟩ := hrel
      by_cases hlt : i < ra.length
      · have hlt2 : i < rb.length := by rw [← HL.out]; exact hlt
        obtain ⟨ad, u, rfl, hc, hu⟩ := (Rs.ext RS.ext _ _ _ _ HI.out.1 HA.out).at hlt
        obtain ⟨bd, u2, rfl, hc2, hu2⟩ := (Rs.ext RS.ext _ _ _ _ HI.out.1 HB.out).at hlt2
        unfold RS at hu hu2
        subst hu hu2
        have hga := getD_get (x := ([] : List UInt8)) hlt
        have hgb := getD_get (x := ([] : List UInt8)) hlt2
        obtain ⟨p, hp⟩ : ∃ p, ra[i] = p := ⟨_, rfl⟩
        obtain ⟨q, hq⟩ : ∃ q, rb[i] = q := ⟨_, rfl⟩
        rw [hp] at hga hc
        rw [hq] at hgb hc2
        have HG := Lib.hid (And.intro hga hgb)
        clear hga hgb hp hq
        by_cases he : p = q
        · have h1 := sb_same he
          have HE := Lib.hid he
          clear he
          go_wp2_with fail
          go_quiet (fail)
          go_wp2_with fail
          go_roundw
          case rel => exact ⟨i + 1, by omega, by go_num, Lib.hid (And.intro (by first | exact HI.out.1.drewN _ | exact HI.out.1) fun j hj => by
            by_cases hji : j = i
            · rw [hji, HG.out.1, HG.out.2, HE.out]
            · exact HI.out.2 j (by omega))⟩
          case measure => simp [intOf]; omega
        · have h1 := sb_other he
          have HE := Lib.hid he
          clear he
          go_wp2_with fail
          go_quiet (fail)
          go_wp2_with fail
          go_ret
          refine ⟨ret_bool (decide_ne fun h => HE.out ?_), by first | exact HI.out.1.drewN _ | exact HI.out.1⟩
          rw [← HG.out.1, ← HG.out.2, h]
      · obtain rfl : i = ra.length := by omega
        go_wp2_with fail
        go_ret
        refine ⟨ret_bool ?_, HI.out.1⟩
        have : ra = rb := by
          apply List.ext_getElem HL.out
          intro j h1 h2
          have := HI.out.2 j h1
          rwa [getD_get h1, getD_get h2] at this
        simp [this]
  · have e0 : ((ra.length : Int) != (rb.length : Int)) = true := by rw [bne_iff_ne]; omega
    have HL := Lib.hid hl
    clear hl
    go_enter Tryd.func20, Tryd.ntmps20
    go_wp2_with fail
    go_ret
    exact ⟨ret_bool (decide_ne fun h => HL.out (by rw [h])), Ext.refl _⟩


end Go.Proofs.YtenafgphaceidaaDoor

/- THE WALKS over the specification of layer 19: next, Few. -/
namespace Su
theorem next_drop : ∀ (l : List (Int × Int)) (a : Int) (i : Nat), (∀ j, j < i → (l.getD j (0, 0)).1 ≠ a) → i ≤ l.length → nextOf l a = nextOf (l.drop i) a
  | _, _, 0, _, _ => rfl
  | [], _, i + 1, _, h => by simp at h
  | x :: l, a, i + 1, h, hi => by
    have h0 : ¬ x.1 = a := by have := h 0 (Nat.succ_pos _); simpa using this
    rw [nextOf, if_neg h0, List.drop_succ_cons]
    exact next_drop l a i (fun j hj => by have := h (j + 1) (by omega); simpa using this) (by simpa using hi)
end Su
namespace Go.Proofs.YtenafgphaceidaaDoor
open Go.RowKit
end Go.Proofs.YtenafgphaceidaaDoor

/- THE WALKS over Valid of the specification of layer 19. -/
namespace Su
theorem next_mem {h : Ha} {l : List (Int × Int)} (ho : hopsOk h l) {x : Int × Int} (hx : x ∈ l) : nextOf l x.1 = some x.2 := by
  obtain ⟨k, hk, e⟩ := mem_at hx
  have hr := rise k hk (fun j hj => ho j (by omega))
  have hd := next_drop l x.1 k (fun j hj => by have := hr j hj; rw [e] at this; omega) (by omega)
  have e2 : l[k] = x := by rw [← e, List.getD_eq_getElem?_getD, List.getElem?_eq_getElem hk]; rfl
  rw [hd, List.drop_eq_getElem_cons hk, e2, nextOf, if_pos rfl]
theorem go_stay {l : List (Int × Int)} {a : Int} (hn : nextOf l a = none) : ∀ n, go l n a = a
  | 0 => rfl
  | n + 1 => by rw [go, go_stay hn n, hn]; rfl
theorem go_add (l : List (Int × Int)) (a : Int) (m : Nat) : ∀ n, go l (n + m) a = go l n (go l m a)
  | 0 => by rw [Nat.zero_add]; rfl
  | n + 1 => by rw [show n + 1 + m = (n + m) + 1 by omega, go, go, go_add l a m n]
end Su
namespace Go.Proofs.YtenafgphaceidaaDoor
open Go.RowKit
end Go.Proofs.YtenafgphaceidaaDoor

/- WHAT Tree MAKES IS A VALID TREE, and costs no more than the table says. -/
namespace Su
theorem nextOf_at {nx : List (Int × Int)} (hd : (nx.map Prod.fst).Nodup) {i : Nat} {a b : Int} (h : nx[i]? = some (a, b)) : nextOf nx a = some b := by
  induction nx generalizing i with
  | nil => simp at h
  | cons x nx ih =>
    rw [List.map_cons, List.nodup_cons] at hd
    cases i with
    | zero =>
      simp at h
      subst h
      rw [nextOf, if_pos rfl]
    | succ i =>
      simp at h
      have hm : (a, b) ∈ nx := List.mem_of_getElem? h
      rw [nextOf, if_neg]
      · exact ih hd.2 h
      · intro e
        exact hd.1 (by rw [e]; exact List.mem_map.2 ⟨_, hm, rfl⟩)
theorem nextOf_key {nx : List (Int × Int)} {a : Int} : nextOf nx a ≠ none ↔ ∃ (i : Nat) (b : Int), nx[i]? = some (a, b) := by
  constructor
  · intro h
    cases hn : nextOf nx a with
    | none => exact absurd hn h
    | some b =>
      obtain ⟨i, hi, e⟩ := List.getElem_of_mem (nextOf_some hn)
      exact ⟨i, b, by rw [List.getElem?_eq_getElem hi, e]⟩
  · rintro ⟨i, b, h⟩ hn
    exact nextOf_none.1 hn _ (List.mem_of_getElem? h) rfl
/-- Every known house but the first one sends to an earlier one, by a hop of U. -/
def Ordered (U : List (Int × Int)) (nx : List (Int × Int)) : Prop := ∀ i a b, 0 < i → nx[i]? = some (a, b) → (a, b) ∈ U ∧ ∃ j c, j < i ∧ nx[j]? = some (b, c)
theorem Ordered.snoc {U nx : List (Int × Int)} (h : Ordered U nx) {a y : Int} (hm : (a, y) ∈ U) {q : Nat} {c : Int} (hq : nx[q]? = some (y, c)) : Ordered U (nx ++ [(a, y)]) := by
  have hql : q < nx.length := (List.getElem?_eq_some_iff.1 hq).1
  intro i a' b' hi he
  rcases Nat.lt_or_ge i nx.length with h1 | h1
  · rw [List.getElem?_append_left h1] at he
    obtain ⟨h2, j, c', h3, h4⟩ := h i a' b' hi he
    exact ⟨h2, j, c', h3, by rw [List.getElem?_append_left (by omega)]; exact h4⟩
  · rw [List.getElem?_append_right h1] at he
    cases hk : i - nx.length with
    | zero =>
      rw [hk] at he
      simp at he
      obtain ⟨rfl, rfl⟩ := he
      exact ⟨hm, q, c, by omega, by rw [List.getElem?_append_left hql]; exact hq⟩
    | succ k => rw [hk] at he; simp at he
/-- What has been looked from. -/
def Closed (U nx : List (Int × Int)) (n q : Nat) : Prop := ∀ i b c, i < q → nx[i]? = some (b, c) → ∀ a : Nat, a < n → ((a : Int), b) ∈ U → nextOf nx (a : Int) ≠ none
theorem nextOf_snoc_ne {nx : List (Int × Int)} {a : Int} (h : nextOf nx a ≠ none) (t : List (Int × Int)) : nextOf (nx ++ t) a ≠ none := by
  obtain ⟨i, b, hi⟩ := nextOf_key.1 h
  have hil : i < nx.length := (List.getElem?_eq_some_iff.1 hi).1
  exact nextOf_key.2 ⟨i, b, by rw [List.getElem?_append_left hil]; exact hi⟩
theorem bfs_round {U : List (Int × Int)} {n q : Nat} {y c : Int} {nx : List (Int × Int)} (hq : nx[q]? = some (y, c)) (ho : Ordered U nx) : ∀ k, k ≤ n → Ordered U (rep (bfsStep U y) k nx) ∧ (∃ t, rep (bfsStep U y) k nx = nx ++ t) ∧ ∀ a : Nat, a < k → ((a : Int), y) ∈ U → nextOf (rep (bfsStep U y) k nx) (a : Int) ≠ none
  | 0, _ => ⟨ho, ⟨[], by rw [rep_zero, List.append_nil]⟩, fun a ha => absurd ha (Nat.not_lt_zero a)⟩
  | k + 1, hk => by
    obtain ⟨h1, ⟨t, ht⟩, h3⟩ := bfs_round (n := n) hq ho k (by omega)
    have hql : q < nx.length := (List.getElem?_eq_some_iff.1 hq).1
    have hq2 : (rep (bfsStep U y) k nx)[q]? = some (y, c) := by rw [ht, List.getElem?_append_left hql]; exact hq
    rw [rep_succ]
    cases hn : nextOf (rep (bfsStep U y) k nx) (k : Int) with
    | some b =>
      rw [bfsStep_known hn]
      refine ⟨h1, ⟨t, ht⟩, fun a ha hm => ?_⟩
      by_cases hak : a = k
      · subst hak; rw [hn]; simp
      · exact h3 a (by omega) hm
    | none =>
      by_cases hm : ((k : Int), y) ∈ U
      · rw [bfsStep_yes hn hm]
        refine ⟨h1.snoc hm hq2, ⟨t ++ [((k : Int), y)], by rw [ht, List.append_assoc]⟩, fun a ha hma => ?_⟩
        by_cases hak : a = k
        · subst hak
          exact nextOf_key.2 ⟨(rep (bfsStep U y) a nx).length, y, by rw [List.getElem?_append_right (Nat.le_refl _)]; simp⟩
        · exact nextOf_snoc_ne (h3 a (by omega) hma) _
      · rw [bfsStep_no hm]
        refine ⟨h1, ⟨t, ht⟩, fun a ha hma => ?_⟩
        by_cases hak : a = k
        · subst hak; exact absurd hma hm
        · exact h3 a (by omega) hma
theorem bfs_all {U : List (Int × Int)} {n : Nat} : ∀ (f q : Nat) (nx : List (Int × Int)), f + q = n + 1 → q ≤ nx.length → Known n nx → Ordered U nx → Closed U nx n q →
    Known n (bfs U n f q nx) ∧ Ordered U (bfs U n f q nx) ∧ Closed U (bfs U n f q nx) n (bfs U n f q nx).length ∧ ∃ t, bfs U n f q nx = nx ++ t
  | f, q, nx, hf, hq, hk, ho, hc => by
    by_cases hlt : q < nx.length
    · have hl := hk.len
      cases f with
      | zero => omega
      | succ f =>
        have hqe : nx[q]? = some ((nx.getD q (0, 0)).1, (nx.getD q (0, 0)).2) := by
          rw [List.getD_eq_getElem?_getD, List.getElem?_eq_getElem hlt]
          rfl
        obtain ⟨h1, ⟨t, ht⟩, h3⟩ := bfs_round hqe ho n (Nat.le_refl _)
        have hyn := hk.at hlt
        rw [bfs_go hlt]
        have hc2 : Closed U (rep (bfsStep U (nx.getD q (0, 0)).1) n nx) n (q + 1) := by
          intro i b c hi he a ha hm
          by_cases hiq : i = q
          · subst hiq
            rw [ht, List.getElem?_append_left hlt, hqe] at he
            injection he with he
            injection he with he _
            rw [← he] at hm
            exact h3 a ha hm
          · rw [ht, List.getElem?_append_left (by omega)] at he
            rw [ht]
            exact nextOf_snoc_ne (hc i b c (by omega) he a ha hm) t
        obtain ⟨g1, g2, g3, t2, g4⟩ := bfs_all f (q + 1) _ (by omega) (by have := rep_len_ge U (nx.getD q (0, 0)).1 nx n; omega) (Known.rep hyn hk n (Nat.le_refl _)) h1 hc2
        exact ⟨g1, g2, g3, t ++ t2, by rw [g4, ht, List.append_assoc]⟩
    · rw [bfs_end hlt]
      obtain rfl : q = nx.length := by omega
      exact ⟨hk, ho, hc, [], by rw [List.append_nil]⟩
  termination_by f => f
/-- The known houses of a haul. -/
structure KnownOk (h : Ha) (n : Nat) (U R : List (Int × Int)) : Prop where
  kn : Known n R
  ord : Ordered U R
  cl : Closed U R n R.length
  first : R[0]? = some (h.tgt, h.tgt)
theorem known_ok {h : Ha} (k : Ok h) {n : Nat} (hn : h.pr.length = n) (U : List (Int × Int)) : KnownOk h n U (known h U) := by
  have ht := k.tgt
  rw [hn] at ht
  obtain ⟨h1, h2, h3, t, h4⟩ := bfs_all (U := U) (n := n) (n + 1) 0 [(h.tgt, h.tgt)] (by omega) (Nat.zero_le _) ⟨by simp, fun x hx => by simp at hx; subst hx; exact ht, fun x hx => by simp at hx; subst hx; exact ht⟩ (fun i a b hi he => by
      obtain ⟨i, rfl⟩ : ∃ j, i = j + 1 := ⟨i - 1, by omega⟩
      simp at he) (fun i b c hi => absurd hi (Nat.not_lt_zero i))
  unfold known
  rw [hn]
  exact ⟨h1, h2, h3, by rw [h4]; rfl⟩
theorem KnownOk.conn {h : Ha} {n : Nat} {U R : List (Int × Int)} (k : KnownOk h n U R) (hU : ∀ x ∈ U, HopFine h n x) {a : Int} (hc : Conn U a h.tgt) : nextOf R a ≠ none := by
  suffices H : ∀ a b, Conn U a b → nextOf R b ≠ none → nextOf R a ≠ none from H a h.tgt hc (nextOf_key.2 ⟨0, h.tgt, k.first⟩)
  intro a b hab
  induction hab with
  | refl => exact fun h => h
  | step _ hm ih =>
    rename_i b c _
    intro hcn
    apply ih
    obtain ⟨i, d, hi⟩ := nextOf_key.1 hcn
    have hf := (hU _ hm).1
    simp only at hf
    obtain ⟨j, rfl⟩ : ∃ j : Nat, b = j := ⟨b.toNat, by omega⟩
    exact k.cl i c d (List.getElem?_eq_some_iff.1 hi).1 hi j (by omega) hm
/-- What marking a house's way does. -/
theorem mark_ok {h : Ha} {n : Nat} {U R : List (Int × Int)} (k : KnownOk h n U R) : ∀ (i : Nat) (a c : Int), R[i]? = some (a, c) → ∀ (f : Nat) (S : List Bool), i + 1 ≤ f → S.length = n →
    (∀ x : Nat, S.getD x false = true → (mark R h.tgt f a S).getD x false = true) ∧ (a = h.tgt ∨ (mark R h.tgt f a S).getD a.toNat false = true) ∧
    ∀ x : Nat, (mark R h.tgt f a S).getD x false = true → S.getD x false = true ∨ ((x : Int) ≠ h.tgt ∧ ∃ j b, 0 < j ∧ R[j]? = some ((x : Int), b) ∧ (b = h.tgt ∨ (mark R h.tgt f a S).getD b.toNat false = true)) := by
  intro i
  induction i using Nat.strongRecOn with
  | ind i ih =>
    intro a c hi f S hf hl
    have hdom := k.kn.dom _ (List.mem_of_getElem? hi)
    simp only at hdom
    by_cases hat : a = h.tgt
    · rw [mark_tgt hat]
      exact ⟨fun _ h => h, .inl hat, fun _ h => .inl h⟩
    · cases hs : S.getD a.toNat false with
      | true =>
        rw [mark_on hs]
        exact ⟨fun _ h => h, .inr hs, fun _ h => .inl h⟩
      | false =>
        obtain ⟨f', rfl⟩ : ∃ f', f = f' + 1 := ⟨f - 1, by omega⟩
        rw [mark_go hat hs, nextOf_at k.kn.nd hi, Option.getD_some]
        have hi0 : 0 < i := by
          rcases Nat.eq_zero_or_pos i with h0 | h0
          · subst h0
            rw [k.first] at hi
            injection hi with hi
            injection hi with hi _
            exact absurd hi.symm hat
          · exact h0
        obtain ⟨_, j, d, hj, hje⟩ := k.ord i a c hi0 hi
        obtain ⟨g1, g2, g3⟩ := ih j hj c d hje f' (S.set a.toNat true) (by omega) (by rw [List.length_set]; exact hl)
        have haS : (S.set a.toNat true).getD a.toNat false = true := by
          rw [List.getD_eq_getElem?_getD, List.getElem?_set_self (by omega)]
          rfl
        refine ⟨fun x hx => g1 x ?_, .inr (g1 _ haS), fun x hx => ?_⟩
        · by_cases hxa : x = a.toNat
          · rw [hxa]; exact haS
          · rw [List.getD_eq_getElem?_getD, List.getElem?_set_ne (fun e => hxa e.symm), ← List.getD_eq_getElem?_getD]
            exact hx
        · rcases g3 x hx with h1 | h1
          · by_cases hxa : x = a.toNat
            · right
              have hxe : (x : Int) = a := by omega
              refine ⟨by rw [hxe]; exact hat, i, c, hi0, by rw [hxe]; exact hi, g2⟩
            · left
              rw [List.getD_eq_getElem?_getD, List.getElem?_set_ne (fun e => hxa e.symm), ← List.getD_eq_getElem?_getD] at h1
              exact h1
          · exact .inr h1
/-- The marks. -/
structure MarksGood (h : Ha) (n : Nat) (R : List (Int × Int)) (S : List Bool) : Prop where
  len : S.length = n
  way : ∀ x : Nat, S.getD x false = true → (x : Int) ≠ h.tgt ∧ ∃ j b, 0 < j ∧ R[j]? = some ((x : Int), b) ∧ (b = h.tgt ∨ S.getD b.toNat false = true)
theorem marks_ok {h : Ha} {n : Nat} {U R : List (Int × Int)} (k : KnownOk h n U R) (L : List Int) (hL : ∀ a ∈ L, a ≠ h.tgt ∧ nextOf R a ≠ none) : ∀ j, j ≤ L.length → MarksGood h n R (marksTo R h.tgt L n j) ∧ ∀ i, i < j → (marksTo R h.tgt L n j).getD (L.getD i 0).toNat false = true
  | 0, _ => by
    rw [marksTo_zero]
    exact ⟨⟨by simp, fun x hx => by
      rw [List.getD_eq_getElem?_getD, List.getElem?_replicate] at hx
      split at hx <;> simp at hx⟩, fun i hi => absurd hi (Nat.not_lt_zero i)⟩
  | j + 1, hj => by
    obtain ⟨h1, h2⟩ := marks_ok k L hL j (by omega)
    have hm : L.getD j 0 ∈ L := by rw [List.getD_eq_getElem?_getD, List.getElem?_eq_getElem (by omega)]; exact List.getElem_mem _
    obtain ⟨hne, hkey⟩ := hL _ hm
    obtain ⟨i, c, hi⟩ := nextOf_key.1 hkey
    have hil : i < R.length := (List.getElem?_eq_some_iff.1 hi).1
    have hRl := k.kn.len
    obtain ⟨g1, g2, g3⟩ := mark_ok k i _ c hi (n + 1) (marksTo R h.tgt L n j) (by omega) h1.len
    rw [marksTo_succ]
    refine ⟨⟨by rw [mark_len]; exact h1.len, fun x hx => ?_⟩, fun i' hi' => ?_⟩
    · rcases g3 x hx with h3 | h3
      · obtain ⟨h4, j', b, h5, h6, h7⟩ := h1.way x h3
        exact ⟨h4, j', b, h5, h6, h7.imp id (g1 _)⟩
      · exact h3
    · by_cases hij : i' = j
      · subst hij
        rcases g2 with h3 | h3
        · exact absurd h3 hne
        · exact h3
      · exact g1 _ (h2 i' (by omega))
/-! The hops of the marked houses. -/
theorem mem_outTo {R : List (Int × Int)} {S : List Bool} {x : Int × Int} : ∀ k, x ∈ outTo R S k ↔ ∃ a : Nat, a < k ∧ S.getD a false = true ∧ x = ((a : Int), (nextOf R (a : Int)).getD 0)
  | 0 => by rw [outTo_zero]; simp
  | k + 1 => by
    cases hs : S.getD k false with
    | true =>
      rw [outTo_yes hs, List.mem_append, List.mem_singleton, mem_outTo k]
      constructor
      · rintro (⟨a, h1, h2, h3⟩ | h)
        · exact ⟨a, by omega, h2, h3⟩
        · exact ⟨k, by omega, hs, h⟩
      · rintro ⟨a, h1, h2, h3⟩
        by_cases hak : a = k
        · subst hak; exact .inr h3
        · exact .inl ⟨a, by omega, h2, h3⟩
    | false =>
      rw [outTo_no hs, mem_outTo k]
      constructor
      · rintro ⟨a, h1, h2, h3⟩
        exact ⟨a, by omega, h2, h3⟩
      · rintro ⟨a, h1, h2, h3⟩
        by_cases hak : a = k
        · subst hak; rw [hs] at h2; cases h2
        · exact ⟨a, by omega, h2, h3⟩
theorem outTo_rise {R : List (Int × Int)} {S : List Bool} : ∀ k, (outTo R S k).Pairwise fun x y => x.1 < y.1
  | 0 => by rw [outTo_zero]; exact List.Pairwise.nil
  | k + 1 => by
    cases hs : S.getD k false with
    | true =>
      rw [outTo_yes hs, List.pairwise_append]
      refine ⟨outTo_rise k, by simp, fun x hx y hy => ?_⟩
      rw [List.mem_singleton] at hy
      subst hy
      obtain ⟨a, h1, _, h3⟩ := (mem_outTo k).1 hx
      rw [h3]
      simp only
      omega
    | false => rw [outTo_no hs]; exact outTo_rise k
theorem rise_nodup {l : List (Int × Int)} (h : l.Pairwise fun x y => x.1 < y.1) : (l.map Prod.fst).Nodup := by
  rw [List.nodup_iff_pairwise_ne, List.pairwise_map]
  exact h.imp fun h e => by omega
theorem sumP_erase {h : Ha} {x : Int × Int} : ∀ {E : List (Int × Int)}, x ∈ E → sumP h (E.erase x) = sumP h E - price h x.1 x.2
  | [], hm => by cases hm
  | y :: E, hm => by
    by_cases hxy : y = x
    · subst hxy
      rw [List.erase_cons_head, sumP]
      omega
    · rw [List.erase_cons_tail (by simpa using hxy), sumP, sumP, sumP_erase (by
        rcases List.mem_cons.1 hm with h1 | h1
        · exact absurd h1.symm hxy
        · exact h1)]
      omega
theorem sumP_nonneg {h : Ha} : ∀ {E : List (Int × Int)}, (∀ x ∈ E, 0 ≤ price h x.1 x.2) → 0 ≤ sumP h E
  | [], _ => Int.le_refl _
  | y :: E, hp => by
    have h1 := hp y List.mem_cons_self
    have h2 := sumP_nonneg (E := E) fun x hx => hp x (List.mem_cons_of_mem _ hx)
    rw [sumP]
    omega
theorem sumP_le {h : Ha} : ∀ {l E : List (Int × Int)}, l.Nodup → (∀ x ∈ l, x ∈ E) → (∀ x ∈ E, 0 ≤ price h x.1 x.2) → sumP h l ≤ sumP h E
  | [], E, _, _, hp => sumP_nonneg hp
  | x :: l, E, hd, hm, hp => by
    rw [List.nodup_cons] at hd
    have hx := hm x List.mem_cons_self
    have ih := sumP_le (l := l) (E := E.erase x) hd.2 (fun y hy => by
      have hyx : y ≠ x := fun e => hd.1 (by rw [← e]; exact hy)
      exact (List.mem_erase_of_ne hyx).2 (hm y (List.mem_cons_of_mem _ hy))) (fun y hy => hp y (List.mem_of_mem_erase hy))
    rw [sumP_erase hx] at ih
    rw [sumP]
    omega
theorem costTo_sumP {h : Ha} {l : List (Int × Int)} : ∀ k, k ≤ l.length → costTo h l k = sumP h (l.take k)
  | 0, _ => rfl
  | k + 1, hk => by
    rw [costTo_succ, costTo_sumP k (by omega), take_snoc (by omega), sumP_append, sumP, sumP]
    omega
theorem costTo_all (h : Ha) (l : List (Int × Int)) : costTo h l l.length = sumP h l := by rw [costTo_sumP _ (Nat.le_refl _), List.take_length]
/-- A tree out of known houses and marks. -/
theorem tree_good {h : Ha} (k : Ok h) {n : Nat} (hn : h.pr.length = n) {U R : List (Int × Int)} (hk : KnownOk h n U R) (hU : ∀ x ∈ U, HopFine h n x) {S : List Bool} (hS : MarksGood h n R S) (hall : ∀ a ∈ senders h, S.getD a.toNat false = true) :
    valid h (outTo R S n) = true ∧ sumP h (outTo R S n) ≤ sumP h U := by
  have hmem : ∀ x ∈ outTo R S n, ∃ (a j : Nat) (b : Int), a < n ∧ S.getD a false = true ∧ x = ((a : Int), b) ∧ 0 < j ∧ R[j]? = some ((a : Int), b) ∧ (a : Int) ≠ h.tgt ∧ (b = h.tgt ∨ S.getD b.toNat false = true) ∧ ((a : Int), b) ∈ U := fun x hx => by
    obtain ⟨a, h1, h2, h3⟩ := (mem_outTo n).1 hx
    obtain ⟨h4, j, b, h5, h6, h7⟩ := hS.way a h2
    rw [nextOf_at hk.kn.nd h6, Option.getD_some] at h3
    exact ⟨a, j, b, h1, h2, h3, h5, h6, h4, h7, (hk.ord j _ _ h5 h6).1⟩
  have hrise := outTo_rise (R := R) (S := S) n
  have hnd := rise_nodup hrise
  have hnx : ∀ a : Nat, a < n → S.getD a false = true → ∀ (j : Nat) (b : Int), R[j]? = some ((a : Int), b) → nextOf (outTo R S n) (a : Int) = some b := fun a ha hs j b hj => by
    have hm : ((a : Int), b) ∈ outTo R S n := (mem_outTo n).2 ⟨a, ha, hs, by rw [nextOf_at hk.kn.nd hj]; rfl⟩
    obtain ⟨i, hi, e⟩ := List.getElem_of_mem hm
    exact nextOf_at hnd (i := i) (by rw [List.getElem?_eq_getElem hi, e])
  have htn : nextOf (outTo R S n) h.tgt = none := by
    rw [nextOf_none]
    intro x hx e
    obtain ⟨a, _, b, _, _, hxe, _, _, hne, _⟩ := hmem x hx
    rw [hxe] at e
    exact hne e
  have hgo : ∀ (i : Nat) (a c : Int), R[i]? = some (a, c) → (a = h.tgt ∨ S.getD a.toNat false = true) → ∀ N, i ≤ N → go (outTo R S n) N a = h.tgt := by
    intro i
    induction i using Nat.strongRecOn with
    | ind i ih =>
      intro a c hi hc N hN
      by_cases hat : a = h.tgt
      · rw [hat]; exact go_stay htn N
      · have hdom := hk.kn.dom _ (List.mem_of_getElem? hi)
        simp only at hdom
        have hs : S.getD a.toNat false = true := hc.resolve_left hat
        obtain ⟨_, j', b, h5, h6, h7⟩ := hS.way a.toNat hs
        have hae : ((a.toNat : Nat) : Int) = a := by omega
        rw [hae] at h6
        have hbc : b = c := by
          have h8 := nextOf_at hk.kn.nd h6
          rw [nextOf_at hk.kn.nd hi] at h8
          injection h8 with h8
          exact h8.symm
        subst hbc
        have hi0 : 0 < i := by
          rcases Nat.eq_zero_or_pos i with h0 | h0
          · subst h0
            rw [hk.first] at hi
            injection hi with hi
            injection hi with hi _
            exact absurd hi.symm hat
          · exact h0
        obtain ⟨_, j, d, hj, hje⟩ := hk.ord i a b hi0 hi
        obtain ⟨N', rfl⟩ : ∃ N', N = N' + 1 := ⟨N - 1, by omega⟩
        have h1 := hnx a.toNat (by omega) hs i b (by rw [hae]; exact hi)
        rw [hae] at h1
        rw [go_add _ a 1 N', go_some (n := 0) (b := b) h1]
        exact ih j hj b d hje h7 N' (by omega)
  refine ⟨valid_iff.2 ⟨check_ok k, fun i hi hb => ?_, fun a ha hno => ?_, fun x hx => ?_⟩, ?_⟩
  · have hx : (outTo R S n).getD i (0, 0) ∈ outTo R S n := by rw [List.getD_eq_getElem?_getD, List.getElem?_eq_getElem hi]; exact List.getElem_mem hi
    obtain ⟨a, j, b, h1, h2, h3, h4, h5, h6, h7, h8⟩ := hmem _ hx
    have hf := hU _ h8
    unfold badHop at hb
    rw [hn] at hb
    have hr : 0 < i → ((outTo R S n).getD (i - 1) (0, 0)).1 < ((outTo R S n).getD i (0, 0)).1 := fun h0 => by
      have := List.pairwise_iff_getElem.1 hrise (i - 1) i (by omega) hi (by omega)
      rw [List.getD_eq_getElem?_getD, List.getD_eq_getElem?_getD, List.getElem?_eq_getElem hi, List.getElem?_eq_getElem (by omega : i - 1 < (outTo R S n).length)]
      exact this
    rw [h3] at hb hr
    obtain ⟨f1, f2, f3, f4⟩ := hf
    simp only at hb hr f1 f2 f3 f4
    rcases hb with hb | hb | hb | hb | hb | hb | hb | hb
    · omega
    · omega
    · omega
    · omega
    · exact f3 hb
    · exact h6 hb
    · omega
    · have := hr hb.1
      omega
  · have hs := hall a ha
    have hr := k.src a ((senders_mem h a).1 ha).2
    obtain ⟨_, j, b, _, h6, _⟩ := hS.way a.toNat hs
    have h1 := hnx a.toNat (by omega) hs j b h6
    rw [show ((a.toNat : Nat) : Int) = a by omega, hno] at h1
    cases h1
  · obtain ⟨a, j, b, h1, h2, h3, h4, h5, h6, h7, h8⟩ := hmem x hx
    have hjl : j < R.length := (List.getElem?_eq_some_iff.1 h5).1
    have hRl := hk.kn.len
    rw [h3, hn]
    exact hgo j _ b h5 (.inr (by simpa using h2)) n (by omega)
  · refine sumP_le (hrise.imp fun h e => by rw [e] at h; omega) (fun x hx => ?_) (fun x hx => (hU x hx).2.2.2)
    obtain ⟨a, j, b, h1, h2, h3, h4, h5, h6, h7, h8⟩ := hmem x hx
    rw [h3]
    exact h8
/-- What Tree makes. -/
theorem treeOf_good {h : Ha} (k : Ok h) {n : Nat} (hn : h.pr.length = n) {U : List (Int × Int)} (hU : ∀ x ∈ U, HopFine h n x) (hc : ∀ a ∈ senders h, Conn U a h.tgt) : valid h (treeOf h U) = true ∧ sumP h (treeOf h U) ≤ sumP h U := by
  have hk := known_ok k hn U
  obtain ⟨h1, h2⟩ := marks_ok hk (senders h) (fun a ha => ⟨((senders_mem h a).1 ha).1, hk.conn hU (hc a ha)⟩) (senders h).length (Nat.le_refl _)
  unfold treeOf
  rw [hn]
  exact tree_good k hn hk hU h1 fun a ha => by
    obtain ⟨i, hi, rfl⟩ := List.getElem_of_mem ha
    have := h2 i hi
    have e : (senders h).getD i 0 = (senders h)[i] := by rw [List.getD_eq_getElem?_getD, List.getElem?_eq_getElem hi]; rfl
    rw [e] at this
    exact this
/-- Where Least finds a cost, the walk through the table ends, and Tree makes a valid tree of no more than this cost. -/
theorem tree_ends {h : Ha} (he : (least h).2 = 0) : ∃ fuel, (senders h ≠ [] → ∃ U, walkF (2 ^ (senders h).length) (ways h) fuel (2 ^ (senders h).length - 1) h.tgt.toNat [] = some U) ∧ valid h (treeOf h (usedF fuel h)) = true ∧ sumP h (treeOf h (usedF fuel h)) ≤ (least h).1 := by
  have hc0 := least_check he
  have k := ok_of hc0
  by_cases hs : senders h = []
  · refine ⟨0, fun h => absurd hs h, ?_⟩
    rw [usedF_nil hs, least_none hc0 hs]
    have := treeOf_good k rfl (U := []) (fun x hx => by cases hx) (fun a ha => by rw [hs] at ha; cases ha)
    exact ⟨this.1, by have := this.2; simpa [sumP] using this⟩
  · have hm : 0 < (senders h).length := List.length_pos_iff.2 hs
    have hcost : ¬ (last h h.tgt).cost < 0 := fun hl => by
      rw [least_no hc0 hs hl] at he
      cases he
    rw [least_yes hc0 hs hcost] at he ⊢
    have h2m : 2 ≤ 2 ^ (senders h).length := by
      obtain ⟨j, hj⟩ : ∃ j, (senders h).length = j + 1 := ⟨(senders h).length - 1, by omega⟩
      have := Nat.two_pow_pos j
      rw [hj, Nat.pow_succ]
      omega
    have h256 : 2 ^ (senders h).length ≤ 256 := Nat.pow_le_pow_right (by decide) k.send
    have ht := k.tgt
    have hfew := k.few
    have hle : last h h.tgt = row (ways h) (2 ^ (senders h).length - 1) h.tgt.toNat := by
      rw [row_at (by omega)]
      rfl
    obtain ⟨f, E, a1, a2, a3, a4, a5⟩ := walk_ends k rfl (2 ^ (senders h).length - 1) (by omega) (by omega) h.tgt.toNat (by omega) (by rw [← hle]; omega) [] (by simp; omega)
    rw [List.nil_append] at a1
    refine ⟨f, fun _ => ⟨E, a1⟩, ?_⟩
    rw [usedF_some hs a1]
    have := treeOf_good k rfl a4 (fun a ha => by
      obtain ⟨i, hi, rfl⟩ := List.getElem_of_mem ha
      have h1 := a5 i hi (by rw [Nat.testBit_two_pow_sub_one]; exact decide_eq_true hi)
      rw [List.getD_eq_getElem?_getD, List.getElem?_eq_getElem hi, show ((h.tgt.toNat : Nat) : Int) = h.tgt by omega] at h1
      exact h1)
    refine ⟨this.1, ?_⟩
    rw [hle]
    exact Int.le_trans this.2 a3
end Su

/- NO VALID TREE COSTS LESS THAN THE TABLE SAYS. -/
namespace Su
/-! Sets of senders as numbers. -/
def mask : List Nat → Nat
  | [] => 0
  | k :: L => 2 ^ k ||| mask L
theorem mask_bit (i : Nat) : ∀ L : List Nat, (mask L).testBit i = decide (i ∈ L)
  | [] => by simp [mask]
  | k :: L => by
    rw [mask, Nat.testBit_or, mask_bit i L, Nat.testBit_two_pow]
    by_cases h1 : k = i
    · subst h1; simp
    · have h2 : ¬ i = k := fun e => h1 e.symm
      simp [h1, h2]
theorem mask_same {L M : List Nat} (h : ∀ i, i ∈ L ↔ i ∈ M) : mask L = mask M := by
  apply Nat.eq_of_testBit_eq
  intro i
  rw [mask_bit, mask_bit]
  exact decide_eq_decide.2 (h i)
theorem mask_app (L M : List Nat) : mask (L ++ M) = mask L ||| mask M := by
  apply Nat.eq_of_testBit_eq
  intro i
  rw [mask_bit, Nat.testBit_or, mask_bit, mask_bit]
  simp
theorem mask_and {L M : List Nat} (h : ∀ i ∈ L, i ∉ M) : mask L &&& mask M = 0 := by
  apply Nat.eq_of_testBit_eq
  intro i
  rw [Nat.testBit_and, mask_bit, mask_bit, Nat.zero_testBit]
  by_cases h1 : i ∈ L
  · simp [h1, h i h1]
  · simp [h1]
theorem mask_lt {L : List Nat} {m : Nat} (h : ∀ i ∈ L, i < m) : mask L < 2 ^ m :=
  Nat.lt_pow_two_of_testBit _ fun i hi => by
    rw [mask_bit]
    exact decide_eq_false fun hm => by have := h i hm; omega
theorem mask_pos {L : List Nat} (h : L ≠ []) : 0 < mask L := by
  rcases Nat.eq_zero_or_pos (mask L) with h0 | h0
  · exfalso
    obtain ⟨k, M, rfl⟩ : ∃ k M, L = k :: M := by
      cases L with
      | nil => exact absurd rfl h
      | cons k M => exact ⟨k, M, rfl⟩
    have := mask_bit k (k :: M)
    rw [h0, Nat.zero_testBit] at this
    simp at this
  · exact h0
/-! Lists over houses. -/
theorem flat_congr {A B : Int → List Nat} : ∀ {D : List Int}, (∀ a ∈ D, A a = B a) → D.flatMap A = D.flatMap B
  | [], _ => rfl
  | d :: D, h => by rw [List.flatMap_cons, List.flatMap_cons, h d List.mem_cons_self, flat_congr fun a ha => h a (List.mem_cons_of_mem _ ha)]
theorem flat_upd {A : Int → List Nat} {b : Int} {z : List Nat} : ∀ {D : List Int}, D.Nodup → b ∈ D → (D.flatMap fun a => if a = b then A b ++ z else A a).Perm (z ++ D.flatMap A)
  | [], _, h => by cases h
  | d :: D, hd, hb => by
    rw [List.nodup_cons] at hd
    rw [List.flatMap_cons, List.flatMap_cons]
    by_cases hdb : d = b
    · subst hdb
      rw [if_pos rfl, flat_congr (B := A) fun a ha => if_neg fun e => hd.1 (by rw [← e]; exact ha), List.append_assoc]
      exact List.perm_append_comm_assoc _ _ _
    · rw [if_neg hdb]
      have ih := flat_upd (A := A) (z := z) hd.2 (by
        rcases List.mem_cons.1 hb with h1 | h1
        · exact absurd h1.symm hdb
        · exact h1)
      exact (ih.append_left _).trans (List.perm_append_comm_assoc _ _ _)
theorem flat_apart {A : Int → List Nat} : ∀ {D : List Int}, D.Nodup → (D.flatMap A).Nodup → ∀ a ∈ D, ∀ b ∈ D, a ≠ b → ∀ k ∈ A a, k ∉ A b
  | [], _, _, a, ha, _, _, _, _, _ => by cases ha
  | d :: D, hd, hn, a, ha, b, hb, hab, k, hk => by
    rw [List.flatMap_cons, List.nodup_append] at hn
    rw [List.nodup_cons] at hd
    intro hkb
    rcases List.mem_cons.1 ha with h1 | h1
    · rcases List.mem_cons.1 hb with h2 | h2
      · exact hab (h1.trans h2.symm)
      · subst h1
        exact hn.2.2 k hk k (List.mem_flatMap.2 ⟨b, h2, hkb⟩) rfl
    · rcases List.mem_cons.1 hb with h2 | h2
      · subst h2
        exact hn.2.2 k hkb k (List.mem_flatMap.2 ⟨a, h1, hk⟩) rfl
      · exact flat_apart hd.2 hn.2.1 a h1 b h2 hab k hk hkb
def sumC (C : Int → Int) : List Int → Int
  | [] => 0
  | d :: D => C d + sumC C D
theorem sumC_congr {C E : Int → Int} : ∀ {D : List Int}, (∀ a ∈ D, C a = E a) → sumC C D = sumC E D
  | [], _ => rfl
  | d :: D, h => by rw [sumC, sumC, h d List.mem_cons_self, sumC_congr fun a ha => h a (List.mem_cons_of_mem _ ha)]
theorem sumC_upd {C : Int → Int} {b : Int} {z : Int} : ∀ {D : List Int}, D.Nodup → b ∈ D → sumC (fun a => if a = b then C b + z else C a) D = z + sumC C D
  | [], _, h => by cases h
  | d :: D, hd, hb => by
    rw [List.nodup_cons] at hd
    rw [sumC, sumC]
    by_cases hdb : d = b
    · subst hdb
      rw [if_pos rfl, sumC_congr (E := C) fun a ha => if_neg fun e => hd.1 (by rw [← e]; exact ha)]
      omega
    · rw [if_neg hdb, sumC_upd hd.2 (by
        rcases List.mem_cons.1 hb with h1 | h1
        · exact absurd h1.symm hdb
        · exact h1)]
      omega
theorem sumC_perm {C : Int → Int} {D E : List Int} (h : D.Perm E) : sumC C D = sumC C E := by
  induction h with
  | nil => rfl
  | cons _ _ ih => rw [sumC, sumC, ih]
  | swap => simp only [sumC]; omega
  | trans _ _ ih1 ih2 => rw [ih1, ih2]
theorem sumP_perm {h : Ha} {l l' : List (Int × Int)} (k : l.Perm l') : sumP h l = sumP h l' := by
  induction k with
  | nil => rfl
  | cons _ _ ih => rw [sumP, sumP, ih]
  | swap => simp only [sumP]; omega
  | trans _ _ ih1 ih2 => rw [ih1, ih2]
theorem nodup_inj {α : Type} {L : List α} (h : L.Nodup) {i j : Nat} (hi : i < L.length) (hj : j < L.length) (e : L[i] = L[j]) : i = j := by
  have hp := List.pairwise_iff_getElem.1 (List.nodup_iff_pairwise_ne.1 h)
  rcases Nat.lt_trichotomy i j with h1 | h1 | h1
  · exact absurd e (hp i j hi hj h1)
  · exact h1
  · exact absurd e.symm (hp j i hj hi h1)
/-! Trees. -/
structure InTree (h : Ha) (n N : Nat) (t : Int) (l : List (Int × Int)) : Prop where
  nd : (l.map Prod.fst).Nodup
  fine : ∀ x ∈ l, HopFine h n x ∧ x.1 ≠ t
  go : ∀ x ∈ l, Su.go l N x.1 = t
theorem InTree.next {h : Ha} {n N : Nat} {t : Int} {l : List (Int × Int)} (k : InTree h n N t l) {x : Int × Int} (hx : x ∈ l) : nextOf l x.1 = some x.2 := by
  obtain ⟨i, hi, e⟩ := List.getElem_of_mem hx
  exact nextOf_at k.nd (i := i) (by rw [List.getElem?_eq_getElem hi, e])
theorem InTree.tgt {h : Ha} {n N : Nat} {t : Int} {l : List (Int × Int)} (k : InTree h n N t l) : nextOf l t = none := nextOf_none.2 fun x hx e => (k.fine x hx).2 e
/-- A house to which nobody sends. -/
theorem InTree.leaf {h : Ha} {n N : Nat} {t : Int} {l : List (Int × Int)} (k : InTree h n N t l) (hl : l ≠ []) : ∃ x ∈ l, ∀ y ∈ l, y.2 ≠ x.1 := by
  by_cases hc : ∃ x ∈ l, ∀ y ∈ l, y.2 ≠ x.1
  · exact hc
  · exfalso
    have hall : ∀ x ∈ l, ∃ y ∈ l, y.2 = x.1 := fun x hx => by
      by_cases hq : ∃ y ∈ l, y.2 = x.1
      · exact hq
      · exact absurd ⟨x, hx, fun y hy e => hq ⟨y, hy, e⟩⟩ hc
    have far : ∀ j, ∃ y ∈ l, ∀ i, i ≤ j → Su.go l i y.1 ≠ t := by
      intro j
      induction j with
      | zero =>
        obtain ⟨x, hx⟩ := List.exists_mem_of_ne_nil l hl
        refine ⟨x, hx, fun i hi => ?_⟩
        obtain rfl : i = 0 := by omega
        exact (k.fine x hx).2
      | succ j ih =>
        obtain ⟨y, hy, hf⟩ := ih
        obtain ⟨z, hz, hzy⟩ := hall y hy
        refine ⟨z, hz, fun i hi => ?_⟩
        cases i with
        | zero => exact (k.fine z hz).2
        | succ i =>
          rw [go_add l _ 1 i, go_some (n := 0) (b := z.2) (k.next hz), hzy]
          exact hf i (by omega)
    obtain ⟨y, hy, hf⟩ := far N
    exact hf N (Nat.le_refl _) (k.go y hy)
theorem nextOf_erase {x : Int × Int} {a : Int} (ha : a ≠ x.1) : ∀ l : List (Int × Int), nextOf (l.erase x) a = nextOf l a
  | [] => rfl
  | y :: l => by
    by_cases hyx : y = x
    · subst hyx
      rw [List.erase_cons_head, nextOf, if_neg fun e => ha e.symm]
    · rw [List.erase_cons_tail (by simpa using hyx), nextOf, nextOf, nextOf_erase ha l]
theorem InTree.less {h : Ha} {n N : Nat} {t : Int} {l : List (Int × Int)} (k : InTree h n N t l) {x : Int × Int} (_ : x ∈ l) (hleaf : ∀ y ∈ l, y.2 ≠ x.1) : InTree h n N t (l.erase x) := by
  have hsub : (l.erase x).Sublist l := List.erase_sublist
  have hne : ∀ y ∈ l.erase x, y.1 ≠ x.1 := fun y hy e => by
    have hx2 := k.nd
    have hp : l.Perm (x :: l.erase x) := List.perm_cons_erase ‹x ∈ l›
    have := (hp.map Prod.fst).nodup_iff.1 hx2
    rw [List.map_cons, List.nodup_cons] at this
    exact this.1 (by rw [← e]; exact List.mem_map.2 ⟨y, hy, rfl⟩)
  have hgo : ∀ y ∈ l.erase x, ∀ j, Su.go l j y.1 ≠ x.1 ∧ Su.go (l.erase x) j y.1 = Su.go l j y.1 := fun y hy j => by
    induction j with
    | zero => exact ⟨hne y hy, rfl⟩
    | succ j ih =>
      obtain ⟨h1, h2⟩ := ih
      cases hn : nextOf l (Su.go l j y.1) with
      | none =>
        have h3 : nextOf (l.erase x) (Su.go (l.erase x) j y.1) = none := by rw [h2, nextOf_erase h1]; exact hn
        rw [go_none hn, go_none h3]
        exact ⟨h1, h2⟩
      | some b =>
        have h3 : nextOf (l.erase x) (Su.go (l.erase x) j y.1) = some b := by rw [h2, nextOf_erase h1]; exact hn
        rw [go_some hn, go_some h3]
        exact ⟨hleaf _ (nextOf_some hn), rfl⟩
  exact ⟨(hsub.map _).nodup k.nd, fun y hy => k.fine y (hsub.subset hy), fun y hy => by rw [(hgo y hy N).2]; exact k.go y (hsub.subset hy)⟩
/-- Two sums that meet. -/
theorem meet {h : Ha} (k : Ok h) {n : Nat} (hn : h.pr.length = n) {v : Nat} (hv : v < n) {L M : List Nat} (hL : ∀ i ∈ L, i < (senders h).length) (hM : ∀ i ∈ M, i < (senders h).length) (hap : ∀ i ∈ L, i ∉ M) {c d : Int} (hc0 : 0 ≤ c) (hd0 : 0 ≤ d)
    (h1 : L ≠ [] → 0 ≤ (row (ways h) (mask L) v).cost ∧ (row (ways h) (mask L) v).cost ≤ c) (h2 : M ≠ [] → 0 ≤ (row (ways h) (mask M) v).cost ∧ (row (ways h) (mask M) v).cost ≤ d) : L ++ M ≠ [] → 0 ≤ (row (ways h) (mask (L ++ M)) v).cost ∧ (row (ways h) (mask (L ++ M)) v).cost ≤ c + d := by
  intro hne
  by_cases e1 : L = []
  · subst e1
    have := h2 hne
    rw [List.nil_append]
    omega
  · by_cases e2 : M = []
    · subst e2
      have := h1 e1
      rw [List.append_nil]
      omega
    · have p1 := mask_pos e1
      have p2 := mask_pos e2
      have ha := mask_and hap
      have hs : mask (L ++ M) = mask L + mask M := by rw [mask_app, or_add _ _ ha]
      have hlt : mask (L ++ M) < 2 ^ (senders h).length := mask_lt fun i hi => by
        rcases List.mem_append.1 hi with h3 | h3
        · exact hL i h3
        · exact hM i h3
      have hrow := table_ok k hn (s := mask (L ++ M)) (by omega) hlt
      have hj := hrow.join (mask L) p1 (by omega) (by rw [hs]; exact and_add ha) v hv (h1 e1).1 (by rw [show mask (L ++ M) - mask L = mask M by omega]; exact (h2 e2).1)
      rw [show mask (L ++ M) - mask L = mask M by omega] at hj
      have := h1 e1
      have := h2 e2
      omega
/-- The costs of what has come to each house, in a tree. -/
theorem tree_least {h : Ha} (k : Ok h) {n N : Nat} (hn : h.pr.length = n) {t : Nat} (ht : t < n) : ∀ (c : Nat) (l : List (Int × Int)), l.length = c → InTree h n N t l → ∀ (A : Int → List Nat) (C : Int → Int), (∀ a, 0 ≤ C a) → (∀ a i, i ∈ A a → i < (senders h).length) →
    (∀ v : Nat, v < n → A (v : Int) ≠ [] → 0 ≤ (row (ways h) (mask (A (v : Int))) v).cost ∧ (row (ways h) (mask (A (v : Int))) v).cost ≤ C (v : Int)) →
    (((t : Int) :: l.map Prod.fst).flatMap A).Nodup → ((t : Int) :: l.map Prod.fst).flatMap A ≠ [] →
    0 ≤ (row (ways h) (mask (((t : Int) :: l.map Prod.fst).flatMap A)) t).cost ∧ (row (ways h) (mask (((t : Int) :: l.map Prod.fst).flatMap A)) t).cost ≤ sumC C ((t : Int) :: l.map Prod.fst) + sumP h l
  | 0, l, hl, _, A, C, hC, hA, hc, hd, hne => by
    obtain rfl : l = [] := List.length_eq_zero_iff.1 hl
    simp only [List.map_nil, List.flatMap_cons, List.flatMap_nil, List.append_nil, sumC, sumP] at hne ⊢
    have := hc t ht hne
    omega
  | c + 1, l, hl, hT, A, C, hC, hA, hc, hd, hne => by
    obtain ⟨x, hx, hleaf⟩ := hT.leaf (by intro e; rw [e] at hl; simp at hl)
    have hp : l.Perm (x :: l.erase x) := List.perm_cons_erase hx
    have hT' := hT.less hx hleaf
    have hlen : (l.erase x).length = c := by rw [List.length_erase_of_mem hx]; omega
    obtain ⟨hf, hxt⟩ := hT.fine x hx
    obtain ⟨⟨f1, f2⟩, ⟨f3, f4⟩, f5, f6⟩ := hf
    -- the houses
    have hDp : ((t : Int) :: l.map Prod.fst).Perm (x.1 :: (t : Int) :: (l.erase x).map Prod.fst) := ((hp.map Prod.fst).cons _).trans (List.Perm.swap _ _ _)
    have hDn : ((t : Int) :: l.map Prod.fst).Nodup := List.nodup_cons.2 ⟨fun hm => by
      obtain ⟨y, hy, e⟩ := List.mem_map.1 hm
      exact (hT.fine y hy).2 e, hT.nd⟩
    have hDn2 := hDp.nodup_iff.1 hDn
    rw [List.nodup_cons] at hDn2
    have hx2 : x.2 ∈ (t : Int) :: (l.erase x).map Prod.fst := by
      by_cases e : x.2 = (t : Int)
      · rw [e]; exact List.mem_cons_self
      · refine List.mem_cons_of_mem _ ?_
        have hne2 : nextOf l x.2 ≠ none := fun hno => by
          have hg := hT.go x hx
          cases N with
          | zero => exact hxt hg
          | succ N =>
            rw [go_add l _ 1 N, go_some (n := 0) (b := x.2) (hT.next hx), go_stay hno] at hg
            exact e hg
        obtain ⟨i, b, hi⟩ := nextOf_key.1 hne2
        have hm : (x.2, b) ∈ l := List.mem_of_getElem? hi
        have hm2 : (x.2, b) ∈ l.erase x := (List.mem_erase_of_ne (fun e2 => f5 (congrArg Prod.fst e2).symm)).2 hm
        exact List.mem_map.2 ⟨_, hm2, rfl⟩
    obtain ⟨v, hv⟩ : ∃ v : Nat, x.2 = v := ⟨x.2.toNat, by omega⟩
    obtain ⟨u, hu⟩ : ∃ u : Nat, x.1 = u := ⟨x.1.toNat, by omega⟩
    have hvn : v < n := by omega
    have hun : u < n := by omega
    have hap : ∀ i ∈ A (v : Int), i ∉ A (u : Int) := by
      have hmem1 : (v : Int) ∈ (t : Int) :: l.map Prod.fst := by rw [← hv]; exact hDp.mem_iff.2 (List.mem_cons_of_mem _ hx2)
      have hmem2 : (u : Int) ∈ (t : Int) :: l.map Prod.fst := by rw [← hu]; exact hDp.mem_iff.2 List.mem_cons_self
      exact flat_apart hDn hd _ hmem1 _ hmem2 (by rw [← hv, ← hu]; exact fun e => f5 e.symm)
    -- what has come
    have ih := tree_least k hn ht c (l.erase x) hlen hT' (fun a => if a = x.2 then A x.2 ++ A x.1 else A a) (fun a => if a = x.2 then C x.2 + (C x.1 + price h x.1 x.2) else C a)
      (fun a => by
        split
        · have := hC x.2; have := hC x.1; omega
        · exact hC a)
      (fun a i hi => by
        split at hi
        · rcases List.mem_append.1 hi with h1 | h1
          · exact hA _ i h1
          · exact hA _ i h1
        · exact hA a i hi)
      (fun w hw hne2 => by
        by_cases hwv : (w : Int) = x.2
        · rw [if_pos hwv] at hne2 ⊢
          rw [if_pos hwv]
          obtain rfl : w = v := by omega
          rw [hv, hu] at hne2 ⊢
          refine meet k hn hw (hA _) (hA _) hap (hC _) (by have := hC (u : Int); rw [hu, hv] at f6; omega) (hc w hw) (fun hnu => ?_) hne2
          have h1 := hc u hun hnu
          have hmp := mask_pos hnu
          have hrow := table_ok k hn hmp (mask_lt (hA (u : Int)))
          rw [hu, hv] at f6
          have h2 := hrow.move u w hun hw (by omega) f6 h1.1
          omega
        · rw [if_neg hwv] at hne2 ⊢
          rw [if_neg hwv]
          exact hc w hw hne2)
    have hfp := flat_upd (A := A) (z := A x.1) hDn2.2 hx2
    have hfp2 : (((t : Int) :: l.map Prod.fst).flatMap A).Perm (A x.1 ++ ((t : Int) :: (l.erase x).map Prod.fst).flatMap A) := hDp.flatMap_right A
    have hperm := hfp.trans hfp2.symm
    have ih2 := ih (hperm.nodup_iff.2 hd) (fun e => hne (by
      have := hperm.length_eq
      rw [e] at this
      exact List.length_eq_zero_iff.1 this.symm))
    have hmask : mask (((t : Int) :: (l.erase x).map Prod.fst).flatMap fun a => if a = x.2 then A x.2 ++ A x.1 else A a) = mask (((t : Int) :: l.map Prod.fst).flatMap A) := mask_same fun i => hperm.mem_iff
    have hsc := sumC_upd (C := C) (z := C x.1 + price h x.1 x.2) hDn2.2 hx2
    have hsc2 : sumC C ((t : Int) :: l.map Prod.fst) = C x.1 + sumC C ((t : Int) :: (l.erase x).map Prod.fst) := sumC_perm (C := C) hDp
    have hsp : sumP h l = price h x.1 x.2 + sumP h (l.erase x) := sumP_perm (h := h) hp
    rw [hmask, hsc] at ih2
    omega
/-- No valid tree is cheaper. -/
theorem least_le {h : Ha} {l : List (Int × Int)} (hv : valid h l = true) : (least h).2 = 0 ∧ (least h).1 ≤ costTo h l l.length := by
  obtain ⟨hc0, ho, hs, hg⟩ := valid_iff.1 hv
  have k := ok_of hc0
  by_cases hnil : senders h = []
  · rw [least_none hc0 hnil]
    exact ⟨rfl, (cost_bounds hv l.length (Nat.le_refl _)).1⟩
  · have ht := k.tgt
    obtain ⟨t, htt⟩ : ∃ t : Nat, h.tgt = t := ⟨h.tgt.toNat, by omega⟩
    have htn : t < h.pr.length := by omega
    have hfine : ∀ x ∈ l, HopFine h h.pr.length x ∧ x.1 ≠ h.tgt := fun x hx => by
      obtain ⟨i, hi, e⟩ := mem_at hx
      have := ho i hi
      rw [e] at this
      unfold badHop at this
      unfold HopFine
      refine ⟨⟨⟨by omega, by omega⟩, ⟨by omega, by omega⟩, fun e => this (.inr (.inr (.inr (.inr (.inl e))))), by omega⟩, fun e => this (.inr (.inr (.inr (.inr (.inr (.inl e))))))⟩
    have hnd : (l.map Prod.fst).Nodup := by
      rw [List.nodup_iff_pairwise_ne, List.pairwise_map, List.pairwise_iff_getElem]
      intro i j hi hj hij e
      have := rise (h := h) j hj (fun q hq => ho q (by omega)) i hij
      rw [List.getD_eq_getElem?_getD, List.getD_eq_getElem?_getD, List.getElem?_eq_getElem hi, List.getElem?_eq_getElem hj] at this
      simp only [Option.getD_some] at this
      omega
    have hT : InTree h h.pr.length h.pr.length t l := ⟨hnd, fun x hx => by rw [← htt]; exact hfine x hx, fun x hx => by rw [← htt]; exact hg x hx⟩
    have hterm : ∀ a ∈ senders h, 0 ≤ a ∧ a < (h.pr.length : Int) := fun a ha => k.src a ((senders_mem h a).1 ha).2
    have hsn : (senders h).Nodup := by rw [senders_def]; exact sendTo_nodup _ _ _
    have hidx : ∀ a ∈ senders h, (senders h).idxOf a < (senders h).length ∧ (senders h).getD ((senders h).idxOf a) 0 = a := fun a ha => by
      have h1 := List.idxOf_lt_length_iff.2 ha
      exact ⟨h1, by rw [List.getD_eq_getElem?_getD, List.getElem?_eq_getElem h1, Option.getD_some]; exact List.getElem_idxOf h1⟩
    have hflat : ∀ D : List Int, D.Nodup → (D.flatMap fun a => if a ∈ senders h then [(senders h).idxOf a] else []).Nodup := by
      intro D
      induction D with
      | nil => intro _; simp
      | cons d D ih =>
        intro hD
        rw [List.nodup_cons] at hD
        rw [List.flatMap_cons, List.nodup_append]
        refine ⟨by split <;> simp, ih hD.2, ?_⟩
        intro i hi j hj e
        subst e
        obtain ⟨a, ha, hia⟩ := List.mem_flatMap.1 hj
        split at hi
        · rename_i h1
          split at hia
          · rename_i h2
            rw [List.mem_singleton] at hi hia
            have h3 := (hidx d h1).2
            have h4 := (hidx a h2).2
            rw [← hi, hia, h4] at h3
            exact hD.1 (by rw [← h3]; exact ha)
          · cases hia
        · cases hi
    have hmemT : ∀ i, i ∈ ((t : Int) :: l.map Prod.fst).flatMap (fun a => if a ∈ senders h then [(senders h).idxOf a] else []) ↔ i < (senders h).length := fun i => by
      constructor
      · intro hi
        obtain ⟨a, _, hia⟩ := List.mem_flatMap.1 hi
        split at hia
        · rename_i h1
          rw [List.mem_singleton] at hia
          rw [hia]; exact (hidx a h1).1
        · cases hia
      · intro hi
        have hm : (senders h)[i] ∈ senders h := List.getElem_mem hi
        obtain ⟨q, b, hq⟩ := nextOf_key.1 (hs _ hm)
        refine List.mem_flatMap.2 ⟨(senders h)[i], List.mem_cons_of_mem _ (List.mem_map.2 ⟨_, List.mem_of_getElem? hq, rfl⟩), ?_⟩
        rw [if_pos hm, List.mem_singleton]
        have h1 := (hidx _ hm).1
        have h2 := List.getElem_idxOf h1
        exact (nodup_inj hsn h1 hi h2).symm
    have hm0 : 0 < (senders h).length := List.length_pos_iff.2 hnil
    have hmain := tree_least k (N := h.pr.length) rfl htn l.length l rfl hT (fun a => if a ∈ senders h then [(senders h).idxOf a] else []) (fun _ => 0) (fun _ => Int.le_refl _)
      (fun a i hi => by
        split at hi
        · rename_i h1
          rw [List.mem_singleton] at hi
          rw [hi]; exact (hidx a h1).1
        · cases hi)
      (fun v hvn hne => by
        by_cases h1 : (v : Int) ∈ senders h
        · rw [if_pos h1]
          have h2 := hidx _ h1
          have h3 := Nat.two_pow_pos ((senders h).idxOf (v : Int))
          have hlt : 2 ^ (senders h).idxOf (v : Int) < 2 ^ (senders h).length := Nat.pow_lt_pow_right (by decide) h2.1
          have h4 := (table_ok k rfl h3 hlt).one _ h2.1 rfl
          rw [h2.2, Int.toNat_natCast] at h4
          rw [mask, mask, Nat.or_zero]
          exact h4
        · rw [if_neg h1] at hne; exact absurd rfl hne)
      (hflat _ (List.nodup_cons.2 ⟨fun hm => by
        obtain ⟨y, hy, e⟩ := List.mem_map.1 hm
        exact (hfine y hy).2 (by rw [htt]; exact e), hnd⟩))
      (fun e => by
        have := (hmemT 0).2 hm0
        rw [e] at this
        cases this)
    have hmk : mask (((t : Int) :: l.map Prod.fst).flatMap (fun a => if a ∈ senders h then [(senders h).idxOf a] else [])) = 2 ^ (senders h).length - 1 := by
      apply Nat.eq_of_testBit_eq
      intro i
      rw [mask_bit, Nat.testBit_two_pow_sub_one]
      exact decide_eq_decide.2 (hmemT i)
    have hz : ∀ D : List Int, sumC (fun _ => 0) D = 0 := fun D => by
      induction D with
      | nil => rfl
      | cons d D ih => rw [sumC, ih]; rfl
    rw [hmk, hz, Int.zero_add] at hmain
    have hfew := k.few
    have hle : last h h.tgt = row (ways h) (2 ^ (senders h).length - 1) t := by
      rw [row_at (by omega), htt]
      rfl
    have hcost : ¬ (last h h.tgt).cost < 0 := by rw [hle]; omega
    rw [least_yes hc0 hnil hcost, costTo_all, hle]
    exact ⟨rfl, hmain.2⟩
/-- What Least and Tree return together. -/
theorem tree_is_least {h : Ha} (he : (least h).2 = 0) : ∃ fuel, (senders h ≠ [] → ∃ U, walkF (2 ^ (senders h).length) (ways h) fuel (2 ^ (senders h).length - 1) h.tgt.toNat [] = some U) ∧ valid h (tree fuel h).1 = true ∧ costTo h (tree fuel h).1 (tree fuel h).1.length = (least h).1 := by
  obtain ⟨f, h1, h2, h3⟩ := tree_ends he
  refine ⟨f, h1, ?_⟩
  rw [tree_ok he]
  refine ⟨h2, ?_⟩
  show costTo h (treeOf h (usedF f h)) (treeOf h (usedF f h)).length = (least h).1
  have := (least_le h2).2
  rw [costTo_all] at this ⊢
  omega
end Su

/- THE SUMS OF LAYER 19, plain laws: with a piece more, or a greater price, Least is not less; it is not greater than the sum of the prices directly to the target. -/
namespace Su
def wide (h : Ha) (x : Int) : Ha := ⟨h.pr, h.src ++ [x], h.tgt⟩
/-- The hops directly to the target. -/
def star (t : Int) (D : List Int) : List (Int × Int) := D.map fun a => (a, t)
end Su

/- A GROUP THAT HAS LOST A PIECE, in plain terms: the sum of the other pieces of the group and its local parity is the lost one; hauls with fewer sources. -/
namespace Cd
open Gf
/-- What the first k of a list yield, but for one place. -/
def butTo {α : Type} (f : Nat → α) (lost : Nat) : Nat → List α
  | 0 => []
  | k + 1 => if k = lost then butTo f lost k else butTo f lost k ++ [f k]
theorem butTo_at {α : Type} (f : Nat → α) (lost : Nat) : butTo f lost (lost + 1) = butTo f lost lost := if_pos rfl
theorem butTo_yes {α : Type} {f : Nat → α} {lost k : Nat} (h : k ≠ lost) : butTo f lost (k + 1) = butTo f lost k ++ [f k] := if_neg h
theorem butTo_len {α : Type} (f : Nat → α) (lost : Nat) : ∀ k, (butTo f lost k).length = if lost < k then k - 1 else k
  | 0 => by simp [butTo]
  | k + 1 => by
    have ih := butTo_len f lost k
    by_cases h : k = lost
    · subst h
      rw [butTo_at, ih, if_neg (by omega), if_pos (by omega)]
      omega
    · rw [butTo_yes h, List.length_append, ih]
      simp only [List.length_singleton]
      by_cases h2 : lost < k
      · rw [if_pos h2, if_pos (by omega)]; omega
      · rw [if_neg h2, if_neg (by omega)]
theorem butTo_same {α β : Type} (f : Nat → α) (g : Nat → β) (lost k : Nat) : (butTo f lost k).length = (butTo g lost k).length := by rw [butTo_len, butTo_len]
theorem butTo_mem {α : Type} {f : Nat → α} {lost : Nat} {x : α} : ∀ {k : Nat}, x ∈ butTo f lost k → ∃ j, j < k ∧ j ≠ lost ∧ x = f j
  | 0, h => by cases h
  | k + 1, h => by
    by_cases hk : k = lost
    · subst hk
      rw [butTo_at] at h
      obtain ⟨j, h1, h2, h3⟩ := butTo_mem h
      exact ⟨j, by omega, h2, h3⟩
    · rw [butTo_yes hk, List.mem_append, List.mem_singleton] at h
      rcases h with h | h
      · obtain ⟨j, h1, h2, h3⟩ := butTo_mem h
        exact ⟨j, by omega, h2, h3⟩
      · exact ⟨k, by omega, hk, h⟩
theorem butTo_const {α : Type} (a : α) (lost : Nat) : ∀ k, butTo (fun _ => a) lost k = List.replicate (butTo (fun _ => a) lost k).length a := fun k => by
  apply List.ext_getElem
  · simp
  · intro i h1 h2
    rw [List.getElem_replicate]
    have hm := List.getElem_mem h1
    obtain ⟨_, _, _, h3⟩ := butTo_mem hm
    exact h3
/-- The sum at a place of a list of parts. -/
def xr (x : Nat) : List (List UInt8) → UInt8
  | [] => 0
  | p :: l => p.getD x 0 ^^^ xr x l
theorem xr_snoc (x : Nat) (p : List UInt8) : ∀ l, xr x (l ++ [p]) = xr x l ^^^ p.getD x 0
  | [] => by simp [xr]
  | q :: l => by rw [List.cons_append, xr, xr, xr_snoc x p l, UInt8.xor_assoc]
theorem comb_ones (ps : List (List UInt8)) (x : Nat) (m : Nat) : ∀ n, n ≤ m → n ≤ ps.length → comb (List.replicate m 1) ps x n = xr x (ps.take n)
  | 0, _, _ => by simp [comb, xr]
  | n + 1, h, h2 => by
    have hn : n < ps.length := h2
    rw [comb, comb_ones ps x m n (by omega) (by omega), List.take_succ_eq_append_getElem hn, xr_snoc]
    have e1 : (List.replicate m (1 : UInt8)).getD n 0 = 1 := by
      rw [List.getD_eq_getElem?_getD, List.getElem?_eq_getElem (by simpa using (by omega : n < m)), List.getElem_replicate]; rfl
    have e2 : ps.getD n [] = ps[n] := by rw [List.getD_eq_getElem?_getD, List.getElem?_eq_getElem hn]; rfl
    rw [e1, e2, one_mul]
/-- The sum over the first k of a group, but for one of them. -/
def xorN (f : Nat → UInt8) : Nat → UInt8
  | 0 => 0
  | k + 1 => xorN f k ^^^ f k
theorem xr_but (f : Nat → List UInt8) (lost x : Nat) : ∀ k, xr x (butTo f lost k) = xorN (fun j => (f j).getD x 0) k ^^^ (if lost < k then (f lost).getD x 0 else 0)
  | 0 => by simp [butTo, xr, xorN]
  | k + 1 => by
    have ih := xr_but f lost x k
    by_cases h : k = lost
    · subst h
      rw [butTo_at, ih, if_neg (by omega), if_pos (by omega), xorN, UInt8.xor_assoc, UInt8.xor_self]
    · rw [butTo_yes h, xr_snoc, ih, xorN]
      by_cases h2 : lost < k
      · rw [if_pos h2, if_pos (by omega), UInt8.xor_assoc, UInt8.xor_assoc, UInt8.xor_comm ((f lost).getD x 0)]
      · rw [if_neg h2, if_neg (by omega), UInt8.xor_zero, UInt8.xor_zero]
theorem xorN_list (f : Nat → UInt8) (G : List Int) : xorN (fun k => f (G.getD k 0).toNat) G.length = xorL f G := by
  have h : ∀ k, k ≤ G.length → xorN (fun k => f (G.getD k 0).toNat) k ^^^ xorL f (G.drop k) = xorL f G := fun k => by
    induction k with
    | zero => intro _; rw [xorN, UInt8.zero_xor, List.drop_zero]
    | succ k ih =>
      intro hk
      have hk' : k < G.length := hk
      have := ih (by omega)
      rw [List.drop_eq_getElem_cons hk', xorL, ← UInt8.xor_assoc] at this
      rw [xorN, show G.getD k 0 = G[k] from by rw [List.getD_eq_getElem?_getD, List.getElem?_eq_getElem hk']; rfl]
      exact this
  have := h G.length (Nat.le_refl _)
  rw [List.drop_length, xorL, UInt8.xor_zero] at this
  exact this
/-- A group and its local parity. -/
def groupAll (d : Int) (gs : List (List Int)) (g : Nat) : List Int := gs.getD g [] ++ [d + g]
theorem groupAll_len (d : Int) (gs : List (List Int)) (g : Nat) : (groupAll d gs g).length = (gs.getD g []).length + 1 := by simp [groupAll]
section
variable {d gl : Int} {gs : List (List Int)}
theorem group_in (h : check d gs gl = 0) {g : Nat} (hg : g < gs.length) : ∀ i ∈ groupAll d gs g, 0 ≤ i ∧ i < d + gs.length + gl := fun i hi => by
  have hk := check_ok h
  obtain ⟨ha, _⟩ := check_asc (check_g h)
  have hmem : gs.getD g [] ∈ gs := by rw [List.getD_eq_getElem?_getD, List.getElem?_eq_getElem hg]; exact List.getElem_mem hg
  obtain ⟨_, hb, _⟩ := ha _ hmem
  rcases List.mem_append.1 hi with hi | hi
  · have := hb i hi; omega
  · rw [List.mem_singleton.1 hi]; omega
theorem group_few (h : check d gs gl = 0) {g : Nat} (hg : g < gs.length) : 1 ≤ (gs.getD g []).length ∧ (gs.getD g []).length ≤ 16 := by
  have hk := check_ok h
  obtain ⟨ha, _⟩ := check_asc (check_g h)
  have hmem : gs.getD g [] ∈ gs := by rw [List.getD_eq_getElem?_getD, List.getElem?_eq_getElem hg]; exact List.getElem_mem hg
  obtain ⟨h1, hb, hp⟩ := ha _ hmem
  obtain ⟨G, hG⟩ : ∃ G, gs.getD g [] = G := ⟨_, rfl⟩
  rw [hG] at h1 hb hp ⊢
  refine ⟨List.length_pos_iff.2 h1, ?_⟩
  have hn : (G.map Int.toNat).Nodup := by
    rw [List.nodup_iff_pairwise_ne, List.pairwise_map]
    refine List.Pairwise.imp_of_mem ?_ hp
    intro a b ha hb' hab e
    have := (hb a ha).1
    have := (hb b hb').1
    omega
  have := nodup_few 16 (G.map Int.toNat) hn (fun x hx => by
    obtain ⟨y, hy, rfl⟩ := List.mem_map.1 hx
    have := hb y hy
    omega)
  simpa using this
/-- All pieces of a group and its parity together are nothing. -/
theorem group_zero (h : check d gs gl = 0) (data : List UInt8) {g : Nat} (hg : g < gs.length) {x : Nat} (hx : x < sizeN d.toNat data.length) :
    xorL (fun j => ((encode d gl gs data).getD j []).getD x 0) (groupAll d gs g) = 0 := by
  have hk := check_ok h
  have hrl := rowsOf_len h
  obtain ⟨ha, _⟩ := check_asc (check_g h)
  have hmem : gs.getD g [] ∈ gs := by rw [List.getD_eq_getElem?_getD, List.getElem?_eq_getElem hg]; exact List.getElem_mem hg
  obtain ⟨_, hb, hp⟩ := ha _ hmem
  unfold groupAll
  obtain ⟨G, hG⟩ : ∃ G, gs.getD g [] = G := ⟨_, rfl⟩
  have hrow := rowsOf_group h hg
  rw [hG] at hb hp hrow ⊢
  have hfit : ∀ k, k < (rowsOf d gs gl).length → _ := fun k hk => encode_fits h data hk
  have hlocal := hfit (d.toNat + g) (by omega)
  have hdat : ∀ k, k < d.toNat → ∀ x, x < sizeN d.toNat data.length → ((encode d gl gs data).getD k []).getD x 0 = dataAt d.toNat data k x := fun k hk x hx => by
    have h1 := (hfit k (by omega)).2 x hx
    rw [h1, rowsOf_data h hk, sm_one (p := k) _ hk fun j hj hne => by rw [rowOf_get _ hj, unitAt_ne hne, zero_mul], rowOf_get _ hk, unitAt_eq, one_mul]
  have hb' : ∀ j ∈ G, 0 ≤ j ∧ j < ((d.toNat : Nat) : Int) := fun j hj => by have := hb j hj; omega
  have e3 : ((encode d gl gs data).getD (d.toNat + g) []).getD x 0 = xorL (fun j => ((encode d gl gs data).getD j []).getD x 0) G := by
    rw [hlocal.2 x hx, hrow, ← xor_group _ G hp hb']
    refine sm_congr fun j hj => ?_
    rw [rowOf_get _ hj, inAt_set (fun y hy => (hb' y hy).1)]
    split
    · rw [one_mul, hdat j hj x hx]
    · rw [zero_mul]
  have app : ∀ (f : Nat → UInt8) (l : List Int) (y : Int), xorL f (l ++ [y]) = xorL f l ^^^ f y.toNat := fun f l y => by
    induction l with
    | nil => simp [xorL]
    | cons z l ih => rw [List.cons_append, xorL, xorL, ih, UInt8.xor_assoc]
  rw [app, ← e3, show (d + (g : Int)).toNat = d.toNat + g by omega, UInt8.xor_self]
/-- The pieces of a group but for one. -/
def others (d gl : Int) (gs : List (List Int)) (data : List UInt8) (g lost : Nat) (k : Nat) : List (List UInt8) := butTo (fun k => (encode d gl gs data).getD ((groupAll d gs g).getD k 0).toNat []) lost k
theorem others_even (h : check d gs gl = 0) (data : List UInt8) {g lost : Nat} (hg : g < gs.length) : ∀ k, k ≤ (groupAll d gs g).length → ∀ p ∈ others d gl gs data g lost k, p.length = sizeN d.toNat data.length := fun k hk p hp => by
  obtain ⟨j, hj, _, rfl⟩ := butTo_mem hp
  have hin : (groupAll d gs g).getD j 0 ∈ groupAll d gs g := by rw [List.getD_eq_getElem?_getD, List.getElem?_eq_getElem (by omega)]; exact List.getElem_mem _
  have hb := group_in h hg _ hin
  have hrl := rowsOf_len h
  exact encode_even h data (by omega)
theorem all_same {ps : List (List UInt8)} {L : Nat} (h : ∀ p ∈ ps, p.length = L) : (ps.all fun p => p.length == (ps.headD []).length) = true := by
  cases ps with
  | nil => rfl
  | cons p l =>
    rw [List.all_eq_true]
    intro q hq
    rw [h q hq]
    show (L == p.length) = true
    rw [h p List.mem_cons_self]
    simp
/-- THE SUM OF THE OTHERS IS THE LOST PIECE. -/
theorem others_whole (h : check d gs gl = 0) (data : List UInt8) {g lost : Nat} (hg : g < gs.length) (hl : lost < (groupAll d gs g).length) :
    combOk (List.replicate (others d gl gs data g lost (groupAll d gs g).length).length 1) (others d gl gs data g lost (groupAll d gs g).length) = true ∧
      combS (List.replicate (others d gl gs data g lost (groupAll d gs g).length).length 1) (others d gl gs data g lost (groupAll d gs g).length) = (encode d gl gs data).getD ((groupAll d gs g).getD lost 0).toNat [] := by
  have hev := others_even (gl := gl) (lost := lost) h data hg (groupAll d gs g).length (Nat.le_refl _)
  obtain ⟨ps, hps⟩ : ∃ ps, others d gl gs data g lost (groupAll d gs g).length = ps := ⟨_, rfl⟩
  have hlen : ps.length = (groupAll d gs g).length - 1 := by rw [← hps, others, butTo_len, if_pos hl]
  have hgf := group_few h hg
  rw [groupAll_len] at hlen hl
  have hok : combOk (List.replicate ps.length 1) ps = true := by
    unfold combOk
    rw [Bool.and_eq_true]
    rw [hps] at hev
    exact ⟨by simp, all_same hev⟩
  rw [hps]
  refine ⟨hok, ?_⟩
  have hin : (groupAll d gs g).getD lost 0 ∈ groupAll d gs g := by rw [List.getD_eq_getElem?_getD, List.getElem?_eq_getElem (by rw [groupAll_len]; exact hl)]; exact List.getElem_mem _
  have hb := group_in h hg _ hin
  have hrl := rowsOf_len h
  have hll := encode_even h data (k := ((groupAll d gs g).getD lost 0).toNat) (by omega)
  have hhead : (ps.headD []).length = sizeN d.toNat data.length := by
    rw [hps] at hev
    cases ps with
    | nil => rw [List.length_nil] at hlen; omega
    | cons p l => exact hev p List.mem_cons_self
  rw [combS_ok hok]
  refine ext_getD (by rw [hll, combine, List.length_map, List.length_range, hhead]) fun x hx => ?_
  rw [combine, List.length_map, List.length_range, hhead] at hx
  rw [combine, getD_map_range _ _ (by rw [hhead]; exact hx), List.length_replicate, comb_ones ps x _ _ (Nat.le_refl _) (Nat.le_refl _), List.take_length, ← hps, others, xr_but, if_pos (by rw [groupAll_len]; exact hl)]
  have hz := group_zero h data hg hx
  rw [xorN_list (fun j => ((encode d gl gs data).getD j []).getD x 0), hz, UInt8.zero_xor]
end
end Cd
namespace Su
theorem nodup_le : ∀ (l m : List Int), l.Nodup → (∀ a ∈ l, a ∈ m) → l.length ≤ m.length
  | [], _, _, _ => Nat.zero_le _
  | a :: l, m, hn, hs => by
    rw [List.nodup_cons] at hn
    have ham := hs a List.mem_cons_self
    have := nodup_le l (m.erase a) hn.2 fun b hb => (List.mem_erase_of_ne (fun e => hn.1 (by rw [← e]; exact hb))).2 (hs b (List.mem_cons_of_mem _ hb))
    rw [List.length_erase_of_mem ham] at this
    have := List.length_pos_of_mem ham
    rw [List.length_cons]
    omega
/-- A haul with other sources of the same houses. -/
def withSrc (h : Ha) (s : List Int) : Ha := ⟨h.pr, s, h.tgt⟩
theorem withSrc_ok {h : Ha} {s : List Int} (hc : check h = 0) (hs : ∀ a ∈ s, a ∈ h.src) : check (withSrc h s) = 0 := by
  have k := ok_of hc
  refine check_ok ⟨k.one, k.few, k.row, k.low, k.tgt, fun a ha => k.src a (hs a ha), ?_⟩
  have hsub : ∀ a ∈ senders (withSrc h s), a ∈ senders h := fun a ha => by
    obtain ⟨h1, h2⟩ := (senders_mem _ _).1 ha
    exact (senders_mem _ _).2 ⟨h1, hs a h2⟩
  have hnd : (senders (withSrc h s)).Nodup := by rw [senders_def]; exact sendTo_nodup _ _ _
  have := nodup_le _ _ hnd hsub
  have := k.send
  omega
end Su

/- THE WALK over Carry of the specification of layer 19. -/
namespace Su
theorem combS_len {coef : List UInt8} {ps : List (List UInt8)} (h : Gf.combOk coef ps = true) : (Gf.combS coef ps).length = (ps.headD []).length := by
  rw [Gf.combS_ok h, Gf.combine, List.length_map, List.length_range]
end Su
namespace Go.Proofs.YtenafgphaceidaaDoor
open Go.RowKit
end Go.Proofs.YtenafgphaceidaaDoor

/- THE SUMS END; the example of the documentation of sums, worked out. -/
namespace Su
theorem hopsTo_some {rec : Int → Option (List UInt8)} {l : List (Int × Int)} {a : Int} {z : List UInt8} : ∀ m, (∀ k, k < m → (l.getD k (0, 0)).2 = a → ∃ r, rec (l.getD k (0, 0)).1 = some r) → ∃ V, hopsTo rec l a z m = some V
  | 0, _ => ⟨z, rfl⟩
  | m + 1, h => by
    obtain ⟨s, hs⟩ := hopsTo_some m fun k hk => h k (by omega)
    rw [hopsTo, hs, Option.bind_some]
    by_cases he : (l.getD m (0, 0)).2 = a
    · obtain ⟨r, hr⟩ := h m (Nat.lt_succ_self m) he
      exact ⟨Gf.sum s r, by rw [if_pos he, hr]; rfl⟩
    · exact ⟨s, by rw [if_neg he]⟩
/-- The sum of a house ends: what flows into it comes from further off. -/
theorem sumF_ends {h : Ha} {l : List (Int × Int)} (hv : valid h l = true) (coef : List UInt8) (ps : List (List UInt8)) (n : Nat) : ∀ (f j : Nat) (a : Int), j ≤ h.pr.length → h.pr.length + 1 - j ≤ f → (∀ s, s < j → go l s a ≠ h.tgt) → ∃ V, sumF h.src l coef ps n f a = some V
  | 0, j, a, h1, h2, _ => by omega
  | f + 1, j, a, h1, h2, h3 => by
    rw [sumF_succ]
    refine hopsTo_some _ fun k hk he => ?_
    have hx : l.getD k (0, 0) ∈ l := by rw [List.getD_eq_getElem?_getD, List.getElem?_eq_getElem hk]; exact List.getElem_mem hk
    obtain ⟨hc, ho, _, hg⟩ := valid_iff.1 hv
    have hnx := next_mem ho hx
    rw [he] at hnx
    have h4 : ∀ s, s < j + 1 → go l s (l.getD k (0, 0)).1 ≠ h.tgt := fun s hs => by
      cases s with
      | zero =>
        rw [go_zero]
        exact (hop_fine hv hk).2.2.2
      | succ s =>
        rw [go_add l _ 1 s, go_some (n := 0) (b := a) hnx]
        exact h3 s (by omega)
    have h5 : j + 1 ≤ h.pr.length := by
      rcases Nat.lt_or_ge h.pr.length (j + 1) with h6 | h6
      · exact absurd (hg _ hx) (h4 _ h6)
      · exact h6
    exact sumF_ends hv coef ps n f (j + 1) _ h5 (by omega) h4
theorem carry_term {h : Ha} {l : List (Int × Int)} {f : Nat} (hf : h.pr.length + 1 ≤ f) (coef : List UInt8) (ps : List (List UInt8)) (n : Nat) (hv : valid h l = true) : (∀ x ∈ l, ∃ V, sumF h.src l coef ps n f x.1 = some V) ∧ ∃ V, sumF h.src l coef ps n f h.tgt = some V :=
  ⟨fun x _ => sumF_ends hv coef ps n f 0 x.1 (Nat.zero_le _) (by omega) (fun s hs => absurd hs (Nat.not_lt_zero s)), sumF_ends hv coef ps n f 0 h.tgt (Nat.zero_le _) (by omega) (fun s hs => absurd hs (Nat.not_lt_zero s))⟩
def ex (src : List Int) : Ha := ⟨[[-1, -1, -1, -1], [4, -1, -1, 1], [4, -1, -1, 1], [4, -1, -1, -1]], src, 0⟩
def exT : List (Int × Int) := [(1, 3), (2, 3), (3, 0)]
def exS : List (Int × Int) := [(1, 0), (2, 0)]
def exO : List (List UInt8) := [[1], [1], [1]]
theorem ex_least : least (ex [1, 2, 1]) = (6, 0) := by decide +kernel
theorem ex_least3 : least (ex [3]) = (4, 0) := by decide +kernel
theorem ex_least0 : least (ex []) = (0, 0) := by decide +kernel
theorem ex_walk0 : (walkF (2 ^ (senders (ex [1, 2, 1])).length) (ways (ex [1, 2, 1])) 100 (2 ^ (senders (ex [1, 2, 1])).length - 1) (ex [1, 2, 1]).tgt.toNat []).isSome = true := by decide +kernel
theorem ex_walk : ∃ U, walkF (2 ^ (senders (ex [1, 2, 1])).length) (ways (ex [1, 2, 1])) 100 (2 ^ (senders (ex [1, 2, 1])).length - 1) (ex [1, 2, 1]).tgt.toNat [] = some U := Option.isSome_iff_exists.1 ex_walk0
theorem ex_tree : tree 100 (ex [1, 2, 1]) = (exT, 0) := by decide +kernel
theorem ex_cost : cost (ex [1, 2, 1]) exS = (8, 0) := by decide +kernel
theorem ex_carryS : carry 5 (ex [1, 2, 1]) exS [1, 2, 3] exO = ([[2], [2]], [0], 0) := by decide +kernel
theorem ex_carryT : carry 5 (ex [1, 2, 1]) exT [1, 2, 3] exO = ([[2], [2], [0]], [0], 0) := by decide +kernel
theorem ex_valid : valid (ex [1, 2, 1]) exT = true := by decide +kernel
theorem ex_valid2 : valid (ex [1, 2, 1]) (exT.take 2) = false := by decide +kernel
end Su

/- THE DRAWN REGION of law 19's sanity. -/
namespace Go.Proofs.YtenafgphaceidaaDoor
open Go.RowKit
set_option maxRecDepth 100000 in
theorem ent_same : ∀ args w, (callFunc 26 args).run Tryd.prog w = .ok (.enter 26 args) w := enters_of Tryd.func26 (by kernel_rfl) rfl
set_option maxRecDepth 100000 in
theorem ent_valid : ∀ args w, (callFunc 14 args).run Tryd.prog w = .ok (.enter 14 args) w := enters_of Tryd.func14 (by kernel_rfl) rfl
set_option maxRecDepth 100000 in
theorem tree2 (gT : Nat) (w : World) : (Instr.sliceAt 26 (.slice (some ⟨gT, 0, none⟩) 3 3) none (some (.int .i64 2)) none).run Tryd.prog w = .ok (.slice (some ⟨gT, 0, none⟩) 2 3) w := by
  rw [run_sliceAt_slice _ _ _ _ _ _ Tryd.underlying26, run_slice_h _ _ _ _ _ Tryd.underlying26 .i64 2 (by decide) (by decide)]
  rfl
noncomputable def san_costs_code : Code := ((Tryd.f9.body.bind (regionOf 13)).getD .skip)
def san_costs_dsts : List (Option Nat) := [some 104, some 105, some 106, some 107, some 108, some 109, some 110, some 111, some 112, some 113, some 114, some 115, some 116, some 117, some 118, some 119, some 120, some 121, some 122, some 123, some 124, some 125, some 126, some 127, some 128, some 129, some 130, some 131, some 132, some 133, some 134, some 22]
theorem san_costs_apart : apartD san_costs_dsts = true := by decide +kernel
set_option maxRecDepth 1000000 in
set_option maxHeartbeats 16000000 in
theorem san_costs (wr : World) (B gT m cl : Nat) (A : Option Addr) (G S : Value) (b0 : wr.cell? ⟨B, 0, none⟩ = some G) (b1 : wr.cell? ⟨B, 1, none⟩ = some S) (b2 : wr.cell? ⟨B, 2, none⟩ = some (.int .i64 0)) (HS : Hid (∀ w1, Ext wr w1 → Calls Tryd.prog 26 #[.slice A m cl, .slice (some ⟨gT, 0, none⟩) 3 3] w1 fun e w' => e = .returned (.bool true) ∧ Ext w1 w')) (HV2 : Hid (∀ w1, Ext wr w1 → Calls Tryd.prog 14 #[.agg #[G, S, .int .i64 0], .slice (some ⟨gT, 0, none⟩) 2 3] w1 fun e w' => e = .returned (.bool false) ∧ Ext w1 w')) (HV3 : Hid (∀ w1, Ext wr w1 → Calls Tryd.prog 14 #[.agg #[G, S, .int .i64 0], .slice (some ⟨gT, 0, none⟩) 3 3] w1 fun e w' => e = .returned (.bool true) ∧ Ext w1 w')) (c0 c2 c4 c6 c8 c10 c11 c12 c13 c14 c15 c16 c18 c20 c21 c22 c23 c24 c25 c26 c27 c28 c29 c30 c31 c32 c33 c34 c35 c36 c37 c38 c39 c40 c41 c42 c43 c44 c45 c46 c47 c48 c49 c50 c51 c52 c53 c54 c55 c56 c57 c58 c59 c60 c61 c62 c63 c64 c65 c66 c67 c68 c69 c70 c71 c72 c73 c74 c75 c76 c77 c78 c79 c80 c81 c82 c83 c84 c85 c86 c87 c88 c89 c90 c91 c92 c93 c94 c95 c96 c97 c98 c99 c100 c101 c102 c103 c104 c105 c106 c107 c108 c109 c110 c111 c112 c113 c114 c115 c116 c117 c118 c119 c120 c121 c122 c123 c124 c125 c126 c127 c128 c129 c130 c131 c132 c133 c134 c135 c136 c137 c138 c139 c140 c141 c142 c143 c144 c145 c146 c147 c148 c149 c150 c151 c152 c153 c154 c155 c156 : Value) (df : List Deferred) (K : Act → World → Prop)
    (hK : ∀  (u104 u105 u106 u107 u108 u109 u110 u111 u112 u113 u114 u115 u116 u117 u118 u119 u120 u121 u122 u123 u124 u125 u126 u127 u128 u129 u130 u131 u132 u133 u134 : Value) (wx : World), Ext wr wx → K ⟨#[c0, .pointer (some ⟨B, 0, none⟩), c2, .slice (some ⟨gT, 0, none⟩) 3 3, c4, .int .i64 6, c6, .slice A m cl, c8, .int .i64 8, c10, c11, c12, c13, c14, c15, c16, .int .i64 4, c18, .int .i64 0, c20, c21, .bool true, c23, c24, c25, c26, c27, c28, c29, c30, c31, c32, c33, c34, c35, c36, c37, c38, c39, c40, c41, c42, c43, c44, c45, c46, c47, c48, c49, c50, c51, c52, c53, c54, c55, c56, c57, c58, c59, c60, c61, c62, c63, c64, c65, c66, c67, c68, c69, c70, c71, c72, c73, c74, c75, c76, c77, c78, c79, c80, c81, c82, c83, c84, c85, c86, c87, c88, c89, c90, c91, c92, c93, c94, c95, c96, c97, c98, c99, c100, c101, c102, c103, u104, u105, u106, u107, u108, u109, u110, u111, u112, u113, u114, u115, u116, u117, u118, u119, u120, u121, u122, u123, u124, u125, u126, u127, u128, u129, u130, u131, u132, u133, u134, c135, c136, c137, c138, c139, c140, c141, c142, c143, c144, c145, c146, c147, c148, c149, c150, c151, c152, c153, c154, c155, c156], df⟩ wx) :
    Code.wp Tryd.prog san_costs_code (AtEnd K) ⟨#[c0, .pointer (some ⟨B, 0, none⟩), c2, .slice (some ⟨gT, 0, none⟩) 3 3, c4, .int .i64 6, c6, .slice A m cl, c8, .int .i64 8, c10, c11, c12, c13, c14, c15, c16, .int .i64 4, c18, .int .i64 0, c20, c21, c22, c23, c24, c25, c26, c27, c28, c29, c30, c31, c32, c33, c34, c35, c36, c37, c38, c39, c40, c41, c42, c43, c44, c45, c46, c47, c48, c49, c50, c51, c52, c53, c54, c55, c56, c57, c58, c59, c60, c61, c62, c63, c64, c65, c66, c67, c68, c69, c70, c71, c72, c73, c74, c75, c76, c77, c78, c79, c80, c81, c82, c83, c84, c85, c86, c87, c88, c89, c90, c91, c92, c93, c94, c95, c96, c97, c98, c99, c100, c101, c102, c103, c104, c105, c106, c107, c108, c109, c110, c111, c112, c113, c114, c115, c116, c117, c118, c119, c120, c121, c122, c123, c124, c125, c126, c127, c128, c129, c130, c131, c132, c133, c134, c135, c136, c137, c138, c139, c140, c141, c142, c143, c144, c145, c146, c147, c148, c149, c150, c151, c152, c153, c154, c155, c156], df⟩ wr := by
  conv => arg 2; whnf
  refine region_inv (by kernel_rfl) [[], [0], [1], [2], [2], [3, 4, 2, 2], [2, 5], [6, 5], [7], [8, 7], [7, 9], [10, 7], [11], [12, 11], [11, 13], [14, 11], [15], [16, 15], [15, 17], [18, 15], [19], [19], [21, 19], [20, 22, 19, 19], [23, 19], [19, 24], [25, 23], [26], [26], [27, 28, 26, 26], [26, 29], [30, 29, 0, 1, 2, 3, 4, 5, 6, 7, 8, 9, 10, 11, 12, 13, 14, 15, 16, 17, 18, 19, 20, 21, 22, 23, 24, 25, 26, 27, 28, 29, 30]] (by kernel_rfl) [0, 1, 2, 3, 4, 5, 6, 7, 8, 9, 10, 11, 12, 13, 14, 15, 16, 17, 18, 19, 20, 21, 22, 23, 24, 25, 26, 27, 28, 29, 30, 31] (by decide +kernel) (by decide +kernel) (by decide +kernel) (fun L a wc => Inv san_costs_dsts [.int .i64 6, .bool true, .bool true, .slice A m cl, .slice (some ⟨gT, 0, none⟩) 3 3, .bool true, .bool true, .bool true, .int .i64 8, .bool true, .bool true, .bool true, .int .i64 4, .bool true, .bool true, .bool true, .int .i64 0, .bool true, .bool true, .bool true, .agg #[G, S, .int .i64 0], .slice (some ⟨gT, 0, none⟩) 3 3, .slice (some ⟨gT, 0, none⟩) 2 3, .bool false, .bool true, .bool true, .bool true, .agg #[G, S, .int .i64 0], .slice (some ⟨gT, 0, none⟩) 3 3, .bool true, .bool true, .bool true] ⟨#[c0, .pointer (some ⟨B, 0, none⟩), c2, .slice (some ⟨gT, 0, none⟩) 3 3, c4, .int .i64 6, c6, .slice A m cl, c8, .int .i64 8, c10, c11, c12, c13, c14, c15, c16, .int .i64 4, c18, .int .i64 0, c20, c21, c22, c23, c24, c25, c26, c27, c28, c29, c30, c31, c32, c33, c34, c35, c36, c37, c38, c39, c40, c41, c42, c43, c44, c45, c46, c47, c48, c49, c50, c51, c52, c53, c54, c55, c56, c57, c58, c59, c60, c61, c62, c63, c64, c65, c66, c67, c68, c69, c70, c71, c72, c73, c74, c75, c76, c77, c78, c79, c80, c81, c82, c83, c84, c85, c86, c87, c88, c89, c90, c91, c92, c93, c94, c95, c96, c97, c98, c99, c100, c101, c102, c103, c104, c105, c106, c107, c108, c109, c110, c111, c112, c113, c114, c115, c116, c117, c118, c119, c120, c121, c122, c123, c124, c125, c126, c127, c128, c129, c130, c131, c132, c133, c134, c135, c136, c137, c138, c139, c140, c141, c142, c143, c144, c145, c146, c147, c148, c149, c150, c151, c152, c153, c154, c155, c156], df⟩ L a ∧ Hid (Ext wr wc)) ⟨Inv.start, Lib.hid ((Ext.refl wr).drew)⟩ ?_ ?_
  · refine ⟨?_, ?_, ?_, ?_, ?_, ?_, ?_, ?_, ?_, ?_, ?_, ?_, ?_, ?_, ?_, ?_, ?_, ?_, ?_, ?_, ?_, ?_, ?_, ?_, ?_, ?_, ?_, ?_, ?_, ?_, ?_, ?_, trivial⟩
    · -- 0 move
      rintro L a wc ⟨hv, HO⟩ hL hc hd
      exact wpOp_val rfl rfl (ex_move rfl ((hv.fixed 5 (by decide)).trans rfl)) ⟨hv.put san_costs_apart 0 rfl (Nat.le_of_ble_eq_true rfl) (Nat.le_of_ble_eq_true rfl) rfl, HO⟩
    · -- 1 bin
      rintro L a wc ⟨hv, HO⟩ hL hc hd
      exact wpOp_val rfl rfl (ex_bin rfl (hv.get 0 rfl rfl (hd 0 (by decide))) rfl (by go_simp)) ⟨hv.put san_costs_apart 1 rfl (Nat.le_of_ble_eq_true rfl) (Nat.le_of_ble_eq_true rfl) rfl, HO⟩
    · -- 2 move
      rintro L a wc ⟨hv, HO⟩ hL hc hd
      exact wpOp_val rfl rfl (ex_move rfl (hv.get 1 rfl rfl (hd 1 (by decide)))) ⟨hv.put san_costs_apart 2 rfl (Nat.le_of_ble_eq_true rfl) (Nat.le_of_ble_eq_true rfl) rfl, HO⟩
    · -- 3 move
      rintro L a wc ⟨hv, HO⟩ hL hc hd
      exact wpOp_val rfl ((wanted_at rfl rfl (hv.get 2 rfl rfl (hd 2 (by decide)))).trans rfl) (ex_move rfl ((hv.fixed 7 (by decide)).trans rfl)) ⟨hv.put san_costs_apart 3 rfl (Nat.le_of_ble_eq_true rfl) (Nat.le_of_ble_eq_true rfl) rfl, HO⟩
    · -- 4 move
      rintro L a wc ⟨hv, HO⟩ hL hc hd
      exact wpOp_val rfl ((wanted_at rfl rfl (hv.get 2 rfl rfl (hd 2 (by decide)))).trans rfl) (ex_move rfl ((hv.fixed 3 (by decide)).trans rfl)) ⟨hv.put san_costs_apart 4 rfl (Nat.le_of_ble_eq_true rfl) (Nat.le_of_ble_eq_true rfl) rfl, HO⟩
    · -- 5 call
      rintro L a wc ⟨hv, HO⟩ hL hc hd
      refine wpOp_callw (R := fun v w1 => v = .bool true ∧ Ext wc w1) rfl ((wanted_at rfl rfl (hv.get 2 rfl rfl (hd 2 (by decide)))).trans rfl) (ex_call rfl rfl (map2c (hv.get 3 rfl rfl (hd 3 (by decide))) (hv.get 4 rfl rfl (hd 4 (by decide)))) (ent_same _ _)) ((HS.out wc HO.out).mono (fun e w' h => ⟨_, h.1, rfl, h.2⟩)) ?_
      rintro v w' ⟨rfl, hx⟩
      exact ⟨hv.put san_costs_apart 5 rfl (Nat.le_of_ble_eq_true rfl) (Nat.le_of_ble_eq_true rfl) rfl, Lib.hid (HO.out.trans hx)⟩
    · -- 6 pick
      rintro L a wc ⟨hv, HO⟩ hL hc hd
      exact wpOp_val rfl rfl (ex_pick rfl (hv.get 2 rfl rfl (hd 2 (by decide))) ((if_pos rfl).trans (hv.get 5 rfl rfl (hd 5 (by decide))))) ⟨hv.put san_costs_apart 6 rfl (Nat.le_of_ble_eq_true rfl) (Nat.le_of_ble_eq_true rfl) rfl, HO⟩
    · -- 7 move
      rintro L a wc ⟨hv, HO⟩ hL hc hd
      exact wpOp_val rfl rfl (ex_move rfl (hv.get 6 rfl rfl (hd 6 (by decide)))) ⟨hv.put san_costs_apart 7 rfl (Nat.le_of_ble_eq_true rfl) (Nat.le_of_ble_eq_true rfl) rfl, HO⟩
    · -- 8 move
      rintro L a wc ⟨hv, HO⟩ hL hc hd
      exact wpOp_val rfl ((wanted_at rfl rfl (hv.get 7 rfl rfl (hd 7 (by decide)))).trans rfl) (ex_move rfl ((hv.fixed 9 (by decide)).trans rfl)) ⟨hv.put san_costs_apart 8 rfl (Nat.le_of_ble_eq_true rfl) (Nat.le_of_ble_eq_true rfl) rfl, HO⟩
    · -- 9 bin
      rintro L a wc ⟨hv, HO⟩ hL hc hd
      exact wpOp_val rfl ((wanted_at rfl rfl (hv.get 7 rfl rfl (hd 7 (by decide)))).trans rfl) (ex_bin rfl (hv.get 8 rfl rfl (hd 8 (by decide))) rfl (by go_simp)) ⟨hv.put san_costs_apart 9 rfl (Nat.le_of_ble_eq_true rfl) (Nat.le_of_ble_eq_true rfl) rfl, HO⟩
    · -- 10 pick
      rintro L a wc ⟨hv, HO⟩ hL hc hd
      exact wpOp_val rfl rfl (ex_pick rfl (hv.get 7 rfl rfl (hd 7 (by decide))) ((if_pos rfl).trans (hv.get 9 rfl rfl (hd 9 (by decide))))) ⟨hv.put san_costs_apart 10 rfl (Nat.le_of_ble_eq_true rfl) (Nat.le_of_ble_eq_true rfl) rfl, HO⟩
    · -- 11 move
      rintro L a wc ⟨hv, HO⟩ hL hc hd
      exact wpOp_val rfl rfl (ex_move rfl (hv.get 10 rfl rfl (hd 10 (by decide)))) ⟨hv.put san_costs_apart 11 rfl (Nat.le_of_ble_eq_true rfl) (Nat.le_of_ble_eq_true rfl) rfl, HO⟩
    · -- 12 move
      rintro L a wc ⟨hv, HO⟩ hL hc hd
      exact wpOp_val rfl ((wanted_at rfl rfl (hv.get 11 rfl rfl (hd 11 (by decide)))).trans rfl) (ex_move rfl ((hv.fixed 17 (by decide)).trans rfl)) ⟨hv.put san_costs_apart 12 rfl (Nat.le_of_ble_eq_true rfl) (Nat.le_of_ble_eq_true rfl) rfl, HO⟩
    · -- 13 bin
      rintro L a wc ⟨hv, HO⟩ hL hc hd
      exact wpOp_val rfl ((wanted_at rfl rfl (hv.get 11 rfl rfl (hd 11 (by decide)))).trans rfl) (ex_bin rfl (hv.get 12 rfl rfl (hd 12 (by decide))) rfl (by go_simp)) ⟨hv.put san_costs_apart 13 rfl (Nat.le_of_ble_eq_true rfl) (Nat.le_of_ble_eq_true rfl) rfl, HO⟩
    · -- 14 pick
      rintro L a wc ⟨hv, HO⟩ hL hc hd
      exact wpOp_val rfl rfl (ex_pick rfl (hv.get 11 rfl rfl (hd 11 (by decide))) ((if_pos rfl).trans (hv.get 13 rfl rfl (hd 13 (by decide))))) ⟨hv.put san_costs_apart 14 rfl (Nat.le_of_ble_eq_true rfl) (Nat.le_of_ble_eq_true rfl) rfl, HO⟩
    · -- 15 move
      rintro L a wc ⟨hv, HO⟩ hL hc hd
      exact wpOp_val rfl rfl (ex_move rfl (hv.get 14 rfl rfl (hd 14 (by decide)))) ⟨hv.put san_costs_apart 15 rfl (Nat.le_of_ble_eq_true rfl) (Nat.le_of_ble_eq_true rfl) rfl, HO⟩
    · -- 16 move
      rintro L a wc ⟨hv, HO⟩ hL hc hd
      exact wpOp_val rfl ((wanted_at rfl rfl (hv.get 15 rfl rfl (hd 15 (by decide)))).trans rfl) (ex_move rfl ((hv.fixed 19 (by decide)).trans rfl)) ⟨hv.put san_costs_apart 16 rfl (Nat.le_of_ble_eq_true rfl) (Nat.le_of_ble_eq_true rfl) rfl, HO⟩
    · -- 17 bin
      rintro L a wc ⟨hv, HO⟩ hL hc hd
      exact wpOp_val rfl ((wanted_at rfl rfl (hv.get 15 rfl rfl (hd 15 (by decide)))).trans rfl) (ex_bin rfl (hv.get 16 rfl rfl (hd 16 (by decide))) rfl (by go_simp)) ⟨hv.put san_costs_apart 17 rfl (Nat.le_of_ble_eq_true rfl) (Nat.le_of_ble_eq_true rfl) rfl, HO⟩
    · -- 18 pick
      rintro L a wc ⟨hv, HO⟩ hL hc hd
      exact wpOp_val rfl rfl (ex_pick rfl (hv.get 15 rfl rfl (hd 15 (by decide))) ((if_pos rfl).trans (hv.get 17 rfl rfl (hd 17 (by decide))))) ⟨hv.put san_costs_apart 18 rfl (Nat.le_of_ble_eq_true rfl) (Nat.le_of_ble_eq_true rfl) rfl, HO⟩
    · -- 19 move
      rintro L a wc ⟨hv, HO⟩ hL hc hd
      exact wpOp_val rfl rfl (ex_move rfl (hv.get 18 rfl rfl (hd 18 (by decide)))) ⟨hv.put san_costs_apart 19 rfl (Nat.le_of_ble_eq_true rfl) (Nat.le_of_ble_eq_true rfl) rfl, HO⟩
    · -- 20 load
      rintro L a wc ⟨hv, HO⟩ hL hc hd
      have e0 : wc.cell? ⟨B, 0, none⟩ = some G := HO.out.cell b0
      have e1 : wc.cell? ⟨B, 1, none⟩ = some S := HO.out.cell b1
      have e2 : wc.cell? ⟨B, 2, none⟩ = some (.int .i64 0) := HO.out.cell b2
      exact wpOp_val rfl ((wanted_at rfl rfl (hv.get 19 rfl rfl (hd 19 (by decide)))).trans rfl) (ex_load rfl ((hv.fixed 1 (by decide)).trans rfl) (by go_simp)) ⟨hv.put san_costs_apart 20 rfl (Nat.le_of_ble_eq_true rfl) (Nat.le_of_ble_eq_true rfl) rfl, HO⟩
    · -- 21 move
      rintro L a wc ⟨hv, HO⟩ hL hc hd
      exact wpOp_val rfl ((wanted_at rfl rfl (hv.get 19 rfl rfl (hd 19 (by decide)))).trans rfl) (ex_move rfl ((hv.fixed 3 (by decide)).trans rfl)) ⟨hv.put san_costs_apart 21 rfl (Nat.le_of_ble_eq_true rfl) (Nat.le_of_ble_eq_true rfl) rfl, HO⟩
    · -- 22 raw
      rintro L a wc ⟨hv, HO⟩ hL hc hd
      exact wpOp_val rfl ((wanted_at rfl rfl (hv.get 19 rfl rfl (hd 19 (by decide)))).trans rfl) (ex_slice rfl (by rw [hv.get 21 rfl rfl (hd 21 (by decide))]; exact tree2 gT wc)) ⟨hv.put san_costs_apart 22 rfl (Nat.le_of_ble_eq_true rfl) (Nat.le_of_ble_eq_true rfl) rfl, HO⟩
    · -- 23 call
      rintro L a wc ⟨hv, HO⟩ hL hc hd
      refine wpOp_callw (R := fun v w1 => v = .bool false ∧ Ext wc w1) rfl ((wanted_at rfl rfl (hv.get 19 rfl rfl (hd 19 (by decide)))).trans rfl) (ex_call rfl rfl (map2c (hv.get 20 rfl rfl (hd 20 (by decide))) (hv.get 22 rfl rfl (hd 22 (by decide)))) (ent_valid _ _)) ((HV2.out wc HO.out).mono (fun e w' h => ⟨_, h.1, rfl, h.2⟩)) ?_
      rintro v w' ⟨rfl, hx⟩
      exact ⟨hv.put san_costs_apart 23 rfl (Nat.le_of_ble_eq_true rfl) (Nat.le_of_ble_eq_true rfl) rfl, Lib.hid (HO.out.trans hx)⟩
    · -- 24 un
      rintro L a wc ⟨hv, HO⟩ hL hc hd
      exact wpOp_val rfl ((wanted_at rfl rfl (hv.get 19 rfl rfl (hd 19 (by decide)))).trans rfl) (ex_un rfl (hv.get 23 rfl rfl (hd 23 (by decide))) (by go_simp)) ⟨hv.put san_costs_apart 24 rfl (Nat.le_of_ble_eq_true rfl) (Nat.le_of_ble_eq_true rfl) rfl, HO⟩
    · -- 25 pick
      rintro L a wc ⟨hv, HO⟩ hL hc hd
      exact wpOp_val rfl rfl (ex_pick rfl (hv.get 19 rfl rfl (hd 19 (by decide))) ((if_pos rfl).trans (hv.get 24 rfl rfl (hd 24 (by decide))))) ⟨hv.put san_costs_apart 25 rfl (Nat.le_of_ble_eq_true rfl) (Nat.le_of_ble_eq_true rfl) rfl, HO⟩
    · -- 26 move
      rintro L a wc ⟨hv, HO⟩ hL hc hd
      exact wpOp_val rfl rfl (ex_move rfl (hv.get 25 rfl rfl (hd 25 (by decide)))) ⟨hv.put san_costs_apart 26 rfl (Nat.le_of_ble_eq_true rfl) (Nat.le_of_ble_eq_true rfl) rfl, HO⟩
    · -- 27 load
      rintro L a wc ⟨hv, HO⟩ hL hc hd
      have e0 : wc.cell? ⟨B, 0, none⟩ = some G := HO.out.cell b0
      have e1 : wc.cell? ⟨B, 1, none⟩ = some S := HO.out.cell b1
      have e2 : wc.cell? ⟨B, 2, none⟩ = some (.int .i64 0) := HO.out.cell b2
      exact wpOp_val rfl ((wanted_at rfl rfl (hv.get 26 rfl rfl (hd 26 (by decide)))).trans rfl) (ex_load rfl ((hv.fixed 1 (by decide)).trans rfl) (by go_simp)) ⟨hv.put san_costs_apart 27 rfl (Nat.le_of_ble_eq_true rfl) (Nat.le_of_ble_eq_true rfl) rfl, HO⟩
    · -- 28 move
      rintro L a wc ⟨hv, HO⟩ hL hc hd
      exact wpOp_val rfl ((wanted_at rfl rfl (hv.get 26 rfl rfl (hd 26 (by decide)))).trans rfl) (ex_move rfl ((hv.fixed 3 (by decide)).trans rfl)) ⟨hv.put san_costs_apart 28 rfl (Nat.le_of_ble_eq_true rfl) (Nat.le_of_ble_eq_true rfl) rfl, HO⟩
    · -- 29 call
      rintro L a wc ⟨hv, HO⟩ hL hc hd
      refine wpOp_callw (R := fun v w1 => v = .bool true ∧ Ext wc w1) rfl ((wanted_at rfl rfl (hv.get 26 rfl rfl (hd 26 (by decide)))).trans rfl) (ex_call rfl rfl (map2c (hv.get 27 rfl rfl (hd 27 (by decide))) (hv.get 28 rfl rfl (hd 28 (by decide)))) (ent_valid _ _)) ((HV3.out wc HO.out).mono (fun e w' h => ⟨_, h.1, rfl, h.2⟩)) ?_
      rintro v w' ⟨rfl, hx⟩
      exact ⟨hv.put san_costs_apart 29 rfl (Nat.le_of_ble_eq_true rfl) (Nat.le_of_ble_eq_true rfl) rfl, Lib.hid (HO.out.trans hx)⟩
    · -- 30 pick
      rintro L a wc ⟨hv, HO⟩ hL hc hd
      exact wpOp_val rfl rfl (ex_pick rfl (hv.get 26 rfl rfl (hd 26 (by decide))) ((if_pos rfl).trans (hv.get 29 rfl rfl (hd 29 (by decide))))) ⟨hv.put san_costs_apart 30 rfl (Nat.le_of_ble_eq_true rfl) (Nat.le_of_ble_eq_true rfl) rfl, HO⟩
    · -- 31 assign
      rintro L a wc ⟨hv, HO⟩ hL hc hd
      exact wpOp_val rfl rfl (ex_assign rfl (hv.get 30 rfl rfl (hd 30 (by decide)))) ⟨hv.put san_costs_apart 31 rfl (Nat.le_of_ble_eq_true rfl) (Nat.le_of_ble_eq_true rfl) rfl, HO⟩
  · rintro L a wc ⟨hv, HO⟩ hall
    show K a wc
    have ha := act_lit a
    rw [hv.size, hv.defers] at ha
    have hl : ∀ f : Nat → Value, ((List.range (⟨#[c0, .pointer (some ⟨B, 0, none⟩), c2, .slice (some ⟨gT, 0, none⟩) 3 3, c4, .int .i64 6, c6, .slice A m cl, c8, .int .i64 8, c10, c11, c12, c13, c14, c15, c16, .int .i64 4, c18, .int .i64 0, c20, c21, c22, c23, c24, c25, c26, c27, c28, c29, c30, c31, c32, c33, c34, c35, c36, c37, c38, c39, c40, c41, c42, c43, c44, c45, c46, c47, c48, c49, c50, c51, c52, c53, c54, c55, c56, c57, c58, c59, c60, c61, c62, c63, c64, c65, c66, c67, c68, c69, c70, c71, c72, c73, c74, c75, c76, c77, c78, c79, c80, c81, c82, c83, c84, c85, c86, c87, c88, c89, c90, c91, c92, c93, c94, c95, c96, c97, c98, c99, c100, c101, c102, c103, c104, c105, c106, c107, c108, c109, c110, c111, c112, c113, c114, c115, c116, c117, c118, c119, c120, c121, c122, c123, c124, c125, c126, c127, c128, c129, c130, c131, c132, c133, c134, c135, c136, c137, c138, c139, c140, c141, c142, c143, c144, c145, c146, c147, c148, c149, c150, c151, c152, c153, c154, c155, c156], df⟩ : Act).tmps.size).map f).toArray = #[f 0, f 1, f 2, f 3, f 4, f 5, f 6, f 7, f 8, f 9, f 10, f 11, f 12, f 13, f 14, f 15, f 16, f 17, f 18, f 19, f 20, f 21, f 22, f 23, f 24, f 25, f 26, f 27, f 28, f 29, f 30, f 31, f 32, f 33, f 34, f 35, f 36, f 37, f 38, f 39, f 40, f 41, f 42, f 43, f 44, f 45, f 46, f 47, f 48, f 49, f 50, f 51, f 52, f 53, f 54, f 55, f 56, f 57, f 58, f 59, f 60, f 61, f 62, f 63, f 64, f 65, f 66, f 67, f 68, f 69, f 70, f 71, f 72, f 73, f 74, f 75, f 76, f 77, f 78, f 79, f 80, f 81, f 82, f 83, f 84, f 85, f 86, f 87, f 88, f 89, f 90, f 91, f 92, f 93, f 94, f 95, f 96, f 97, f 98, f 99, f 100, f 101, f 102, f 103, f 104, f 105, f 106, f 107, f 108, f 109, f 110, f 111, f 112, f 113, f 114, f 115, f 116, f 117, f 118, f 119, f 120, f 121, f 122, f 123, f 124, f 125, f 126, f 127, f 128, f 129, f 130, f 131, f 132, f 133, f 134, f 135, f 136, f 137, f 138, f 139, f 140, f 141, f 142, f 143, f 144, f 145, f 146, f 147, f 148, f 149, f 150, f 151, f 152, f 153, f 154, f 155, f 156] := fun _ => rfl
    rw [hl] at ha
    simp only [hv.fixed 0 (by decide), hv.fixed 1 (by decide), hv.fixed 2 (by decide), hv.fixed 3 (by decide), hv.fixed 4 (by decide), hv.fixed 5 (by decide), hv.fixed 6 (by decide), hv.fixed 7 (by decide), hv.fixed 8 (by decide), hv.fixed 9 (by decide), hv.fixed 10 (by decide), hv.fixed 11 (by decide), hv.fixed 12 (by decide), hv.fixed 13 (by decide), hv.fixed 14 (by decide), hv.fixed 15 (by decide), hv.fixed 16 (by decide), hv.fixed 17 (by decide), hv.fixed 18 (by decide), hv.fixed 19 (by decide), hv.fixed 20 (by decide), hv.fixed 21 (by decide), hv.fixed 23 (by decide), hv.fixed 24 (by decide), hv.fixed 25 (by decide), hv.fixed 26 (by decide), hv.fixed 27 (by decide), hv.fixed 28 (by decide), hv.fixed 29 (by decide), hv.fixed 30 (by decide), hv.fixed 31 (by decide), hv.fixed 32 (by decide), hv.fixed 33 (by decide), hv.fixed 34 (by decide), hv.fixed 35 (by decide), hv.fixed 36 (by decide), hv.fixed 37 (by decide), hv.fixed 38 (by decide), hv.fixed 39 (by decide), hv.fixed 40 (by decide), hv.fixed 41 (by decide), hv.fixed 42 (by decide), hv.fixed 43 (by decide), hv.fixed 44 (by decide), hv.fixed 45 (by decide), hv.fixed 46 (by decide), hv.fixed 47 (by decide), hv.fixed 48 (by decide), hv.fixed 49 (by decide), hv.fixed 50 (by decide), hv.fixed 51 (by decide), hv.fixed 52 (by decide), hv.fixed 53 (by decide), hv.fixed 54 (by decide), hv.fixed 55 (by decide), hv.fixed 56 (by decide), hv.fixed 57 (by decide), hv.fixed 58 (by decide), hv.fixed 59 (by decide), hv.fixed 60 (by decide), hv.fixed 61 (by decide), hv.fixed 62 (by decide), hv.fixed 63 (by decide), hv.fixed 64 (by decide), hv.fixed 65 (by decide), hv.fixed 66 (by decide), hv.fixed 67 (by decide), hv.fixed 68 (by decide), hv.fixed 69 (by decide), hv.fixed 70 (by decide), hv.fixed 71 (by decide), hv.fixed 72 (by decide), hv.fixed 73 (by decide), hv.fixed 74 (by decide), hv.fixed 75 (by decide), hv.fixed 76 (by decide), hv.fixed 77 (by decide), hv.fixed 78 (by decide), hv.fixed 79 (by decide), hv.fixed 80 (by decide), hv.fixed 81 (by decide), hv.fixed 82 (by decide), hv.fixed 83 (by decide), hv.fixed 84 (by decide), hv.fixed 85 (by decide), hv.fixed 86 (by decide), hv.fixed 87 (by decide), hv.fixed 88 (by decide), hv.fixed 89 (by decide), hv.fixed 90 (by decide), hv.fixed 91 (by decide), hv.fixed 92 (by decide), hv.fixed 93 (by decide), hv.fixed 94 (by decide), hv.fixed 95 (by decide), hv.fixed 96 (by decide), hv.fixed 97 (by decide), hv.fixed 98 (by decide), hv.fixed 99 (by decide), hv.fixed 100 (by decide), hv.fixed 101 (by decide), hv.fixed 102 (by decide), hv.fixed 103 (by decide), hv.fixed 135 (by decide), hv.fixed 136 (by decide), hv.fixed 137 (by decide), hv.fixed 138 (by decide), hv.fixed 139 (by decide), hv.fixed 140 (by decide), hv.fixed 141 (by decide), hv.fixed 142 (by decide), hv.fixed 143 (by decide), hv.fixed 144 (by decide), hv.fixed 145 (by decide), hv.fixed 146 (by decide), hv.fixed 147 (by decide), hv.fixed 148 (by decide), hv.fixed 149 (by decide), hv.fixed 150 (by decide), hv.fixed 151 (by decide), hv.fixed 152 (by decide), hv.fixed 153 (by decide), hv.fixed 154 (by decide), hv.fixed 155 (by decide), hv.fixed 156 (by decide), hv.get 31 (d := 22) rfl rfl (hall 31 (by decide))] at ha
    rw [ha]
    exact hK _ _ _ _ _ _ _ _ _ _ _ _ _ _ _ _ _ _ _ _ _ _ _ _ _ _ _ _ _ _ _ wc HO.out
end Go.Proofs.YtenafgphaceidaaDoor

/- THE WALKS over example and sanity of law 19. -/
namespace Go.Proofs.YtenafgphaceidaaDoor
open Go.RowKit
theorem results_cell1 {P : Program} {fn : Func} {a : Tmp} {t : TypeId} (h : fn.results = #[.cell a t]) {tmps : Array Value} {ad : Addr} {v : Value} {w : World} (ha : tmps.getD a undef = .pointer (some ad)) (hl : (loadVar t ad).run P w = .ok v w) :
    (results fn tmps).run P w = .ok v w := by
  rw [Array.getD_eq_getD_getElem?] at ha
  simp [results, h, asAddr, ha, hl]
/-- The cells of a block. -/
def Cells (w : World) (B : Nat) (cs : List Value) : Prop := ∀ (i : Nat) v, cs[i]? = some v → w.cell? ⟨B, i, none⟩ = some v
theorem Cells.ext {w w' : World} {B : Nat} {cs : List Value} (h : Cells w B cs) (hx : Ext w w') : Cells w' B cs := fun i v hi => hx.cell (h i v hi)
theorem cells_new (w : World) (cs : Array Value) (t : TypeId) : Cells (w.alloc (.cells cs t)) w.heap.size cs.toList := fun i v hi => cell_of_row _ _ i cs t (0, 0) (heap_new _ _) |>.trans (by simpa using hi)
theorem Cells.ints {w : World} {g : Nat} {l : List Int} (h : Cells w g (l.map (.int .i64))) (hl : l.length ≤ 100) (hb : ∀ x ∈ l, -9223372036854775808 ≤ x ∧ x ≤ 9223372036854775807) (n : Nat) (hn : n = l.length) : Rs RI w (.slice (some ⟨g, 0, none⟩) n n) l := by
  subst hn
  refine ⟨_, _, rfl, by omega, fun i x hi => ⟨⟨g, 0, none⟩, .int .i64 x, rfl, ?_, rfl, hb x (List.mem_of_getElem? hi)⟩⟩
  rw [Addr.add_lit, Nat.zero_add]
  exact h i _ (by rw [List.getElem?_map, hi]; rfl)
theorem Cells.rd {w : World} {g : Nat} {xs : List Value} (h : Cells w g xs) : Rd w (some ⟨g, 0, none⟩) xs := fun k x hx => by
  have hc := h k x hx
  have hlt : g < w.heap.size := lt_of_cell (p := ⟨g, k, none⟩) hc
  refine ⟨⟨g, 0, none⟩, rfl, hlt, ?_⟩
  rw [Addr.add_lit, Nat.zero_add]
  exact hc
theorem Cells.hops {w : World} {g : Nat} {l : List (Int × Int)} (h : Cells w g (hcells l)) (hl : l.length ≤ 100) (hb : ∀ x ∈ l, r64 x.1 ∧ r64 x.2) (n c : Nat) (hn : n = l.length) : RL w (.slice (some ⟨g, 0, none⟩) n c) l := by
  subst hn
  refine ⟨_, _, rfl, by omega, fun i x hi => ?_⟩
  obtain ⟨c1, c2⟩ := hcells_at l i x hi
  have hx := hb x (List.mem_of_getElem? hi)
  refine ⟨⟨g, 0, none⟩, rfl, ?_, ?_, hx.1.1, hx.1.2, hx.2.1, hx.2.2⟩
  · rw [Addr.add_lit, Nat.zero_add]; exact h _ _ c1
  · rw [Addr.add_lit]
    show w.cell? ⟨g, 0 + i * 2 + 1, none⟩ = _
    rw [Nat.zero_add]; exact h _ _ c2
theorem Rs.four {α : Type} {R : World → Value → α → Prop} {w : World} {g c : Nat} {u0 u1 u2 u3 : Value} {x0 x1 x2 x3 : α} (h0 : w.cell? ⟨g, 0, none⟩ = some u0) (r0 : R w u0 x0) (h1 : w.cell? ⟨g, 1, none⟩ = some u1) (r1 : R w u1 x1) (h2 : w.cell? ⟨g, 2, none⟩ = some u2) (r2 : R w u2 x2) (h3 : w.cell? ⟨g, 3, none⟩ = some u3) (r3 : R w u3 x3) : Rs R w (.slice (some ⟨g, 0, none⟩) 4 c) [x0, x1, x2, x3] :=
  ⟨some ⟨g, 0, none⟩, c, rfl, by simp, fun i x hi => by
    match i, hi with
    | 0, hi => simp at hi; subst hi; exact ⟨_, u0, rfl, h0, r0⟩
    | 1, hi => simp at hi; subst hi; exact ⟨_, u1, rfl, h1, r1⟩
    | 2, hi => simp at hi; subst hi; exact ⟨_, u2, rfl, h2, r2⟩
    | 3, hi => simp at hi; subst hi; exact ⟨_, u3, rfl, h3, r3⟩
    | i + 4, hi => simp at hi⟩
set_option maxRecDepth 100000 in
set_option maxHeartbeats 2000000 in
theorem example_any (src : List Int) (S : Value) (w : World) (hS : Rs RI w S src) :
    Calls Tryd.prog 25 #[S] w fun e w' => ∃ g, e = .returned (.agg #[.slice (some ⟨g, 0, none⟩) 4 4, S, .int .i64 0]) ∧ RH w' (.agg #[.slice (some ⟨g, 0, none⟩) 4 4, S, .int .i64 0]) (Su.ex src) ∧ Ext w w' := by
  obtain ⟨A, c, rfl, hl⟩ := hS.form
  have HS := Lib.hid hS
  clear hS
  go_enter Tryd.func25, Tryd.ntmps25
  go_wp2_with fail
  refine bodyPost_ret (results_cell1 (v := .agg #[.slice (some ⟨w.heap.size + 1 + 1 + 1 + 1 + 1, 0, none⟩) 4 4, .slice A src.length c, .int .i64 0]) rfl rfl ?_) rfl ?_
  · go_simp
  refine ⟨w.heap.size + 1 + 1 + 1 + 1 + 1, rfl, ⟨_, _, rfl, ?_, Rs.ext RI.ext _ _ _ _ (by exact ((((((Ext.refl w).alloc _).alloc _).alloc _).alloc _).alloc _).alloc _) HS.out, by simp [Su.ex], by simp [Su.ex]⟩, ((((((Ext.refl w).alloc _).alloc _).alloc _).alloc _).alloc _).alloc _⟩
  refine Rs.four (u0 := .slice (some ⟨w.heap.size + 1, 0, none⟩) 4 4) (u1 := .slice (some ⟨w.heap.size + 1 + 1, 0, none⟩) 4 4) (u2 := .slice (some ⟨w.heap.size + 1 + 1 + 1, 0, none⟩) 4 4) (u3 := .slice (some ⟨w.heap.size + 1 + 1 + 1 + 1, 0, none⟩) 4 4) (by go_simp) ?_ (by go_simp) ?_ (by go_simp) ?_ (by go_simp) ?_
  · exact Rs.four (u0 := .int .i64 (-1)) (u1 := .int .i64 (-1)) (u2 := .int .i64 (-1)) (u3 := .int .i64 (-1)) (by go_simp) ⟨rfl, by decide, by decide⟩ (by go_simp) ⟨rfl, by decide, by decide⟩ (by go_simp) ⟨rfl, by decide, by decide⟩ (by go_simp) ⟨rfl, by decide, by decide⟩
  · exact Rs.four (u0 := .int .i64 4) (u1 := .int .i64 (-1)) (u2 := .int .i64 (-1)) (u3 := .int .i64 1) (by go_simp) ⟨rfl, by decide, by decide⟩ (by go_simp) ⟨rfl, by decide, by decide⟩ (by go_simp) ⟨rfl, by decide, by decide⟩ (by go_simp) ⟨rfl, by decide, by decide⟩
  · exact Rs.four (u0 := .int .i64 4) (u1 := .int .i64 (-1)) (u2 := .int .i64 (-1)) (u3 := .int .i64 1) (by go_simp) ⟨rfl, by decide, by decide⟩ (by go_simp) ⟨rfl, by decide, by decide⟩ (by go_simp) ⟨rfl, by decide, by decide⟩ (by go_simp) ⟨rfl, by decide, by decide⟩
  · exact Rs.four (u0 := .int .i64 4) (u1 := .int .i64 (-1)) (u2 := .int .i64 (-1)) (u3 := .int .i64 (-1)) (by go_simp) ⟨rfl, by decide, by decide⟩ (by go_simp) ⟨rfl, by decide, by decide⟩ (by go_simp) ⟨rfl, by decide, by decide⟩ (by go_simp) ⟨rfl, by decide, by decide⟩
/-- The example's things. -/
structure SW (w : World) (B gH gS gO gT gX : Nat) : Prop where
  tab : Tab w
  box : Cells w B [.slice (some ⟨gH, 0, none⟩) 4 4, .slice (some ⟨gS, 0, none⟩) 3 3, .int .i64 0]
  rh : RH w (.agg #[.slice (some ⟨gH, 0, none⟩) 4 4, .slice (some ⟨gS, 0, none⟩) 3 3, .int .i64 0]) (Su.ex [1, 2, 1])
  ones : Rd w (some ⟨gO, 0, none⟩) (Su.exO.map fun p => .string (sb p))
  tree : Cells w gT (hcells Su.exT)
  star : Cells w gX (hcells Su.exS)
theorem SW.ext {w w' : World} {B gH gS gO gT gX : Nat} (h : SW w B gH gS gO gT gX) (hx : Ext w w') : SW w' B gH gS gO gT gX :=
  ⟨h.tab.ext hx, h.box.ext hx, RH.ext _ _ _ _ hx h.rh, h.ones.ext hx, h.tree.ext hx, h.star.ext hx⟩
theorem rl_tree {w : World} {gT : Nat} (h : Cells w gT (hcells Su.exT)) : RL w (.slice (some ⟨gT, 0, none⟩) 3 3) Su.exT := h.hops (by decide) (by unfold Su.exT r64; decide) _ _ rfl
theorem rl_star {w : World} {gT : Nat} (h : Cells w gT (hcells Su.exS)) : RL w (.slice (some ⟨gT, 0, none⟩) 2 2) Su.exS := h.hops (by decide) (by unfold Su.exS r64; decide) _ _ rfl
theorem rl_tree2 {w : World} {gT : Nat} (h : Cells w gT (hcells Su.exT)) : RL w (.slice (some ⟨gT, 0, none⟩) 2 3) (Su.exT.take 2) :=
  Cells.hops (l := Su.exT.take 2) (fun i v hi => h i v (by
    match i, hi with
    | 0, hi => exact hi
    | 1, hi => exact hi
    | 2, hi => exact hi
    | 3, hi => exact hi
    | i + 4, hi => simp [Su.exT, hcells] at hi)) (by decide) (by unfold Su.exT r64; decide) _ _ rfl
theorem rd_coef (w : World) : Rd (w.alloc (.cells #[.int .u8 1, .int .u8 2, .int .u8 3] 5)) (some ⟨w.heap.size, 0, none⟩) (([1, 2, 3] : List UInt8).map bv) := (cells_new w _ _).rd
theorem one_string : Value.string (sb [0]) = .string { data := #[0] } := rfl
theorem two_texts (w : World) : Rs RS (w.alloc (.cells #[.string { data := #[2] }, .string { data := #[2] }] 9)) (.slice (some ⟨w.heap.size, 0, none⟩) 2 2) [[2], [2]] := Rs.of_rdS (l := [[2], [2]]) (cells_new w _ _).rd rfl (by decide)
theorem three_texts (w : World) : Rs RS (w.alloc (.cells #[.string { data := #[2] }, .string { data := #[2] }, .string { data := #[0] }] 9)) (.slice (some ⟨w.heap.size, 0, none⟩) 3 3) [[2], [2], [0]] := Rs.of_rdS (l := [[2], [2], [0]]) (cells_new w _ _).rd rfl (by decide)
theorem exp_len : ∀ p ∈ Su.exO, p.length ≤ 140737488351232 := by decide
set_option maxRecDepth 100000 in
set_option maxHeartbeats 16000000 in
theorem sanity_any (w : World) (hT : Tab w) :
    Calls Tryd.prog 9 #[] w fun e w' => e = .returned (.bool true) ∧ Ext w w' := by
  have HT := Lib.hid hT
  clear hT
  have HR0 : Hid (Rs RI (w.alloc (.cells #[.int .i64 1, .int .i64 2, .int .i64 1] 3)) (.slice (some ⟨w.heap.size, 0, none⟩) 3 3) [1, 2, 1]) := Lib.hid (Cells.ints (cells_new w _ _) (by decide) (by decide) _ rfl)
  go_enter Tryd.func9, Tryd.ntmps9
  go_wp2_with fail
  refine (example_any [1, 2, 1] _ _ HR0.out).mono ?_
  rintro ee w1 ⟨gH, rfl, hrh, hx1⟩
  have HRH := Lib.hid hrh
  have HX1 := Lib.hid (((Ext.refl w).alloc _).trans hx1)
  clear hrh hx1
  obtain ⟨gS, hgS⟩ : ∃ g, w.heap.size = g := ⟨_, rfl⟩
  rw [hgS] at HRH ⊢
  clear hgS HR0
  go_wp2_with fail
  obtain ⟨B, hB⟩ : ∃ B, w1.heap.size = B := ⟨_, rfl⟩
  have hxw := ((((Ext.refl w1).alloc (.cells #[.slice (some ⟨gH, 0, none⟩) 4 4, .slice (some ⟨gS, 0, none⟩) 3 3, .int .i64 0] 25)).alloc (.cells #[.string { data := #[1] }, .string { data := #[1] }, .string { data := #[1] }] 9)).alloc (.cells #[.int .i64 1, .int .i64 3, .int .i64 2, .int .i64 3, .int .i64 3, .int .i64 0] 65)).alloc (.cells #[.int .i64 1, .int .i64 0, .int .i64 2, .int .i64 0] 65)
  have hsw : SW ((((w1.alloc (.cells #[.slice (some ⟨gH, 0, none⟩) 4 4, .slice (some ⟨gS, 0, none⟩) 3 3, .int .i64 0] 25)).alloc (.cells #[.string { data := #[1] }, .string { data := #[1] }, .string { data := #[1] }] 9)).alloc (.cells #[.int .i64 1, .int .i64 3, .int .i64 2, .int .i64 3, .int .i64 3, .int .i64 0] 65)).alloc (.cells #[.int .i64 1, .int .i64 0, .int .i64 2, .int .i64 0] 65)) B gH gS (B + 1) (B + 1 + 1) (B + 1 + 1 + 1) := by
    subst hB
    exact ⟨HT.out.ext (HX1.out.trans hxw), ((cells_new w1 _ _).ext ((((Ext.refl _).alloc _).alloc _).alloc _)), RH.ext _ _ _ _ hxw HRH.out, by
      have h := ((cells_new (w1.alloc (.cells #[.slice (some ⟨gH, 0, none⟩) 4 4, .slice (some ⟨gS, 0, none⟩) 3 3, .int .i64 0] 25)) #[.string { data := #[1] }, .string { data := #[1] }, .string { data := #[1] }] 9).ext ((((Ext.refl _).alloc (.cells #[.int .i64 1, .int .i64 3, .int .i64 2, .int .i64 3, .int .i64 3, .int .i64 0] 65)).alloc (.cells #[.int .i64 1, .int .i64 0, .int .i64 2, .int .i64 0] 65)))).rd
      rw [show (w1.alloc (.cells #[.slice (some ⟨gH, 0, none⟩) 4 4, .slice (some ⟨gS, 0, none⟩) 3 3, .int .i64 0] 25)).heap.size = w1.heap.size + 1 by simp] at h
      exact h, by
      have h := (cells_new ((w1.alloc (.cells #[.slice (some ⟨gH, 0, none⟩) 4 4, .slice (some ⟨gS, 0, none⟩) 3 3, .int .i64 0] 25)).alloc (.cells #[.string { data := #[1] }, .string { data := #[1] }, .string { data := #[1] }] 9)) #[.int .i64 1, .int .i64 3, .int .i64 2, .int .i64 3, .int .i64 3, .int .i64 0] 65).ext (((Ext.refl _).alloc (.cells #[.int .i64 1, .int .i64 0, .int .i64 2, .int .i64 0] 65)))
      rw [show ((w1.alloc (.cells #[.slice (some ⟨gH, 0, none⟩) 4 4, .slice (some ⟨gS, 0, none⟩) 3 3, .int .i64 0] 25)).alloc (.cells #[.string { data := #[1] }, .string { data := #[1] }, .string { data := #[1] }] 9)).heap.size = w1.heap.size + 1 + 1 by simp] at h
      exact h, by
      have h := (cells_new (((w1.alloc (.cells #[.slice (some ⟨gH, 0, none⟩) 4 4, .slice (some ⟨gS, 0, none⟩) 3 3, .int .i64 0] 25)).alloc (.cells #[.string { data := #[1] }, .string { data := #[1] }, .string { data := #[1] }] 9)).alloc (.cells #[.int .i64 1, .int .i64 3, .int .i64 2, .int .i64 3, .int .i64 3, .int .i64 0] 65)) #[.int .i64 1, .int .i64 0, .int .i64 2, .int .i64 0] 65)
      rw [show (((w1.alloc (.cells #[.slice (some ⟨gH, 0, none⟩) 4 4, .slice (some ⟨gS, 0, none⟩) 3 3, .int .i64 0] 25)).alloc (.cells #[.string { data := #[1] }, .string { data := #[1] }, .string { data := #[1] }] 9)).alloc (.cells #[.int .i64 1, .int .i64 3, .int .i64 2, .int .i64 3, .int .i64 3, .int .i64 0] 65)).heap.size = w1.heap.size + 1 + 1 + 1 by simp] at h
      exact h⟩
  have HS2 := Lib.hid hsw
  have HX2 := Lib.hid (HX1.out.trans hxw)
  rw [hB]
  clear hxw hsw hB
  refine (uLeast_any (Su.ex [1, 2, 1]) _ _ HS2.out.rh).mono ?_
  rintro ee w3 ⟨rfl, hx3⟩
  rw [Su.ex_least]
  have HS3 := Lib.hid (HS2.out.ext hx3)
  have HX3 := Lib.hid (HX2.out.trans hx3)
  clear hx3
  have b0 : w3.cell? ⟨B, 0, none⟩ = some (.slice (some ⟨gH, 0, none⟩) 4 4) := HS3.out.box 0 _ rfl
  have b1 : w3.cell? ⟨B, 1, none⟩ = some (.slice (some ⟨gS, 0, none⟩) 3 3) := HS3.out.box 1 _ rfl
  have b2 : w3.cell? ⟨B, 2, none⟩ = some (.int .i64 0) := HS3.out.box 2 _ rfl
  go_wp2_with fail
  clear b0 b1 b2
  refine (uTree_any 100 (Su.ex [1, 2, 1]) _ _ HS3.out.rh (fun _ _ => Su.ex_walk)).mono ?_
  rintro ee w4 ⟨A, m, cl, rfl, hrl, hx4⟩
  rw [Su.ex_tree] at hrl ⊢
  have HRL := Lib.hid hrl
  have HS4 := Lib.hid (HS3.out.ext hx4)
  have HX4 := Lib.hid (HX3.out.trans hx4)
  clear hx4 hrl
  have b0 : w4.cell? ⟨B, 0, none⟩ = some (.slice (some ⟨gH, 0, none⟩) 4 4) := HS4.out.box 0 _ rfl
  have b1 : w4.cell? ⟨B, 1, none⟩ = some (.slice (some ⟨gS, 0, none⟩) 3 3) := HS4.out.box 1 _ rfl
  have b2 : w4.cell? ⟨B, 2, none⟩ = some (.int .i64 0) := HS4.out.box 2 _ rfl
  go_wp2_with fail
  clear b0 b1 b2
  refine (uCost_any (Su.ex [1, 2, 1]) Su.exS _ _ _ HS4.out.rh (rl_star HS4.out.star) (fun v w hv hl => uValid_any _ _ v _ w hv hl)).mono ?_
  rintro ee w5 ⟨rfl, hx5⟩
  rw [Su.ex_cost]
  have HS5 := Lib.hid (HS4.out.ext hx5)
  have HX5 := Lib.hid (HX4.out.trans hx5)
  have HRL5 := Lib.hid (RL.ext _ _ _ _ hx5 HRL.out)
  clear hx5
  have b0 : w5.cell? ⟨B, 0, none⟩ = some (.slice (some ⟨gH, 0, none⟩) 4 4) := HS5.out.box 0 _ rfl
  have b1 : w5.cell? ⟨B, 1, none⟩ = some (.slice (some ⟨gS, 0, none⟩) 3 3) := HS5.out.box 1 _ rfl
  have b2 : w5.cell? ⟨B, 2, none⟩ = some (.int .i64 0) := HS5.out.box 2 _ rfl
  have HRC := Lib.hid (rd_coef w5)
  go_wp2_with fail
  clear b0 b1 b2
  have HS5b := Lib.hid (HS5.out.ext ((Ext.refl w5).alloc (.cells #[.int .u8 1, .int .u8 2, .int .u8 3] 5)))
  refine (uCarry_any 5 (Su.ex [1, 2, 1]) Su.exS [1, 2, 3] Su.exO _ _ _ _ 3 3 _ HS5b.out.tab HS5b.out.rh (rl_star HS5b.out.star) HRC.out HS5b.out.ones (by decide) exp_len (fun hv _ _ => Su.carry_term (by decide) _ _ _ hv)).mono ?_
  rintro ee w6 ⟨XA, xn, xc, rfl, hxs, hx6⟩
  rw [Su.ex_carryS] at hxs ⊢
  have HXS := Lib.hid hxs
  have hx56 := ((Ext.refl w5).alloc (.cells #[.int .u8 1, .int .u8 2, .int .u8 3] 5)).trans hx6
  have HS6 := Lib.hid (HS5.out.ext hx56)
  have HX6 := Lib.hid (HX5.out.trans hx56)
  have HRL6 := Lib.hid (RL.ext _ _ _ _ hx56 HRL5.out)
  clear hx6 hx56 hxs HRC HS5b
  have b0 : w6.cell? ⟨B, 0, none⟩ = some (.slice (some ⟨gH, 0, none⟩) 4 4) := HS6.out.box 0 _ rfl
  have b1 : w6.cell? ⟨B, 1, none⟩ = some (.slice (some ⟨gS, 0, none⟩) 3 3) := HS6.out.box 1 _ rfl
  have b2 : w6.cell? ⟨B, 2, none⟩ = some (.int .i64 0) := HS6.out.box 2 _ rfl
  have HRC := Lib.hid (rd_coef w6)
  go_wp2_with fail
  clear b0 b1 b2
  have HS6b := Lib.hid (HS6.out.ext ((Ext.refl w6).alloc (.cells #[.int .u8 1, .int .u8 2, .int .u8 3] 5)))
  refine (uCarry_any 5 (Su.ex [1, 2, 1]) Su.exT [1, 2, 3] Su.exO _ _ _ _ 3 3 _ HS6b.out.tab HS6b.out.rh (rl_tree HS6b.out.tree) HRC.out HS6b.out.ones (by decide) exp_len (fun hv _ _ => Su.carry_term (by decide) _ _ _ hv)).mono ?_
  rintro ee w7 ⟨YA, yn, yc, rfl, hys, hx7⟩
  rw [Su.ex_carryT] at hys ⊢
  have HYS := Lib.hid hys
  have hx67 := ((Ext.refl w6).alloc (.cells #[.int .u8 1, .int .u8 2, .int .u8 3] 5)).trans hx7
  have HS7 := Lib.hid (HS6.out.ext hx67)
  have HX7 := Lib.hid (HX6.out.trans hx67)
  have HRL7 := Lib.hid (RL.ext _ _ _ _ hx67 HRL6.out)
  have HXS7 := Lib.hid (Rs.ext RS.ext _ _ _ _ hx67 HXS.out)
  clear hx7 hx67 hys HRC HS6b
  have HR3 : Hid (Rs RI (w7.alloc (.cells #[.int .i64 3] 3)) (.slice (some ⟨w7.heap.size, 0, none⟩) 1 1) [3]) := Lib.hid (Cells.ints (cells_new w7 _ _) (by decide) (by decide) _ rfl)
  go_wp2_with fail
  refine (example_any [3] _ _ HR3.out).mono ?_
  rintro ee w8 ⟨g3, rfl, hrh3, hx8⟩
  have HRH3 := Lib.hid hrh3
  have HX78 := Lib.hid (((Ext.refl w7).alloc (.cells #[.int .i64 3] 3)).trans hx8)
  clear hrh3 hx8 HR3
  go_wp2_with fail
  refine (uLeast_any (Su.ex [3]) _ _ HRH3.out).mono ?_
  rintro ee w9 ⟨rfl, hx9⟩
  rw [Su.ex_least3]
  have HX79 := Lib.hid (HX78.out.trans hx9)
  clear hx9
  go_wp2_with fail
  refine (example_any [] _ _ ⟨none, 0, rfl, by simp, fun i x hi => by simp at hi⟩).mono ?_
  rintro ee w10 ⟨g0, rfl, hrh0, hx10⟩
  have HRH0 := Lib.hid hrh0
  have HX710 := Lib.hid (HX79.out.trans hx10)
  clear hrh0 hx10
  go_wp2_with fail
  refine (uLeast_any (Su.ex []) _ _ HRH0.out).mono ?_
  rintro ee w11 ⟨rfl, hx11⟩
  rw [Su.ex_least0]
  have hx711 := HX710.out.trans hx11
  have HS11 := Lib.hid (HS7.out.ext hx711)
  have HX11 := Lib.hid (HX7.out.trans hx711)
  have HRL11 := Lib.hid (RL.ext _ _ _ _ hx711 HRL7.out)
  have HXS11 := Lib.hid (Rs.ext RS.ext _ _ _ _ hx711 HXS7.out)
  have HYS11 := Lib.hid (Rs.ext RS.ext _ _ _ _ hx711 HYS.out)
  clear hx11 hx711 HX78 HX79 HX710 HRH3 HRH0
  have b0 : w11.cell? ⟨B, 0, none⟩ = some (.slice (some ⟨gH, 0, none⟩) 4 4) := HS11.out.box 0 _ rfl
  have b1 : w11.cell? ⟨B, 1, none⟩ = some (.slice (some ⟨gS, 0, none⟩) 3 3) := HS11.out.box 1 _ rfl
  have b2 : w11.cell? ⟨B, 2, none⟩ = some (.int .i64 0) := HS11.out.box 2 _ rfl
  go_wp2_with fail
  refine wp_atEnd' (san_costs w11 B (B + 1 + 1) m cl A _ _ b0 b1 b2 (Lib.hid fun w1 hx => ((lSame_any Su.exT Su.exT _ _ w1 (RL.ext _ _ _ _ hx HRL11.out) (rl_tree (HS11.out.tree.ext hx))).mono fun e w' h => ⟨by rw [h.1]; rfl, h.2⟩)) (Lib.hid fun w1 hx => ((uValid_any (Su.ex [1, 2, 1]) (Su.exT.take 2) _ _ w1 (RH.ext _ _ _ _ hx HS11.out.rh) (rl_tree2 (HS11.out.tree.ext hx))).mono fun e w' h => ⟨by rw [h.1, Su.ex_valid2], h.2⟩)) (Lib.hid fun w1 hx => ((uValid_any (Su.ex [1, 2, 1]) Su.exT _ _ w1 (RH.ext _ _ _ _ hx HS11.out.rh) (rl_tree (HS11.out.tree.ext hx))).mono fun e w' h => ⟨by rw [h.1, Su.ex_valid], h.2⟩)) _ _ _ _ _ _ _ _ _ _ _ _ _ _ _ _ _ _ _ _ _ _ _ _ _ _ _ _ _ _ _ _ _ _ _ _ _ _ _ _ _ _ _ _ _ _ _ _ _ _ _ _ _ _ _ _ _ _ _ _ _ _ _ _ _ _ _ _ _ _ _ _ _ _ _ _ _ _ _ _ _ _ _ _ _ _ _ _ _ _ _ _ _ _ _ _ _ _ _ _ _ _ _ _ _ _ _ _ _ _ _ _ _ _ _ _ _ _ _ _ _ _ _ _ _ _ _ _ _ _ _ _ _ _ _ _ _ _ _ _ _ _ _ _ _ _ _ _ _ _ _ _ ?_)
  intro u104 u105 u106 u107 u108 u109 u110 u111 u112 u113 u114 u115 u116 u117 u118 u119 u120 u121 u122 u123 u124 u125 u126 u127 u128 u129 u130 u131 u132 u133 u134 w12 hx12
  have HX12 := Lib.hid (HX11.out.trans hx12)
  have HXS12 := Lib.hid (Rs.ext RS.ext _ _ _ _ hx12 HXS11.out)
  have HYS12 := Lib.hid (Rs.ext RS.ext _ _ _ _ hx12 HYS11.out)
  clear hx12 b0 b1 b2
  rw [one_string]
  go_wp2_with fail
  refine (rSameTexts_any [[2], [2]] [[2], [2]] _ _ _ (Rs.ext RS.ext _ _ _ _ ((Ext.refl w12).alloc _) HXS12.out) (two_texts w12)).mono ?_
  rintro ee w13 ⟨rfl, hx13⟩
  have hx123 := ((Ext.refl w12).alloc (.cells #[.string { data := #[2] }, .string { data := #[2] }] 9)).trans hx13
  have HYS13 := Lib.hid (Rs.ext RS.ext _ _ _ _ hx123 HYS12.out)
  have HX13 := Lib.hid (HX12.out.trans hx123)
  clear hx13 hx123
  rw [show decide (([[2], [2]] : List (List UInt8)) = [[2], [2]]) = true from rfl]
  go_wp2_with fail
  refine (rSameTexts_any [[2], [2], [0]] [[2], [2], [0]] _ _ _ (Rs.ext RS.ext _ _ _ _ ((Ext.refl _).alloc _) HYS13.out) (three_texts _)).mono ?_
  rintro ee w14 ⟨rfl, hx14⟩
  have HX14 := Lib.hid ((HX13.out.alloc _).trans hx14)
  clear hx14
  rw [show decide (([[2], [2], [0]] : List (List UInt8)) = [[2], [2], [0]]) = true from rfl]
  go_wp2_with fail
  go_ret
  exact ⟨rfl, HX14.out⟩
end Go.Proofs.YtenafgphaceidaaDoor
