/- What the program's functions do, step by step: part F of the texts for this claim; no condition beyond what each theorem states. -/
import Derived.Deep.Cut
import Derived.Deep.DeepCutAuto
import Derived.Deep.Matrix
import Derived.Lib.SmallJoins
import Derived.SizedLaws
import Derived.Deep.Slices
import Derived.Test.YtdmljilcbndmfaaDoorRbOneBunA
import Derived.Test.YtdmljilcbndmfaaDoorRbOneBunB
import Derived.Test.YtdmljilcbndmfaaDoorRbOneBunC
import Derived.Test.YtdmljilcbndmfaaDoorRbOneBunD
import Derived.Test.YtdmljilcbndmfaaDoorRbOneBunE
/- WHAT THE LAWS OF REBUILD WANT, in plain terms: what Best, All, Local and Joint return, compared. -/
namespace Rb
open Gf Mx Cd
variable {d gl : Int} {gs : List (List Int)}
theorem group_up (h : check d gs gl = 0) {i : Nat} (hi : i < gs.length) : (group d gs i).Pairwise (· < ·) := by
  have h1 := group_asc h hi
  have hk := check_ok h
  have e : ((d.toNat + i : Nat) : Int) = d + (i : Int) := by omega
  rw [e] at h1
  exact h1
theorem asc_nodup {l : List Int} (h : l.Pairwise (· < ·)) : l.Nodup := h.imp fun hab => by omega
theorem asc_idx {l : List Int} (h : l.Pairwise (· < ·)) {a : Nat} (ha : a < l.length) : l.idxOf l[a] = a := by
  have hm := List.getElem_mem ha
  have h1 := List.idxOf_lt_length_of_mem hm
  have h2 := List.getElem_idxOf h1
  rcases Nat.lt_trichotomy (l.idxOf l[a]) a with h3 | h3 | h3
  · have := List.pairwise_iff_getElem.mp h _ _ h1 ha h3; omega
  · exact h3
  · have := List.pairwise_iff_getElem.mp h _ _ ha h1 h3; omega
/-- The recipe of Local reads all others of the group. -/
theorem local_rec (h : check d gs gl = 0) {p : Int} {i : Nat} (hi : i < gs.length) (hp : p ∈ group d gs i) :
    ∃ x, recipe (rowsOf d gs gl) p.toNat ((group d gs i).erase p) = some ⟨p, (group d gs i).erase p, x⟩ := by
  have hk := check_ok h
  have e : ((d.toNat + i : Nat) : Int) = d + (i : Int) := by omega
  have hb := group_bounds h hi hp
  have hpp : ((p.toNat : Nat) : Int) = p := by omega
  by_cases hm : p ∈ gs.getD i []
  · obtain ⟨a, ha, ea⟩ := List.getElem_of_mem hm
    have eg : (gs.getD i []).getD a 0 = p := by rw [List.getD_eq_getElem?_getD, List.getElem?_eq_getElem ha]; exact ea
    have hl := local_member h hi ha
    rw [eg, e] at hl
    obtain ⟨hac, _⟩ := check_asc (check_g h)
    have hasc := (hac _ (mem_group hi)).2.2
    have he : (group d gs i).erase p = (gs.getD i []).eraseIdx a ++ [d + (i : Int)] := by
      unfold group
      rw [List.erase_append_left _ hm]
      congr 1
      refine List.erase_eq_eraseIdx_of_idxOf ?_
      rw [← ea]
      exact asc_idx hasc ha
    rw [he]
    rw [hpp] at hl
    exact ⟨_, hl⟩
  · have he : (group d gs i).erase p = gs.getD i [] := by
      unfold group at hp ⊢
      rcases List.mem_append.mp hp with h1 | h1
      · exact absurd h1 hm
      · rw [List.erase_append_right _ hm, List.mem_singleton.mp h1]
        simp
    have h2 : p = d + (i : Int) := by
      unfold group at hp
      rcases List.mem_append.mp hp with h1 | h1
      · exact absurd h1 hm
      · exact List.mem_singleton.mp h1
    rw [he]
    have hl := local_parity h hi
    have h3 : p.toNat = d.toNat + i := by omega
    rw [h3]
    rw [e, ← h2] at hl
    exact ⟨_, hl⟩
theorem avail_more {n lost lost' : Nat} {p : Int} (h : ∀ k, bitAt lost k = 0 → bitAt lost' k = 0) : (avail n lost p).Sublist (avail n lost' p) :=
  asc_sublist (avail_asc _ _ _) (avail_asc _ _ _) fun x hx => by
    obtain ⟨k, h1, h2, h3, h4⟩ := mem_avail.mp hx
    exact mem_avail.mpr ⟨k, h1, h2, h k h3, h4⟩
theorem err1_zero {lost piece : Int} (h : err1 d gl gs lost piece = 0) : err0 d gl gs lost = 0 ∧ 0 ≤ piece ∧ piece < ((rowsOf d gs gl).length : Int) := by
  unfold err1 at h
  split at h
  · next h1 => exact absurd h h1
  · next h1 =>
    split at h
    · exact absurd h (by decide)
    · next h2 => exact ⟨by omega, by omega, by omega⟩
/-- A valid code, a set of its pieces and a piece: no error of the arguments. -/
theorem err1_in (h : check d gs gl = 0) {lost piece : Int} (hn : (rowsOf d gs gl).length ≤ 16) (h0 : 0 ≤ lost) (h1 : lost < ((2 ^ (rowsOf d gs gl).length : Nat) : Int)) (h2 : 0 ≤ piece) (h3 : piece < ((rowsOf d gs gl).length : Int)) : err0 d gl gs lost = 0 ∧ err1 d gl gs lost piece = 0 := by
  have e := err0_ok (d := d) (gl := gl) (gs := gs) (lost := lost) h (by omega) (by omega)
  exact ⟨e, err1_ok e (by omega)⟩
theorem row_can (h : check d gs gl = 0) {piece : Int} (h2 : 0 ≤ piece) (h3 : piece < ((rowsOf d gs gl).length : Int)) : ¬ can (rowsOf d gs gl) piece.toNat [] := row_ne h (by omega)
/-- What Best and All return, when the arguments are fine. -/
theorem best_zero {lost piece : Int} (h : err1 d gl gs lost piece = 0) (he : leastE d gl gs lost piece = 0) :
    ∃ y t, least (rowsOf d gs gl) piece.toNat (avail (rowsOf d gs gl).length lost.toNat piece) = y :: t ∧ bestR d gl gs lost piece = y ∧ leastL d gl gs lost piece true = y :: t := by
  rw [leastE_yes h] at he
  split at he
  · exact absurd he (by decide)
  · next hne =>
    obtain ⟨y, t, e⟩ := List.exists_cons_of_ne_nil hne
    refine ⟨y, t, e, ?_, ?_⟩
    · unfold bestR
      rw [leastL_yes h, e]; rfl
    · rw [leastL_yes h, e]; rfl
theorem leastE_two {lost piece : Int} (h : err1 d gl gs lost piece = 0) : leastE d gl gs lost piece = 0 ∨ leastE d gl gs lost piece = 17 := by
  rw [leastE_yes h]
  split
  · exact Or.inr rfl
  · exact Or.inl rfl
theorem leastE_ne {lost piece : Int} (h : err1 d gl gs lost piece = 0) (h2 : least (rowsOf d gs gl) piece.toNat (avail (rowsOf d gs gl).length lost.toNat piece) ≠ []) : leastE d gl gs lost piece = 0 := by
  rw [leastE_yes h, if_neg h2]
/-- Fewer lost pieces: no greater recipe. -/
theorem best_mono (h : check d gs gl = 0) {lost lost' piece : Int} (h0 : err1 d gl gs lost piece = 0) (h1 : err1 d gl gs lost' piece = 0) (hl : ∀ k, bitAt lost.toNat k = 0 → bitAt lost'.toNat k = 0) (he : leastE d gl gs lost piece = 0) :
    leastE d gl gs lost' piece = 0 ∧ (bestR d gl gs lost' piece).src.length ≤ (bestR d gl gs lost piece).src.length := by
  obtain ⟨_, a1, a2⟩ := err1_zero h0
  obtain ⟨y, t, e, e2, _⟩ := best_zero h0 he
  obtain ⟨hne, hle⟩ := least_mono (row_can h a1 a2) (avail_more (n := (rowsOf d gs gl).length) (p := piece) hl) (by rw [e]; exact List.cons_ne_nil _ _)
  have he' := leastE_ne h1 hne
  obtain ⟨z, u, e3, e4, _⟩ := best_zero h1 he'
  refine ⟨he', ?_⟩
  rw [e2, e4]
  exact hle z (by rw [e3]; exact List.mem_cons_self) y (by rw [e]; exact List.mem_cons_self)
theorem best_local (h : check d gs gl = 0) {lost piece : Int} (h0 : err1 d gl gs lost piece = 0) {i : Nat} (hi : i < gs.length) (hp : piece ∈ group d gs i) (hl : ∀ k ∈ (group d gs i).erase piece, bitAt lost.toNat k.toNat = 0) :
    leastE d gl gs lost piece = 0 ∧ (bestR d gl gs lost piece).src.length ≤ ((group d gs i).erase piece).length := by
  obtain ⟨_, a1, a2⟩ := err1_zero h0
  have hup := group_up h hi
  have hsub : ((group d gs i).erase piece).Sublist (avail (rowsOf d gs gl).length lost.toNat piece) := by
    refine asc_sublist (hup.sublist List.erase_sublist) (avail_asc _ _ _) fun x hx => ?_
    have hb := group_bounds h hi (List.erase_subset hx)
    refine mem_avail.mpr ⟨x.toNat, by omega, by omega, hl x hx, ?_⟩
    exact ((asc_nodup hup).mem_erase_iff.mp hx).1
  obtain ⟨x, hx⟩ := local_rec h hi hp
  have hc : can (rowsOf d gs gl) piece.toNat ((group d gs i).erase piece) := recipe_can.mp (by rw [hx]; rfl)
  obtain ⟨hne, hle⟩ := least_le (row_can h a1 a2) hsub hc
  have he := leastE_ne h0 hne
  obtain ⟨y, t, e, e2, _⟩ := best_zero h0 he
  refine ⟨he, ?_⟩
  rw [e2]
  exact hle y (by rw [e]; exact List.mem_cons_self)
theorem homeOf_some {piece : Int} {i : Nat} (h : homeOf d gs piece = some i) : i < gs.length ∧ piece ∈ group d gs i := by
  unfold homeOf at h
  have := List.find?_range_eq_some.mp h
  exact ⟨by simpa using this.2.1, by simpa using this.1⟩
/-- What Local returns: an error, or all others of the piece's group. -/
theorem local_two (h : check d gs gl = 0) {piece : Int} (h0 : err1 d gl gs 0 piece = 0) :
    (localE d gl gs piece = 8) ∨ (localE d gl gs piece = 0 ∧ ∃ i, i < gs.length ∧ piece ∈ group d gs i ∧ (localR d gl gs piece).src = (group d gs i).erase piece) := by
  cases hh : homeOf d gs piece with
  | none => exact Or.inl (localE_none h0 hh).1
  | some i =>
    obtain ⟨h1, h2⟩ := localE_some h0 hh
    obtain ⟨hi, hp⟩ := homeOf_some hh
    refine Or.inr ⟨h1, i, hi, hp, ?_⟩
    obtain ⟨x, hx⟩ := local_rec h hi hp
    rw [h2]
    unfold localOf
    rw [hx]; rfl
/-- The available pieces that another set has. -/
def usable (n lost : Nat) (p : Int) (other : Nat) : List Int := (avail n lost p).filter fun k => decide (bitAt other k.toNat = 1)
theorem usable_yes {k lost other : Nat} {p : Int} (h1 : bitAt lost k = 0) (h2 : (k : Int) ≠ p) (h3 : bitAt other k = 1) : usable (k + 1) lost p other = usable k lost p other ++ [(k : Int)] := by
  unfold usable
  rw [avail_on h1 h2, List.filter_append]
  simp [h3]
theorem usable_no {k lost other : Nat} {p : Int} (h : ¬ (bitAt lost k = 0 ∧ (k : Int) ≠ p ∧ bitAt other k = 1)) : usable (k + 1) lost p other = usable k lost p other := by
  unfold usable
  by_cases h1 : bitAt lost k = 0 ∧ (k : Int) ≠ p
  · rw [avail_on h1.1 h1.2, List.filter_append]
    have h3 : bitAt other k ≠ 1 := fun e => h ⟨h1.1, h1.2, e⟩
    simp [h3]
  · rw [avail_off h1]
theorem usable_sub (n lost : Nat) (p : Int) (other : Nat) : (usable n lost p other).Sublist (avail n lost p) := List.filter_sublist
theorem usable_len (n lost : Nat) (p : Int) (other : Nat) : (usable n lost p other).length ≤ n := Nat.le_trans (usable_sub n lost p other).length_le (avail_length n lost p)
theorem usable_bounds {n lost : Nat} {p : Int} {other : Nat} {x : Int} (h : x ∈ usable n lost p other) : 0 ≤ x ∧ x < n := avail_bounds ((usable_sub n lost p other).subset h)
/-- If some available pieces do: Best has a result, that is not greater, and if it is as great, they are those of a recipe of All. -/
theorem least_from (h : check d gs gl = 0) {lost piece : Int} (h0 : err1 d gl gs lost piece = 0) {s : List Int} (hs : s.Sublist (avail (rowsOf d gs gl).length lost.toNat piece)) (hc : can (rowsOf d gs gl) piece.toNat s) :
    leastE d gl gs lost piece = 0 ∧ (bestR d gl gs lost piece).src.length ≤ s.length ∧ ((bestR d gl gs lost piece).src.length = s.length → ∃ y ∈ leastL d gl gs lost piece true, y.src = s) := by
  obtain ⟨_, a1, a2⟩ := err1_zero h0
  have hr := row_can h a1 a2
  obtain ⟨hne, _⟩ := least_le hr hs hc
  have he := leastE_ne h0 hne
  obtain ⟨y, t, e, e2, e3⟩ := best_zero h0 he
  obtain ⟨k, _, _, _, h4, h5⟩ := least_some hr hne
  have hy : (bestR d gl gs lost piece).src.length = k := by rw [e2]; exact (h4 y (by rw [e]; exact List.mem_cons_self)).2.1
  obtain ⟨q1, q2⟩ := h5 s hs hc
  refine ⟨he, by omega, fun hh => ?_⟩
  rw [e3, ← e]
  exact q2 (by omega)
/-- All recipes read as many pieces. -/
theorem all_even (h : check d gs gl = 0) {lost piece : Int} (h0 : err1 d gl gs lost piece = 0) : ∀ y ∈ leastL d gl gs lost piece true, y.src.length = (bestR d gl gs lost piece).src.length := by
  intro z hz
  obtain ⟨_, a1, a2⟩ := err1_zero h0
  have hr := row_can h a1 a2
  have hne : least (rowsOf d gs gl) piece.toNat (avail (rowsOf d gs gl).length lost.toNat piece) ≠ [] := by
    intro e
    rw [leastL_yes h0, e] at hz
    exact absurd hz (by simp [lim])
  obtain ⟨y, t, e, e2, e3⟩ := best_zero h0 (leastE_ne h0 hne)
  obtain ⟨k, _, _, _, h4, _⟩ := least_some hr hne
  rw [e3, ← e] at hz
  rw [e2, (h4 z hz).2.1, (h4 y (by rw [e]; exact List.mem_cons_self)).2.1]
/-- They ascend. -/
theorem all_asc (h : check d gs gl = 0) {lost piece : Int} (h0 : err1 d gl gs lost piece = 0) {j : Nat} (hj : j + 1 < (leastL d gl gs lost piece true).length) : Bf ((leastL d gl gs lost piece true)[j]'(by omega)).src ((leastL d gl gs lost piece true)[j + 1]).src := by
  obtain ⟨_, a1, a2⟩ := err1_zero h0
  have hr := row_can h a1 a2
  have hp : (leastL d gl gs lost piece true).Pairwise fun a b => Bf a.src b.src := by
    rw [leastL_yes h0]
    exact least_asc (avail_asc _ _ _) hr
  exact List.pairwise_iff_getElem.mp hp j (j + 1) _ _ (by omega)
end Rb

/- WHAT A SMALL LOSS IS, in plain terms. -/
namespace Rb
open Cd
theorem small_open {d gl : Int} {gs : List (List Int)} {data : List UInt8} {lost piece other : Int} {most : Nat} (h : Small d gl gs data lost piece other most) :
    check d gs gl = 0 ∧ pieces d gs gl = ((rowsOf d gs gl).length : Int) ∧ 0 < (rowsOf d gs gl).length ∧ (rowsOf d gs gl).length ≤ most ∧
      (∃ L P O : Nat, lost = (L : Int) ∧ piece = (P : Int) ∧ other = (O : Int) ∧ L < 2 ^ (rowsOf d gs gl).length ∧ O < 2 ^ (rowsOf d gs gl).length ∧ P < (rowsOf d gs gl).length) ∧ data.length ≤ 200 ∧ gs.length ≤ 30 := by
  obtain ⟨h1, h2, h3, h4, h5, h6, h7, h8, h9, h10⟩ := h
  have hc : check d gs gl = 0 := by
    by_cases hc : check d gs gl = 0
    · exact hc
    · exfalso; unfold pieces at h2; rw [if_neg hc] at h2; exact absurd h2 (by decide)
  have hp : pieces d gs gl = ((rowsOf d gs gl).length : Int) := by rw [pieces_ok hc, rowsOf_len hc]
  rw [hp] at h2 h3 h5 h7 h9
  rw [Int.toNat_natCast] at h5 h7
  have hg : gs.length ≤ 30 := by
    rw [Cd.few, Bool.and_eq_true, decide_eq_true_eq] at h1
    exact h1.1
  refine ⟨hc, hp, by omega, by omega, ⟨lost.toNat, piece.toNat, other.toNat, by omega, by omega, by omega, ?_, ?_, by omega⟩, h10, hg⟩
  · generalize 2 ^ (rowsOf d gs gl).length = M at h5 ⊢; omega
  · generalize 2 ^ (rowsOf d gs gl).length = M at h7 ⊢; omega
end Rb
namespace Rb
open Cd
theorem bit_and {a b k : Nat} (h : bitAt a k = 0) : bitAt (a &&& b) k = 0 := by
  have h1 : a.testBit k = false := by unfold bitAt at h; rw [Nat.testBit_eq_decide_div_mod_eq]; simp [h]
  have h2 : (a &&& b).testBit k = false := by rw [Nat.testBit_and, h1]; rfl
  unfold bitAt
  rw [Nat.testBit_eq_decide_div_mod_eq] at h2
  have := of_decide_eq_false h2
  omega
end Rb

/- THE DRAWN REGION 13 of sanity of the laws of rebuild. -/
namespace Go.Proofs.YtdmljilcbndmfaaDoor
open Go.RowKit Go.Shelf
theorem sSame_self (r : Rb.Rec) (v u : Value) (w : World) (ha : RRec w v r) (hb : RRec w u r) : Calls Tryd.prog 18 #[v, u] w fun e w' => e = .returned (.bool true) ∧ Ext w w' := by
  have h := sSame_any r r v u w ha hb
  rw [decide_eq_true rfl] at h
  exact h
theorem sSameAll_self (r : List Rb.Rec) (v u : Value) (w : World) (ha : RRs w v r) (hb : RRs w u r) : Calls Tryd.prog 19 #[v, u] w fun e w' => e = .returned (.bool true) ∧ Ext w w' := by
  have h := sSameAll_any r r v u w ha hb
  rw [decide_eq_true rfl] at h
  exact h
theorem run_build2_int (w : World) (a : Act) (o : Oper) (x y : Int) (ho : o.op = .buildSlice 27 2 #[(0, .const (.int .i64 x)), (1, .const (.int .i64 y))]) : (execOp a.eval o).run Tryd.prog w = .ok (.value (.slice (some ⟨w.heap.size, 0, none⟩) 2 2)) (w.alloc (.cells #[.int .i64 x, .int .i64 y] 3)) := by
  unfold execOp
  simp only [ho]
  go_simp
theorem run_build2_u8 (w : World) (a : Act) (o : Oper) (x y : Int) (ho : o.op = .buildSlice 28 2 #[(0, .const (.int .u8 x)), (1, .const (.int .u8 y))]) : (execOp a.eval o).run Tryd.prog w = .ok (.value (.slice (some ⟨w.heap.size, 0, none⟩) 2 2)) (w.alloc (.cells #[.int .u8 x, .int .u8 y] 5)) := by
  unfold execOp
  simp only [ho]
  go_simp
noncomputable def san_near_code : Code := ((Tryd.f11.body.bind (regionOf 13)).getD .skip)
def san_near_dsts : List (Option Nat) := [some 121, some 122, some 123, some 124, some 125, some 126, some 127, some 128, some 129, some 130, some 131, some 132, some 133, some 134, some 135, some 136, some 137, some 138, some 139, some 140, some 141, some 142, some 143, some 144, some 23]
theorem san_near_apart : apartD san_near_dsts = true := by decide +kernel
set_option maxRecDepth 1000000 in
set_option maxHeartbeats 16000000 in
theorem san_near (Qa Qb Ql XF cL : Nat) (LA FAa CAa FAb CAb FAl CAl FAz CAz : Option Addr) (fca cca fcb ccb fcl ccl fcz ccz : Nat) (wr : World) (hCa : Cells wr Qa [.int .i64 0, .slice FAa 2 fca, .slice CAa 2 cca]) (hCb : Cells wr Qb [.int .i64 0, .slice FAb 4 fcb, .slice CAb 4 ccb]) (hCl : Cells wr Ql [.int .i64 5, .slice FAl 2 fcl, .slice CAl 2 ccl]) (hC0 : Cells wr XF [.int .i64 0, .slice FAz 4 fcz, .slice CAz 4 ccz]) (hRa : RRec wr (.agg #[.int .i64 0, .slice FAa 2 fca, .slice CAa 2 cca]) ⟨0, [1, 4], [1, 1]⟩) (hRb : RRec wr (.agg #[.int .i64 0, .slice FAb 4 fcb, .slice CAb 4 ccb]) ⟨0, [1, 2, 3, 6], [2, 4, 8, 1]⟩) (hRl : RRec wr (.agg #[.int .i64 5, .slice FAl 2 fcl, .slice CAl 2 ccl]) ⟨5, [2, 3], [1, 1]⟩) (hR0 : RRec wr (.agg #[.int .i64 0, .slice FAz 4 fcz, .slice CAz 4 ccz]) ⟨0, [1, 2, 3, 6], [2, 4, 8, 1]⟩) (hAL : RRs wr (.slice LA 3 cL) [⟨0, [1, 2, 3, 6], [2, 4, 8, 1]⟩, ⟨0, [1, 2, 5, 6], [2, 12, 8, 1]⟩, ⟨0, [1, 3, 5, 6], [2, 12, 4, 1]⟩]) (hFAR : RRs wr (.slice (some ⟨XF, 0, none⟩) 3 3) [⟨0, [1, 2, 3, 6], [2, 4, 8, 1]⟩, ⟨0, [1, 2, 5, 6], [2, 12, 8, 1]⟩, ⟨0, [1, 3, 5, 6], [2, 12, 4, 1]⟩]) (c0 c1 c3 c5 c6 c7 c9 c11 c12 c13 c14 c15 c16 c17 c18 c19 c20 c21 c23 c24 c25 c26 c27 c28 c29 c30 c31 c32 c33 c34 c35 c36 c37 c38 c39 c40 c41 c42 c43 c44 c45 c46 c47 c48 c49 c50 c51 c52 c53 c54 c55 c56 c57 c58 c59 c60 c61 c62 c63 c64 c65 c66 c67 c68 c69 c70 c71 c72 c73 c74 c75 c76 c77 c78 c79 c80 c81 c82 c83 c84 c85 c86 c87 c88 c89 c90 c91 c92 c93 c94 c95 c96 c97 c98 c99 c100 c101 c102 c103 c104 c105 c106 c107 c108 c109 c110 c111 c112 c113 c114 c115 c116 c117 c118 c119 c120 c121 c122 c123 c124 c125 c126 c127 c128 c129 c130 c131 c132 c133 c134 c135 c136 c137 c138 c139 c140 c141 c142 c143 c144 c145 c146 c147 c148 c149 c150 c151 c152 c153 c154 c155 c156 c157 c158 c159 c160 c161 c162 c163 c164 c165 c166 c167 c168 c169 c170 c171 c172 c173 : Value) (df : List Deferred) (K : Act → World → Prop)
    (hK : ∀  (u121 u122 u123 u124 u125 u126 u127 u128 u129 u130 u131 u132 u133 u134 u135 u136 u137 u138 u139 u140 u141 u142 u143 u144 : Value) (wx : World), Ext wr wx → K ⟨#[c0, c1, .pointer (some ⟨Qa, 0, none⟩), c3, .slice LA 3 cL, c5, c6, c7, .pointer (some ⟨Qb, 0, none⟩), c9, .pointer (some ⟨Ql, 0, none⟩), c11, c12, c13, c14, c15, c16, c17, c18, c19, c20, c21, .slice (some ⟨XF, 0, none⟩) 3 3, .bool true, c24, c25, c26, c27, c28, c29, c30, c31, c32, c33, c34, c35, c36, c37, c38, c39, c40, c41, c42, c43, c44, c45, c46, c47, c48, c49, c50, c51, c52, c53, c54, c55, c56, c57, c58, c59, c60, c61, c62, c63, c64, c65, c66, c67, c68, c69, c70, c71, c72, c73, c74, c75, c76, c77, c78, c79, c80, c81, c82, c83, c84, c85, c86, c87, c88, c89, c90, c91, c92, c93, c94, c95, c96, c97, c98, c99, c100, c101, c102, c103, c104, c105, c106, c107, c108, c109, c110, c111, c112, c113, c114, c115, c116, c117, c118, c119, c120, u121, u122, u123, u124, u125, u126, u127, u128, u129, u130, u131, u132, u133, u134, u135, u136, u137, u138, u139, u140, u141, u142, u143, u144, c145, c146, c147, c148, c149, c150, c151, c152, c153, c154, c155, c156, c157, c158, c159, c160, c161, c162, c163, c164, c165, c166, c167, c168, c169, c170, c171, c172, c173], df⟩ wx) :
    Code.wp Tryd.prog san_near_code (AtEnd K) ⟨#[c0, c1, .pointer (some ⟨Qa, 0, none⟩), c3, .slice LA 3 cL, c5, c6, c7, .pointer (some ⟨Qb, 0, none⟩), c9, .pointer (some ⟨Ql, 0, none⟩), c11, c12, c13, c14, c15, c16, c17, c18, c19, c20, c21, .slice (some ⟨XF, 0, none⟩) 3 3, c23, c24, c25, c26, c27, c28, c29, c30, c31, c32, c33, c34, c35, c36, c37, c38, c39, c40, c41, c42, c43, c44, c45, c46, c47, c48, c49, c50, c51, c52, c53, c54, c55, c56, c57, c58, c59, c60, c61, c62, c63, c64, c65, c66, c67, c68, c69, c70, c71, c72, c73, c74, c75, c76, c77, c78, c79, c80, c81, c82, c83, c84, c85, c86, c87, c88, c89, c90, c91, c92, c93, c94, c95, c96, c97, c98, c99, c100, c101, c102, c103, c104, c105, c106, c107, c108, c109, c110, c111, c112, c113, c114, c115, c116, c117, c118, c119, c120, c121, c122, c123, c124, c125, c126, c127, c128, c129, c130, c131, c132, c133, c134, c135, c136, c137, c138, c139, c140, c141, c142, c143, c144, c145, c146, c147, c148, c149, c150, c151, c152, c153, c154, c155, c156, c157, c158, c159, c160, c161, c162, c163, c164, c165, c166, c167, c168, c169, c170, c171, c172, c173], df⟩ wr := by
  conv => arg 2; whnf
  refine region_inv (by kernel_rfl) [[], [], [], [1, 2], [0, 3, 3], [4, 4], [5], [5], [6, 7, 5, 5], [5, 8], [9, 8], [10], [10], [12, 10], [13, 10], [11, 14, 10, 10], [10, 15], [16, 15], [17], [17], [17], [19, 20, 17, 17], [18, 21, 21, 17], [17, 22], [23, 22, 0, 1, 2, 3, 4, 5, 6, 7, 8, 9, 10, 11, 12, 13, 14, 15, 16, 17, 18, 19, 20, 21, 22, 23]] (by kernel_rfl) [0, 1, 2, 3, 4, 5, 6, 7, 8, 9, 10, 11, 12, 13, 14, 15, 16, 17, 18, 19, 20, 21, 22, 23, 24] (by decide +kernel) (by decide +kernel) (by decide +kernel) (fun L a wc => ∃ (ga : Nat) (gb : Nat) (gd : Nat) (ge : Nat), Inv san_near_dsts [.agg #[.int .i64 0, .slice FAa 2 fca, .slice CAa 2 cca], .slice (some ⟨ga, 0, none⟩) 2 2, .slice (some ⟨gb, 0, none⟩) 2 2, .agg #[.int .i64 0, .slice (some ⟨ga, 0, none⟩) 2 2, .slice (some ⟨gb, 0, none⟩) 2 2], .bool true, .bool true, .slice LA 3 cL, .slice (some ⟨XF, 0, none⟩) 3 3, .bool true, .bool true, .bool true, .agg #[.int .i64 0, .slice FAb 4 fcb, .slice CAb 4 ccb], .slice (some ⟨XF, 0, none⟩) 3 3, .pointer (some ⟨XF, 0, none⟩), .agg #[.int .i64 0, .slice FAz 4 fcz, .slice CAz 4 ccz], .bool true, .bool true, .bool true, .agg #[.int .i64 5, .slice FAl 2 fcl, .slice CAl 2 ccl], .slice (some ⟨gd, 0, none⟩) 2 2, .slice (some ⟨ge, 0, none⟩) 2 2, .agg #[.int .i64 5, .slice (some ⟨gd, 0, none⟩) 2 2, .slice (some ⟨ge, 0, none⟩) 2 2], .bool true, .bool true, .bool true] ⟨#[c0, c1, .pointer (some ⟨Qa, 0, none⟩), c3, .slice LA 3 cL, c5, c6, c7, .pointer (some ⟨Qb, 0, none⟩), c9, .pointer (some ⟨Ql, 0, none⟩), c11, c12, c13, c14, c15, c16, c17, c18, c19, c20, c21, .slice (some ⟨XF, 0, none⟩) 3 3, c23, c24, c25, c26, c27, c28, c29, c30, c31, c32, c33, c34, c35, c36, c37, c38, c39, c40, c41, c42, c43, c44, c45, c46, c47, c48, c49, c50, c51, c52, c53, c54, c55, c56, c57, c58, c59, c60, c61, c62, c63, c64, c65, c66, c67, c68, c69, c70, c71, c72, c73, c74, c75, c76, c77, c78, c79, c80, c81, c82, c83, c84, c85, c86, c87, c88, c89, c90, c91, c92, c93, c94, c95, c96, c97, c98, c99, c100, c101, c102, c103, c104, c105, c106, c107, c108, c109, c110, c111, c112, c113, c114, c115, c116, c117, c118, c119, c120, c121, c122, c123, c124, c125, c126, c127, c128, c129, c130, c131, c132, c133, c134, c135, c136, c137, c138, c139, c140, c141, c142, c143, c144, c145, c146, c147, c148, c149, c150, c151, c152, c153, c154, c155, c156, c157, c158, c159, c160, c161, c162, c163, c164, c165, c166, c167, c168, c169, c170, c171, c172, c173], df⟩ L a ∧ Hid (Ext wr wc ∧ (L 1 = true → Cells wc ga [.int .i64 1, .int .i64 4]) ∧ (L 2 = true → Cells wc gb [.int .u8 1, .int .u8 1]) ∧ (L 19 = true → Cells wc gd [.int .i64 2, .int .i64 3]) ∧ (L 20 = true → Cells wc ge [.int .u8 1, .int .u8 1]))) ⟨0, 0, 0, 0, Inv.start, Lib.hid ⟨(Ext.refl wr).drew, fun h => (by cases h), fun h => (by cases h), fun h => (by cases h), fun h => by cases h⟩⟩ ?_ ?_
  · refine ⟨?_, ?_, ?_, ?_, ?_, ?_, ?_, ?_, ?_, ?_, ?_, ?_, ?_, ?_, ?_, ?_, ?_, ?_, ?_, ?_, ?_, ?_, ?_, ?_, ?_, trivial⟩
    · -- 0 load
      rintro L a wc ⟨ga, gb, gd, ge, hv, HO⟩ hL hc hd
      have e0 : wc.cell? ⟨Qa, 0, none⟩ = some (.int .i64 0) := HO.out.1.cell (hCa 0 _ rfl)
      have e1 : wc.cell? ⟨Qa, 1, none⟩ = some (.slice FAa 2 fca) := HO.out.1.cell (hCa 1 _ rfl)
      have e2 : wc.cell? ⟨Qa, 2, none⟩ = some (.slice CAa 2 cca) := HO.out.1.cell (hCa 2 _ rfl)
      exact wpOp_val rfl rfl (ex_load rfl ((hv.fixed 2 (by decide)).trans rfl) (by go_simp)) ⟨ga, gb, gd, ge, hv.put san_near_apart 0 rfl (Nat.le_of_ble_eq_true rfl) (Nat.le_of_ble_eq_true rfl) rfl, HO⟩
    · -- 1 lines
      rintro L a wc ⟨ga, gb, gd, ge, hv, HO⟩ hL hc hd
      have n3 : L 3 = false := Bool.eq_false_iff.2 fun h => Bool.false_ne_true (hL.symm.trans (hc 3 h 1 (by decide)))
      have hv := hv.reset 3 n3 (.agg #[.int .i64 0, .slice (some ⟨wc.heap.size, 0, none⟩) 2 2, .slice (some ⟨gb, 0, none⟩) 2 2])
      have hx : Ext wc (wc.alloc (.cells #[.int .i64 1, .int .i64 4] 3)) := (Ext.refl wc).alloc _
      exact wpOp_val rfl rfl (run_build2_int wc a _ _ _ rfl) ⟨wc.heap.size, gb, gd, ge, hv.put san_near_apart 1 rfl (Nat.le_of_ble_eq_true rfl) (Nat.le_of_ble_eq_true rfl) rfl, Lib.hid ⟨HO.out.1.trans hx, fun _ => cells_new wc #[.int .i64 1, .int .i64 4] 3, fun h => (HO.out.2.2.1 h).ext hx, fun h => (HO.out.2.2.2.1 h).ext hx, fun h => (HO.out.2.2.2.2 h).ext hx⟩⟩
    · -- 2 lines
      rintro L a wc ⟨ga, gb, gd, ge, hv, HO⟩ hL hc hd
      have n3 : L 3 = false := Bool.eq_false_iff.2 fun h => Bool.false_ne_true (hL.symm.trans (hc 3 h 2 (by decide)))
      have hv := hv.reset 3 n3 (.agg #[.int .i64 0, .slice (some ⟨ga, 0, none⟩) 2 2, .slice (some ⟨wc.heap.size, 0, none⟩) 2 2])
      have hx : Ext wc (wc.alloc (.cells #[.int .u8 1, .int .u8 1] 5)) := (Ext.refl wc).alloc _
      exact wpOp_val rfl rfl (run_build2_u8 wc a _ _ _ rfl) ⟨ga, wc.heap.size, gd, ge, hv.put san_near_apart 2 rfl (Nat.le_of_ble_eq_true rfl) (Nat.le_of_ble_eq_true rfl) rfl, Lib.hid ⟨HO.out.1.trans hx, fun h => (HO.out.2.1 h).ext hx, fun _ => cells_new wc #[.int .u8 1, .int .u8 1] 5, fun h => (HO.out.2.2.2.1 h).ext hx, fun h => (HO.out.2.2.2.2 h).ext hx⟩⟩
    · -- 3 call
      rintro L a wc ⟨ga, gb, gd, ge, hv, HO⟩ hL hc hd
      refine wpOp_call (R := fun v w1 => v = .agg #[.int .i64 0, .slice (some ⟨ga, 0, none⟩) 2 2, .slice (some ⟨gb, 0, none⟩) 2 2] ∧ Ext wc w1) rfl rfl (ex_call rfl rfl (by simp only [List.map_toArray, List.map_cons, List.map_nil, (hv.get 1 rfl rfl (hd 1 (by decide))), (hv.get 2 rfl rfl (hd 2 (by decide)))]; rfl) (enters_of Tryd.func37 (by kernel_rfl) rfl _ _)) ((recipe8_any 0 _ _ 2 2 2 2 _ _ wc rfl rfl).mono (fun e w' h => ⟨_, h.1, rfl, h.2⟩)) ?_
      rintro v w' ⟨rfl, hx⟩
      exact ⟨ga, gb, gd, ge, hv.put san_near_apart 3 rfl (Nat.le_of_ble_eq_true rfl) (Nat.le_of_ble_eq_true rfl) rfl, Lib.hid ⟨HO.out.1.trans hx, fun h => (HO.out.2.1 h).ext hx, fun h => (HO.out.2.2.1 h).ext hx, fun h => (HO.out.2.2.2.1 h).ext hx, fun h => (HO.out.2.2.2.2 h).ext hx⟩⟩
    · -- 4 call
      rintro L a wc ⟨ga, gb, gd, ge, hv, HO⟩ hL hc hd
      refine wpOp_call (R := fun v w1 => v = .bool true ∧ Ext wc w1) rfl rfl (ex_call rfl rfl (by simp only [List.map_toArray, List.map_cons, List.map_nil, (hv.get 0 rfl rfl (hd 0 (by decide))), (hv.get 3 rfl rfl (hd 3 (by decide)))]; rfl) (enters_of Tryd.func18 (by kernel_rfl) rfl _ _)) ((sSame_self ⟨0, [1, 4], [1, 1]⟩ _ _ wc (RRec.ext _ _ _ _ HO.out.1 hRa) (⟨_, _, rfl, rs_lit (l := [1, 4]) (HO.out.2.1 (hc 3 (hd 3 (by decide)) 1 (by decide))) rfl (by decide), rb_lit (l := [1, 1]) (HO.out.2.2.1 (hc 3 (hd 3 (by decide)) 2 (by decide))) (by decide)⟩ : RRec wc (.agg #[.int .i64 0, .slice (some ⟨ga, 0, none⟩) 2 2, .slice (some ⟨gb, 0, none⟩) 2 2]) ⟨0, [1, 4], [1, 1]⟩)).mono (fun e w' h => ⟨_, h.1, rfl, h.2⟩)) ?_
      rintro v w' ⟨rfl, hx⟩
      exact ⟨ga, gb, gd, ge, hv.put san_near_apart 4 rfl (Nat.le_of_ble_eq_true rfl) (Nat.le_of_ble_eq_true rfl) rfl, Lib.hid ⟨HO.out.1.trans hx, fun h => (HO.out.2.1 h).ext hx, fun h => (HO.out.2.2.1 h).ext hx, fun h => (HO.out.2.2.2.1 h).ext hx, fun h => (HO.out.2.2.2.2 h).ext hx⟩⟩
    · -- 5 move
      rintro L a wc ⟨ga, gb, gd, ge, hv, HO⟩ hL hc hd
      exact wpOp_val rfl rfl (ex_move rfl (hv.get 4 rfl rfl (hd 4 (by decide)))) ⟨ga, gb, gd, ge, hv.put san_near_apart 5 rfl (Nat.le_of_ble_eq_true rfl) (Nat.le_of_ble_eq_true rfl) rfl, HO⟩
    · -- 6 move
      rintro L a wc ⟨ga, gb, gd, ge, hv, HO⟩ hL hc hd
      exact wpOp_val rfl ((wanted_at rfl rfl (hv.get 5 rfl rfl (hd 5 (by decide)))).trans rfl) (ex_move rfl ((hv.fixed 4 (by decide)).trans rfl)) ⟨ga, gb, gd, ge, hv.put san_near_apart 6 rfl (Nat.le_of_ble_eq_true rfl) (Nat.le_of_ble_eq_true rfl) rfl, HO⟩
    · -- 7 move
      rintro L a wc ⟨ga, gb, gd, ge, hv, HO⟩ hL hc hd
      exact wpOp_val rfl ((wanted_at rfl rfl (hv.get 5 rfl rfl (hd 5 (by decide)))).trans rfl) (ex_move rfl ((hv.fixed 22 (by decide)).trans rfl)) ⟨ga, gb, gd, ge, hv.put san_near_apart 7 rfl (Nat.le_of_ble_eq_true rfl) (Nat.le_of_ble_eq_true rfl) rfl, HO⟩
    · -- 8 call
      rintro L a wc ⟨ga, gb, gd, ge, hv, HO⟩ hL hc hd
      refine wpOp_callw (R := fun v w1 => v = .bool true ∧ Ext wc w1) rfl ((wanted_at rfl rfl (hv.get 5 rfl rfl (hd 5 (by decide)))).trans rfl) (ex_call rfl rfl (by simp only [List.map_toArray, List.map_cons, List.map_nil, (hv.get 6 rfl rfl (hd 6 (by decide))), (hv.get 7 rfl rfl (hd 7 (by decide)))]; rfl) (enters_of Tryd.func19 (by kernel_rfl) rfl _ _)) ((sSameAll_self [⟨0, [1, 2, 3, 6], [2, 4, 8, 1]⟩, ⟨0, [1, 2, 5, 6], [2, 12, 8, 1]⟩, ⟨0, [1, 3, 5, 6], [2, 12, 4, 1]⟩] _ _ wc (RRs.ext _ _ _ _ HO.out.1 hAL) (RRs.ext _ _ _ _ HO.out.1 hFAR)).mono (fun e w' h => ⟨_, h.1, rfl, h.2⟩)) ?_
      rintro v w' ⟨rfl, hx⟩
      exact ⟨ga, gb, gd, ge, hv.put san_near_apart 8 rfl (Nat.le_of_ble_eq_true rfl) (Nat.le_of_ble_eq_true rfl) rfl, Lib.hid ⟨HO.out.1.trans hx, fun h => (HO.out.2.1 h).ext hx, fun h => (HO.out.2.2.1 h).ext hx, fun h => (HO.out.2.2.2.1 h).ext hx, fun h => (HO.out.2.2.2.2 h).ext hx⟩⟩
    · -- 9 pick
      rintro L a wc ⟨ga, gb, gd, ge, hv, HO⟩ hL hc hd
      exact wpOp_val rfl rfl (ex_pick rfl (hv.get 5 rfl rfl (hd 5 (by decide))) (hv.get 8 rfl rfl (hd 8 (by decide)))) ⟨ga, gb, gd, ge, hv.put san_near_apart 9 rfl (Nat.le_of_ble_eq_true rfl) (Nat.le_of_ble_eq_true rfl) rfl, HO⟩
    · -- 10 move
      rintro L a wc ⟨ga, gb, gd, ge, hv, HO⟩ hL hc hd
      exact wpOp_val rfl rfl (ex_move rfl (hv.get 9 rfl rfl (hd 9 (by decide)))) ⟨ga, gb, gd, ge, hv.put san_near_apart 10 rfl (Nat.le_of_ble_eq_true rfl) (Nat.le_of_ble_eq_true rfl) rfl, HO⟩
    · -- 11 load
      rintro L a wc ⟨ga, gb, gd, ge, hv, HO⟩ hL hc hd
      have e0 : wc.cell? ⟨Qb, 0, none⟩ = some (.int .i64 0) := HO.out.1.cell (hCb 0 _ rfl)
      have e1 : wc.cell? ⟨Qb, 1, none⟩ = some (.slice FAb 4 fcb) := HO.out.1.cell (hCb 1 _ rfl)
      have e2 : wc.cell? ⟨Qb, 2, none⟩ = some (.slice CAb 4 ccb) := HO.out.1.cell (hCb 2 _ rfl)
      exact wpOp_val rfl ((wanted_at rfl rfl (hv.get 10 rfl rfl (hd 10 (by decide)))).trans rfl) (ex_load rfl ((hv.fixed 8 (by decide)).trans rfl) (by go_simp)) ⟨ga, gb, gd, ge, hv.put san_near_apart 11 rfl (Nat.le_of_ble_eq_true rfl) (Nat.le_of_ble_eq_true rfl) rfl, HO⟩
    · -- 12 move
      rintro L a wc ⟨ga, gb, gd, ge, hv, HO⟩ hL hc hd
      exact wpOp_val rfl ((wanted_at rfl rfl (hv.get 10 rfl rfl (hd 10 (by decide)))).trans rfl) (ex_move rfl ((hv.fixed 22 (by decide)).trans rfl)) ⟨ga, gb, gd, ge, hv.put san_near_apart 12 rfl (Nat.le_of_ble_eq_true rfl) (Nat.le_of_ble_eq_true rfl) rfl, HO⟩
    · -- 13 index
      rintro L a wc ⟨ga, gb, gd, ge, hv, HO⟩ hL hc hd
      have u1 : (0 : Int) ≤ (0 : Int) := by omega
      have u2 : (0 : Int) < (3 : Int) := by omega
      exact wpOp_val rfl ((wanted_at rfl rfl (hv.get 10 rfl rfl (hd 10 (by decide)))).trans rfl) (ex_index rfl (hv.get 12 rfl rfl (hd 12 (by decide))) rfl (by go_simp)) ⟨ga, gb, gd, ge, hv.put san_near_apart 13 rfl (Nat.le_of_ble_eq_true rfl) (Nat.le_of_ble_eq_true rfl) rfl, HO⟩
    · -- 14 load
      rintro L a wc ⟨ga, gb, gd, ge, hv, HO⟩ hL hc hd
      have e0 : wc.cell? ⟨XF, 0, none⟩ = some (.int .i64 0) := HO.out.1.cell (hC0 0 _ rfl)
      have e1 : wc.cell? ⟨XF, 1, none⟩ = some (.slice FAz 4 fcz) := HO.out.1.cell (hC0 1 _ rfl)
      have e2 : wc.cell? ⟨XF, 2, none⟩ = some (.slice CAz 4 ccz) := HO.out.1.cell (hC0 2 _ rfl)
      exact wpOp_val rfl ((wanted_at rfl rfl (hv.get 10 rfl rfl (hd 10 (by decide)))).trans rfl) (ex_load rfl (hv.get 13 rfl rfl (hd 13 (by decide))) (by go_simp)) ⟨ga, gb, gd, ge, hv.put san_near_apart 14 rfl (Nat.le_of_ble_eq_true rfl) (Nat.le_of_ble_eq_true rfl) rfl, HO⟩
    · -- 15 call
      rintro L a wc ⟨ga, gb, gd, ge, hv, HO⟩ hL hc hd
      refine wpOp_callw (R := fun v w1 => v = .bool true ∧ Ext wc w1) rfl ((wanted_at rfl rfl (hv.get 10 rfl rfl (hd 10 (by decide)))).trans rfl) (ex_call rfl rfl (by simp only [List.map_toArray, List.map_cons, List.map_nil, (hv.get 11 rfl rfl (hd 11 (by decide))), (hv.get 14 rfl rfl (hd 14 (by decide)))]; rfl) (enters_of Tryd.func18 (by kernel_rfl) rfl _ _)) ((sSame_self ⟨0, [1, 2, 3, 6], [2, 4, 8, 1]⟩ _ _ wc (RRec.ext _ _ _ _ HO.out.1 hRb) (RRec.ext _ _ _ _ HO.out.1 hR0)).mono (fun e w' h => ⟨_, h.1, rfl, h.2⟩)) ?_
      rintro v w' ⟨rfl, hx⟩
      exact ⟨ga, gb, gd, ge, hv.put san_near_apart 15 rfl (Nat.le_of_ble_eq_true rfl) (Nat.le_of_ble_eq_true rfl) rfl, Lib.hid ⟨HO.out.1.trans hx, fun h => (HO.out.2.1 h).ext hx, fun h => (HO.out.2.2.1 h).ext hx, fun h => (HO.out.2.2.2.1 h).ext hx, fun h => (HO.out.2.2.2.2 h).ext hx⟩⟩
    · -- 16 pick
      rintro L a wc ⟨ga, gb, gd, ge, hv, HO⟩ hL hc hd
      exact wpOp_val rfl rfl (ex_pick rfl (hv.get 10 rfl rfl (hd 10 (by decide))) (hv.get 15 rfl rfl (hd 15 (by decide)))) ⟨ga, gb, gd, ge, hv.put san_near_apart 16 rfl (Nat.le_of_ble_eq_true rfl) (Nat.le_of_ble_eq_true rfl) rfl, HO⟩
    · -- 17 move
      rintro L a wc ⟨ga, gb, gd, ge, hv, HO⟩ hL hc hd
      exact wpOp_val rfl rfl (ex_move rfl (hv.get 16 rfl rfl (hd 16 (by decide)))) ⟨ga, gb, gd, ge, hv.put san_near_apart 17 rfl (Nat.le_of_ble_eq_true rfl) (Nat.le_of_ble_eq_true rfl) rfl, HO⟩
    · -- 18 load
      rintro L a wc ⟨ga, gb, gd, ge, hv, HO⟩ hL hc hd
      have e0 : wc.cell? ⟨Ql, 0, none⟩ = some (.int .i64 5) := HO.out.1.cell (hCl 0 _ rfl)
      have e1 : wc.cell? ⟨Ql, 1, none⟩ = some (.slice FAl 2 fcl) := HO.out.1.cell (hCl 1 _ rfl)
      have e2 : wc.cell? ⟨Ql, 2, none⟩ = some (.slice CAl 2 ccl) := HO.out.1.cell (hCl 2 _ rfl)
      exact wpOp_val rfl ((wanted_at rfl rfl (hv.get 17 rfl rfl (hd 17 (by decide)))).trans rfl) (ex_load rfl ((hv.fixed 10 (by decide)).trans rfl) (by go_simp)) ⟨ga, gb, gd, ge, hv.put san_near_apart 18 rfl (Nat.le_of_ble_eq_true rfl) (Nat.le_of_ble_eq_true rfl) rfl, HO⟩
    · -- 19 lines
      rintro L a wc ⟨ga, gb, gd, ge, hv, HO⟩ hL hc hd
      have n21 : L 21 = false := Bool.eq_false_iff.2 fun h => Bool.false_ne_true (hL.symm.trans (hc 21 h 19 (by decide)))
      have hv := hv.reset 21 n21 (.agg #[.int .i64 5, .slice (some ⟨wc.heap.size, 0, none⟩) 2 2, .slice (some ⟨ge, 0, none⟩) 2 2])
      have hx : Ext wc (wc.alloc (.cells #[.int .i64 2, .int .i64 3] 3)) := (Ext.refl wc).alloc _
      exact wpOp_val rfl ((wanted_at rfl rfl (hv.get 17 rfl rfl (hd 17 (by decide)))).trans rfl) (run_build2_int wc a _ _ _ rfl) ⟨ga, gb, wc.heap.size, ge, hv.put san_near_apart 19 rfl (Nat.le_of_ble_eq_true rfl) (Nat.le_of_ble_eq_true rfl) rfl, Lib.hid ⟨HO.out.1.trans hx, fun h => (HO.out.2.1 h).ext hx, fun h => (HO.out.2.2.1 h).ext hx, fun _ => cells_new wc #[.int .i64 2, .int .i64 3] 3, fun h => (HO.out.2.2.2.2 h).ext hx⟩⟩
    · -- 20 lines
      rintro L a wc ⟨ga, gb, gd, ge, hv, HO⟩ hL hc hd
      have n21 : L 21 = false := Bool.eq_false_iff.2 fun h => Bool.false_ne_true (hL.symm.trans (hc 21 h 20 (by decide)))
      have hv := hv.reset 21 n21 (.agg #[.int .i64 5, .slice (some ⟨gd, 0, none⟩) 2 2, .slice (some ⟨wc.heap.size, 0, none⟩) 2 2])
      have hx : Ext wc (wc.alloc (.cells #[.int .u8 1, .int .u8 1] 5)) := (Ext.refl wc).alloc _
      exact wpOp_val rfl ((wanted_at rfl rfl (hv.get 17 rfl rfl (hd 17 (by decide)))).trans rfl) (run_build2_u8 wc a _ _ _ rfl) ⟨ga, gb, gd, wc.heap.size, hv.put san_near_apart 20 rfl (Nat.le_of_ble_eq_true rfl) (Nat.le_of_ble_eq_true rfl) rfl, Lib.hid ⟨HO.out.1.trans hx, fun h => (HO.out.2.1 h).ext hx, fun h => (HO.out.2.2.1 h).ext hx, fun h => (HO.out.2.2.2.1 h).ext hx, fun _ => cells_new wc #[.int .u8 1, .int .u8 1] 5⟩⟩
    · -- 21 call
      rintro L a wc ⟨ga, gb, gd, ge, hv, HO⟩ hL hc hd
      refine wpOp_callw (R := fun v w1 => v = .agg #[.int .i64 5, .slice (some ⟨gd, 0, none⟩) 2 2, .slice (some ⟨ge, 0, none⟩) 2 2] ∧ Ext wc w1) rfl ((wanted_at rfl rfl (hv.get 17 rfl rfl (hd 17 (by decide)))).trans rfl) (ex_call rfl rfl (by simp only [List.map_toArray, List.map_cons, List.map_nil, (hv.get 19 rfl rfl (hd 19 (by decide))), (hv.get 20 rfl rfl (hd 20 (by decide)))]; rfl) (enters_of Tryd.func37 (by kernel_rfl) rfl _ _)) ((recipe8_any 5 _ _ 2 2 2 2 _ _ wc rfl rfl).mono (fun e w' h => ⟨_, h.1, rfl, h.2⟩)) ?_
      rintro v w' ⟨rfl, hx⟩
      exact ⟨ga, gb, gd, ge, hv.put san_near_apart 21 rfl (Nat.le_of_ble_eq_true rfl) (Nat.le_of_ble_eq_true rfl) rfl, Lib.hid ⟨HO.out.1.trans hx, fun h => (HO.out.2.1 h).ext hx, fun h => (HO.out.2.2.1 h).ext hx, fun h => (HO.out.2.2.2.1 h).ext hx, fun h => (HO.out.2.2.2.2 h).ext hx⟩⟩
    · -- 22 call
      rintro L a wc ⟨ga, gb, gd, ge, hv, HO⟩ hL hc hd
      refine wpOp_callw (R := fun v w1 => v = .bool true ∧ Ext wc w1) rfl ((wanted_at rfl rfl (hv.get 17 rfl rfl (hd 17 (by decide)))).trans rfl) (ex_call rfl rfl (by simp only [List.map_toArray, List.map_cons, List.map_nil, (hv.get 18 rfl rfl (hd 18 (by decide))), (hv.get 21 rfl rfl (hd 21 (by decide)))]; rfl) (enters_of Tryd.func18 (by kernel_rfl) rfl _ _)) ((sSame_self ⟨5, [2, 3], [1, 1]⟩ _ _ wc (RRec.ext _ _ _ _ HO.out.1 hRl) (⟨_, _, rfl, rs_lit (l := [2, 3]) (HO.out.2.2.2.1 (hc 21 (hd 21 (by decide)) 19 (by decide))) rfl (by decide), rb_lit (l := [1, 1]) (HO.out.2.2.2.2 (hc 21 (hd 21 (by decide)) 20 (by decide))) (by decide)⟩ : RRec wc (.agg #[.int .i64 5, .slice (some ⟨gd, 0, none⟩) 2 2, .slice (some ⟨ge, 0, none⟩) 2 2]) ⟨5, [2, 3], [1, 1]⟩)).mono (fun e w' h => ⟨_, h.1, rfl, h.2⟩)) ?_
      rintro v w' ⟨rfl, hx⟩
      exact ⟨ga, gb, gd, ge, hv.put san_near_apart 22 rfl (Nat.le_of_ble_eq_true rfl) (Nat.le_of_ble_eq_true rfl) rfl, Lib.hid ⟨HO.out.1.trans hx, fun h => (HO.out.2.1 h).ext hx, fun h => (HO.out.2.2.1 h).ext hx, fun h => (HO.out.2.2.2.1 h).ext hx, fun h => (HO.out.2.2.2.2 h).ext hx⟩⟩
    · -- 23 pick
      rintro L a wc ⟨ga, gb, gd, ge, hv, HO⟩ hL hc hd
      exact wpOp_val rfl rfl (ex_pick rfl (hv.get 17 rfl rfl (hd 17 (by decide))) (hv.get 22 rfl rfl (hd 22 (by decide)))) ⟨ga, gb, gd, ge, hv.put san_near_apart 23 rfl (Nat.le_of_ble_eq_true rfl) (Nat.le_of_ble_eq_true rfl) rfl, HO⟩
    · -- 24 assign
      rintro L a wc ⟨ga, gb, gd, ge, hv, HO⟩ hL hc hd
      exact wpOp_val rfl rfl (ex_assign rfl (hv.get 23 rfl rfl (hd 23 (by decide)))) ⟨ga, gb, gd, ge, hv.put san_near_apart 24 rfl (Nat.le_of_ble_eq_true rfl) (Nat.le_of_ble_eq_true rfl) rfl, HO⟩
  · rintro L a wc ⟨ga, gb, gd, ge, hv, HO⟩ hall
    show K a wc
    have ha := act_lit a
    rw [hv.size, hv.defers] at ha
    have hl : ∀ f : Nat → Value, ((List.range (⟨#[c0, c1, .pointer (some ⟨Qa, 0, none⟩), c3, .slice LA 3 cL, c5, c6, c7, .pointer (some ⟨Qb, 0, none⟩), c9, .pointer (some ⟨Ql, 0, none⟩), c11, c12, c13, c14, c15, c16, c17, c18, c19, c20, c21, .slice (some ⟨XF, 0, none⟩) 3 3, c23, c24, c25, c26, c27, c28, c29, c30, c31, c32, c33, c34, c35, c36, c37, c38, c39, c40, c41, c42, c43, c44, c45, c46, c47, c48, c49, c50, c51, c52, c53, c54, c55, c56, c57, c58, c59, c60, c61, c62, c63, c64, c65, c66, c67, c68, c69, c70, c71, c72, c73, c74, c75, c76, c77, c78, c79, c80, c81, c82, c83, c84, c85, c86, c87, c88, c89, c90, c91, c92, c93, c94, c95, c96, c97, c98, c99, c100, c101, c102, c103, c104, c105, c106, c107, c108, c109, c110, c111, c112, c113, c114, c115, c116, c117, c118, c119, c120, c121, c122, c123, c124, c125, c126, c127, c128, c129, c130, c131, c132, c133, c134, c135, c136, c137, c138, c139, c140, c141, c142, c143, c144, c145, c146, c147, c148, c149, c150, c151, c152, c153, c154, c155, c156, c157, c158, c159, c160, c161, c162, c163, c164, c165, c166, c167, c168, c169, c170, c171, c172, c173], df⟩ : Act).tmps.size).map f).toArray = #[f 0, f 1, f 2, f 3, f 4, f 5, f 6, f 7, f 8, f 9, f 10, f 11, f 12, f 13, f 14, f 15, f 16, f 17, f 18, f 19, f 20, f 21, f 22, f 23, f 24, f 25, f 26, f 27, f 28, f 29, f 30, f 31, f 32, f 33, f 34, f 35, f 36, f 37, f 38, f 39, f 40, f 41, f 42, f 43, f 44, f 45, f 46, f 47, f 48, f 49, f 50, f 51, f 52, f 53, f 54, f 55, f 56, f 57, f 58, f 59, f 60, f 61, f 62, f 63, f 64, f 65, f 66, f 67, f 68, f 69, f 70, f 71, f 72, f 73, f 74, f 75, f 76, f 77, f 78, f 79, f 80, f 81, f 82, f 83, f 84, f 85, f 86, f 87, f 88, f 89, f 90, f 91, f 92, f 93, f 94, f 95, f 96, f 97, f 98, f 99, f 100, f 101, f 102, f 103, f 104, f 105, f 106, f 107, f 108, f 109, f 110, f 111, f 112, f 113, f 114, f 115, f 116, f 117, f 118, f 119, f 120, f 121, f 122, f 123, f 124, f 125, f 126, f 127, f 128, f 129, f 130, f 131, f 132, f 133, f 134, f 135, f 136, f 137, f 138, f 139, f 140, f 141, f 142, f 143, f 144, f 145, f 146, f 147, f 148, f 149, f 150, f 151, f 152, f 153, f 154, f 155, f 156, f 157, f 158, f 159, f 160, f 161, f 162, f 163, f 164, f 165, f 166, f 167, f 168, f 169, f 170, f 171, f 172, f 173] := fun _ => rfl
    rw [hl] at ha
    simp only [hv.fixed 0 (by decide), hv.fixed 1 (by decide), hv.fixed 2 (by decide), hv.fixed 3 (by decide), hv.fixed 4 (by decide), hv.fixed 5 (by decide), hv.fixed 6 (by decide), hv.fixed 7 (by decide), hv.fixed 8 (by decide), hv.fixed 9 (by decide), hv.fixed 10 (by decide), hv.fixed 11 (by decide), hv.fixed 12 (by decide), hv.fixed 13 (by decide), hv.fixed 14 (by decide), hv.fixed 15 (by decide), hv.fixed 16 (by decide), hv.fixed 17 (by decide), hv.fixed 18 (by decide), hv.fixed 19 (by decide), hv.fixed 20 (by decide), hv.fixed 21 (by decide), hv.fixed 22 (by decide), hv.fixed 24 (by decide), hv.fixed 25 (by decide), hv.fixed 26 (by decide), hv.fixed 27 (by decide), hv.fixed 28 (by decide), hv.fixed 29 (by decide), hv.fixed 30 (by decide), hv.fixed 31 (by decide), hv.fixed 32 (by decide), hv.fixed 33 (by decide), hv.fixed 34 (by decide), hv.fixed 35 (by decide), hv.fixed 36 (by decide), hv.fixed 37 (by decide), hv.fixed 38 (by decide), hv.fixed 39 (by decide), hv.fixed 40 (by decide), hv.fixed 41 (by decide), hv.fixed 42 (by decide), hv.fixed 43 (by decide), hv.fixed 44 (by decide), hv.fixed 45 (by decide), hv.fixed 46 (by decide), hv.fixed 47 (by decide), hv.fixed 48 (by decide), hv.fixed 49 (by decide), hv.fixed 50 (by decide), hv.fixed 51 (by decide), hv.fixed 52 (by decide), hv.fixed 53 (by decide), hv.fixed 54 (by decide), hv.fixed 55 (by decide), hv.fixed 56 (by decide), hv.fixed 57 (by decide), hv.fixed 58 (by decide), hv.fixed 59 (by decide), hv.fixed 60 (by decide), hv.fixed 61 (by decide), hv.fixed 62 (by decide), hv.fixed 63 (by decide), hv.fixed 64 (by decide), hv.fixed 65 (by decide), hv.fixed 66 (by decide), hv.fixed 67 (by decide), hv.fixed 68 (by decide), hv.fixed 69 (by decide), hv.fixed 70 (by decide), hv.fixed 71 (by decide), hv.fixed 72 (by decide), hv.fixed 73 (by decide), hv.fixed 74 (by decide), hv.fixed 75 (by decide), hv.fixed 76 (by decide), hv.fixed 77 (by decide), hv.fixed 78 (by decide), hv.fixed 79 (by decide), hv.fixed 80 (by decide), hv.fixed 81 (by decide), hv.fixed 82 (by decide), hv.fixed 83 (by decide), hv.fixed 84 (by decide), hv.fixed 85 (by decide), hv.fixed 86 (by decide), hv.fixed 87 (by decide), hv.fixed 88 (by decide), hv.fixed 89 (by decide), hv.fixed 90 (by decide), hv.fixed 91 (by decide), hv.fixed 92 (by decide), hv.fixed 93 (by decide), hv.fixed 94 (by decide), hv.fixed 95 (by decide), hv.fixed 96 (by decide), hv.fixed 97 (by decide), hv.fixed 98 (by decide), hv.fixed 99 (by decide), hv.fixed 100 (by decide), hv.fixed 101 (by decide), hv.fixed 102 (by decide), hv.fixed 103 (by decide), hv.fixed 104 (by decide), hv.fixed 105 (by decide), hv.fixed 106 (by decide), hv.fixed 107 (by decide), hv.fixed 108 (by decide), hv.fixed 109 (by decide), hv.fixed 110 (by decide), hv.fixed 111 (by decide), hv.fixed 112 (by decide), hv.fixed 113 (by decide), hv.fixed 114 (by decide), hv.fixed 115 (by decide), hv.fixed 116 (by decide), hv.fixed 117 (by decide), hv.fixed 118 (by decide), hv.fixed 119 (by decide), hv.fixed 120 (by decide), hv.fixed 145 (by decide), hv.fixed 146 (by decide), hv.fixed 147 (by decide), hv.fixed 148 (by decide), hv.fixed 149 (by decide), hv.fixed 150 (by decide), hv.fixed 151 (by decide), hv.fixed 152 (by decide), hv.fixed 153 (by decide), hv.fixed 154 (by decide), hv.fixed 155 (by decide), hv.fixed 156 (by decide), hv.fixed 157 (by decide), hv.fixed 158 (by decide), hv.fixed 159 (by decide), hv.fixed 160 (by decide), hv.fixed 161 (by decide), hv.fixed 162 (by decide), hv.fixed 163 (by decide), hv.fixed 164 (by decide), hv.fixed 165 (by decide), hv.fixed 166 (by decide), hv.fixed 167 (by decide), hv.fixed 168 (by decide), hv.fixed 169 (by decide), hv.fixed 170 (by decide), hv.fixed 171 (by decide), hv.fixed 172 (by decide), hv.fixed 173 (by decide), hv.get 24 (d := 23) rfl rfl (hall 24 (by decide))] at ha
    rw [ha]
    exact hK _ _ _ _ _ _ _ _ _ _ _ _ _ _ _ _ _ _ _ _ _ _ _ _ wc HO.out.1
end Go.Proofs.YtdmljilcbndmfaaDoor

/- THE WALK over sanity of the laws of rebuild. -/
namespace Go.Proofs.YtdmljilcbndmfaaDoor
open Go.RowKit Go.Shelf
set_option maxRecDepth 100000 in
set_option maxHeartbeats 16000000 in
theorem sanity_any (w : World) (hT : Tab w) :
    Calls Tryd.prog 11 #[] w fun e w' => e = .returned (.bool true) ∧ Ext w w' := by
  have HT := Lib.hid hT
  clear hT
  go_enter Tryd.func11, Tryd.ntmps11
  go_wp2_with fail
  refine (example_any _).mono ?_
  rintro e w1 ⟨gG, rfl, hG, hx1⟩
  have HB := Lib.hid (cells_new w1 #[.int .i64 4, .slice (some ⟨gG, 0, none⟩) 2 2, .int .i64 1] 24)
  obtain ⟨B, hB⟩ : ∃ B, w1.heap.size = B := ⟨_, rfl⟩
  rw [hB] at HB
  have HX := Lib.hid (hx1.trans ((Ext.refl w1).alloc (.cells #[.int .i64 4, .slice (some ⟨gG, 0, none⟩) 2 2, .int .i64 1] 24)))
  have HG := Lib.hid (Rs.ext (Rs.ext RI.ext) _ _ _ _ ((Ext.refl w1).alloc (.cells #[.int .i64 4, .slice (some ⟨gG, 0, none⟩) 2 2, .int .i64 1] 24)) hG)
  have HT := Lib.hid (HT.out.ext HX.out)
  go_upto_region 2 with fail
  obtain ⟨w2, hw2⟩ : ∃ w2, w1.alloc (.cells #[.int .i64 4, .slice (some ⟨gG, 0, none⟩) 2 2, .int .i64 1] 24) = w2 := ⟨_, rfl⟩
  rw [hw2] at HB HX HG HT ⊢
  clear hG hx1 hw2 hB
  have b0 : w2.cell? ⟨B, 0, none⟩ = some (.int .i64 4) := HB.out 0 _ rfl
  have b1 : w2.cell? ⟨B, 1, none⟩ = some (.slice (some ⟨gG, 0, none⟩) 2 2) := HB.out 1 _ rfl
  have b2 : w2.cell? ⟨B, 2, none⟩ = some (.int .i64 1) := HB.out 2 _ rfl
  have hBl : B < w2.heap.size := lt_of_cell b0
  go_wp2_with fail
  refine (bBest_any 4 1 Rb.exG 1 0 _ _ HT.out HG.out).mono ?_
  rintro e w3 ⟨v, rfl, hv, hx⟩
  rw [Rb.ex_best1.2] at hv
  rw [Rb.ex_best1.1]
  obtain ⟨Fa, Ca, hvv, hF, hC⟩ := hv
  have hvv : v = .agg #[.int .i64 0, Fa, Ca] := hvv
  subst hvv
  obtain ⟨FAa, fca, rfl⟩ : ∃ FA fc, Fa = .slice FA 2 fc := by
    obtain ⟨FA, fc, h, _⟩ := hF.form
    exact ⟨FA, fc, h⟩
  obtain ⟨CAa, cca, rfl⟩ : ∃ CA cc, Ca = .slice CA 2 cc := by
    obtain ⟨CA, cc, h, _⟩ := hC.form
    exact ⟨CA, cc, h⟩
  have hxa : Ext w3 (w3.alloc (.cells #[.int .i64 0, .slice FAa 2 fca, .slice CAa 2 cca] 30)) := (Ext.refl w3).alloc _
  have hx2 := hx.trans hxa
  have HX := Lib.hid (HX.out.trans hx2)
  have HT := Lib.hid (HT.out.ext hx2)
  have HG := Lib.hid (Rs.ext (Rs.ext RI.ext) _ _ _ _ hx2 HG.out)
  have HB := Lib.hid (HB.out.ext hx2)
  have HCa := Lib.hid (cells_new w3 #[.int .i64 0, .slice FAa 2 fca, .slice CAa 2 cca] 30)
  have HFa := Lib.hid (And.intro (Rs.ext RI.ext _ _ _ _ hxa hF) (Rs.ext RB.ext _ _ _ _ hxa hC))
  clear hF hC hx hxa hx2 b0 b1 b2 hBl
  go_upto_region 3 with fail
  obtain ⟨Qa, hQa⟩ : ∃ Q, w3.heap.size = Q := ⟨_, rfl⟩
  rw [hQa] at HCa
  try rw [hQa]
  obtain ⟨w4, hw2⟩ : ∃ x, w3.alloc (.cells #[.int .i64 0, .slice FAa 2 fca, .slice CAa 2 cca] 30) = x := ⟨_, rfl⟩
  rw [hw2] at HX HT HG HB HCa HFa ⊢
  clear hw2 hQa
  have b0 : w4.cell? ⟨B, 0, none⟩ = some (.int .i64 4) := HB.out 0 _ rfl
  have b1 : w4.cell? ⟨B, 1, none⟩ = some (.slice (some ⟨gG, 0, none⟩) 2 2) := HB.out 1 _ rfl
  have b2 : w4.cell? ⟨B, 2, none⟩ = some (.int .i64 1) := HB.out 2 _ rfl
  have hBl : B < w4.heap.size := lt_of_cell b0
  go_wp2_with fail
  refine (bAll_any 4 1 Rb.exG 17 0 _ _ HT.out HG.out).mono ?_
  rintro e w5 ⟨v, rfl, hv, _, hx⟩
  rw [Rb.ex_all.2] at hv
  rw [Rb.ex_all.1]
  obtain ⟨LA, cL, rfl⟩ : ∃ A c, v = .slice A 3 c := by
    obtain ⟨A, c, h, _⟩ := hv.form
    exact ⟨A, c, h⟩
  have HX := Lib.hid (HX.out.trans hx)
  have HT := Lib.hid (HT.out.ext hx)
  have HG := Lib.hid (Rs.ext (Rs.ext RI.ext) _ _ _ _ hx HG.out)
  have HB := Lib.hid (HB.out.ext hx)
  have HCa := Lib.hid (HCa.out.ext hx)
  have HFa := Lib.hid (And.intro (Rs.ext RI.ext _ _ _ _ hx HFa.out.1) (Rs.ext RB.ext _ _ _ _ hx HFa.out.2))
  have HAL := Lib.hid hv
  clear hv hx b0 b1 b2 hBl
  go_upto_region 4 with fail
  have b0 : w5.cell? ⟨B, 0, none⟩ = some (.int .i64 4) := HB.out 0 _ rfl
  have b1 : w5.cell? ⟨B, 1, none⟩ = some (.slice (some ⟨gG, 0, none⟩) 2 2) := HB.out 1 _ rfl
  have b2 : w5.cell? ⟨B, 2, none⟩ = some (.int .i64 1) := HB.out 2 _ rfl
  have hBl : B < w5.heap.size := lt_of_cell b0
  go_wp2_with fail
  refine (bBest_any 4 1 Rb.exG 19 0 _ _ HT.out HG.out).mono ?_
  rintro e w6 ⟨v, rfl, hv, hx⟩
  rw [Rb.ex_best19.2] at hv
  rw [Rb.ex_best19.1]
  obtain ⟨Fn, Cn, hvv, hF, hC⟩ := hv
  have hvv : v = .agg #[.int .i64 0, Fn, Cn] := hvv
  subst hvv
  obtain ⟨FAn, fcn, rfl⟩ : ∃ FA fc, Fn = .slice FA 0 fc := by
    obtain ⟨FA, fc, h, _⟩ := hF.form
    exact ⟨FA, fc, h⟩
  obtain ⟨CAn, ccn, rfl⟩ : ∃ CA cc, Cn = .slice CA 0 cc := by
    obtain ⟨CA, cc, h, _⟩ := hC.form
    exact ⟨CA, cc, h⟩
  have hxa : Ext w6 (w6.alloc (.cells #[.int .i64 0, .slice FAn 0 fcn, .slice CAn 0 ccn] 30)) := (Ext.refl w6).alloc _
  have hx2 := hx.trans hxa
  have HX := Lib.hid (HX.out.trans hx2)
  have HT := Lib.hid (HT.out.ext hx2)
  have HG := Lib.hid (Rs.ext (Rs.ext RI.ext) _ _ _ _ hx2 HG.out)
  have HB := Lib.hid (HB.out.ext hx2)
  have HCa := Lib.hid (HCa.out.ext hx2)
  have HFa := Lib.hid (And.intro (Rs.ext RI.ext _ _ _ _ hx2 HFa.out.1) (Rs.ext RB.ext _ _ _ _ hx2 HFa.out.2))
  have HAL := Lib.hid (RRs.ext _ _ _ _ hx2 HAL.out)
  have HCn := Lib.hid (cells_new w6 #[.int .i64 0, .slice FAn 0 fcn, .slice CAn 0 ccn] 30)
  have HFn := Lib.hid (And.intro (Rs.ext RI.ext _ _ _ _ hxa hF) (Rs.ext RB.ext _ _ _ _ hxa hC))
  clear hF hC hx hxa hx2 b0 b1 b2 hBl
  go_upto_region 5 with fail
  obtain ⟨Qn, hQn⟩ : ∃ Q, w6.heap.size = Q := ⟨_, rfl⟩
  rw [hQn] at HCn
  try rw [hQn]
  obtain ⟨w7, hw2⟩ : ∃ x, w6.alloc (.cells #[.int .i64 0, .slice FAn 0 fcn, .slice CAn 0 ccn] 30) = x := ⟨_, rfl⟩
  rw [hw2] at HX HT HG HB HCa HFa HAL HCn HFn ⊢
  clear hw2 hQn
  have b0 : w7.cell? ⟨B, 0, none⟩ = some (.int .i64 4) := HB.out 0 _ rfl
  have b1 : w7.cell? ⟨B, 1, none⟩ = some (.slice (some ⟨gG, 0, none⟩) 2 2) := HB.out 1 _ rfl
  have b2 : w7.cell? ⟨B, 2, none⟩ = some (.int .i64 1) := HB.out 2 _ rfl
  have hBl : B < w7.heap.size := lt_of_cell b0
  go_wp2_with fail
  refine (bBest_any 4 1 Rb.exG 17 0 _ _ HT.out HG.out).mono ?_
  rintro e w8 ⟨v, rfl, hv, hx⟩
  rw [Rb.ex_best17.2] at hv
  rw [Rb.ex_best17.1]
  obtain ⟨Fb, Cb, hvv, hF, hC⟩ := hv
  have hvv : v = .agg #[.int .i64 0, Fb, Cb] := hvv
  subst hvv
  obtain ⟨FAb, fcb, rfl⟩ : ∃ FA fc, Fb = .slice FA 4 fc := by
    obtain ⟨FA, fc, h, _⟩ := hF.form
    exact ⟨FA, fc, h⟩
  obtain ⟨CAb, ccb, rfl⟩ : ∃ CA cc, Cb = .slice CA 4 cc := by
    obtain ⟨CA, cc, h, _⟩ := hC.form
    exact ⟨CA, cc, h⟩
  have hxa : Ext w8 (w8.alloc (.cells #[.int .i64 0, .slice FAb 4 fcb, .slice CAb 4 ccb] 30)) := (Ext.refl w8).alloc _
  have hx2 := hx.trans hxa
  have HX := Lib.hid (HX.out.trans hx2)
  have HT := Lib.hid (HT.out.ext hx2)
  have HG := Lib.hid (Rs.ext (Rs.ext RI.ext) _ _ _ _ hx2 HG.out)
  have HB := Lib.hid (HB.out.ext hx2)
  have HCa := Lib.hid (HCa.out.ext hx2)
  have HFa := Lib.hid (And.intro (Rs.ext RI.ext _ _ _ _ hx2 HFa.out.1) (Rs.ext RB.ext _ _ _ _ hx2 HFa.out.2))
  have HAL := Lib.hid (RRs.ext _ _ _ _ hx2 HAL.out)
  have HCn := Lib.hid (HCn.out.ext hx2)
  have HFn := Lib.hid (And.intro (Rs.ext RI.ext _ _ _ _ hx2 HFn.out.1) (Rs.ext RB.ext _ _ _ _ hx2 HFn.out.2))
  have HCb := Lib.hid (cells_new w8 #[.int .i64 0, .slice FAb 4 fcb, .slice CAb 4 ccb] 30)
  have HFb := Lib.hid (And.intro (Rs.ext RI.ext _ _ _ _ hxa hF) (Rs.ext RB.ext _ _ _ _ hxa hC))
  clear hF hC hx hxa hx2 b0 b1 b2 hBl
  go_upto_region 6 with fail
  obtain ⟨Qb, hQb⟩ : ∃ Q, w8.heap.size = Q := ⟨_, rfl⟩
  rw [hQb] at HCb
  try rw [hQb]
  obtain ⟨w9, hw2⟩ : ∃ x, w8.alloc (.cells #[.int .i64 0, .slice FAb 4 fcb, .slice CAb 4 ccb] 30) = x := ⟨_, rfl⟩
  rw [hw2] at HX HT HG HB HCa HFa HAL HCn HFn HCb HFb ⊢
  clear hw2 hQb
  have b0 : w9.cell? ⟨B, 0, none⟩ = some (.int .i64 4) := HB.out 0 _ rfl
  have b1 : w9.cell? ⟨B, 1, none⟩ = some (.slice (some ⟨gG, 0, none⟩) 2 2) := HB.out 1 _ rfl
  have b2 : w9.cell? ⟨B, 2, none⟩ = some (.int .i64 1) := HB.out 2 _ rfl
  have hBl : B < w9.heap.size := lt_of_cell b0
  go_wp2_with fail
  refine (bLocal_any 4 1 Rb.exG 5 _ _ HT.out HG.out).mono ?_
  rintro e w10 ⟨v, rfl, hv, hx⟩
  rw [Rb.ex_local.2.1] at hv
  rw [Rb.ex_local.1]
  obtain ⟨Fl, Cl, hvv, hF, hC⟩ := hv
  have hvv : v = .agg #[.int .i64 5, Fl, Cl] := hvv
  subst hvv
  obtain ⟨FAl, fcl, rfl⟩ : ∃ FA fc, Fl = .slice FA 2 fc := by
    obtain ⟨FA, fc, h, _⟩ := hF.form
    exact ⟨FA, fc, h⟩
  obtain ⟨CAl, ccl, rfl⟩ : ∃ CA cc, Cl = .slice CA 2 cc := by
    obtain ⟨CA, cc, h, _⟩ := hC.form
    exact ⟨CA, cc, h⟩
  have hxa : Ext w10 (w10.alloc (.cells #[.int .i64 5, .slice FAl 2 fcl, .slice CAl 2 ccl] 30)) := (Ext.refl w10).alloc _
  have hx2 := hx.trans hxa
  have HX := Lib.hid (HX.out.trans hx2)
  have HT := Lib.hid (HT.out.ext hx2)
  have HG := Lib.hid (Rs.ext (Rs.ext RI.ext) _ _ _ _ hx2 HG.out)
  have HB := Lib.hid (HB.out.ext hx2)
  have HCa := Lib.hid (HCa.out.ext hx2)
  have HFa := Lib.hid (And.intro (Rs.ext RI.ext _ _ _ _ hx2 HFa.out.1) (Rs.ext RB.ext _ _ _ _ hx2 HFa.out.2))
  have HAL := Lib.hid (RRs.ext _ _ _ _ hx2 HAL.out)
  have HCn := Lib.hid (HCn.out.ext hx2)
  have HFn := Lib.hid (And.intro (Rs.ext RI.ext _ _ _ _ hx2 HFn.out.1) (Rs.ext RB.ext _ _ _ _ hx2 HFn.out.2))
  have HCb := Lib.hid (HCb.out.ext hx2)
  have HFb := Lib.hid (And.intro (Rs.ext RI.ext _ _ _ _ hx2 HFb.out.1) (Rs.ext RB.ext _ _ _ _ hx2 HFb.out.2))
  have HCl := Lib.hid (cells_new w10 #[.int .i64 5, .slice FAl 2 fcl, .slice CAl 2 ccl] 30)
  have HFl := Lib.hid (And.intro (Rs.ext RI.ext _ _ _ _ hxa hF) (Rs.ext RB.ext _ _ _ _ hxa hC))
  clear hF hC hx hxa hx2 b0 b1 b2 hBl
  go_upto_region 7 with fail
  obtain ⟨Ql, hQl⟩ : ∃ Q, w10.heap.size = Q := ⟨_, rfl⟩
  rw [hQl] at HCl
  try rw [hQl]
  obtain ⟨w11, hw2⟩ : ∃ x, w10.alloc (.cells #[.int .i64 5, .slice FAl 2 fcl, .slice CAl 2 ccl] 30) = x := ⟨_, rfl⟩
  rw [hw2] at HX HT HG HB HCa HFa HAL HCn HFn HCb HFb HCl HFl ⊢
  clear hw2 hQl
  have b0 : w11.cell? ⟨B, 0, none⟩ = some (.int .i64 4) := HB.out 0 _ rfl
  have b1 : w11.cell? ⟨B, 1, none⟩ = some (.slice (some ⟨gG, 0, none⟩) 2 2) := HB.out 1 _ rfl
  have b2 : w11.cell? ⟨B, 2, none⟩ = some (.int .i64 1) := HB.out 2 _ rfl
  have hBl : B < w11.heap.size := lt_of_cell b0
  go_wp2_with fail
  refine (bLocal_any 4 1 Rb.exG 6 _ _ HT.out HG.out).mono ?_
  rintro e w12 ⟨v, rfl, hv, hx⟩
  rw [Rb.ex_local.2.2.2] at hv
  rw [Rb.ex_local.2.2.1]
  obtain ⟨Fm, Cm, hvv, hF, hC⟩ := hv
  have hvv : v = .agg #[.int .i64 0, Fm, Cm] := hvv
  subst hvv
  obtain ⟨FAm, fcm, rfl⟩ : ∃ FA fc, Fm = .slice FA 0 fc := by
    obtain ⟨FA, fc, h, _⟩ := hF.form
    exact ⟨FA, fc, h⟩
  obtain ⟨CAm, ccm, rfl⟩ : ∃ CA cc, Cm = .slice CA 0 cc := by
    obtain ⟨CA, cc, h, _⟩ := hC.form
    exact ⟨CA, cc, h⟩
  have hxa : Ext w12 (w12.alloc (.cells #[.int .i64 0, .slice FAm 0 fcm, .slice CAm 0 ccm] 30)) := (Ext.refl w12).alloc _
  have hx2 := hx.trans hxa
  have HX := Lib.hid (HX.out.trans hx2)
  have HT := Lib.hid (HT.out.ext hx2)
  have HG := Lib.hid (Rs.ext (Rs.ext RI.ext) _ _ _ _ hx2 HG.out)
  have HB := Lib.hid (HB.out.ext hx2)
  have HCa := Lib.hid (HCa.out.ext hx2)
  have HFa := Lib.hid (And.intro (Rs.ext RI.ext _ _ _ _ hx2 HFa.out.1) (Rs.ext RB.ext _ _ _ _ hx2 HFa.out.2))
  have HAL := Lib.hid (RRs.ext _ _ _ _ hx2 HAL.out)
  have HCn := Lib.hid (HCn.out.ext hx2)
  have HFn := Lib.hid (And.intro (Rs.ext RI.ext _ _ _ _ hx2 HFn.out.1) (Rs.ext RB.ext _ _ _ _ hx2 HFn.out.2))
  have HCb := Lib.hid (HCb.out.ext hx2)
  have HFb := Lib.hid (And.intro (Rs.ext RI.ext _ _ _ _ hx2 HFb.out.1) (Rs.ext RB.ext _ _ _ _ hx2 HFb.out.2))
  have HCl := Lib.hid (HCl.out.ext hx2)
  have HFl := Lib.hid (And.intro (Rs.ext RI.ext _ _ _ _ hx2 HFl.out.1) (Rs.ext RB.ext _ _ _ _ hx2 HFl.out.2))
  have HCm := Lib.hid (cells_new w12 #[.int .i64 0, .slice FAm 0 fcm, .slice CAm 0 ccm] 30)
  have HFm := Lib.hid (And.intro (Rs.ext RI.ext _ _ _ _ hxa hF) (Rs.ext RB.ext _ _ _ _ hxa hC))
  clear hF hC hx hxa hx2 b0 b1 b2 hBl
  go_upto_region 8 with fail
  obtain ⟨Qm, hQm⟩ : ∃ Q, w12.heap.size = Q := ⟨_, rfl⟩
  rw [hQm] at HCm
  try rw [hQm]
  obtain ⟨w13, hw2⟩ : ∃ x, w12.alloc (.cells #[.int .i64 0, .slice FAm 0 fcm, .slice CAm 0 ccm] 30) = x := ⟨_, rfl⟩
  rw [hw2] at HX HT HG HB HCa HFa HAL HCn HFn HCb HFb HCl HFl HCm HFm ⊢
  clear hw2 hQm
  have b0 : w13.cell? ⟨B, 0, none⟩ = some (.int .i64 4) := HB.out 0 _ rfl
  have b1 : w13.cell? ⟨B, 1, none⟩ = some (.slice (some ⟨gG, 0, none⟩) 2 2) := HB.out 1 _ rfl
  have b2 : w13.cell? ⟨B, 2, none⟩ = some (.int .i64 1) := HB.out 2 _ rfl
  have hBl : B < w13.heap.size := lt_of_cell b0
  go_wp2_with fail
  refine (bJoint_any 4 1 Rb.exG 5 _ _ HT.out HG.out).mono ?_
  rintro e w14 ⟨v1, v2, rfl, h1, h2, hx⟩
  rw [Rb.ex_joint.2] at h1 h2
  rw [Rb.ex_joint.1]
  have h1 : Rs RI w14 v1 [1, 3, 4, 5] := h1
  have h2 : RRs w14 v2 [⟨0, [1, 4], [1, 1]⟩, ⟨2, [3, 5], [1, 1]⟩] := h2
  obtain ⟨JA, cJ, rfl⟩ : ∃ A c, v1 = .slice A 4 c := by
    obtain ⟨A, c, h, _⟩ := h1.form
    exact ⟨A, c, h⟩
  obtain ⟨JB, dJ, rfl⟩ : ∃ A c, v2 = .slice A 2 c := by
    obtain ⟨A, c, h, _⟩ := h2.form
    exact ⟨A, c, h⟩
  have HX := Lib.hid (HX.out.trans hx)
  have HT := Lib.hid (HT.out.ext hx)
  have HG := Lib.hid (Rs.ext (Rs.ext RI.ext) _ _ _ _ hx HG.out)
  have HB := Lib.hid (HB.out.ext hx)
  have HCa := Lib.hid (HCa.out.ext hx)
  have HFa := Lib.hid (And.intro (Rs.ext RI.ext _ _ _ _ hx HFa.out.1) (Rs.ext RB.ext _ _ _ _ hx HFa.out.2))
  have HAL := Lib.hid (RRs.ext _ _ _ _ hx HAL.out)
  have HCn := Lib.hid (HCn.out.ext hx)
  have HFn := Lib.hid (And.intro (Rs.ext RI.ext _ _ _ _ hx HFn.out.1) (Rs.ext RB.ext _ _ _ _ hx HFn.out.2))
  have HCb := Lib.hid (HCb.out.ext hx)
  have HFb := Lib.hid (And.intro (Rs.ext RI.ext _ _ _ _ hx HFb.out.1) (Rs.ext RB.ext _ _ _ _ hx HFb.out.2))
  have HCl := Lib.hid (HCl.out.ext hx)
  have HFl := Lib.hid (And.intro (Rs.ext RI.ext _ _ _ _ hx HFl.out.1) (Rs.ext RB.ext _ _ _ _ hx HFl.out.2))
  have HCm := Lib.hid (HCm.out.ext hx)
  have HFm := Lib.hid (And.intro (Rs.ext RI.ext _ _ _ _ hx HFm.out.1) (Rs.ext RB.ext _ _ _ _ hx HFm.out.2))
  have HJ := Lib.hid (And.intro h1 h2)
  clear h1 h2 hx b0 b1 b2 hBl
  clear HG HB HCn HFn HCm HFm
  go_upto_region 9 with fail
  go_wp2_with fail
  refine (recipe8_any 0 _ _ 2 2 2 2 _ _ _ rfl rfl).mono ?_
  rintro e w15 ⟨rfl, hx⟩
  have hci := (cells_new w14 #[.int .i64 1, .int .i64 4] 3).ext (((Ext.refl _).alloc (.cells #[.int .u8 1, .int .u8 1] 5)).trans hx)
  have hcb := (cells_new (w14.alloc (.cells #[.int .i64 1, .int .i64 4] 3)) #[.int .u8 1, .int .u8 1] 5).ext hx
  rw [World.size_alloc] at hcb
  have hx2 := Ext.trans ((((Ext.refl w14).alloc _).alloc _)) hx
  have HX := Lib.hid (HX.out.trans hx2)
  have HT := Lib.hid (HT.out.ext hx2)
  have HCa := Lib.hid (HCa.out.ext hx2)
  have HFa := Lib.hid (And.intro (Rs.ext RI.ext _ _ _ _ hx2 HFa.out.1) (Rs.ext RB.ext _ _ _ _ hx2 HFa.out.2))
  have HAL := Lib.hid (RRs.ext _ _ _ _ hx2 HAL.out)
  have HCb := Lib.hid (HCb.out.ext hx2)
  have HFb := Lib.hid (And.intro (Rs.ext RI.ext _ _ _ _ hx2 HFb.out.1) (Rs.ext RB.ext _ _ _ _ hx2 HFb.out.2))
  have HCl := Lib.hid (HCl.out.ext hx2)
  have HFl := Lib.hid (And.intro (Rs.ext RI.ext _ _ _ _ hx2 HFl.out.1) (Rs.ext RB.ext _ _ _ _ hx2 HFl.out.2))
  have HJ := Lib.hid (And.intro (Rs.ext RI.ext _ _ _ _ hx2 HJ.out.1) (RRs.ext _ _ _ _ hx2 HJ.out.2))
  obtain ⟨Xp, hXp⟩ : ∃ X, w14.heap.size = X := ⟨_, rfl⟩
  rw [hXp] at hci hcb
  try rw [hXp]
  have HRp : Hid (RRec w15 (.agg #[.int .i64 0, .slice (some ⟨Xp, 0, none⟩) 2 2, .slice (some ⟨Xp + 1, 0, none⟩) 2 2]) ⟨0, [1, 4], [1, 1]⟩) := Lib.hid ⟨_, _, rfl, rs_lit (l := [1, 4]) hci rfl (by decide), rb_lit (l := [1, 1]) hcb (by decide)⟩
  clear hci hcb hx hx2 hXp
  go_wp2_with fail
  have htx : Rs RS (w15.alloc (.cells #[.string { data := #[3, 4] }, .string { data := #[2, 6] }] 9)) (.slice (some ⟨w15.heap.size, 0, none⟩) 2 2) [[3, 4], [2, 6]] := rt_lit (l := [[3, 4], [2, 6]]) (cells_new w15 #[.string { data := #[3, 4] }, .string { data := #[2, 6] }] 9) (by decide)
  have hxa : Ext w15 (w15.alloc (.cells #[.string { data := #[3, 4] }, .string { data := #[2, 6] }] 9)) := (Ext.refl _).alloc _
  refine (bApply_any ⟨0, [1, 4], [1, 1]⟩ [[3, 4], [2, 6]] _ _ _ (HT.out.ext hxa) (RRec.ext _ _ _ _ hxa HRp.out) htx (by decide) (by decide) (by decide)).mono ?_
  rintro e w16 ⟨rfl, hx⟩
  rw [Rb.ex_apply.1, Rb.ex_apply.2.1, show sb [1, 2] = ({ data := #[1, 2] } : ByteArray) from rfl]
  have hx2 := Ext.trans hxa hx
  have HX := Lib.hid (HX.out.trans hx2)
  have HT := Lib.hid (HT.out.ext hx2)
  have HCa := Lib.hid (HCa.out.ext hx2)
  have HFa := Lib.hid (And.intro (Rs.ext RI.ext _ _ _ _ hx2 HFa.out.1) (Rs.ext RB.ext _ _ _ _ hx2 HFa.out.2))
  have HAL := Lib.hid (RRs.ext _ _ _ _ hx2 HAL.out)
  have HCb := Lib.hid (HCb.out.ext hx2)
  have HFb := Lib.hid (And.intro (Rs.ext RI.ext _ _ _ _ hx2 HFb.out.1) (Rs.ext RB.ext _ _ _ _ hx2 HFb.out.2))
  have HCl := Lib.hid (HCl.out.ext hx2)
  have HFl := Lib.hid (And.intro (Rs.ext RI.ext _ _ _ _ hx2 HFl.out.1) (Rs.ext RB.ext _ _ _ _ hx2 HFl.out.2))
  have HJ := Lib.hid (And.intro (Rs.ext RI.ext _ _ _ _ hx2 HJ.out.1) (RRs.ext _ _ _ _ hx2 HJ.out.2))
  have HRp := Lib.hid (RRec.ext _ _ _ _ hx2 HRp.out)
  clear htx hxa hx hx2
  clear HRp
  go_upto_region 10 with fail
  go_wp2_with fail
  refine (recipe8_any 0 _ _ 2 2 2 2 _ _ _ rfl rfl).mono ?_
  rintro e w17 ⟨rfl, hx⟩
  have hci := (cells_new w16 #[.int .i64 1, .int .i64 4] 3).ext (((Ext.refl _).alloc (.cells #[.int .u8 1, .int .u8 1] 5)).trans hx)
  have hcb := (cells_new (w16.alloc (.cells #[.int .i64 1, .int .i64 4] 3)) #[.int .u8 1, .int .u8 1] 5).ext hx
  rw [World.size_alloc] at hcb
  have hx2 := Ext.trans ((((Ext.refl w16).alloc _).alloc _)) hx
  have HX := Lib.hid (HX.out.trans hx2)
  have HT := Lib.hid (HT.out.ext hx2)
  have HCa := Lib.hid (HCa.out.ext hx2)
  have HFa := Lib.hid (And.intro (Rs.ext RI.ext _ _ _ _ hx2 HFa.out.1) (Rs.ext RB.ext _ _ _ _ hx2 HFa.out.2))
  have HAL := Lib.hid (RRs.ext _ _ _ _ hx2 HAL.out)
  have HCb := Lib.hid (HCb.out.ext hx2)
  have HFb := Lib.hid (And.intro (Rs.ext RI.ext _ _ _ _ hx2 HFb.out.1) (Rs.ext RB.ext _ _ _ _ hx2 HFb.out.2))
  have HCl := Lib.hid (HCl.out.ext hx2)
  have HFl := Lib.hid (And.intro (Rs.ext RI.ext _ _ _ _ hx2 HFl.out.1) (Rs.ext RB.ext _ _ _ _ hx2 HFl.out.2))
  have HJ := Lib.hid (And.intro (Rs.ext RI.ext _ _ _ _ hx2 HJ.out.1) (RRs.ext _ _ _ _ hx2 HJ.out.2))
  obtain ⟨Xq, hXq⟩ : ∃ X, w16.heap.size = X := ⟨_, rfl⟩
  rw [hXq] at hci hcb
  try rw [hXq]
  have HRq : Hid (RRec w17 (.agg #[.int .i64 0, .slice (some ⟨Xq, 0, none⟩) 2 2, .slice (some ⟨Xq + 1, 0, none⟩) 2 2]) ⟨0, [1, 4], [1, 1]⟩) := Lib.hid ⟨_, _, rfl, rs_lit (l := [1, 4]) hci rfl (by decide), rb_lit (l := [1, 1]) hcb (by decide)⟩
  clear hci hcb hx hx2 hXq
  go_wp2_with fail
  have htx : Rs RS (w17.alloc (.cells #[.string { data := #[97] }, .string { data := #[98, 99] }] 9)) (.slice (some ⟨w17.heap.size, 0, none⟩) 2 2) [[97], [98, 99]] := rt_lit (l := [[97], [98, 99]]) (cells_new w17 #[.string { data := #[97] }, .string { data := #[98, 99] }] 9) (by decide)
  have hxa : Ext w17 (w17.alloc (.cells #[.string { data := #[97] }, .string { data := #[98, 99] }] 9)) := (Ext.refl _).alloc _
  refine (bApply_any ⟨0, [1, 4], [1, 1]⟩ [[97], [98, 99]] _ _ _ (HT.out.ext hxa) (RRec.ext _ _ _ _ hxa HRq.out) htx (by decide) (by decide) (by decide)).mono ?_
  rintro e w18 ⟨rfl, hx⟩
  rw [Rb.ex_apply.2.2.1]
  have hx2 := Ext.trans hxa hx
  have HX := Lib.hid (HX.out.trans hx2)
  have HT := Lib.hid (HT.out.ext hx2)
  have HCa := Lib.hid (HCa.out.ext hx2)
  have HFa := Lib.hid (And.intro (Rs.ext RI.ext _ _ _ _ hx2 HFa.out.1) (Rs.ext RB.ext _ _ _ _ hx2 HFa.out.2))
  have HAL := Lib.hid (RRs.ext _ _ _ _ hx2 HAL.out)
  have HCb := Lib.hid (HCb.out.ext hx2)
  have HFb := Lib.hid (And.intro (Rs.ext RI.ext _ _ _ _ hx2 HFb.out.1) (Rs.ext RB.ext _ _ _ _ hx2 HFb.out.2))
  have HCl := Lib.hid (HCl.out.ext hx2)
  have HFl := Lib.hid (And.intro (Rs.ext RI.ext _ _ _ _ hx2 HFl.out.1) (Rs.ext RB.ext _ _ _ _ hx2 HFl.out.2))
  have HJ := Lib.hid (And.intro (Rs.ext RI.ext _ _ _ _ hx2 HJ.out.1) (RRs.ext _ _ _ _ hx2 HJ.out.2))
  have HRq := Lib.hid (RRec.ext _ _ _ _ hx2 HRq.out)
  clear htx hxa hx hx2
  clear HRq
  go_upto_region 11 with fail
  go_upto_region 12 with fail
  go_wp2_with fail
  refine (recipe8_any 0 _ _ 4 4 4 4 _ _ _ rfl rfl).mono ?_
  rintro e w19 ⟨rfl, hx⟩
  have hci := (cells_new w18 #[.int .i64 1, .int .i64 2, .int .i64 3, .int .i64 6] 3).ext (((Ext.refl _).alloc (.cells #[.int .u8 2, .int .u8 4, .int .u8 8, .int .u8 1] 5)).trans hx)
  have hcb := (cells_new (w18.alloc (.cells #[.int .i64 1, .int .i64 2, .int .i64 3, .int .i64 6] 3)) #[.int .u8 2, .int .u8 4, .int .u8 8, .int .u8 1] 5).ext hx
  rw [World.size_alloc] at hcb
  have hx2 := Ext.trans ((((Ext.refl w18).alloc _).alloc _)) hx
  have HX := Lib.hid (HX.out.trans hx2)
  have HT := Lib.hid (HT.out.ext hx2)
  have HCa := Lib.hid (HCa.out.ext hx2)
  have HFa := Lib.hid (And.intro (Rs.ext RI.ext _ _ _ _ hx2 HFa.out.1) (Rs.ext RB.ext _ _ _ _ hx2 HFa.out.2))
  have HAL := Lib.hid (RRs.ext _ _ _ _ hx2 HAL.out)
  have HCb := Lib.hid (HCb.out.ext hx2)
  have HFb := Lib.hid (And.intro (Rs.ext RI.ext _ _ _ _ hx2 HFb.out.1) (Rs.ext RB.ext _ _ _ _ hx2 HFb.out.2))
  have HCl := Lib.hid (HCl.out.ext hx2)
  have HFl := Lib.hid (And.intro (Rs.ext RI.ext _ _ _ _ hx2 HFl.out.1) (Rs.ext RB.ext _ _ _ _ hx2 HFl.out.2))
  have HJ := Lib.hid (And.intro (Rs.ext RI.ext _ _ _ _ hx2 HJ.out.1) (RRs.ext _ _ _ _ hx2 HJ.out.2))
  obtain ⟨Xu, hXu⟩ : ∃ X, w18.heap.size = X := ⟨_, rfl⟩
  rw [hXu] at hci hcb
  try rw [hXu]
  have HRu : Hid (RRec w19 (.agg #[.int .i64 0, .slice (some ⟨Xu, 0, none⟩) 4 4, .slice (some ⟨Xu + 1, 0, none⟩) 4 4]) ⟨0, [1, 2, 3, 6], [2, 4, 8, 1]⟩) := Lib.hid ⟨_, _, rfl, rs_lit (l := [1, 2, 3, 6]) hci rfl (by decide), rb_lit (l := [2, 4, 8, 1]) hcb (by decide)⟩
  clear hci hcb hx hx2 hXu
  go_wp2_with fail
  refine (recipe8_any 0 _ _ 4 4 4 4 _ _ _ rfl rfl).mono ?_
  rintro e w20 ⟨rfl, hx⟩
  have hci := (cells_new w19 #[.int .i64 1, .int .i64 2, .int .i64 5, .int .i64 6] 3).ext (((Ext.refl _).alloc (.cells #[.int .u8 2, .int .u8 12, .int .u8 8, .int .u8 1] 5)).trans hx)
  have hcb := (cells_new (w19.alloc (.cells #[.int .i64 1, .int .i64 2, .int .i64 5, .int .i64 6] 3)) #[.int .u8 2, .int .u8 12, .int .u8 8, .int .u8 1] 5).ext hx
  rw [World.size_alloc] at hcb
  have hx2 := Ext.trans ((((Ext.refl w19).alloc _).alloc _)) hx
  have HX := Lib.hid (HX.out.trans hx2)
  have HT := Lib.hid (HT.out.ext hx2)
  have HCa := Lib.hid (HCa.out.ext hx2)
  have HFa := Lib.hid (And.intro (Rs.ext RI.ext _ _ _ _ hx2 HFa.out.1) (Rs.ext RB.ext _ _ _ _ hx2 HFa.out.2))
  have HAL := Lib.hid (RRs.ext _ _ _ _ hx2 HAL.out)
  have HCb := Lib.hid (HCb.out.ext hx2)
  have HFb := Lib.hid (And.intro (Rs.ext RI.ext _ _ _ _ hx2 HFb.out.1) (Rs.ext RB.ext _ _ _ _ hx2 HFb.out.2))
  have HCl := Lib.hid (HCl.out.ext hx2)
  have HFl := Lib.hid (And.intro (Rs.ext RI.ext _ _ _ _ hx2 HFl.out.1) (Rs.ext RB.ext _ _ _ _ hx2 HFl.out.2))
  have HJ := Lib.hid (And.intro (Rs.ext RI.ext _ _ _ _ hx2 HJ.out.1) (RRs.ext _ _ _ _ hx2 HJ.out.2))
  have HRu := Lib.hid (RRec.ext _ _ _ _ hx2 HRu.out)
  obtain ⟨Xx, hXx⟩ : ∃ X, w19.heap.size = X := ⟨_, rfl⟩
  rw [hXx] at hci hcb
  try rw [hXx]
  have HRx : Hid (RRec w20 (.agg #[.int .i64 0, .slice (some ⟨Xx, 0, none⟩) 4 4, .slice (some ⟨Xx + 1, 0, none⟩) 4 4]) ⟨0, [1, 2, 5, 6], [2, 12, 8, 1]⟩) := Lib.hid ⟨_, _, rfl, rs_lit (l := [1, 2, 5, 6]) hci rfl (by decide), rb_lit (l := [2, 12, 8, 1]) hcb (by decide)⟩
  clear hci hcb hx hx2 hXx
  go_wp2_with fail
  refine (recipe8_any 0 _ _ 4 4 4 4 _ _ _ rfl rfl).mono ?_
  rintro e w21 ⟨rfl, hx⟩
  have hci := (cells_new w20 #[.int .i64 1, .int .i64 3, .int .i64 5, .int .i64 6] 3).ext (((Ext.refl _).alloc (.cells #[.int .u8 2, .int .u8 12, .int .u8 4, .int .u8 1] 5)).trans hx)
  have hcb := (cells_new (w20.alloc (.cells #[.int .i64 1, .int .i64 3, .int .i64 5, .int .i64 6] 3)) #[.int .u8 2, .int .u8 12, .int .u8 4, .int .u8 1] 5).ext hx
  rw [World.size_alloc] at hcb
  have hx2 := Ext.trans ((((Ext.refl w20).alloc _).alloc _)) hx
  have HX := Lib.hid (HX.out.trans hx2)
  have HT := Lib.hid (HT.out.ext hx2)
  have HCa := Lib.hid (HCa.out.ext hx2)
  have HFa := Lib.hid (And.intro (Rs.ext RI.ext _ _ _ _ hx2 HFa.out.1) (Rs.ext RB.ext _ _ _ _ hx2 HFa.out.2))
  have HAL := Lib.hid (RRs.ext _ _ _ _ hx2 HAL.out)
  have HCb := Lib.hid (HCb.out.ext hx2)
  have HFb := Lib.hid (And.intro (Rs.ext RI.ext _ _ _ _ hx2 HFb.out.1) (Rs.ext RB.ext _ _ _ _ hx2 HFb.out.2))
  have HCl := Lib.hid (HCl.out.ext hx2)
  have HFl := Lib.hid (And.intro (Rs.ext RI.ext _ _ _ _ hx2 HFl.out.1) (Rs.ext RB.ext _ _ _ _ hx2 HFl.out.2))
  have HJ := Lib.hid (And.intro (Rs.ext RI.ext _ _ _ _ hx2 HJ.out.1) (RRs.ext _ _ _ _ hx2 HJ.out.2))
  have HRu := Lib.hid (RRec.ext _ _ _ _ hx2 HRu.out)
  have HRx := Lib.hid (RRec.ext _ _ _ _ hx2 HRx.out)
  obtain ⟨Xy, hXy⟩ : ∃ X, w20.heap.size = X := ⟨_, rfl⟩
  rw [hXy] at hci hcb
  try rw [hXy]
  have HRy : Hid (RRec w21 (.agg #[.int .i64 0, .slice (some ⟨Xy, 0, none⟩) 4 4, .slice (some ⟨Xy + 1, 0, none⟩) 4 4]) ⟨0, [1, 3, 5, 6], [2, 12, 4, 1]⟩) := Lib.hid ⟨_, _, rfl, rs_lit (l := [1, 3, 5, 6]) hci rfl (by decide), rb_lit (l := [2, 12, 4, 1]) hcb (by decide)⟩
  clear hci hcb hx hx2 hXy
  have hxa : Ext w21 (w21.alloc (.cells #[.int .i64 0, .slice (some ⟨Xu, 0, none⟩) 4 4, .slice (some ⟨Xu + 1, 0, none⟩) 4 4, .int .i64 0, .slice (some ⟨Xx, 0, none⟩) 4 4, .slice (some ⟨Xx + 1, 0, none⟩) 4 4, .int .i64 0, .slice (some ⟨Xy, 0, none⟩) 4 4, .slice (some ⟨Xy + 1, 0, none⟩) 4 4] 30)) := (Ext.refl _).alloc _
  have hlit : RRs (w21.alloc (.cells #[.int .i64 0, .slice (some ⟨Xu, 0, none⟩) 4 4, .slice (some ⟨Xu + 1, 0, none⟩) 4 4, .int .i64 0, .slice (some ⟨Xx, 0, none⟩) 4 4, .slice (some ⟨Xx + 1, 0, none⟩) 4 4, .int .i64 0, .slice (some ⟨Xy, 0, none⟩) 4 4, .slice (some ⟨Xy + 1, 0, none⟩) 4 4] 30)) (.slice (some ⟨w21.heap.size, 0, none⟩) 3 3) [⟨0, [1, 2, 3, 6], [2, 4, 8, 1]⟩, ⟨0, [1, 2, 5, 6], [2, 12, 8, 1]⟩, ⟨0, [1, 3, 5, 6], [2, 12, 4, 1]⟩] := rrs_lit (l := [(⟨0, [1, 2, 3, 6], [2, 4, 8, 1]⟩, .slice (some ⟨Xu, 0, none⟩) 4 4, .slice (some ⟨Xu + 1, 0, none⟩) 4 4), (⟨0, [1, 2, 5, 6], [2, 12, 8, 1]⟩, .slice (some ⟨Xx, 0, none⟩) 4 4, .slice (some ⟨Xx + 1, 0, none⟩) 4 4), (⟨0, [1, 3, 5, 6], [2, 12, 4, 1]⟩, .slice (some ⟨Xy, 0, none⟩) 4 4, .slice (some ⟨Xy + 1, 0, none⟩) 4 4)]) (cells_new w21 #[.int .i64 0, .slice (some ⟨Xu, 0, none⟩) 4 4, .slice (some ⟨Xu + 1, 0, none⟩) 4 4, .int .i64 0, .slice (some ⟨Xx, 0, none⟩) 4 4, .slice (some ⟨Xx + 1, 0, none⟩) 4 4, .int .i64 0, .slice (some ⟨Xy, 0, none⟩) 4 4, .slice (some ⟨Xy + 1, 0, none⟩) 4 4] 30) (fun y hy => by
    simp only [List.mem_cons, List.not_mem_nil, or_false] at hy
    rcases hy with rfl | rfl | rfl
    · exact rec_rows (RRec.ext _ _ _ _ hxa HRu.out)
    · exact rec_rows (RRec.ext _ _ _ _ hxa HRx.out)
    · exact rec_rows (RRec.ext _ _ _ _ hxa HRy.out)
    ) (by simp)
  go_upto_region 13 with fail
  have HFAR := Lib.hid hlit
  have hcf := cells_new w21 #[.int .i64 0, .slice (some ⟨Xu, 0, none⟩) 4 4, .slice (some ⟨Xu + 1, 0, none⟩) 4 4, .int .i64 0, .slice (some ⟨Xx, 0, none⟩) 4 4, .slice (some ⟨Xx + 1, 0, none⟩) 4 4, .int .i64 0, .slice (some ⟨Xy, 0, none⟩) 4 4, .slice (some ⟨Xy + 1, 0, none⟩) 4 4] 30
  have HC0 : Hid (Cells (w21.alloc (.cells #[.int .i64 0, .slice (some ⟨Xu, 0, none⟩) 4 4, .slice (some ⟨Xu + 1, 0, none⟩) 4 4, .int .i64 0, .slice (some ⟨Xx, 0, none⟩) 4 4, .slice (some ⟨Xx + 1, 0, none⟩) 4 4, .int .i64 0, .slice (some ⟨Xy, 0, none⟩) 4 4, .slice (some ⟨Xy + 1, 0, none⟩) 4 4] 30)) w21.heap.size [.int .i64 0, .slice (some ⟨Xu, 0, none⟩) 4 4, .slice (some ⟨Xu + 1, 0, none⟩) 4 4]) := Lib.hid fun i v hi => hcf i v (by
    match i, hi with
    | 0, hi => exact hi
    | 1, hi => exact hi
    | 2, hi => exact hi
    | i + 3, hi => simp at hi)
  have HX := Lib.hid (HX.out.trans hxa)
  have HT := Lib.hid (HT.out.ext hxa)
  have HCa := Lib.hid (HCa.out.ext hxa)
  have HFa := Lib.hid (And.intro (Rs.ext RI.ext _ _ _ _ hxa HFa.out.1) (Rs.ext RB.ext _ _ _ _ hxa HFa.out.2))
  have HAL := Lib.hid (RRs.ext _ _ _ _ hxa HAL.out)
  have HCb := Lib.hid (HCb.out.ext hxa)
  have HFb := Lib.hid (And.intro (Rs.ext RI.ext _ _ _ _ hxa HFb.out.1) (Rs.ext RB.ext _ _ _ _ hxa HFb.out.2))
  have HCl := Lib.hid (HCl.out.ext hxa)
  have HFl := Lib.hid (And.intro (Rs.ext RI.ext _ _ _ _ hxa HFl.out.1) (Rs.ext RB.ext _ _ _ _ hxa HFl.out.2))
  have HJ := Lib.hid (And.intro (Rs.ext RI.ext _ _ _ _ hxa HJ.out.1) (RRs.ext _ _ _ _ hxa HJ.out.2))
  have HRu := Lib.hid (RRec.ext _ _ _ _ hxa HRu.out)
  have HRx := Lib.hid (RRec.ext _ _ _ _ hxa HRx.out)
  have HRy := Lib.hid (RRec.ext _ _ _ _ hxa HRy.out)
  obtain ⟨XF, hXF⟩ : ∃ X, w21.heap.size = X := ⟨_, rfl⟩
  rw [hXF] at HFAR HC0
  try rw [hXF]
  obtain ⟨ws, hws⟩ : ∃ x, w21.alloc (.cells #[.int .i64 0, .slice (some ⟨Xu, 0, none⟩) 4 4, .slice (some ⟨Xu + 1, 0, none⟩) 4 4, .int .i64 0, .slice (some ⟨Xx, 0, none⟩) 4 4, .slice (some ⟨Xx + 1, 0, none⟩) 4 4, .int .i64 0, .slice (some ⟨Xy, 0, none⟩) 4 4, .slice (some ⟨Xy + 1, 0, none⟩) 4 4] 30) = x := ⟨_, rfl⟩
  rw [hws] at HFAR HC0 HX HT HCa HFa HAL HCb HFb HCl HFl HJ HRu HRx HRy ⊢
  clear hcf hlit hxa hws hXF
  refine wp_atEnd' (san_near Qa Qb Ql XF cL LA FAa CAa FAb CAb FAl CAl (some ⟨Xu, 0, none⟩) (some ⟨Xu + 1, 0, none⟩) fca cca fcb ccb fcl ccl 4 4 ws HCa.out HCb.out HCl.out HC0.out ⟨_, _, rfl, HFa.out.1, HFa.out.2⟩ ⟨_, _, rfl, HFb.out.1, HFb.out.2⟩ ⟨_, _, rfl, HFl.out.1, HFl.out.2⟩ HRu.out HAL.out HFAR.out _ _ _ _ _ _ _ _ _ _ _ _ _ _ _ _ _ _ _ _ _ _ _ _ _ _ _ _ _ _ _ _ _ _ _ _ _ _ _ _ _ _ _ _ _ _ _ _ _ _ _ _ _ _ _ _ _ _ _ _ _ _ _ _ _ _ _ _ _ _ _ _ _ _ _ _ _ _ _ _ _ _ _ _ _ _ _ _ _ _ _ _ _ _ _ _ _ _ _ _ _ _ _ _ _ _ _ _ _ _ _ _ _ _ _ _ _ _ _ _ _ _ _ _ _ _ _ _ _ _ _ _ _ _ _ _ _ _ _ _ _ _ _ _ _ _ _ _ _ _ _ _ _ _ _ _ _ _ _ _ _ _ _ _ _ _ _ _ _ _ _ ?_)
  rintro u121 u122 u123 u124 u125 u126 u127 u128 u129 u130 u131 u132 u133 u134 u135 u136 u137 u138 u139 u140 u141 u142 u143 u144 wx hx
  have HX := Lib.hid (HX.out.trans hx)
  have HT := Lib.hid (HT.out.ext hx)
  have HCa := Lib.hid (HCa.out.ext hx)
  have HFa := Lib.hid (And.intro (Rs.ext RI.ext _ _ _ _ hx HFa.out.1) (Rs.ext RB.ext _ _ _ _ hx HFa.out.2))
  have HJ := Lib.hid (And.intro (Rs.ext RI.ext _ _ _ _ hx HJ.out.1) (RRs.ext _ _ _ _ hx HJ.out.2))
  clear hx
  go_wp2_with fail
  have hxa : Ext wx (wx.alloc (.cells #[.int .i64 1, .int .i64 3, .int .i64 4, .int .i64 5] 3)) := (Ext.refl _).alloc _
  have htx : Rs RI (wx.alloc (.cells #[.int .i64 1, .int .i64 3, .int .i64 4, .int .i64 5] 3)) (.slice (some ⟨wx.heap.size, 0, none⟩) 4 4) [1, 3, 4, 5] := rs_lit (l := [1, 3, 4, 5]) (cells_new wx #[.int .i64 1, .int .i64 3, .int .i64 4, .int .i64 5] 3) rfl (by decide)
  refine (sList8_any [1, 3, 4, 5] [1, 3, 4, 5] _ _ _ (Rs.ext RI.ext _ _ _ _ hxa HJ.out.1) htx).mono ?_
  rintro e wa ⟨rfl, hx⟩
  rw [decide_eq_true rfl]
  have hx2 := Ext.trans hxa hx
  have HX := Lib.hid (HX.out.trans hx2)
  have HT := Lib.hid (HT.out.ext hx2)
  have HCa := Lib.hid (HCa.out.ext hx2)
  have HFa := Lib.hid (And.intro (Rs.ext RI.ext _ _ _ _ hx2 HFa.out.1) (Rs.ext RB.ext _ _ _ _ hx2 HFa.out.2))
  have HJ := Lib.hid (And.intro (Rs.ext RI.ext _ _ _ _ hx2 HJ.out.1) (RRs.ext _ _ _ _ hx2 HJ.out.2))
  clear hxa htx hx hx2
  go_wp2_with fail
  refine (recipe8_any 0 _ _ 2 2 2 2 _ _ _ rfl rfl).mono ?_
  rintro e w22 ⟨rfl, hx⟩
  have hci := (cells_new wa #[.int .i64 1, .int .i64 4] 3).ext (((Ext.refl _).alloc (.cells #[.int .u8 1, .int .u8 1] 5)).trans hx)
  have hcb := (cells_new (wa.alloc (.cells #[.int .i64 1, .int .i64 4] 3)) #[.int .u8 1, .int .u8 1] 5).ext hx
  rw [World.size_alloc] at hcb
  have hx2 := Ext.trans ((((Ext.refl wa).alloc _).alloc _)) hx
  have HX := Lib.hid (HX.out.trans hx2)
  have HT := Lib.hid (HT.out.ext hx2)
  have HCa := Lib.hid (HCa.out.ext hx2)
  have HFa := Lib.hid (And.intro (Rs.ext RI.ext _ _ _ _ hx2 HFa.out.1) (Rs.ext RB.ext _ _ _ _ hx2 HFa.out.2))
  have HJ := Lib.hid (And.intro (Rs.ext RI.ext _ _ _ _ hx2 HJ.out.1) (RRs.ext _ _ _ _ hx2 HJ.out.2))
  obtain ⟨Xv, hXv⟩ : ∃ X, wa.heap.size = X := ⟨_, rfl⟩
  rw [hXv] at hci hcb
  try rw [hXv]
  have HRv : Hid (RRec w22 (.agg #[.int .i64 0, .slice (some ⟨Xv, 0, none⟩) 2 2, .slice (some ⟨Xv + 1, 0, none⟩) 2 2]) ⟨0, [1, 4], [1, 1]⟩) := Lib.hid ⟨_, _, rfl, rs_lit (l := [1, 4]) hci rfl (by decide), rb_lit (l := [1, 1]) hcb (by decide)⟩
  clear hci hcb hx hx2 hXv
  go_wp2_with fail
  refine (recipe8_any 2 _ _ 2 2 2 2 _ _ _ rfl rfl).mono ?_
  rintro e w23 ⟨rfl, hx⟩
  have hci := (cells_new w22 #[.int .i64 3, .int .i64 5] 3).ext (((Ext.refl _).alloc (.cells #[.int .u8 1, .int .u8 1] 5)).trans hx)
  have hcb := (cells_new (w22.alloc (.cells #[.int .i64 3, .int .i64 5] 3)) #[.int .u8 1, .int .u8 1] 5).ext hx
  rw [World.size_alloc] at hcb
  have hx2 := Ext.trans ((((Ext.refl w22).alloc _).alloc _)) hx
  have HX := Lib.hid (HX.out.trans hx2)
  have HT := Lib.hid (HT.out.ext hx2)
  have HCa := Lib.hid (HCa.out.ext hx2)
  have HFa := Lib.hid (And.intro (Rs.ext RI.ext _ _ _ _ hx2 HFa.out.1) (Rs.ext RB.ext _ _ _ _ hx2 HFa.out.2))
  have HJ := Lib.hid (And.intro (Rs.ext RI.ext _ _ _ _ hx2 HJ.out.1) (RRs.ext _ _ _ _ hx2 HJ.out.2))
  have HRv := Lib.hid (RRec.ext _ _ _ _ hx2 HRv.out)
  obtain ⟨Xt, hXt⟩ : ∃ X, w22.heap.size = X := ⟨_, rfl⟩
  rw [hXt] at hci hcb
  try rw [hXt]
  have HRt : Hid (RRec w23 (.agg #[.int .i64 2, .slice (some ⟨Xt, 0, none⟩) 2 2, .slice (some ⟨Xt + 1, 0, none⟩) 2 2]) ⟨2, [3, 5], [1, 1]⟩) := Lib.hid ⟨_, _, rfl, rs_lit (l := [3, 5]) hci rfl (by decide), rb_lit (l := [1, 1]) hcb (by decide)⟩
  clear hci hcb hx hx2 hXt
  go_wp2_with fail
  have hxa : Ext w23 (w23.alloc (.cells #[.int .i64 0, .slice (some ⟨Xv, 0, none⟩) 2 2, .slice (some ⟨Xv + 1, 0, none⟩) 2 2, .int .i64 2, .slice (some ⟨Xt, 0, none⟩) 2 2, .slice (some ⟨Xt + 1, 0, none⟩) 2 2] 30)) := (Ext.refl _).alloc _
  have hlit : RRs (w23.alloc (.cells #[.int .i64 0, .slice (some ⟨Xv, 0, none⟩) 2 2, .slice (some ⟨Xv + 1, 0, none⟩) 2 2, .int .i64 2, .slice (some ⟨Xt, 0, none⟩) 2 2, .slice (some ⟨Xt + 1, 0, none⟩) 2 2] 30)) (.slice (some ⟨w23.heap.size, 0, none⟩) 2 2) [⟨0, [1, 4], [1, 1]⟩, ⟨2, [3, 5], [1, 1]⟩] := rrs_lit (l := [(⟨0, [1, 4], [1, 1]⟩, .slice (some ⟨Xv, 0, none⟩) 2 2, .slice (some ⟨Xv + 1, 0, none⟩) 2 2), (⟨2, [3, 5], [1, 1]⟩, .slice (some ⟨Xt, 0, none⟩) 2 2, .slice (some ⟨Xt + 1, 0, none⟩) 2 2)]) (cells_new w23 #[.int .i64 0, .slice (some ⟨Xv, 0, none⟩) 2 2, .slice (some ⟨Xv + 1, 0, none⟩) 2 2, .int .i64 2, .slice (some ⟨Xt, 0, none⟩) 2 2, .slice (some ⟨Xt + 1, 0, none⟩) 2 2] 30) (fun y hy => by
    simp only [List.mem_cons, List.not_mem_nil, or_false] at hy
    rcases hy with rfl | rfl
    · exact rec_rows (RRec.ext _ _ _ _ hxa HRv.out)
    · exact rec_rows (RRec.ext _ _ _ _ hxa HRt.out)
    ) (by simp)
  refine (sSameAll_self [⟨0, [1, 4], [1, 1]⟩, ⟨2, [3, 5], [1, 1]⟩] _ _ _ (RRs.ext _ _ _ _ hxa HJ.out.2) hlit).mono ?_
  rintro e wb ⟨rfl, hx⟩
  have hx2 := Ext.trans hxa hx
  have HX := Lib.hid (HX.out.trans hx2)
  have HT := Lib.hid (HT.out.ext hx2)
  have HCa := Lib.hid (HCa.out.ext hx2)
  have HFa := Lib.hid (And.intro (Rs.ext RI.ext _ _ _ _ hx2 HFa.out.1) (Rs.ext RB.ext _ _ _ _ hx2 HFa.out.2))
  have HJ := Lib.hid (And.intro (Rs.ext RI.ext _ _ _ _ hx2 HJ.out.1) (RRs.ext _ _ _ _ hx2 HJ.out.2))
  have HRv := Lib.hid (RRec.ext _ _ _ _ hx2 HRv.out)
  have HRt := Lib.hid (RRec.ext _ _ _ _ hx2 HRt.out)
  clear hxa hlit hx hx2
  have q0 : wb.cell? ⟨Qa, 0, none⟩ = some (.int .i64 0) := HCa.out 0 _ rfl
  have q1 : wb.cell? ⟨Qa, 1, none⟩ = some (.slice FAa 2 fca) := HCa.out 1 _ rfl
  have q2 : wb.cell? ⟨Qa, 2, none⟩ = some (.slice CAa 2 cca) := HCa.out 2 _ rfl
  go_wp2_with fail
  refine (bCheck_any ⟨0, [1, 4], [1, 1]⟩ _ _ ⟨_, _, rfl, HFa.out.1, HFa.out.2⟩ (by decide)).mono ?_
  rintro e wc ⟨rfl, hx⟩
  rw [Rb.ex_apply.2.2.2]
  have HX := Lib.hid (HX.out.trans hx)
  clear hx q0 q1 q2
  go_wp2_with fail
  go_ret
  exact ⟨rfl, HX.out⟩
end Go.Proofs.YtdmljilcbndmfaaDoor

/- REBUILD IS MONOTONE: the walk. -/
namespace Go.Proofs.YtdmljilcbndmfaaDoor
open Go.RowKit Go.Shelf
set_option maxHeartbeats 8000000 in
set_option maxRecDepth 100000 in
theorem law_mono (d gl lost piece other : Int) (gs : List (List Int)) (data : List UInt8) (G : Value) (w : World) (hT : Tab w) (hG : Rs (Rs RI) w G gs) (hn : gs.length ≤ 4611686018427387904) :
    Calls Tryd.prog 7 #[.agg #[.int .i64 d, G, .int .i64 gl, .string (sb data), .int .i64 lost, .int .i64 piece, .int .i64 other]] w fun e w' => e = .returned (.bool true) ∧ Ext w w' := by
  obtain ⟨A, c, rfl, hl⟩ := hG.form
  have hx0 := (Ext.refl w).alloc (.cells #[.int .i64 d, .slice A gs.length c, .int .i64 gl, .string (sb data), .int .i64 lost, .int .i64 piece, .int .i64 other] 63)
  have HX := Lib.hid hx0
  have HT := Lib.hid (hT.ext hx0)
  have HG := Lib.hid (Rs.ext (Rs.ext RI.ext) _ _ _ _ hx0 hG)
  have HN := Lib.hid hn
  have HB := Lib.hid (cells_new w #[.int .i64 d, .slice A gs.length c, .int .i64 gl, .string (sb data), .int .i64 lost, .int .i64 piece, .int .i64 other] 63)
  have hm := small_any d gl lost piece other gs data 12 _ _ HG.out HN.out (by decide)
  clear hT hG hx0 hn
  go_enter Tryd.func7, Tryd.ntmps7
  go_wp2_with fail
  refine hm.mono ?_
  clear hm
  rintro e w1 ⟨rfl, hx1⟩
  replace HX := Lib.hid ((HX.out).trans hx1)
  replace HT := Lib.hid ((HT.out).ext hx1)
  replace HG := Lib.hid (Rs.ext (Rs.ext RI.ext) _ _ _ _ hx1 (HG.out))
  replace HB := Lib.hid ((HB.out).ext hx1)
  clear hx1
  by_cases hs : Rb.Small d gl gs data lost piece other (12 : Nat)
  case neg =>
    rw [decide_eq_false hs]
    clear hs
    go_wp2_with fail
    refine (sanity_any w1 HT.out).mono ?_
    rintro e w901 ⟨rfl, hxs⟩
    have HXS := Lib.hid (HX.out.trans hxs)
    clear hxs
    go_wp2_with fail
    go_ret
    exact ⟨rfl, HXS.out⟩
  case pos =>
  rw [decide_eq_true hs]
  obtain ⟨hck, hpc, hn0, hnm, ⟨L, P, O, rfl, rfl, rfl, hL, hO, hP⟩, hdl, hgl⟩ := Rb.small_open hs
  clear hs
  obtain ⟨n, hnn⟩ : ∃ n, (Cd.rowsOf d gs gl).length = n := ⟨_, rfl⟩
  rw [hnn] at hpc hn0 hnm hL hO hP
  have hn24 : n ≤ 12 := by omega
  have hM1 : 2 ^ n ≤ 4096 := show 2 ^ n ≤ 2 ^ 12 from Nat.pow_le_pow_right (by decide) (by omega)
  have hL2 : L < 4096 := by omega
  have hO2 : O < 4096 := by omega
  have HCK := Lib.hid hck
  have HPC := Lib.hid hpc
  have HNN := Lib.hid hnn
  have HLO := Lib.hid (And.intro hL hO)
  have HGN := Lib.hid hgl
  clear hck hpc hnn hL hO hM1 hgl hl
  have hE := Rb.err1_in (d := d) (gl := gl) (gs := gs) (lost := (L : Nat)) (piece := (P : Nat)) HCK.out (by rw [HNN.out]; omega) (by omega) (by rw [HNN.out]; have := HLO.out.1; omega) (by omega) (by rw [HNN.out]; omega)
  have hla : L &&& O < 2 ^ n := Nat.lt_of_le_of_lt Nat.and_le_left HLO.out.1
  have hE2 := Rb.err1_in (d := d) (gl := gl) (gs := gs) (lost := ((L &&& O : Nat) : Int)) (piece := (P : Nat)) HCK.out (by rw [HNN.out]; omega) (by omega) (by rw [HNN.out]; omega) (by omega) (by rw [HNN.out]; omega)
  have hE0 := Rb.err1_in (d := d) (gl := gl) (gs := gs) (lost := 0) (piece := (P : Nat)) HCK.out (by rw [HNN.out]; omega) (by omega) (by rw [HNN.out]; have := Nat.one_le_two_pow (n := n); omega) (by omega) (by rw [HNN.out]; omega)
  have HE := Lib.hid (And.intro hE.2 (And.intro hE2.2 hE0.2))
  have hand : bits .and .i64 (L : Int) (O : Int) = ((L &&& O : Nat) : Int) := and64 L O (by omega) (by omega)
  have hmn := fun he => Rb.best_mono (d := d) (gl := gl) (gs := gs) HCK.out hE.2 hE2.2 (fun k hk => by rw [Int.toNat_natCast] at hk ⊢; exact Rb.bit_and hk) he
  have HMN := Lib.hid hmn
  have h2w := Rb.leastE_two hE.2
  obtain ⟨Y, hY⟩ : ∃ Y, L &&& O = Y := ⟨_, rfl⟩
  rw [hY] at hand HE HMN
  clear hE hE2 hE0 hla hmn hY
  have b0 : w1.cell? ⟨w.heap.size, 0, none⟩ = some (.int .i64 d) := HB.out 0 _ rfl
  have b1 : w1.cell? ⟨w.heap.size, 1, none⟩ = some (.slice A gs.length c) := HB.out 1 _ rfl
  have b2 : w1.cell? ⟨w.heap.size, 2, none⟩ = some (.int .i64 gl) := HB.out 2 _ rfl
  have b3 : w1.cell? ⟨w.heap.size, 3, none⟩ = some (.string (sb data)) := HB.out 3 _ rfl
  have b4 : w1.cell? ⟨w.heap.size, 4, none⟩ = some (.int .i64 (L : Nat)) := HB.out 4 _ rfl
  have b5 : w1.cell? ⟨w.heap.size, 5, none⟩ = some (.int .i64 (P : Nat)) := HB.out 5 _ rfl
  have b6 : w1.cell? ⟨w.heap.size, 6, none⟩ = some (.int .i64 (O : Nat)) := HB.out 6 _ rfl
  go_wp2_with fail
  clear b0 b1 b2 b3 b4 b5 b6
  refine (bBest_any d gl gs (L : Nat) (P : Nat) _ _ HT.out HG.out).mono ?_
  rintro e w2a ⟨v, rfl, hv, hx⟩
  obtain ⟨FR, CR, rfl, hF, hC⟩ := hv
  obtain ⟨FAR, fcR, rfl, hlR⟩ := hF.form
  obtain ⟨CAR, ccR, rfl, _⟩ := hC.form
  obtain ⟨rR, hrR⟩ : ∃ r, Rb.bestR d gl gs (L : Nat) (P : Nat) = r := ⟨_, rfl⟩
  rw [hrR] at hF hC
  try rw [hrR]
  have HRR := Lib.hid hrR
  obtain ⟨nR, hnR⟩ : ∃ n, rR.src.length = n := ⟨_, rfl⟩
  obtain ⟨mR, hmR⟩ : ∃ m, rR.coef.length = m := ⟨_, rfl⟩
  obtain ⟨pR, hpR⟩ : ∃ m, rR.piece = m := ⟨_, rfl⟩
  rw [hrR, hnR] at hlR
  rw [hnR] at hF
  rw [hmR] at hC
  try rw [hnR]
  try rw [hmR]
  try rw [hpR]
  have HSR := Lib.hid (And.intro hnR (And.intro hmR hpR))
  have hxa : Ext w2a (w2a.alloc (.cells #[.int .i64 pR, .slice FAR nR fcR, .slice CAR mR ccR] 30)) := (Ext.refl w2a).alloc _
  have hx2 := hx.trans hxa
  replace HX := Lib.hid ((HX.out).trans hx2)
  replace HT := Lib.hid ((HT.out).ext hx2)
  replace HG := Lib.hid (Rs.ext (Rs.ext RI.ext) _ _ _ _ hx2 (HG.out))
  replace HB := Lib.hid ((HB.out).ext hx2)
  clear hx2
  have HCR := Lib.hid (cells_new w2a #[.int .i64 pR, .slice FAR nR fcR, .slice CAR mR ccR] 30)
  have HFR := Lib.hid (And.intro (Rs.ext RI.ext _ _ _ _ hxa hF) (Rs.ext RB.ext _ _ _ _ hxa hC))
  clear hF hC hx hxa hrR hnR hmR hpR
  go_upto_region 4 with fail
  obtain ⟨QR, hQ⟩ : ∃ Q, w2a.heap.size = Q := ⟨_, rfl⟩
  rw [hQ] at HCR
  try rw [hQ]
  obtain ⟨w2, hw⟩ : ∃ x, w2a.alloc (.cells #[.int .i64 pR, .slice FAR nR fcR, .slice CAR mR ccR] 30) = x := ⟨_, rfl⟩
  rw [hw] at HX HT HG HB HCR HFR ⊢
  clear hw
  clear hQ
  obtain ⟨E, hE⟩ : ∃ E, Rb.leastE d gl gs (L : Nat) (P : Nat) = E := ⟨_, rfl⟩
  rw [hE] at h2w ⊢
  have HEE := Lib.hid hE
  clear hE
  have b0 : w2.cell? ⟨w.heap.size, 0, none⟩ = some (.int .i64 d) := HB.out 0 _ rfl
  have b1 : w2.cell? ⟨w.heap.size, 1, none⟩ = some (.slice A gs.length c) := HB.out 1 _ rfl
  have b2 : w2.cell? ⟨w.heap.size, 2, none⟩ = some (.int .i64 gl) := HB.out 2 _ rfl
  have b3 : w2.cell? ⟨w.heap.size, 3, none⟩ = some (.string (sb data)) := HB.out 3 _ rfl
  have b4 : w2.cell? ⟨w.heap.size, 4, none⟩ = some (.int .i64 (L : Nat)) := HB.out 4 _ rfl
  have b5 : w2.cell? ⟨w.heap.size, 5, none⟩ = some (.int .i64 (P : Nat)) := HB.out 5 _ rfl
  have b6 : w2.cell? ⟨w.heap.size, 6, none⟩ = some (.int .i64 (O : Nat)) := HB.out 6 _ rfl
  go_wp2_with fail
  clear b0 b1 b2 b3 b4 b5 b6 hand
  refine (bBest_any d gl gs (Y : Nat) (P : Nat) _ _ HT.out HG.out).mono ?_
  rintro e w3a ⟨v, rfl, hv, hx⟩
  obtain ⟨FS, CS, rfl, hF, hC⟩ := hv
  obtain ⟨FAS, fcS, rfl, hlS⟩ := hF.form
  obtain ⟨CAS, ccS, rfl, _⟩ := hC.form
  obtain ⟨rS, hrS⟩ : ∃ r, Rb.bestR d gl gs (Y : Nat) (P : Nat) = r := ⟨_, rfl⟩
  rw [hrS] at hF hC
  try rw [hrS]
  have HRS := Lib.hid hrS
  obtain ⟨nS, hnS⟩ : ∃ n, rS.src.length = n := ⟨_, rfl⟩
  obtain ⟨mS, hmS⟩ : ∃ m, rS.coef.length = m := ⟨_, rfl⟩
  obtain ⟨pS, hpS⟩ : ∃ m, rS.piece = m := ⟨_, rfl⟩
  rw [hrS, hnS] at hlS
  rw [hnS] at hF
  rw [hmS] at hC
  try rw [hnS]
  try rw [hmS]
  try rw [hpS]
  have HSS := Lib.hid (And.intro hnS (And.intro hmS hpS))
  have hxa : Ext w3a (w3a.alloc (.cells #[.int .i64 pS, .slice FAS nS fcS, .slice CAS mS ccS] 30)) := (Ext.refl w3a).alloc _
  have hx2 := hx.trans hxa
  replace HX := Lib.hid ((HX.out).trans hx2)
  replace HT := Lib.hid ((HT.out).ext hx2)
  replace HG := Lib.hid (Rs.ext (Rs.ext RI.ext) _ _ _ _ hx2 (HG.out))
  replace HB := Lib.hid ((HB.out).ext hx2)
  replace HCR := Lib.hid ((HCR.out).ext hx2)
  replace HFR := Lib.hid (And.intro (Rs.ext RI.ext _ _ _ _ hx2 (HFR.out).1) (Rs.ext RB.ext _ _ _ _ hx2 (HFR.out).2))
  clear hx2
  have HCS := Lib.hid (cells_new w3a #[.int .i64 pS, .slice FAS nS fcS, .slice CAS mS ccS] 30)
  have HFS := Lib.hid (And.intro (Rs.ext RI.ext _ _ _ _ hxa hF) (Rs.ext RB.ext _ _ _ _ hxa hC))
  clear hF hC hx hxa hrS hnS hmS hpS
  go_upto_region 5 with fail
  obtain ⟨QS, hQ⟩ : ∃ Q, w3a.heap.size = Q := ⟨_, rfl⟩
  rw [hQ] at HCS
  try rw [hQ]
  obtain ⟨w3, hw⟩ : ∃ x, w3a.alloc (.cells #[.int .i64 pS, .slice FAS nS fcS, .slice CAS mS ccS] 30) = x := ⟨_, rfl⟩
  rw [hw] at HX HT HG HB HCR HFR HCS HFS ⊢
  clear hw
  clear hQ
  obtain ⟨E2, hE2⟩ : ∃ E, Rb.leastE d gl gs (Y : Nat) (P : Nat) = E := ⟨_, rfl⟩
  rw [hE2]
  have hmn := HMN.out
  rw [HEE.out, hE2, HRR.out, HRS.out, HSR.out.1, HSS.out.1] at hmn
  clear hE2 HMN
  rcases h2w with rfl | rfl
  case inl =>
    obtain ⟨rfl, hle2⟩ := hmn rfl
    clear hmn
    have q1 : w3.cell? ⟨QR, 1, none⟩ = some (.slice FAR nR fcR) := HCR.out 1 _ rfl
    have y1 : w3.cell? ⟨QS, 1, none⟩ = some (.slice FAS nS fcS) := HCS.out 1 _ rfl
    go_upto_region 7 with fail
    clear q1 y1
    have b0 : w3.cell? ⟨w.heap.size, 0, none⟩ = some (.int .i64 d) := HB.out 0 _ rfl
    have b1 : w3.cell? ⟨w.heap.size, 1, none⟩ = some (.slice A gs.length c) := HB.out 1 _ rfl
    have b2 : w3.cell? ⟨w.heap.size, 2, none⟩ = some (.int .i64 gl) := HB.out 2 _ rfl
    have b5 : w3.cell? ⟨w.heap.size, 5, none⟩ = some (.int .i64 (P : Nat)) := HB.out 5 _ rfl
    go_wp2_with fail
    clear b0 b1 b2 b5
    refine (bLocal_any d gl gs (P : Nat) _ _ HT.out HG.out).mono ?_
    rintro e w4a ⟨v, rfl, hv, hx⟩
    obtain ⟨FT, CT, rfl, hF, hC⟩ := hv
    obtain ⟨FAT, fcT, rfl, hlT⟩ := hF.form
    obtain ⟨CAT, ccT, rfl, _⟩ := hC.form
    obtain ⟨rT, hrT⟩ : ∃ r, Rb.localR d gl gs (P : Nat) = r := ⟨_, rfl⟩
    rw [hrT] at hF hC
    try rw [hrT]
    have HRT := Lib.hid hrT
    obtain ⟨nT, hnT⟩ : ∃ n, rT.src.length = n := ⟨_, rfl⟩
    obtain ⟨mT, hmT⟩ : ∃ m, rT.coef.length = m := ⟨_, rfl⟩
    obtain ⟨pT, hpT⟩ : ∃ m, rT.piece = m := ⟨_, rfl⟩
    rw [hrT, hnT] at hlT
    rw [hnT] at hF
    rw [hmT] at hC
    try rw [hnT]
    try rw [hmT]
    try rw [hpT]
    have HST := Lib.hid (And.intro hnT (And.intro hmT hpT))
    have hxa : Ext w4a (w4a.alloc (.cells #[.int .i64 pT, .slice FAT nT fcT, .slice CAT mT ccT] 30)) := (Ext.refl w4a).alloc _
    have hx2 := hx.trans hxa
    replace HX := Lib.hid ((HX.out).trans hx2)
    replace HT := Lib.hid ((HT.out).ext hx2)
    replace HG := Lib.hid (Rs.ext (Rs.ext RI.ext) _ _ _ _ hx2 (HG.out))
    replace HB := Lib.hid ((HB.out).ext hx2)
    replace HCR := Lib.hid ((HCR.out).ext hx2)
    replace HFR := Lib.hid (And.intro (Rs.ext RI.ext _ _ _ _ hx2 (HFR.out).1) (Rs.ext RB.ext _ _ _ _ hx2 (HFR.out).2))
    replace HCS := Lib.hid ((HCS.out).ext hx2)
    replace HFS := Lib.hid (And.intro (Rs.ext RI.ext _ _ _ _ hx2 (HFS.out).1) (Rs.ext RB.ext _ _ _ _ hx2 (HFS.out).2))
    clear hx2
    have HCT := Lib.hid (cells_new w4a #[.int .i64 pT, .slice FAT nT fcT, .slice CAT mT ccT] 30)
    have HFT := Lib.hid (And.intro (Rs.ext RI.ext _ _ _ _ hxa hF) (Rs.ext RB.ext _ _ _ _ hxa hC))
    clear hF hC hx hxa hrT hnT hmT hpT
    go_upto_region 8 with fail
    obtain ⟨QT, hQ⟩ : ∃ Q, w4a.heap.size = Q := ⟨_, rfl⟩
    rw [hQ] at HCT
    try rw [hQ]
    obtain ⟨w4, hw⟩ : ∃ x, w4a.alloc (.cells #[.int .i64 pT, .slice FAT nT fcT, .slice CAT mT ccT] 30) = x := ⟨_, rfl⟩
    rw [hw] at HX HT HG HB HCR HFR HCS HFS HCT HFT ⊢
    clear hw
    clear hQ
    obtain ⟨g, hg⟩ : ∃ g, Rb.localE d gl gs (P : Nat) = g := ⟨_, rfl⟩
    rw [hg]
    have h2l := Rb.local_two HCK.out HE.out.2.2
    rw [hg, HRT.out] at h2l
    clear hg
    rcases h2l with rfl | ⟨rfl, i, hi, hpi, hsrc⟩
    case inl =>
      go_wp2_with fail
      refine (sanity_any w4 HT.out).mono ?_
      rintro e w1101 ⟨rfl, hxs⟩
      have HXS := Lib.hid (HX.out.trans hxs)
      clear hxs
      go_wp2_with fail
      go_ret
      exact ⟨rfl, HXS.out⟩
    case inr =>
      have HSR2 := Lib.hid hsrc
      have hbk : ∀ x ∈ rT.src, 0 ≤ x ∧ x < (n : Int) := by
        intro x hx
        rw [HSR2.out] at hx
        have := Rb.group_bounds HCK.out hi (List.erase_subset hx)
        rw [HNN.out] at this
        exact this
      have HBK := Lib.hid hbk
      have hln := HST.out.1
      have HI := Lib.hid (And.intro hi hpi)
      clear hsrc hbk hi hpi
      have q1 : w4.cell? ⟨QT, 1, none⟩ = some (.slice FAT nT fcT) := HCT.out 1 _ rfl
      go_wp2_with fail
      clear q1
      go_loopw [71] (fun vj wr => ∃ j : Nat, j ≤ nT ∧ vj = .int .i64 (j : Nat) ∧ Hid (Ext w4 wr ∧ ∀ i, i < j → Cd.bitAt L (rT.src.getD i 0).toNat = 0)) (fun vj _ => nT - (intOf vj).toNat)
      case atStart => exact ⟨0, Nat.zero_le _, rfl, Lib.hid ⟨Ext.refl _, fun i hi => absurd hi (by omega)⟩⟩
      case round =>
        obtain ⟨j, hj, rfl, HR⟩ := hrel
        have hxr := HR.out.1
        replace HX := Lib.hid ((HX.out).trans hxr)
        replace HT := Lib.hid ((HT.out).ext hxr)
        replace HG := Lib.hid (Rs.ext (Rs.ext RI.ext) _ _ _ _ hxr (HG.out))
        replace HB := Lib.hid ((HB.out).ext hxr)
        replace HCR := Lib.hid ((HCR.out).ext hxr)
        replace HFR := Lib.hid (And.intro (Rs.ext RI.ext _ _ _ _ hxr (HFR.out).1) (Rs.ext RB.ext _ _ _ _ hxr (HFR.out).2))
        replace HCS := Lib.hid ((HCS.out).ext hxr)
        replace HFS := Lib.hid (And.intro (Rs.ext RI.ext _ _ _ _ hxr (HFS.out).1) (Rs.ext RB.ext _ _ _ _ hxr (HFS.out).2))
        replace HCT := Lib.hid ((HCT.out).ext hxr)
        replace HFT := Lib.hid (And.intro (Rs.ext RI.ext _ _ _ _ hxr (HFT.out).1) (Rs.ext RB.ext _ _ _ _ hxr (HFT.out).2))
        clear hxr
        by_cases hlt : j < nT
        case pos =>
          have hjs : j < rT.src.length := by omega
          obtain ⟨ad, u, rfl, hcj, hu⟩ := HFT.out.1.at hjs
          obtain ⟨rfl, hu1, hu2⟩ := hu
          clear hu1 hu2
          have hbd := HBK.out _ (List.getElem_mem hjs)
          have hgd : rT.src.getD j 0 = rT.src[j] := by rw [List.getD_eq_getElem?_getD, List.getElem?_eq_getElem hjs]; rfl
          obtain ⟨k, hk⟩ : ∃ k : Nat, rT.src[j] = (k : Int) := ⟨_, (Int.toNat_of_nonneg hbd.1).symm⟩
          rw [hk] at hcj hbd hgd
          have HGD := Lib.hid hgd
          obtain ⟨hk0, hkn⟩ := hbd
          clear hgd hk hjs hk0
          have b0 : wr.cell? ⟨w.heap.size, 0, none⟩ = some (.int .i64 d) := HB.out 0 _ rfl
          have b1 : wr.cell? ⟨w.heap.size, 1, none⟩ = some (.slice A gs.length c) := HB.out 1 _ rfl
          have b2 : wr.cell? ⟨w.heap.size, 2, none⟩ = some (.int .i64 gl) := HB.out 2 _ rfl
          have hjn : (j : Int) < (nT : Int) := by omega
          go_wp2_with fail
          clear b0 b1 b2
          refine (rPieces_any d gl gs _ _ HG.out (by have := HGN.out; omega)).mono ?_
          rintro e w5 ⟨rfl, hx5⟩
          rw [HPC.out]
          have HE5 := Lib.hid (HR.out.1.trans hx5)
          replace HX := Lib.hid ((HX.out).trans hx5)
          replace HT := Lib.hid ((HT.out).ext hx5)
          replace HG := Lib.hid (Rs.ext (Rs.ext RI.ext) _ _ _ _ hx5 (HG.out))
          replace HB := Lib.hid ((HB.out).ext hx5)
          replace HCR := Lib.hid ((HCR.out).ext hx5)
          replace HFR := Lib.hid (And.intro (Rs.ext RI.ext _ _ _ _ hx5 (HFR.out).1) (Rs.ext RB.ext _ _ _ _ hx5 (HFR.out).2))
          replace HCS := Lib.hid ((HCS.out).ext hx5)
          replace HFS := Lib.hid (And.intro (Rs.ext RI.ext _ _ _ _ hx5 (HFS.out).1) (Rs.ext RB.ext _ _ _ _ hx5 (HFS.out).2))
          replace HCT := Lib.hid ((HCT.out).ext hx5)
          replace HFT := Lib.hid (And.intro (Rs.ext RI.ext _ _ _ _ hx5 (HFT.out).1) (Rs.ext RB.ext _ _ _ _ hx5 (HFT.out).2))
          clear hx5
          have hb := bit_int16 L k (show L < 2 ^ 40 by omega)
          have hb2 : Cd.bitAt L k < 2 := Nat.mod_lt _ (by decide)
          obtain ⟨b, hbe⟩ : ∃ b, Cd.bitAt L k = b := ⟨_, rfl⟩
          rw [hbe] at hb hb2
          have HBE := Lib.hid hbe
          clear hbe hcj
          have b4 : w5.cell? ⟨w.heap.size, 4, none⟩ = some (.int .i64 (L : Nat)) := HB.out 4 _ rfl
          by_cases hb0 : b = 0
          case pos =>
            subst hb0
            go_wp2_with fail
            clear hb b4
            go_roundw
            case rel => exact ⟨j + 1, by omega, by go_num, Lib.hid ⟨HE5.out, fun i hi => if hij : i = j then (by rw [hij, HGD.out, Int.toNat_natCast]; exact HBE.out) else HR.out.2 i (by omega)⟩⟩
            case measure => simp [intOf]; omega
          case neg =>
            obtain rfl : b = 1 := by omega
            clear hb0
            go_wp2_with fail
            refine (sanity_any w5 HT.out).mono ?_
            rintro e w1101 ⟨rfl, hxs⟩
            have HXS := Lib.hid (HX.out.trans hxs)
            clear hxs
            go_wp2_with fail
            go_ret
            exact ⟨rfl, HXS.out⟩
        case neg =>
          obtain rfl : nT = j := by omega
          have hbl := Rb.best_local HCK.out (lost := (L : Nat)) HE.out.1 HI.out.1 HI.out.2 (by
            intro k hk
            rw [← HSR2.out] at hk
            obtain ⟨i, hi, rfl⟩ := List.getElem_of_mem hk
            have hi2 : i < nT := by rw [← HST.out.1]; exact hi
            have := HR.out.2 i hi2
            rw [List.getD_eq_getElem?_getD, List.getElem?_eq_getElem hi] at this
            rw [Int.toNat_natCast]
            exact this)
          rw [HEE.out, HRR.out, ← HSR2.out, HSR.out.1, HST.out.1] at hbl
          have hle : nR ≤ nT := hbl.2
          clear hbl
          have q1 : wr.cell? ⟨QR, 1, none⟩ = some (.slice FAR nR fcR) := HCR.out 1 _ rfl
          have y1 : wr.cell? ⟨QT, 1, none⟩ = some (.slice FAT nT fcT) := HCT.out 1 _ rfl
          go_wp2_with fail
          clear q1 y1
          refine (sanity_any wr HT.out).mono ?_
          rintro e w1001 ⟨rfl, hxs⟩
          have HXS := Lib.hid (HX.out.trans hxs)
          replace HX := Lib.hid ((HX.out).trans hxs)
          replace HT := Lib.hid ((HT.out).ext hxs)
          replace HG := Lib.hid (Rs.ext (Rs.ext RI.ext) _ _ _ _ hxs (HG.out))
          replace HB := Lib.hid ((HB.out).ext hxs)
          replace HCR := Lib.hid ((HCR.out).ext hxs)
          replace HFR := Lib.hid (And.intro (Rs.ext RI.ext _ _ _ _ hxs (HFR.out).1) (Rs.ext RB.ext _ _ _ _ hxs (HFR.out).2))
          replace HCS := Lib.hid ((HCS.out).ext hxs)
          replace HFS := Lib.hid (And.intro (Rs.ext RI.ext _ _ _ _ hxs (HFS.out).1) (Rs.ext RB.ext _ _ _ _ hxs (HFS.out).2))
          replace HCT := Lib.hid ((HCT.out).ext hxs)
          replace HFT := Lib.hid (And.intro (Rs.ext RI.ext _ _ _ _ hxs (HFT.out).1) (Rs.ext RB.ext _ _ _ _ hxs (HFT.out).2))
          clear hxs
          have q1 : w1001.cell? ⟨QR, 1, none⟩ = some (.slice FAR nR fcR) := HCR.out 1 _ rfl
          have y1 : w1001.cell? ⟨QT, 1, none⟩ = some (.slice FAT nT fcT) := HCT.out 1 _ rfl
          go_wp2_with fail
          go_ret
          exact ⟨rfl, HX.out⟩
  case inr =>
    clear hmn
    go_upto_region 7 with fail
    have b0 : w3.cell? ⟨w.heap.size, 0, none⟩ = some (.int .i64 d) := HB.out 0 _ rfl
    have b1 : w3.cell? ⟨w.heap.size, 1, none⟩ = some (.slice A gs.length c) := HB.out 1 _ rfl
    have b2 : w3.cell? ⟨w.heap.size, 2, none⟩ = some (.int .i64 gl) := HB.out 2 _ rfl
    have b5 : w3.cell? ⟨w.heap.size, 5, none⟩ = some (.int .i64 (P : Nat)) := HB.out 5 _ rfl
    go_wp2_with fail
    clear b0 b1 b2 b5
    refine (bLocal_any d gl gs (P : Nat) _ _ HT.out HG.out).mono ?_
    rintro e w4a ⟨v, rfl, hv, hx⟩
    obtain ⟨FT, CT, rfl, hF, hC⟩ := hv
    obtain ⟨FAT, fcT, rfl, hlT⟩ := hF.form
    obtain ⟨CAT, ccT, rfl, _⟩ := hC.form
    obtain ⟨rT, hrT⟩ : ∃ r, Rb.localR d gl gs (P : Nat) = r := ⟨_, rfl⟩
    rw [hrT] at hF hC
    try rw [hrT]
    have HRT := Lib.hid hrT
    obtain ⟨nT, hnT⟩ : ∃ n, rT.src.length = n := ⟨_, rfl⟩
    obtain ⟨mT, hmT⟩ : ∃ m, rT.coef.length = m := ⟨_, rfl⟩
    obtain ⟨pT, hpT⟩ : ∃ m, rT.piece = m := ⟨_, rfl⟩
    rw [hrT, hnT] at hlT
    rw [hnT] at hF
    rw [hmT] at hC
    try rw [hnT]
    try rw [hmT]
    try rw [hpT]
    have HST := Lib.hid (And.intro hnT (And.intro hmT hpT))
    have hxa : Ext w4a (w4a.alloc (.cells #[.int .i64 pT, .slice FAT nT fcT, .slice CAT mT ccT] 30)) := (Ext.refl w4a).alloc _
    have hx2 := hx.trans hxa
    replace HX := Lib.hid ((HX.out).trans hx2)
    replace HT := Lib.hid ((HT.out).ext hx2)
    replace HG := Lib.hid (Rs.ext (Rs.ext RI.ext) _ _ _ _ hx2 (HG.out))
    replace HB := Lib.hid ((HB.out).ext hx2)
    replace HCR := Lib.hid ((HCR.out).ext hx2)
    replace HFR := Lib.hid (And.intro (Rs.ext RI.ext _ _ _ _ hx2 (HFR.out).1) (Rs.ext RB.ext _ _ _ _ hx2 (HFR.out).2))
    replace HCS := Lib.hid ((HCS.out).ext hx2)
    replace HFS := Lib.hid (And.intro (Rs.ext RI.ext _ _ _ _ hx2 (HFS.out).1) (Rs.ext RB.ext _ _ _ _ hx2 (HFS.out).2))
    clear hx2
    have HCT := Lib.hid (cells_new w4a #[.int .i64 pT, .slice FAT nT fcT, .slice CAT mT ccT] 30)
    have HFT := Lib.hid (And.intro (Rs.ext RI.ext _ _ _ _ hxa hF) (Rs.ext RB.ext _ _ _ _ hxa hC))
    clear hF hC hx hxa hrT hnT hmT hpT
    go_upto_region 8 with fail
    obtain ⟨QT, hQ⟩ : ∃ Q, w4a.heap.size = Q := ⟨_, rfl⟩
    rw [hQ] at HCT
    try rw [hQ]
    obtain ⟨w4, hw⟩ : ∃ x, w4a.alloc (.cells #[.int .i64 pT, .slice FAT nT fcT, .slice CAT mT ccT] 30) = x := ⟨_, rfl⟩
    rw [hw] at HX HT HG HB HCR HFR HCS HFS HCT HFT ⊢
    clear hw
    clear hQ
    obtain ⟨g, hg⟩ : ∃ g, Rb.localE d gl gs (P : Nat) = g := ⟨_, rfl⟩
    rw [hg]
    have h2l := Rb.local_two HCK.out HE.out.2.2
    rw [hg, HRT.out] at h2l
    clear hg
    rcases h2l with rfl | ⟨rfl, i, hi, hpi, hsrc⟩
    case inl =>
      go_wp2_with fail
      refine (sanity_any w4 HT.out).mono ?_
      rintro e w1001 ⟨rfl, hxs⟩
      have HXS := Lib.hid (HX.out.trans hxs)
      clear hxs
      go_wp2_with fail
      go_ret
      exact ⟨rfl, HXS.out⟩
    case inr =>
      have HSR2 := Lib.hid hsrc
      have hbk : ∀ x ∈ rT.src, 0 ≤ x ∧ x < (n : Int) := by
        intro x hx
        rw [HSR2.out] at hx
        have := Rb.group_bounds HCK.out hi (List.erase_subset hx)
        rw [HNN.out] at this
        exact this
      have HBK := Lib.hid hbk
      have hln := HST.out.1
      have HI := Lib.hid (And.intro hi hpi)
      clear hsrc hbk hi hpi
      have q1 : w4.cell? ⟨QT, 1, none⟩ = some (.slice FAT nT fcT) := HCT.out 1 _ rfl
      go_wp2_with fail
      clear q1
      go_loopw [71] (fun vj wr => ∃ j : Nat, j ≤ nT ∧ vj = .int .i64 (j : Nat) ∧ Hid (Ext w4 wr ∧ ∀ i, i < j → Cd.bitAt L (rT.src.getD i 0).toNat = 0)) (fun vj _ => nT - (intOf vj).toNat)
      case atStart => exact ⟨0, Nat.zero_le _, rfl, Lib.hid ⟨Ext.refl _, fun i hi => absurd hi (by omega)⟩⟩
      case round =>
        obtain ⟨j, hj, rfl, HR⟩ := hrel
        have hxr := HR.out.1
        replace HX := Lib.hid ((HX.out).trans hxr)
        replace HT := Lib.hid ((HT.out).ext hxr)
        replace HG := Lib.hid (Rs.ext (Rs.ext RI.ext) _ _ _ _ hxr (HG.out))
        replace HB := Lib.hid ((HB.out).ext hxr)
        replace HCR := Lib.hid ((HCR.out).ext hxr)
        replace HFR := Lib.hid (And.intro (Rs.ext RI.ext _ _ _ _ hxr (HFR.out).1) (Rs.ext RB.ext _ _ _ _ hxr (HFR.out).2))
        replace HCS := Lib.hid ((HCS.out).ext hxr)
        replace HFS := Lib.hid (And.intro (Rs.ext RI.ext _ _ _ _ hxr (HFS.out).1) (Rs.ext RB.ext _ _ _ _ hxr (HFS.out).2))
        replace HCT := Lib.hid ((HCT.out).ext hxr)
        replace HFT := Lib.hid (And.intro (Rs.ext RI.ext _ _ _ _ hxr (HFT.out).1) (Rs.ext RB.ext _ _ _ _ hxr (HFT.out).2))
        clear hxr
        by_cases hlt : j < nT
        case pos =>
          have hjs : j < rT.src.length := by omega
          obtain ⟨ad, u, rfl, hcj, hu⟩ := HFT.out.1.at hjs
          obtain ⟨rfl, hu1, hu2⟩ := hu
          clear hu1 hu2
          have hbd := HBK.out _ (List.getElem_mem hjs)
          have hgd : rT.src.getD j 0 = rT.src[j] := by rw [List.getD_eq_getElem?_getD, List.getElem?_eq_getElem hjs]; rfl
          obtain ⟨k, hk⟩ : ∃ k : Nat, rT.src[j] = (k : Int) := ⟨_, (Int.toNat_of_nonneg hbd.1).symm⟩
          rw [hk] at hcj hbd hgd
          have HGD := Lib.hid hgd
          obtain ⟨hk0, hkn⟩ := hbd
          clear hgd hk hjs hk0
          have b0 : wr.cell? ⟨w.heap.size, 0, none⟩ = some (.int .i64 d) := HB.out 0 _ rfl
          have b1 : wr.cell? ⟨w.heap.size, 1, none⟩ = some (.slice A gs.length c) := HB.out 1 _ rfl
          have b2 : wr.cell? ⟨w.heap.size, 2, none⟩ = some (.int .i64 gl) := HB.out 2 _ rfl
          have hjn : (j : Int) < (nT : Int) := by omega
          go_wp2_with fail
          clear b0 b1 b2
          refine (rPieces_any d gl gs _ _ HG.out (by have := HGN.out; omega)).mono ?_
          rintro e w5 ⟨rfl, hx5⟩
          rw [HPC.out]
          have HE5 := Lib.hid (HR.out.1.trans hx5)
          replace HX := Lib.hid ((HX.out).trans hx5)
          replace HT := Lib.hid ((HT.out).ext hx5)
          replace HG := Lib.hid (Rs.ext (Rs.ext RI.ext) _ _ _ _ hx5 (HG.out))
          replace HB := Lib.hid ((HB.out).ext hx5)
          replace HCR := Lib.hid ((HCR.out).ext hx5)
          replace HFR := Lib.hid (And.intro (Rs.ext RI.ext _ _ _ _ hx5 (HFR.out).1) (Rs.ext RB.ext _ _ _ _ hx5 (HFR.out).2))
          replace HCS := Lib.hid ((HCS.out).ext hx5)
          replace HFS := Lib.hid (And.intro (Rs.ext RI.ext _ _ _ _ hx5 (HFS.out).1) (Rs.ext RB.ext _ _ _ _ hx5 (HFS.out).2))
          replace HCT := Lib.hid ((HCT.out).ext hx5)
          replace HFT := Lib.hid (And.intro (Rs.ext RI.ext _ _ _ _ hx5 (HFT.out).1) (Rs.ext RB.ext _ _ _ _ hx5 (HFT.out).2))
          clear hx5
          have hb := bit_int16 L k (show L < 2 ^ 40 by omega)
          have hb2 : Cd.bitAt L k < 2 := Nat.mod_lt _ (by decide)
          obtain ⟨b, hbe⟩ : ∃ b, Cd.bitAt L k = b := ⟨_, rfl⟩
          rw [hbe] at hb hb2
          have HBE := Lib.hid hbe
          clear hbe hcj
          have b4 : w5.cell? ⟨w.heap.size, 4, none⟩ = some (.int .i64 (L : Nat)) := HB.out 4 _ rfl
          by_cases hb0 : b = 0
          case pos =>
            subst hb0
            go_wp2_with fail
            clear hb b4
            go_roundw
            case rel => exact ⟨j + 1, by omega, by go_num, Lib.hid ⟨HE5.out, fun i hi => if hij : i = j then (by rw [hij, HGD.out, Int.toNat_natCast]; exact HBE.out) else HR.out.2 i (by omega)⟩⟩
            case measure => simp [intOf]; omega
          case neg =>
            obtain rfl : b = 1 := by omega
            clear hb0
            go_wp2_with fail
            refine (sanity_any w5 HT.out).mono ?_
            rintro e w1001 ⟨rfl, hxs⟩
            have HXS := Lib.hid (HX.out.trans hxs)
            clear hxs
            go_wp2_with fail
            go_ret
            exact ⟨rfl, HXS.out⟩
        case neg =>
          obtain rfl : nT = j := by omega
          have hbl := Rb.best_local HCK.out (lost := (L : Nat)) HE.out.1 HI.out.1 HI.out.2 (by
            intro k hk
            rw [← HSR2.out] at hk
            obtain ⟨i, hi, rfl⟩ := List.getElem_of_mem hk
            have hi2 : i < nT := by rw [← HST.out.1]; exact hi
            have := HR.out.2 i hi2
            rw [List.getD_eq_getElem?_getD, List.getElem?_eq_getElem hi] at this
            rw [Int.toNat_natCast]
            exact this)
          rw [HEE.out, HRR.out, ← HSR2.out, HSR.out.1, HST.out.1] at hbl
          exact absurd hbl.1 (by decide)
end Go.Proofs.YtdmljilcbndmfaaDoor

/- ARGUMENTS that are codes read as such. -/
namespace Go.Proofs.YtdmljilcbndmfaaDoor
open Go.ChangeShapes Go.WideShapes Go.ChangeAt Go.RowKit Go.ChangeMaps Go.Deep
variable {H : Type} {enc : TypeId × Value → H} {W : World} {base : Nat}
theorem list_getD {l : List Int} {k : Nat} (h : k < l.length) : l.getD k 0 = l[k] := by rw [List.getD_eq_getElem?_getD, List.getElem?_eq_getElem h]; rfl
theorem read_rows {fuel : Nat} {v : Value} {x : DataW H × List MemPlace} (h : DataW.trod enc Tryd.prog W base (fun _ => true) true fuel 22 [v] = some x) : ∃ l, Rs (Rs RI) W v l := by
  rcases open_int_rows Tryd.underlying22 Tryd.underlying27 Tryd.underlying3 (by kernel_rfl) (by kernel_rfl) h with ⟨hcs, _⟩ | ⟨a, len, cap, A, L, C, Z, hcs, _, hl, hm, _, hx⟩
  · injection hcs with hcs _
    subst hcs
    exact ⟨[], none, 0, rfl, by simp, fun i x h => by simp at h⟩
  · injection hcs with hcs _
    subst hcs
    refine ⟨(List.range len).map fun r => (Z r).take (L r), some a, cap, by simp, by simp; unfold maxLen at hm; omega, fun i y hi => ?_⟩
    have hi1 : i < len := by have := (List.getElem?_eq_some_iff.1 hi).1; simpa using this
    have e : y = (Z i).take (L i) := by
      have := (List.getElem?_eq_some_iff.1 hi).2
      rw [← this]; simp
    subst e
    obtain ⟨h1, h2, h3, h4, h5, h6, h7⟩ := hx i (by omega)
    refine ⟨a, _, rfl, h1, A i, C i, ?_, ?_, fun k z hk => ?_⟩
    · rw [List.length_take]; congr 1; omega
    · rw [List.length_take]; unfold maxLen at h3; omega
    · have hk1 : k < ((Z i).take (L i)).length := (List.getElem?_eq_some_iff.1 hk).1
      have hk2 : k < (Z i).length := by rw [List.length_take] at hk1; omega
      have hk3 : k < C i := by omega
      have e : z = (Z i)[k] := by
        have := (List.getElem?_eq_some_iff.1 hk).2
        rw [← this, List.getElem_take]
      subst e
      have hb := bounds_i64 (h5 _ (List.getElem_mem hk2))
      cases hA : A i with
      | none => have := h6 hA; omega
      | some b =>
        have h8 := (h7 b hA).2 k hk3
        rw [list_getD hk2] at h8
        exact ⟨b, _, rfl, h8, rfl, by omega, by omega⟩
theorem cellsCode : Tryd.prog.cellsOf 24 = 3 := by kernel_rfl
theorem cellsRows : Tryd.prog.cellsOf 22 = 1 := by kernel_rfl
theorem cellsInt : Tryd.prog.cellsOf 3 = 1 := by kernel_rfl
end Go.Proofs.YtdmljilcbndmfaaDoor

/- ARGUMENTS of law 08: losses. -/
namespace Go.Proofs.YtdmljilcbndmfaaDoor
open Go.ChangeShapes Go.WideShapes Go.ChangeAt Go.RowKit Go.ChangeMaps Go.Deep
variable {H : Type} {enc : TypeId × Value → H} {W : World} {base : Nat}
theorem sized_part {P : Program} {ts : List TypeId} {ds : List (DataW H)} (h : (DataW.weightsEach P ts ds).all (· ≤ reachBytes) = true) {j : Nat} {t : TypeId} {d : DataW H} (ht : ts[j]? = some t) (hd : ds[j]? = some d) : ∀ n ∈ d.weights P t, n ≤ reachBytes := fun n hn => by
  have := List.all_eq_true.1 h n (DataW.weights_mem_each ht hd n hn)
  simpa using this
theorem bytesInts : Tryd.prog.bytesOf 27 = 24 := by kernel_rfl
/-- The form's own reach, for a list of lists. -/
theorem sized_rows {fuel : Nat} {v : Value} {x : DataW H × List MemPlace} (h : DataW.trod enc Tryd.prog W base (fun _ => true) true fuel 22 [v] = some x) (hw : ∀ n ∈ x.1.weights Tryd.prog 22, n ≤ reachBytes) {l : List (List Int)} (hl : Rs (Rs RI) W v l) : l.length ≤ 4611686018427387904 := by
  obtain ⟨A, c, rfl, _⟩ := hl.form
  rcases open_int_rows Tryd.underlying22 Tryd.underlying27 Tryd.underlying3 (by kernel_rfl) (by kernel_rfl) h with ⟨hcs, _⟩ | ⟨a, len, cap, A', L, C, Z, hcs, _, _, hm, hx, _⟩
  · injection hcs with hcs _
    injection hcs with _ h2 _
    omega
  · injection hcs with hcs _
    injection hcs with _ h2 _
    subst hx
    have := hw ((len + (cap - len)) * 24) (by simp only [DataW.weights, Tryd.underlying22, bytesInts, List.length_map, List.length_range, List.mem_cons, true_or])
    unfold reachBytes at this
    omega
theorem array7 {α : Type} {cs : Array α} (h : cs.size = 7) : ∃ c0 c1 c2 c3 c4 c5 c6, cs = #[c0, c1, c2, c3, c4, c5, c6] := by
  obtain ⟨l⟩ := cs
  match l, h with
  | [c0, c1, c2, c3, c4, c5, c6], _ => exact ⟨c0, c1, c2, c3, c4, c5, c6, rfl⟩
theorem cellsStr : Tryd.prog.cellsOf 9 = 1 := by kernel_rfl
set_option maxRecDepth 100000 in
/-- A code, with the number of its groups. -/
theorem trod_code {m : Nat} {c0 c1 c2 : Value} {y : DataW H × List MemPlace} (hf : DataW.trod enc Tryd.prog W base (fun _ => true) true m 24 [c0, c1, c2] = some y) (hw : ∀ n ∈ y.1.weights Tryd.prog 24, n ≤ reachBytes) :
    ∃ (a0 a2 : Int) (gs : List (List Int)), c0 = .int .i64 a0 ∧ c2 = .int .i64 a2 ∧ Rs (Rs RI) W c1 gs ∧ gs.length ≤ 4611686018427387904 := by
  obtain ⟨zs, m, _, hy, _, hlen2, hz⟩ := DataW.trod_struct Tryd.underlying24 hf
  obtain ⟨z0, z1, z2, rfl⟩ : ∃ z0 z1 z2, zs = [z0, z1, z2] := by
    match zs, hlen2 with
    | [z0, z1, z2], _ => exact ⟨z0, z1, z2, rfl⟩
  subst hy
  have g0 : DataW.trod enc Tryd.prog W base (fun _ => true) true m 3 [c0] = some z0 := by
    have := hz 0 _ rfl
    simpa [Value.cells, cellsInt] using this
  have g1 : DataW.trod enc Tryd.prog W base (fun _ => true) true m 22 [c1] = some z1 := by
    have := hz 1 _ rfl
    simpa [Value.cells, cellsRows] using this
  have g2 : DataW.trod enc Tryd.prog W base (fun _ => true) true m 3 [c2] = some z2 := by
    have := hz 2 _ rfl
    simpa [Value.cells, cellsInt] using this
  obtain ⟨gs, h1⟩ := read_rows g1
  obtain ⟨a0, ha0, _, w0⟩ := DataW.trod_int Tryd.underlying3 g0
  obtain ⟨a2, ha2, _, w2⟩ := DataW.trod_int Tryd.underlying3 g2
  injection ha0 with ha0 _
  injection ha2 with ha2 _
  refine ⟨a0, a2, gs, ha0, ha2, h1, sized_rows g1 (fun n hn => hw n ?_) h1⟩
  simp only [DataW.weights, Tryd.underlying24]
  exact DataW.weights_mem_each (j := 1) rfl rfl n hn
set_option maxRecDepth 100000 in
theorem open_loss {b0 : Nat} {v : Value} {d : DataW H} {ps : List MemPlace} (hval : Value.okWide Tryd.prog W .any b0 63 v) (hd : DataW.Trod enc Tryd.prog W base (fun _ => true) true 63 v d ps) (hw : ∀ n ∈ d.weights Tryd.prog 63, n ≤ reachBytes) :
    ∃ (a0 a2 lost piece other : Int) (G : Value) (gs : List (List Int)) (data : List UInt8), v = .agg #[.int .i64 a0, G, .int .i64 a2, .string (sb data), .int .i64 lost, .int .i64 piece, .int .i64 other] ∧ Rs (Rs RI) W G gs ∧ gs.length ≤ 4611686018427387904 ∧ data.length ≤ 9223372036854775807 := by
  obtain ⟨cs, rfl, hsz⟩ := okWide_struct Tryd.underlying63 hval
  obtain ⟨c0, c1, c2, c3, c4, c5, c6, rfl⟩ := array7 (hsz.trans (by kernel_rfl))
  obtain ⟨fuel, hf⟩ := hd
  obtain ⟨xs, n, _, hxx, hl, hlen, hx⟩ := DataW.trod_struct Tryd.underlying63 hf
  obtain ⟨y0, y1, y2, y3, y4, rfl⟩ : ∃ y0 y1 y2 y3 y4, xs = [y0, y1, y2, y3, y4] := by
    match xs, hlen with
    | [y0, y1, y2, y3, y4], _ => exact ⟨y0, y1, y2, y3, y4, rfl⟩
  injection hxx with hxx _
  subst hxx
  have f0 : DataW.trod enc Tryd.prog W base (fun _ => true) true n 24 [c0, c1, c2] = some y0 := by
    have := hx 0 _ rfl
    simpa [Value.cells, cellsCode] using this
  have f1 : DataW.trod enc Tryd.prog W base (fun _ => true) true n 9 [c3] = some y1 := by
    have := hx 1 _ rfl
    simpa [Value.cells, cellsStr] using this
  have f2 : DataW.trod enc Tryd.prog W base (fun _ => true) true n 3 [c4] = some y2 := by
    have := hx 2 _ rfl
    simpa [Value.cells, cellsInt] using this
  have f3 : DataW.trod enc Tryd.prog W base (fun _ => true) true n 3 [c5] = some y3 := by
    have := hx 3 _ rfl
    simpa [Value.cells, cellsInt] using this
  have f4 : DataW.trod enc Tryd.prog W base (fun _ => true) true n 3 [c6] = some y4 := by
    have := hx 4 _ rfl
    simpa [Value.cells, cellsInt] using this
  obtain ⟨a0, a2, gs, rfl, rfl, h1, h2⟩ := trod_code f0 (fun n hn => hw n (by
    simp only [DataW.weights, Tryd.underlying63]
    exact DataW.weights_mem_each (j := 0) rfl rfl n hn))
  obtain ⟨s, hs, _, ws⟩ := DataW.trod_string Tryd.underlying9 f1
  obtain ⟨z2, e2, _, _⟩ := DataW.trod_int Tryd.underlying3 f2
  obtain ⟨z3, e3, _, _⟩ := DataW.trod_int Tryd.underlying3 f3
  obtain ⟨z4, e4, _, _⟩ := DataW.trod_int Tryd.underlying3 f4
  injection hs with hs _
  injection e2 with e2 _
  injection e3 with e3 _
  injection e4 with e4 _
  subst hs e2 e3 e4
  refine ⟨a0, a2, z2, z3, z4, c1, gs, bl s, by rw [sb_bl], h1, h2, ?_⟩
  rw [← size_bl]
  unfold maxLen at ws
  omega
end Go.Proofs.YtdmljilcbndmfaaDoor

/- THE WALK over before of the laws of rebuild; what a list of rows holds. -/
namespace Go.Proofs.YtdmljilcbndmfaaDoor
open Go.RowKit Go.Shelf
set_option maxHeartbeats 8000000 in
set_option maxRecDepth 100000 in
theorem before_any (a b : List Int) (v u : Value) (w : World) (ha : Rs RI w v a) (hb : Rs RI w u b) (h : Rb.Bf a b) :
    Calls Tryd.prog 31 #[v, u] w fun e w' => e = .returned (.bool true) ∧ Ext w w' := by
  obtain ⟨A, ca, rfl, hla⟩ := ha.form
  obtain ⟨B, cb, rfl, hlb⟩ := hb.form
  obtain ⟨i, hia, hib, heq, hlt⟩ := h
  have HA := Lib.hid ha
  have HB := Lib.hid hb
  have HE := Lib.hid (And.intro heq hlt)
  clear ha hb heq hlt
  go_enter Tryd.func31, Tryd.ntmps31
  go_wp2_with fail
  go_loopw [11] (fun vk wr => ∃ k : Nat, k ≤ i ∧ vk = .int .i64 (k : Nat) ∧ Hid (Ext w wr)) (fun vk _ => i + 1 - (intOf vk).toNat)
  case atStart => exact ⟨0, Nat.zero_le _, rfl, Lib.hid (Ext.refl _)⟩
  case round =>
    obtain ⟨k, hk, rfl, HI⟩ := hrel
    have hka : k < a.length := by omega
    have hkb : k < b.length := by omega
    obtain ⟨ad, x, rfl, hcx, hx⟩ := (Rs.ext RI.ext _ _ _ _ HI.out HA.out).at hka
    obtain ⟨bd, y, rfl, hcy, hy⟩ := (Rs.ext RI.ext _ _ _ _ HI.out HB.out).at hkb
    obtain ⟨rfl, _, _⟩ := hx
    obtain ⟨rfl, _, _⟩ := hy
    have g1 : a.getD k 0 = a[k] := by rw [List.getD_eq_getElem?_getD, List.getElem?_eq_getElem hka]; rfl
    have g2 : b.getD k 0 = b[k] := by rw [List.getD_eq_getElem?_getD, List.getElem?_eq_getElem hkb]; rfl
    obtain ⟨p, hp⟩ : ∃ p, a[k] = p := ⟨_, rfl⟩
    obtain ⟨q, hq⟩ : ∃ q, b[k] = q := ⟨_, rfl⟩
    rw [hp] at g1 hcx
    rw [hq] at g2 hcy
    have hkm : (k : Int) < (a.length : Int) ∧ (k : Int) < (b.length : Int) := by omega
    obtain ⟨hkm1, hkm2⟩ := hkm
    clear hp hq
    by_cases hki : k = i
    · subst hki
      have hpq : p < q := by have := HE.out.2; rw [g1, g2] at this; exact this
      have hne : (p != q) = true := by rw [bne_iff_ne]; omega
      clear g1 g2
      go_wp2_with fail
      go_quiet (fail)
      go_wp2_with fail
      go_quiet (fail)
      go_wp2_with fail
      go_ret
      exact ⟨rfl, (HI.out.drewN _).drewN _⟩
    · have hpq : p = q := by have := HE.out.1 k (by omega); rw [g1, g2] at this; exact this
      subst hpq
      have hne : (p != p) = false := by simp
      clear g1 g2
      go_wp2_with fail
      go_quiet (fail)
      go_wp2_with fail
      go_roundw
      case rel => exact ⟨k + 1, by omega, by go_num, Lib.hid (HI.out.drewN _)⟩
      case measure => simp [intOf]; omega
/-- What lies in a list, value by value. -/
theorem Rs.vals {α : Type} {R : World → Value → α → Prop} {w : World} {A : Option Addr} {n c : Nat} {xs : List α} (h : Rs R w (.slice A n c) xs) :
    ∃ us : List Value, us.length = xs.length ∧ Rd w A us ∧ ∀ i (hi : i < xs.length), R w (us.getD i (.slice none 0 0)) xs[i] := by
  have hx : ∀ i : Nat, ∃ u : Value, ∀ hi : i < xs.length, (∃ ad, A = some ad ∧ w.cell? (ad.add i) = some u) ∧ R w u xs[i] := fun i => by
    by_cases hi : i < xs.length
    · obtain ⟨ad, u, h1, h2, h3⟩ := h.at hi
      exact ⟨u, fun _ => ⟨⟨ad, h1, h2⟩, h3⟩⟩
    · exact ⟨.slice none 0 0, fun hi' => absurd hi' hi⟩
  obtain ⟨g, hg⟩ := Classical.axiomOfChoice hx
  refine ⟨(List.range xs.length).map g, by simp, fun k x hk => ?_, fun i hi => ?_⟩
  · rw [List.getElem?_map] at hk
    cases hr : (List.range xs.length)[k]? with
    | none => rw [hr] at hk; cases hk
    | some j =>
      rw [hr] at hk
      have hk2 := (List.getElem?_eq_some_iff.1 hr).1
      rw [List.length_range] at hk2
      have hj : j = k := by
        rw [List.getElem?_range hk2] at hr
        injection hr with hr; exact hr.symm
      subst hj
      injection hk with hk
      subst hk
      obtain ⟨⟨ad, h1, h2⟩, _⟩ := hg j hk2
      exact ⟨ad, h1, by have := lt_of_cell h2; rwa [block_add] at this, h2⟩
  · rw [List.getD_eq_getElem?_getD, List.getElem?_map, List.getElem?_range hi]
    exact (hg i hi).2
/-- Some rows of a matrix, named by their places. -/
theorem rows_of {w : World} {A : Option Addr} {c : Nat} {us : List Value} {R : Mx.Mat} {f : List Int} (hrd : Rd w A (f.map fun i : Int => us.getD i.toNat (.slice none 0 0))) (hv : ∀ i (hi : i < R.length), Rs RB w (us.getD i (.slice none 0 0)) R[i])
    (hb : ∀ x ∈ f, 0 ≤ x ∧ x < (R.length : Int)) (hl : f.length ≤ 9223372036854775807) : Rs (Rs RB) w (.slice A f.length c) (Rb.rowsAt R f) := by
  refine ⟨A, c, by rw [Rb.rowsAt_length], by rw [Rb.rowsAt_length]; exact hl, fun i x hi => ?_⟩
  unfold Rb.rowsAt at hi
  rw [List.getElem?_map] at hi
  cases hf : f[i]? with
  | none => rw [hf] at hi; cases hi
  | some y =>
    rw [hf] at hi
    injection hi with hi
    obtain ⟨ad, h1, _, h2⟩ := hrd i (us.getD y.toNat (.slice none 0 0)) (by rw [List.getElem?_map, hf]; rfl)
    have hy := hb y (List.mem_of_getElem? hf)
    have hy2 : y.toNat < R.length := by omega
    refine ⟨ad, _, h1, h2, ?_⟩
    have := hv y.toNat hy2
    have hg : R.getD y.toNat [] = R[y.toNat] := by rw [List.getD_eq_getElem?_getD, List.getElem?_eq_getElem hy2]; rfl
    rw [show x = R[y.toNat] from hi.symm.trans hg]
    exact this
end Go.Proofs.YtdmljilcbndmfaaDoor

/- TWO DRAWN REGIONS of RebuildIsLeast. -/
namespace Go.Proofs.YtdmljilcbndmfaaDoor
open Go.RowKit Go.Shelf
noncomputable def ls_first_code : Code := ((Tryd.f6.body.bind (regionOf 21)).getD .skip)
def ls_first_dsts : List (Option Nat) := [some 118, some 119, some 120, some 121, some 122, some 123, some 124, some 125, some 126, some 127, some 128]
theorem ls_first_apart : apartD ls_first_dsts = true := by decide +kernel
set_option maxRecDepth 1000000 in
set_option maxHeartbeats 16000000 in
theorem ls_first (wr : World) (nl cL fc0 cc0 QR nR mR fcR ccR n0 m0 : Nat) (p0 pR : Int) (ad : Addr) (FA0 CA0 FAR CAR : Option Addr) (y : Rb.Rec) (h0 : 0 < nl) (a0 : wr.cell? ad = some (.int .i64 p0)) (a1 : wr.cell? ⟨ad.block, ad.off + 1, none⟩ = some (.slice FA0 n0 fc0)) (a2 : wr.cell? ⟨ad.block, ad.off + 2, none⟩ = some (.slice CA0 m0 cc0)) (HC : Hid (Cells wr QR [.int .i64 pR, .slice FAR nR fcR, .slice CAR mR ccR])) (HY : Hid (RRec wr (.agg #[.int .i64 p0, .slice FA0 n0 fc0, .slice CA0 m0 cc0]) y)) (HR : Hid (RRec wr (.agg #[.int .i64 pR, .slice FAR nR fcR, .slice CAR mR ccR]) y)) (c0 c1 c2 c3 c4 c5 c6 c7 c8 c9 c10 c12 c14 c15 c16 c17 c18 c19 c20 c21 c22 c23 c24 c25 c26 c27 c28 c29 c30 c31 c32 c33 c34 c35 c36 c37 c38 c39 c40 c41 c42 c43 c44 c45 c46 c47 c48 c49 c50 c51 c52 c53 c54 c55 c56 c57 c58 c59 c60 c61 c62 c63 c64 c65 c66 c67 c68 c69 c70 c71 c72 c73 c74 c75 c76 c77 c78 c79 c80 c81 c82 c83 c84 c85 c86 c87 c88 c89 c90 c91 c92 c93 c94 c95 c96 c97 c98 c99 c100 c101 c102 c103 c104 c105 c106 c107 c108 c109 c110 c111 c112 c113 c114 c115 c116 c117 c118 c119 c120 c121 c122 c123 c124 c125 c126 c127 c128 c129 c130 c131 c132 c133 c134 c135 c136 c137 c138 c139 c140 c141 c142 c143 c144 c145 c146 c147 c148 c149 c150 c151 c152 c153 c154 c155 c156 c157 c158 c159 c160 c161 c162 c163 c164 c165 c166 c167 c168 c169 c170 c171 c172 c173 c174 c175 c176 c177 c178 c179 c180 c181 c182 c183 c184 c185 c186 c187 c188 c189 c190 : Value) (df : List Deferred) (K : Act → World → Prop)
    (hK : ∀  (u118 u119 u120 u121 u122 u123 u124 u125 u126 u127 : Value) (wx : World), Ext wr wx → K ⟨#[c0, c1, c2, c3, c4, c5, c6, c7, c8, c9, c10, .pointer (some ⟨QR, 0, none⟩), c12, .slice (some ad) nl cL, c14, c15, c16, c17, c18, c19, c20, c21, c22, c23, c24, c25, c26, c27, c28, c29, c30, c31, c32, c33, c34, c35, c36, c37, c38, c39, c40, c41, c42, c43, c44, c45, c46, c47, c48, c49, c50, c51, c52, c53, c54, c55, c56, c57, c58, c59, c60, c61, c62, c63, c64, c65, c66, c67, c68, c69, c70, c71, c72, c73, c74, c75, c76, c77, c78, c79, c80, c81, c82, c83, c84, c85, c86, c87, c88, c89, c90, c91, c92, c93, c94, c95, c96, c97, c98, c99, c100, c101, c102, c103, c104, c105, c106, c107, c108, c109, c110, c111, c112, c113, c114, c115, c116, c117, u118, u119, u120, u121, u122, u123, u124, u125, u126, u127, .bool false, c129, c130, c131, c132, c133, c134, c135, c136, c137, c138, c139, c140, c141, c142, c143, c144, c145, c146, c147, c148, c149, c150, c151, c152, c153, c154, c155, c156, c157, c158, c159, c160, c161, c162, c163, c164, c165, c166, c167, c168, c169, c170, c171, c172, c173, c174, c175, c176, c177, c178, c179, c180, c181, c182, c183, c184, c185, c186, c187, c188, c189, c190], df⟩ wx) :
    Code.wp Tryd.prog ls_first_code (AtEnd K) ⟨#[c0, c1, c2, c3, c4, c5, c6, c7, c8, c9, c10, .pointer (some ⟨QR, 0, none⟩), c12, .slice (some ad) nl cL, c14, c15, c16, c17, c18, c19, c20, c21, c22, c23, c24, c25, c26, c27, c28, c29, c30, c31, c32, c33, c34, c35, c36, c37, c38, c39, c40, c41, c42, c43, c44, c45, c46, c47, c48, c49, c50, c51, c52, c53, c54, c55, c56, c57, c58, c59, c60, c61, c62, c63, c64, c65, c66, c67, c68, c69, c70, c71, c72, c73, c74, c75, c76, c77, c78, c79, c80, c81, c82, c83, c84, c85, c86, c87, c88, c89, c90, c91, c92, c93, c94, c95, c96, c97, c98, c99, c100, c101, c102, c103, c104, c105, c106, c107, c108, c109, c110, c111, c112, c113, c114, c115, c116, c117, c118, c119, c120, c121, c122, c123, c124, c125, c126, c127, c128, c129, c130, c131, c132, c133, c134, c135, c136, c137, c138, c139, c140, c141, c142, c143, c144, c145, c146, c147, c148, c149, c150, c151, c152, c153, c154, c155, c156, c157, c158, c159, c160, c161, c162, c163, c164, c165, c166, c167, c168, c169, c170, c171, c172, c173, c174, c175, c176, c177, c178, c179, c180, c181, c182, c183, c184, c185, c186, c187, c188, c189, c190], df⟩ wr := by
  conv => arg 2; whnf
  refine region_inv (by kernel_rfl) [[], [0], [1], [2], [3], [4, 3], [5, 3], [3], [6, 7, 3, 3], [8, 3], [3, 9]] (by kernel_rfl) [0, 1, 2, 3, 4, 5, 6, 7, 8, 9, 10] (by decide +kernel) (by decide +kernel) (by decide +kernel) (fun L a wc => Inv ls_first_dsts [.slice (some ad) nl cL, .int .i64 (nl : Nat), .bool false, .bool false, .slice (some ad) nl cL, .pointer (some (ad)), .agg #[.int .i64 p0, .slice FA0 n0 fc0, .slice CA0 m0 cc0], .agg #[.int .i64 pR, .slice FAR nR fcR, .slice CAR mR ccR], .bool true, .bool false, .bool false] ⟨#[c0, c1, c2, c3, c4, c5, c6, c7, c8, c9, c10, .pointer (some ⟨QR, 0, none⟩), c12, .slice (some ad) nl cL, c14, c15, c16, c17, c18, c19, c20, c21, c22, c23, c24, c25, c26, c27, c28, c29, c30, c31, c32, c33, c34, c35, c36, c37, c38, c39, c40, c41, c42, c43, c44, c45, c46, c47, c48, c49, c50, c51, c52, c53, c54, c55, c56, c57, c58, c59, c60, c61, c62, c63, c64, c65, c66, c67, c68, c69, c70, c71, c72, c73, c74, c75, c76, c77, c78, c79, c80, c81, c82, c83, c84, c85, c86, c87, c88, c89, c90, c91, c92, c93, c94, c95, c96, c97, c98, c99, c100, c101, c102, c103, c104, c105, c106, c107, c108, c109, c110, c111, c112, c113, c114, c115, c116, c117, c118, c119, c120, c121, c122, c123, c124, c125, c126, c127, c128, c129, c130, c131, c132, c133, c134, c135, c136, c137, c138, c139, c140, c141, c142, c143, c144, c145, c146, c147, c148, c149, c150, c151, c152, c153, c154, c155, c156, c157, c158, c159, c160, c161, c162, c163, c164, c165, c166, c167, c168, c169, c170, c171, c172, c173, c174, c175, c176, c177, c178, c179, c180, c181, c182, c183, c184, c185, c186, c187, c188, c189, c190], df⟩ L a ∧ Hid (Ext wr wc)) ⟨Inv.start, Lib.hid ((Ext.refl wr).drew)⟩ ?_ ?_
  · refine ⟨?_, ?_, ?_, ?_, ?_, ?_, ?_, ?_, ?_, ?_, ?_, trivial⟩
    · -- 0 move
      rintro L a wc ⟨hv, HO⟩ hL hc hd
      exact wpOp_val rfl rfl (ex_move rfl ((hv.fixed 13 (by decide)).trans rfl)) ⟨hv.put ls_first_apart 0 rfl (Nat.le_of_ble_eq_true rfl) (Nat.le_of_ble_eq_true rfl) rfl, HO⟩
    · -- 1 raw
      rintro L a wc ⟨hv, HO⟩ hL hc hd
      exact wpOp_val rfl rfl (ex_len rfl (hv.get 0 rfl rfl (hd 0 (by decide))) (by go_simp)) ⟨hv.put ls_first_apart 1 rfl (Nat.le_of_ble_eq_true rfl) (Nat.le_of_ble_eq_true rfl) rfl, HO⟩
    · -- 2 bin
      rintro L a wc ⟨hv, HO⟩ hL hc hd
      have u3 : ¬ nl = 0 := by omega
      exact wpOp_val rfl rfl (ex_bin rfl (hv.get 1 rfl rfl (hd 1 (by decide))) rfl (by go_simp)) ⟨hv.put ls_first_apart 2 rfl (Nat.le_of_ble_eq_true rfl) (Nat.le_of_ble_eq_true rfl) rfl, HO⟩
    · -- 3 move
      rintro L a wc ⟨hv, HO⟩ hL hc hd
      exact wpOp_val rfl rfl (ex_move rfl (hv.get 2 rfl rfl (hd 2 (by decide)))) ⟨hv.put ls_first_apart 3 rfl (Nat.le_of_ble_eq_true rfl) (Nat.le_of_ble_eq_true rfl) rfl, HO⟩
    · -- 4 move
      rintro L a wc ⟨hv, HO⟩ hL hc hd
      exact wpOp_val rfl ((wanted_at rfl rfl (hv.get 3 rfl rfl (hd 3 (by decide)))).trans rfl) (ex_move rfl ((hv.fixed 13 (by decide)).trans rfl)) ⟨hv.put ls_first_apart 4 rfl (Nat.le_of_ble_eq_true rfl) (Nat.le_of_ble_eq_true rfl) rfl, HO⟩
    · -- 5 index
      rintro L a wc ⟨hv, HO⟩ hL hc hd
      have u2 : (0 : Int) < (nl : Int) := by omega
      exact wpOp_val rfl ((wanted_at rfl rfl (hv.get 3 rfl rfl (hd 3 (by decide)))).trans rfl) (ex_index rfl (hv.get 4 rfl rfl (hd 4 (by decide))) rfl (by go_simp)) ⟨hv.put ls_first_apart 5 rfl (Nat.le_of_ble_eq_true rfl) (Nat.le_of_ble_eq_true rfl) rfl, HO⟩
    · -- 6 load
      rintro L a wc ⟨hv, HO⟩ hL hc hd
      have h0 : wc.cell? ad = some (.int .i64 p0) := HO.out.cell a0
      have h1 : wc.cell? ⟨ad.block, ad.off + 1, none⟩ = some (.slice FA0 n0 fc0) := HO.out.cell a1
      have h2 : wc.cell? ⟨ad.block, ad.off + 2, none⟩ = some (.slice CA0 m0 cc0) := HO.out.cell a2
      exact wpOp_val rfl ((wanted_at rfl rfl (hv.get 3 rfl rfl (hd 3 (by decide)))).trans rfl) (ex_load rfl (hv.get 5 rfl rfl (hd 5 (by decide))) (by go_simp)) ⟨hv.put ls_first_apart 6 rfl (Nat.le_of_ble_eq_true rfl) (Nat.le_of_ble_eq_true rfl) rfl, HO⟩
    · -- 7 load
      rintro L a wc ⟨hv, HO⟩ hL hc hd
      have h0 : wc.cell? ⟨QR, 0, none⟩ = some (.int .i64 pR) := HO.out.cell (HC.out 0 _ rfl)
      have h1 : wc.cell? ⟨QR, 1, none⟩ = some (.slice FAR nR fcR) := HO.out.cell (HC.out 1 _ rfl)
      have h2 : wc.cell? ⟨QR, 2, none⟩ = some (.slice CAR mR ccR) := HO.out.cell (HC.out 2 _ rfl)
      exact wpOp_val rfl ((wanted_at rfl rfl (hv.get 3 rfl rfl (hd 3 (by decide)))).trans rfl) (ex_load rfl ((hv.fixed 11 (by decide)).trans rfl) (by go_simp)) ⟨hv.put ls_first_apart 7 rfl (Nat.le_of_ble_eq_true rfl) (Nat.le_of_ble_eq_true rfl) rfl, HO⟩
    · -- 8 call
      rintro L a wc ⟨hv, HO⟩ hL hc hd
      refine wpOp_callw (R := fun v w1 => v = .bool true ∧ Ext wc w1) rfl ((wanted_at rfl rfl (hv.get 3 rfl rfl (hd 3 (by decide)))).trans rfl) (ex_call rfl rfl (map2c (hv.get 6 rfl rfl (hd 6 (by decide))) (hv.get 7 rfl rfl (hd 7 (by decide)))) (enters_of Tryd.func18 (by kernel_rfl) rfl _ _)) ((sSame_self y _ _ wc (RRec.ext _ _ _ _ HO.out HY.out) (RRec.ext _ _ _ _ HO.out HR.out)).mono (fun e w' h => ⟨_, h.1, rfl, h.2⟩)) ?_
      rintro v w' ⟨rfl, hx⟩
      exact ⟨hv.put ls_first_apart 8 rfl (Nat.le_of_ble_eq_true rfl) (Nat.le_of_ble_eq_true rfl) rfl, Lib.hid (HO.out.trans hx)⟩
    · -- 9 un
      rintro L a wc ⟨hv, HO⟩ hL hc hd
      exact wpOp_val rfl ((wanted_at rfl rfl (hv.get 3 rfl rfl (hd 3 (by decide)))).trans rfl) (ex_un rfl (hv.get 8 rfl rfl (hd 8 (by decide))) (by go_simp)) ⟨hv.put ls_first_apart 9 rfl (Nat.le_of_ble_eq_true rfl) (Nat.le_of_ble_eq_true rfl) rfl, HO⟩
    · -- 10 pick
      rintro L a wc ⟨hv, HO⟩ hL hc hd
      exact wpOp_val rfl rfl (ex_pick rfl (hv.get 3 rfl rfl (hd 3 (by decide))) (hv.get 9 rfl rfl (hd 9 (by decide)))) ⟨hv.put ls_first_apart 10 rfl (Nat.le_of_ble_eq_true rfl) (Nat.le_of_ble_eq_true rfl) rfl, HO⟩
  · rintro L a wc ⟨hv, HO⟩ hall
    show K a wc
    have ha := act_lit a
    rw [hv.size, hv.defers] at ha
    have hl : ∀ f : Nat → Value, ((List.range (⟨#[c0, c1, c2, c3, c4, c5, c6, c7, c8, c9, c10, .pointer (some ⟨QR, 0, none⟩), c12, .slice (some ad) nl cL, c14, c15, c16, c17, c18, c19, c20, c21, c22, c23, c24, c25, c26, c27, c28, c29, c30, c31, c32, c33, c34, c35, c36, c37, c38, c39, c40, c41, c42, c43, c44, c45, c46, c47, c48, c49, c50, c51, c52, c53, c54, c55, c56, c57, c58, c59, c60, c61, c62, c63, c64, c65, c66, c67, c68, c69, c70, c71, c72, c73, c74, c75, c76, c77, c78, c79, c80, c81, c82, c83, c84, c85, c86, c87, c88, c89, c90, c91, c92, c93, c94, c95, c96, c97, c98, c99, c100, c101, c102, c103, c104, c105, c106, c107, c108, c109, c110, c111, c112, c113, c114, c115, c116, c117, c118, c119, c120, c121, c122, c123, c124, c125, c126, c127, c128, c129, c130, c131, c132, c133, c134, c135, c136, c137, c138, c139, c140, c141, c142, c143, c144, c145, c146, c147, c148, c149, c150, c151, c152, c153, c154, c155, c156, c157, c158, c159, c160, c161, c162, c163, c164, c165, c166, c167, c168, c169, c170, c171, c172, c173, c174, c175, c176, c177, c178, c179, c180, c181, c182, c183, c184, c185, c186, c187, c188, c189, c190], df⟩ : Act).tmps.size).map f).toArray = #[f 0, f 1, f 2, f 3, f 4, f 5, f 6, f 7, f 8, f 9, f 10, f 11, f 12, f 13, f 14, f 15, f 16, f 17, f 18, f 19, f 20, f 21, f 22, f 23, f 24, f 25, f 26, f 27, f 28, f 29, f 30, f 31, f 32, f 33, f 34, f 35, f 36, f 37, f 38, f 39, f 40, f 41, f 42, f 43, f 44, f 45, f 46, f 47, f 48, f 49, f 50, f 51, f 52, f 53, f 54, f 55, f 56, f 57, f 58, f 59, f 60, f 61, f 62, f 63, f 64, f 65, f 66, f 67, f 68, f 69, f 70, f 71, f 72, f 73, f 74, f 75, f 76, f 77, f 78, f 79, f 80, f 81, f 82, f 83, f 84, f 85, f 86, f 87, f 88, f 89, f 90, f 91, f 92, f 93, f 94, f 95, f 96, f 97, f 98, f 99, f 100, f 101, f 102, f 103, f 104, f 105, f 106, f 107, f 108, f 109, f 110, f 111, f 112, f 113, f 114, f 115, f 116, f 117, f 118, f 119, f 120, f 121, f 122, f 123, f 124, f 125, f 126, f 127, f 128, f 129, f 130, f 131, f 132, f 133, f 134, f 135, f 136, f 137, f 138, f 139, f 140, f 141, f 142, f 143, f 144, f 145, f 146, f 147, f 148, f 149, f 150, f 151, f 152, f 153, f 154, f 155, f 156, f 157, f 158, f 159, f 160, f 161, f 162, f 163, f 164, f 165, f 166, f 167, f 168, f 169, f 170, f 171, f 172, f 173, f 174, f 175, f 176, f 177, f 178, f 179, f 180, f 181, f 182, f 183, f 184, f 185, f 186, f 187, f 188, f 189, f 190] := fun _ => rfl
    rw [hl] at ha
    simp only [hv.fixed 0 (by decide), hv.fixed 1 (by decide), hv.fixed 2 (by decide), hv.fixed 3 (by decide), hv.fixed 4 (by decide), hv.fixed 5 (by decide), hv.fixed 6 (by decide), hv.fixed 7 (by decide), hv.fixed 8 (by decide), hv.fixed 9 (by decide), hv.fixed 10 (by decide), hv.fixed 11 (by decide), hv.fixed 12 (by decide), hv.fixed 13 (by decide), hv.fixed 14 (by decide), hv.fixed 15 (by decide), hv.fixed 16 (by decide), hv.fixed 17 (by decide), hv.fixed 18 (by decide), hv.fixed 19 (by decide), hv.fixed 20 (by decide), hv.fixed 21 (by decide), hv.fixed 22 (by decide), hv.fixed 23 (by decide), hv.fixed 24 (by decide), hv.fixed 25 (by decide), hv.fixed 26 (by decide), hv.fixed 27 (by decide), hv.fixed 28 (by decide), hv.fixed 29 (by decide), hv.fixed 30 (by decide), hv.fixed 31 (by decide), hv.fixed 32 (by decide), hv.fixed 33 (by decide), hv.fixed 34 (by decide), hv.fixed 35 (by decide), hv.fixed 36 (by decide), hv.fixed 37 (by decide), hv.fixed 38 (by decide), hv.fixed 39 (by decide), hv.fixed 40 (by decide), hv.fixed 41 (by decide), hv.fixed 42 (by decide), hv.fixed 43 (by decide), hv.fixed 44 (by decide), hv.fixed 45 (by decide), hv.fixed 46 (by decide), hv.fixed 47 (by decide), hv.fixed 48 (by decide), hv.fixed 49 (by decide), hv.fixed 50 (by decide), hv.fixed 51 (by decide), hv.fixed 52 (by decide), hv.fixed 53 (by decide), hv.fixed 54 (by decide), hv.fixed 55 (by decide), hv.fixed 56 (by decide), hv.fixed 57 (by decide), hv.fixed 58 (by decide), hv.fixed 59 (by decide), hv.fixed 60 (by decide), hv.fixed 61 (by decide), hv.fixed 62 (by decide), hv.fixed 63 (by decide), hv.fixed 64 (by decide), hv.fixed 65 (by decide), hv.fixed 66 (by decide), hv.fixed 67 (by decide), hv.fixed 68 (by decide), hv.fixed 69 (by decide), hv.fixed 70 (by decide), hv.fixed 71 (by decide), hv.fixed 72 (by decide), hv.fixed 73 (by decide), hv.fixed 74 (by decide), hv.fixed 75 (by decide), hv.fixed 76 (by decide), hv.fixed 77 (by decide), hv.fixed 78 (by decide), hv.fixed 79 (by decide), hv.fixed 80 (by decide), hv.fixed 81 (by decide), hv.fixed 82 (by decide), hv.fixed 83 (by decide), hv.fixed 84 (by decide), hv.fixed 85 (by decide), hv.fixed 86 (by decide), hv.fixed 87 (by decide), hv.fixed 88 (by decide), hv.fixed 89 (by decide), hv.fixed 90 (by decide), hv.fixed 91 (by decide), hv.fixed 92 (by decide), hv.fixed 93 (by decide), hv.fixed 94 (by decide), hv.fixed 95 (by decide), hv.fixed 96 (by decide), hv.fixed 97 (by decide), hv.fixed 98 (by decide), hv.fixed 99 (by decide), hv.fixed 100 (by decide), hv.fixed 101 (by decide), hv.fixed 102 (by decide), hv.fixed 103 (by decide), hv.fixed 104 (by decide), hv.fixed 105 (by decide), hv.fixed 106 (by decide), hv.fixed 107 (by decide), hv.fixed 108 (by decide), hv.fixed 109 (by decide), hv.fixed 110 (by decide), hv.fixed 111 (by decide), hv.fixed 112 (by decide), hv.fixed 113 (by decide), hv.fixed 114 (by decide), hv.fixed 115 (by decide), hv.fixed 116 (by decide), hv.fixed 117 (by decide), hv.fixed 129 (by decide), hv.fixed 130 (by decide), hv.fixed 131 (by decide), hv.fixed 132 (by decide), hv.fixed 133 (by decide), hv.fixed 134 (by decide), hv.fixed 135 (by decide), hv.fixed 136 (by decide), hv.fixed 137 (by decide), hv.fixed 138 (by decide), hv.fixed 139 (by decide), hv.fixed 140 (by decide), hv.fixed 141 (by decide), hv.fixed 142 (by decide), hv.fixed 143 (by decide), hv.fixed 144 (by decide), hv.fixed 145 (by decide), hv.fixed 146 (by decide), hv.fixed 147 (by decide), hv.fixed 148 (by decide), hv.fixed 149 (by decide), hv.fixed 150 (by decide), hv.fixed 151 (by decide), hv.fixed 152 (by decide), hv.fixed 153 (by decide), hv.fixed 154 (by decide), hv.fixed 155 (by decide), hv.fixed 156 (by decide), hv.fixed 157 (by decide), hv.fixed 158 (by decide), hv.fixed 159 (by decide), hv.fixed 160 (by decide), hv.fixed 161 (by decide), hv.fixed 162 (by decide), hv.fixed 163 (by decide), hv.fixed 164 (by decide), hv.fixed 165 (by decide), hv.fixed 166 (by decide), hv.fixed 167 (by decide), hv.fixed 168 (by decide), hv.fixed 169 (by decide), hv.fixed 170 (by decide), hv.fixed 171 (by decide), hv.fixed 172 (by decide), hv.fixed 173 (by decide), hv.fixed 174 (by decide), hv.fixed 175 (by decide), hv.fixed 176 (by decide), hv.fixed 177 (by decide), hv.fixed 178 (by decide), hv.fixed 179 (by decide), hv.fixed 180 (by decide), hv.fixed 181 (by decide), hv.fixed 182 (by decide), hv.fixed 183 (by decide), hv.fixed 184 (by decide), hv.fixed 185 (by decide), hv.fixed 186 (by decide), hv.fixed 187 (by decide), hv.fixed 188 (by decide), hv.fixed 189 (by decide), hv.fixed 190 (by decide), hv.get 10 (d := 128) rfl rfl (hall 10 (by decide))] at ha
    rw [ha]
    exact hK _ _ _ _ _ _ _ _ _ _ wc HO.out
noncomputable def ls_next0_code : Code := ((Tryd.f6.body.bind (regionOf 28)).getD .skip)
def ls_next0_dsts : List (Option Nat) := [some 143, some 144, some 145, some 146, some 147, some 148, some 149, some 150, some 151, some 152, some 153, some 154, some 155, some 156, some 157, some 158, some 159, some 160, some 161, some 162, some 163, some 164, some 165]
theorem ls_next0_apart : apartD ls_next0_dsts = true := by decide +kernel
set_option maxRecDepth 1000000 in
set_option maxHeartbeats 16000000 in
theorem ls_next0 (wr : World) (k nl cL QR QY nR nY mR mY fcR ccR fcY ccY : Nat) (pR pY : Int) (ad : Addr) (FAR CAR FAY CAY : Option Addr) (HC : Hid (Cells wr QR [.int .i64 pR, .slice FAR nR fcR, .slice CAR mR ccR])) (HY : Hid (Cells wr QY [.int .i64 pY, .slice FAY nY fcY, .slice CAY mY ccY])) (hnn : nY = nR) (hk0 : k = 0) (c0 c1 c2 c3 c4 c5 c6 c7 c8 c9 c10 c12 c14 c15 c18 c19 c20 c21 c22 c23 c24 c25 c26 c27 c28 c29 c30 c31 c32 c33 c34 c35 c36 c37 c38 c39 c40 c41 c42 c43 c44 c45 c46 c47 c48 c49 c50 c51 c52 c53 c54 c55 c56 c57 c58 c59 c60 c61 c62 c63 c64 c65 c66 c67 c68 c69 c70 c71 c72 c73 c74 c75 c76 c77 c78 c79 c80 c81 c82 c83 c84 c85 c86 c87 c88 c89 c90 c91 c92 c93 c94 c95 c96 c97 c98 c99 c100 c101 c102 c103 c104 c105 c106 c107 c108 c109 c110 c111 c112 c113 c114 c115 c116 c117 c118 c119 c120 c121 c122 c123 c124 c125 c126 c127 c128 c129 c130 c131 c132 c133 c134 c135 c136 c137 c138 c139 c140 c141 c142 c143 c144 c145 c146 c147 c148 c149 c150 c151 c152 c153 c154 c155 c156 c157 c158 c159 c160 c161 c162 c163 c164 c165 c166 c167 c168 c169 c170 c171 c172 c173 c174 c175 c176 c177 c178 c179 c180 c181 c182 c183 c184 c185 c186 c187 c188 c189 c190 : Value) (df : List Deferred) (K : Act → World → Prop)
    (hK : ∀  (u143 u144 u145 u146 u147 u148 u149 u150 u151 u152 u153 u154 u155 u156 u157 u158 u159 u160 u161 u162 u163 u164 : Value) (wx : World), Ext wr wx → K ⟨#[c0, c1, c2, c3, c4, c5, c6, c7, c8, c9, c10, .pointer (some ⟨QR, 0, none⟩), c12, .slice (some ad) nl cL, c14, c15, .int .i64 (k : Nat), .pointer (some ⟨QY, 0, none⟩), c18, c19, c20, c21, c22, c23, c24, c25, c26, c27, c28, c29, c30, c31, c32, c33, c34, c35, c36, c37, c38, c39, c40, c41, c42, c43, c44, c45, c46, c47, c48, c49, c50, c51, c52, c53, c54, c55, c56, c57, c58, c59, c60, c61, c62, c63, c64, c65, c66, c67, c68, c69, c70, c71, c72, c73, c74, c75, c76, c77, c78, c79, c80, c81, c82, c83, c84, c85, c86, c87, c88, c89, c90, c91, c92, c93, c94, c95, c96, c97, c98, c99, c100, c101, c102, c103, c104, c105, c106, c107, c108, c109, c110, c111, c112, c113, c114, c115, c116, c117, c118, c119, c120, c121, c122, c123, c124, c125, c126, c127, c128, c129, c130, c131, c132, c133, c134, c135, c136, c137, c138, c139, c140, c141, c142, u143, u144, u145, u146, u147, u148, u149, u150, u151, u152, u153, u154, u155, u156, u157, u158, u159, u160, u161, u162, u163, u164, .bool false, c166, c167, c168, c169, c170, c171, c172, c173, c174, c175, c176, c177, c178, c179, c180, c181, c182, c183, c184, c185, c186, c187, c188, c189, c190], df⟩ wx) :
    Code.wp Tryd.prog ls_next0_code (AtEnd K) ⟨#[c0, c1, c2, c3, c4, c5, c6, c7, c8, c9, c10, .pointer (some ⟨QR, 0, none⟩), c12, .slice (some ad) nl cL, c14, c15, .int .i64 (k : Nat), .pointer (some ⟨QY, 0, none⟩), c18, c19, c20, c21, c22, c23, c24, c25, c26, c27, c28, c29, c30, c31, c32, c33, c34, c35, c36, c37, c38, c39, c40, c41, c42, c43, c44, c45, c46, c47, c48, c49, c50, c51, c52, c53, c54, c55, c56, c57, c58, c59, c60, c61, c62, c63, c64, c65, c66, c67, c68, c69, c70, c71, c72, c73, c74, c75, c76, c77, c78, c79, c80, c81, c82, c83, c84, c85, c86, c87, c88, c89, c90, c91, c92, c93, c94, c95, c96, c97, c98, c99, c100, c101, c102, c103, c104, c105, c106, c107, c108, c109, c110, c111, c112, c113, c114, c115, c116, c117, c118, c119, c120, c121, c122, c123, c124, c125, c126, c127, c128, c129, c130, c131, c132, c133, c134, c135, c136, c137, c138, c139, c140, c141, c142, c143, c144, c145, c146, c147, c148, c149, c150, c151, c152, c153, c154, c155, c156, c157, c158, c159, c160, c161, c162, c163, c164, c165, c166, c167, c168, c169, c170, c171, c172, c173, c174, c175, c176, c177, c178, c179, c180, c181, c182, c183, c184, c185, c186, c187, c188, c189, c190], df⟩ wr := by
  conv => arg 2; whnf
  refine region_inv (by kernel_rfl) [[], [0], [1], [], [3], [4], [2, 5], [6], [7], [8, 7], [9, 7, 7], [10], [10], [12, 10], [11, 13, 10], [14, 10], [15, 10], [10], [17, 10], [16, 18, 10, 10], [19, 10], [10, 20, 7], [7, 21]] (by kernel_rfl) [0, 1, 2, 3, 4, 5, 6, 7, 8, 9, 10, 11, 12, 13, 14, 15, 16, 17, 18, 19, 20, 21, 22] (by decide +kernel) (by decide +kernel) (by decide +kernel) (fun L a wc => Inv ls_next0_dsts [.pointer (some ⟨QY, 1, none⟩), .slice FAY nY fcY, .int .i64 (nY : Nat), .pointer (some ⟨QR, 1, none⟩), .slice FAR nR fcR, .int .i64 (nR : Nat), .bool false, .bool false, .int .i64 (k : Nat), .bool false, .bool false, undef, undef, undef, undef, undef, undef, undef, undef, undef, undef, .bool false, .bool false] ⟨#[c0, c1, c2, c3, c4, c5, c6, c7, c8, c9, c10, .pointer (some ⟨QR, 0, none⟩), c12, .slice (some ad) nl cL, c14, c15, .int .i64 (k : Nat), .pointer (some ⟨QY, 0, none⟩), c18, c19, c20, c21, c22, c23, c24, c25, c26, c27, c28, c29, c30, c31, c32, c33, c34, c35, c36, c37, c38, c39, c40, c41, c42, c43, c44, c45, c46, c47, c48, c49, c50, c51, c52, c53, c54, c55, c56, c57, c58, c59, c60, c61, c62, c63, c64, c65, c66, c67, c68, c69, c70, c71, c72, c73, c74, c75, c76, c77, c78, c79, c80, c81, c82, c83, c84, c85, c86, c87, c88, c89, c90, c91, c92, c93, c94, c95, c96, c97, c98, c99, c100, c101, c102, c103, c104, c105, c106, c107, c108, c109, c110, c111, c112, c113, c114, c115, c116, c117, c118, c119, c120, c121, c122, c123, c124, c125, c126, c127, c128, c129, c130, c131, c132, c133, c134, c135, c136, c137, c138, c139, c140, c141, c142, c143, c144, c145, c146, c147, c148, c149, c150, c151, c152, c153, c154, c155, c156, c157, c158, c159, c160, c161, c162, c163, c164, c165, c166, c167, c168, c169, c170, c171, c172, c173, c174, c175, c176, c177, c178, c179, c180, c181, c182, c183, c184, c185, c186, c187, c188, c189, c190], df⟩ L a ∧ Hid (Ext wr wc)) ⟨Inv.start, Lib.hid ((Ext.refl wr).drew)⟩ ?_ ?_
  · refine ⟨?_, ?_, ?_, ?_, ?_, ?_, ?_, ?_, ?_, ?_, ?_, ?_, ?_, ?_, ?_, ?_, ?_, ?_, ?_, ?_, ?_, ?_, ?_, trivial⟩
    · -- 0 field
      rintro L a wc ⟨hv, HO⟩ hL hc hd
      exact wpOp_val rfl rfl (ex_field rfl ((hv.fixed 17 (by decide)).trans rfl) (by go_simp)) ⟨hv.put ls_next0_apart 0 rfl (Nat.le_of_ble_eq_true rfl) (Nat.le_of_ble_eq_true rfl) rfl, HO⟩
    · -- 1 load
      rintro L a wc ⟨hv, HO⟩ hL hc hd
      have h0 : wc.cell? ⟨QY, 1, none⟩ = some (.slice FAY nY fcY) := HO.out.cell (HY.out 1 _ rfl)
      exact wpOp_val rfl rfl (ex_load rfl (hv.get 0 rfl rfl (hd 0 (by decide))) (by go_simp)) ⟨hv.put ls_next0_apart 1 rfl (Nat.le_of_ble_eq_true rfl) (Nat.le_of_ble_eq_true rfl) rfl, HO⟩
    · -- 2 raw
      rintro L a wc ⟨hv, HO⟩ hL hc hd
      exact wpOp_val rfl rfl (ex_len rfl (hv.get 1 rfl rfl (hd 1 (by decide))) (by go_simp)) ⟨hv.put ls_next0_apart 2 rfl (Nat.le_of_ble_eq_true rfl) (Nat.le_of_ble_eq_true rfl) rfl, HO⟩
    · -- 3 field
      rintro L a wc ⟨hv, HO⟩ hL hc hd
      exact wpOp_val rfl rfl (ex_field rfl ((hv.fixed 11 (by decide)).trans rfl) (by go_simp)) ⟨hv.put ls_next0_apart 3 rfl (Nat.le_of_ble_eq_true rfl) (Nat.le_of_ble_eq_true rfl) rfl, HO⟩
    · -- 4 load
      rintro L a wc ⟨hv, HO⟩ hL hc hd
      have h0 : wc.cell? ⟨QR, 1, none⟩ = some (.slice FAR nR fcR) := HO.out.cell (HC.out 1 _ rfl)
      exact wpOp_val rfl rfl (ex_load rfl (hv.get 3 rfl rfl (hd 3 (by decide))) (by go_simp)) ⟨hv.put ls_next0_apart 4 rfl (Nat.le_of_ble_eq_true rfl) (Nat.le_of_ble_eq_true rfl) rfl, HO⟩
    · -- 5 raw
      rintro L a wc ⟨hv, HO⟩ hL hc hd
      exact wpOp_val rfl rfl (ex_len rfl (hv.get 4 rfl rfl (hd 4 (by decide))) (by go_simp)) ⟨hv.put ls_next0_apart 5 rfl (Nat.le_of_ble_eq_true rfl) (Nat.le_of_ble_eq_true rfl) rfl, HO⟩
    · -- 6 bin
      rintro L a wc ⟨hv, HO⟩ hL hc hd
      have u : (nY : Int) = (nR : Int) := by omega
      exact wpOp_val rfl rfl (ex_bin rfl (hv.get 2 rfl rfl (hd 2 (by decide))) (hv.get 5 rfl rfl (hd 5 (by decide))) (by go_simp)) ⟨hv.put ls_next0_apart 6 rfl (Nat.le_of_ble_eq_true rfl) (Nat.le_of_ble_eq_true rfl) rfl, HO⟩
    · -- 7 move
      rintro L a wc ⟨hv, HO⟩ hL hc hd
      exact wpOp_val rfl rfl (ex_move rfl (hv.get 6 rfl rfl (hd 6 (by decide)))) ⟨hv.put ls_next0_apart 7 rfl (Nat.le_of_ble_eq_true rfl) (Nat.le_of_ble_eq_true rfl) rfl, HO⟩
    · -- 8 move
      rintro L a wc ⟨hv, HO⟩ hL hc hd
      exact wpOp_val rfl ((wanted_at rfl rfl (hv.get 7 rfl rfl (hd 7 (by decide)))).trans rfl) (ex_move rfl ((hv.fixed 16 (by decide)).trans rfl)) ⟨hv.put ls_next0_apart 8 rfl (Nat.le_of_ble_eq_true rfl) (Nat.le_of_ble_eq_true rfl) rfl, HO⟩
    · -- 9 bin
      rintro L a wc ⟨hv, HO⟩ hL hc hd
      have u := hk0
      exact wpOp_val rfl ((wanted_at rfl rfl (hv.get 7 rfl rfl (hd 7 (by decide)))).trans rfl) (ex_bin rfl (hv.get 8 rfl rfl (hd 8 (by decide))) rfl (by go_simp)) ⟨hv.put ls_next0_apart 9 rfl (Nat.le_of_ble_eq_true rfl) (Nat.le_of_ble_eq_true rfl) rfl, HO⟩
    · -- 10 move
      rintro L a wc ⟨hv, HO⟩ hL hc hd
      exact wpOp_val rfl ((wanted_at rfl rfl (hv.get 7 rfl rfl (hd 7 (by decide)))).trans rfl) (ex_move rfl (hv.get 9 rfl rfl (hd 9 (by decide)))) ⟨hv.put ls_next0_apart 10 rfl (Nat.le_of_ble_eq_true rfl) (Nat.le_of_ble_eq_true rfl) rfl, HO⟩
    · -- 11 off
      rintro L a wc ⟨hv, HO⟩ hL hc hd
      exact wpOp_off rfl ((wanted_at rfl rfl (hv.get 10 rfl rfl (hd 10 (by decide)))).trans rfl) ⟨hv.put ls_next0_apart 11 rfl (Nat.le_of_ble_eq_true rfl) (Nat.le_of_ble_eq_true rfl) rfl, HO⟩
    · -- 12 off
      rintro L a wc ⟨hv, HO⟩ hL hc hd
      exact wpOp_off rfl ((wanted_at rfl rfl (hv.get 10 rfl rfl (hd 10 (by decide)))).trans rfl) ⟨hv.put ls_next0_apart 12 rfl (Nat.le_of_ble_eq_true rfl) (Nat.le_of_ble_eq_true rfl) rfl, HO⟩
    · -- 13 off
      rintro L a wc ⟨hv, HO⟩ hL hc hd
      exact wpOp_off rfl ((wanted_at rfl rfl (hv.get 10 rfl rfl (hd 10 (by decide)))).trans rfl) ⟨hv.put ls_next0_apart 13 rfl (Nat.le_of_ble_eq_true rfl) (Nat.le_of_ble_eq_true rfl) rfl, HO⟩
    · -- 14 off
      rintro L a wc ⟨hv, HO⟩ hL hc hd
      exact wpOp_off rfl ((wanted_at rfl rfl (hv.get 10 rfl rfl (hd 10 (by decide)))).trans rfl) ⟨hv.put ls_next0_apart 14 rfl (Nat.le_of_ble_eq_true rfl) (Nat.le_of_ble_eq_true rfl) rfl, HO⟩
    · -- 15 off
      rintro L a wc ⟨hv, HO⟩ hL hc hd
      exact wpOp_off rfl ((wanted_at rfl rfl (hv.get 10 rfl rfl (hd 10 (by decide)))).trans rfl) ⟨hv.put ls_next0_apart 15 rfl (Nat.le_of_ble_eq_true rfl) (Nat.le_of_ble_eq_true rfl) rfl, HO⟩
    · -- 16 off
      rintro L a wc ⟨hv, HO⟩ hL hc hd
      exact wpOp_off rfl ((wanted_at rfl rfl (hv.get 10 rfl rfl (hd 10 (by decide)))).trans rfl) ⟨hv.put ls_next0_apart 16 rfl (Nat.le_of_ble_eq_true rfl) (Nat.le_of_ble_eq_true rfl) rfl, HO⟩
    · -- 17 off
      rintro L a wc ⟨hv, HO⟩ hL hc hd
      exact wpOp_off rfl ((wanted_at rfl rfl (hv.get 10 rfl rfl (hd 10 (by decide)))).trans rfl) ⟨hv.put ls_next0_apart 17 rfl (Nat.le_of_ble_eq_true rfl) (Nat.le_of_ble_eq_true rfl) rfl, HO⟩
    · -- 18 off
      rintro L a wc ⟨hv, HO⟩ hL hc hd
      exact wpOp_off rfl ((wanted_at rfl rfl (hv.get 10 rfl rfl (hd 10 (by decide)))).trans rfl) ⟨hv.put ls_next0_apart 18 rfl (Nat.le_of_ble_eq_true rfl) (Nat.le_of_ble_eq_true rfl) rfl, HO⟩
    · -- 19 off
      rintro L a wc ⟨hv, HO⟩ hL hc hd
      exact wpOp_off rfl ((wanted_at rfl rfl (hv.get 10 rfl rfl (hd 10 (by decide)))).trans rfl) ⟨hv.put ls_next0_apart 19 rfl (Nat.le_of_ble_eq_true rfl) (Nat.le_of_ble_eq_true rfl) rfl, HO⟩
    · -- 20 off
      rintro L a wc ⟨hv, HO⟩ hL hc hd
      exact wpOp_off rfl ((wanted_at rfl rfl (hv.get 10 rfl rfl (hd 10 (by decide)))).trans rfl) ⟨hv.put ls_next0_apart 20 rfl (Nat.le_of_ble_eq_true rfl) (Nat.le_of_ble_eq_true rfl) rfl, HO⟩
    · -- 21 pick
      rintro L a wc ⟨hv, HO⟩ hL hc hd
      exact wpOp_val rfl ((wanted_at rfl rfl (hv.get 7 rfl rfl (hd 7 (by decide)))).trans rfl) (ex_pick rfl (hv.get 10 rfl rfl (hd 10 (by decide))) rfl) ⟨hv.put ls_next0_apart 21 rfl (Nat.le_of_ble_eq_true rfl) (Nat.le_of_ble_eq_true rfl) rfl, HO⟩
    · -- 22 pick
      rintro L a wc ⟨hv, HO⟩ hL hc hd
      exact wpOp_val rfl rfl (ex_pick rfl (hv.get 7 rfl rfl (hd 7 (by decide))) (hv.get 21 rfl rfl (hd 21 (by decide)))) ⟨hv.put ls_next0_apart 22 rfl (Nat.le_of_ble_eq_true rfl) (Nat.le_of_ble_eq_true rfl) rfl, HO⟩
  · rintro L a wc ⟨hv, HO⟩ hall
    show K a wc
    have ha := act_lit a
    rw [hv.size, hv.defers] at ha
    have hl : ∀ f : Nat → Value, ((List.range (⟨#[c0, c1, c2, c3, c4, c5, c6, c7, c8, c9, c10, .pointer (some ⟨QR, 0, none⟩), c12, .slice (some ad) nl cL, c14, c15, .int .i64 (k : Nat), .pointer (some ⟨QY, 0, none⟩), c18, c19, c20, c21, c22, c23, c24, c25, c26, c27, c28, c29, c30, c31, c32, c33, c34, c35, c36, c37, c38, c39, c40, c41, c42, c43, c44, c45, c46, c47, c48, c49, c50, c51, c52, c53, c54, c55, c56, c57, c58, c59, c60, c61, c62, c63, c64, c65, c66, c67, c68, c69, c70, c71, c72, c73, c74, c75, c76, c77, c78, c79, c80, c81, c82, c83, c84, c85, c86, c87, c88, c89, c90, c91, c92, c93, c94, c95, c96, c97, c98, c99, c100, c101, c102, c103, c104, c105, c106, c107, c108, c109, c110, c111, c112, c113, c114, c115, c116, c117, c118, c119, c120, c121, c122, c123, c124, c125, c126, c127, c128, c129, c130, c131, c132, c133, c134, c135, c136, c137, c138, c139, c140, c141, c142, c143, c144, c145, c146, c147, c148, c149, c150, c151, c152, c153, c154, c155, c156, c157, c158, c159, c160, c161, c162, c163, c164, c165, c166, c167, c168, c169, c170, c171, c172, c173, c174, c175, c176, c177, c178, c179, c180, c181, c182, c183, c184, c185, c186, c187, c188, c189, c190], df⟩ : Act).tmps.size).map f).toArray = #[f 0, f 1, f 2, f 3, f 4, f 5, f 6, f 7, f 8, f 9, f 10, f 11, f 12, f 13, f 14, f 15, f 16, f 17, f 18, f 19, f 20, f 21, f 22, f 23, f 24, f 25, f 26, f 27, f 28, f 29, f 30, f 31, f 32, f 33, f 34, f 35, f 36, f 37, f 38, f 39, f 40, f 41, f 42, f 43, f 44, f 45, f 46, f 47, f 48, f 49, f 50, f 51, f 52, f 53, f 54, f 55, f 56, f 57, f 58, f 59, f 60, f 61, f 62, f 63, f 64, f 65, f 66, f 67, f 68, f 69, f 70, f 71, f 72, f 73, f 74, f 75, f 76, f 77, f 78, f 79, f 80, f 81, f 82, f 83, f 84, f 85, f 86, f 87, f 88, f 89, f 90, f 91, f 92, f 93, f 94, f 95, f 96, f 97, f 98, f 99, f 100, f 101, f 102, f 103, f 104, f 105, f 106, f 107, f 108, f 109, f 110, f 111, f 112, f 113, f 114, f 115, f 116, f 117, f 118, f 119, f 120, f 121, f 122, f 123, f 124, f 125, f 126, f 127, f 128, f 129, f 130, f 131, f 132, f 133, f 134, f 135, f 136, f 137, f 138, f 139, f 140, f 141, f 142, f 143, f 144, f 145, f 146, f 147, f 148, f 149, f 150, f 151, f 152, f 153, f 154, f 155, f 156, f 157, f 158, f 159, f 160, f 161, f 162, f 163, f 164, f 165, f 166, f 167, f 168, f 169, f 170, f 171, f 172, f 173, f 174, f 175, f 176, f 177, f 178, f 179, f 180, f 181, f 182, f 183, f 184, f 185, f 186, f 187, f 188, f 189, f 190] := fun _ => rfl
    rw [hl] at ha
    simp only [hv.fixed 0 (by decide), hv.fixed 1 (by decide), hv.fixed 2 (by decide), hv.fixed 3 (by decide), hv.fixed 4 (by decide), hv.fixed 5 (by decide), hv.fixed 6 (by decide), hv.fixed 7 (by decide), hv.fixed 8 (by decide), hv.fixed 9 (by decide), hv.fixed 10 (by decide), hv.fixed 11 (by decide), hv.fixed 12 (by decide), hv.fixed 13 (by decide), hv.fixed 14 (by decide), hv.fixed 15 (by decide), hv.fixed 16 (by decide), hv.fixed 17 (by decide), hv.fixed 18 (by decide), hv.fixed 19 (by decide), hv.fixed 20 (by decide), hv.fixed 21 (by decide), hv.fixed 22 (by decide), hv.fixed 23 (by decide), hv.fixed 24 (by decide), hv.fixed 25 (by decide), hv.fixed 26 (by decide), hv.fixed 27 (by decide), hv.fixed 28 (by decide), hv.fixed 29 (by decide), hv.fixed 30 (by decide), hv.fixed 31 (by decide), hv.fixed 32 (by decide), hv.fixed 33 (by decide), hv.fixed 34 (by decide), hv.fixed 35 (by decide), hv.fixed 36 (by decide), hv.fixed 37 (by decide), hv.fixed 38 (by decide), hv.fixed 39 (by decide), hv.fixed 40 (by decide), hv.fixed 41 (by decide), hv.fixed 42 (by decide), hv.fixed 43 (by decide), hv.fixed 44 (by decide), hv.fixed 45 (by decide), hv.fixed 46 (by decide), hv.fixed 47 (by decide), hv.fixed 48 (by decide), hv.fixed 49 (by decide), hv.fixed 50 (by decide), hv.fixed 51 (by decide), hv.fixed 52 (by decide), hv.fixed 53 (by decide), hv.fixed 54 (by decide), hv.fixed 55 (by decide), hv.fixed 56 (by decide), hv.fixed 57 (by decide), hv.fixed 58 (by decide), hv.fixed 59 (by decide), hv.fixed 60 (by decide), hv.fixed 61 (by decide), hv.fixed 62 (by decide), hv.fixed 63 (by decide), hv.fixed 64 (by decide), hv.fixed 65 (by decide), hv.fixed 66 (by decide), hv.fixed 67 (by decide), hv.fixed 68 (by decide), hv.fixed 69 (by decide), hv.fixed 70 (by decide), hv.fixed 71 (by decide), hv.fixed 72 (by decide), hv.fixed 73 (by decide), hv.fixed 74 (by decide), hv.fixed 75 (by decide), hv.fixed 76 (by decide), hv.fixed 77 (by decide), hv.fixed 78 (by decide), hv.fixed 79 (by decide), hv.fixed 80 (by decide), hv.fixed 81 (by decide), hv.fixed 82 (by decide), hv.fixed 83 (by decide), hv.fixed 84 (by decide), hv.fixed 85 (by decide), hv.fixed 86 (by decide), hv.fixed 87 (by decide), hv.fixed 88 (by decide), hv.fixed 89 (by decide), hv.fixed 90 (by decide), hv.fixed 91 (by decide), hv.fixed 92 (by decide), hv.fixed 93 (by decide), hv.fixed 94 (by decide), hv.fixed 95 (by decide), hv.fixed 96 (by decide), hv.fixed 97 (by decide), hv.fixed 98 (by decide), hv.fixed 99 (by decide), hv.fixed 100 (by decide), hv.fixed 101 (by decide), hv.fixed 102 (by decide), hv.fixed 103 (by decide), hv.fixed 104 (by decide), hv.fixed 105 (by decide), hv.fixed 106 (by decide), hv.fixed 107 (by decide), hv.fixed 108 (by decide), hv.fixed 109 (by decide), hv.fixed 110 (by decide), hv.fixed 111 (by decide), hv.fixed 112 (by decide), hv.fixed 113 (by decide), hv.fixed 114 (by decide), hv.fixed 115 (by decide), hv.fixed 116 (by decide), hv.fixed 117 (by decide), hv.fixed 118 (by decide), hv.fixed 119 (by decide), hv.fixed 120 (by decide), hv.fixed 121 (by decide), hv.fixed 122 (by decide), hv.fixed 123 (by decide), hv.fixed 124 (by decide), hv.fixed 125 (by decide), hv.fixed 126 (by decide), hv.fixed 127 (by decide), hv.fixed 128 (by decide), hv.fixed 129 (by decide), hv.fixed 130 (by decide), hv.fixed 131 (by decide), hv.fixed 132 (by decide), hv.fixed 133 (by decide), hv.fixed 134 (by decide), hv.fixed 135 (by decide), hv.fixed 136 (by decide), hv.fixed 137 (by decide), hv.fixed 138 (by decide), hv.fixed 139 (by decide), hv.fixed 140 (by decide), hv.fixed 141 (by decide), hv.fixed 142 (by decide), hv.fixed 166 (by decide), hv.fixed 167 (by decide), hv.fixed 168 (by decide), hv.fixed 169 (by decide), hv.fixed 170 (by decide), hv.fixed 171 (by decide), hv.fixed 172 (by decide), hv.fixed 173 (by decide), hv.fixed 174 (by decide), hv.fixed 175 (by decide), hv.fixed 176 (by decide), hv.fixed 177 (by decide), hv.fixed 178 (by decide), hv.fixed 179 (by decide), hv.fixed 180 (by decide), hv.fixed 181 (by decide), hv.fixed 182 (by decide), hv.fixed 183 (by decide), hv.fixed 184 (by decide), hv.fixed 185 (by decide), hv.fixed 186 (by decide), hv.fixed 187 (by decide), hv.fixed 188 (by decide), hv.fixed 189 (by decide), hv.fixed 190 (by decide), hv.get 22 (d := 165) rfl rfl (hall 22 (by decide))] at ha
    rw [ha]
    exact hK _ _ _ _ _ _ _ _ _ _ _ _ _ _ _ _ _ _ _ _ _ _ wc HO.out
noncomputable def ls_next1_code : Code := ((Tryd.f6.body.bind (regionOf 28)).getD .skip)
def ls_next1_dsts : List (Option Nat) := [some 143, some 144, some 145, some 146, some 147, some 148, some 149, some 150, some 151, some 152, some 153, some 154, some 155, some 156, some 157, some 158, some 159, some 160, some 161, some 162, some 163, some 164, some 165]
theorem ls_next1_apart : apartD ls_next1_dsts = true := by decide +kernel
set_option maxRecDepth 1000000 in
set_option maxHeartbeats 16000000 in
theorem ls_next1 (wr : World) (k nl cL QR QY nR nY mR mY fcR ccR fcY ccY fc0 n0 : Nat) (pR pY : Int) (ad : Addr) (FAR CAR FAY CAY FA0 : Option Addr) (hk : k < nl) (hkb : k ≤ 9223372036854775807) (HC : Hid (Cells wr QR [.int .i64 pR, .slice FAR nR fcR, .slice CAR mR ccR])) (HY : Hid (Cells wr QY [.int .i64 pY, .slice FAY nY fcY, .slice CAY mY ccY])) (hnn : nY = nR) (j : Nat) (hk0 : k = j + 1) (a1 : wr.cell? ⟨(ad.add (j * 3)).block, (ad.add (j * 3)).off + 1, none⟩ = some (.slice FA0 n0 fc0)) (f0 fY : List Int) (H0 : Hid (Rs RI wr (.slice FA0 n0 fc0) f0)) (HF : Hid (Rs RI wr (.slice FAY nY fcY) fY)) (HB : Hid (Rb.Bf f0 fY)) (c0 c1 c2 c3 c4 c5 c6 c7 c8 c9 c10 c12 c14 c15 c18 c19 c20 c21 c22 c23 c24 c25 c26 c27 c28 c29 c30 c31 c32 c33 c34 c35 c36 c37 c38 c39 c40 c41 c42 c43 c44 c45 c46 c47 c48 c49 c50 c51 c52 c53 c54 c55 c56 c57 c58 c59 c60 c61 c62 c63 c64 c65 c66 c67 c68 c69 c70 c71 c72 c73 c74 c75 c76 c77 c78 c79 c80 c81 c82 c83 c84 c85 c86 c87 c88 c89 c90 c91 c92 c93 c94 c95 c96 c97 c98 c99 c100 c101 c102 c103 c104 c105 c106 c107 c108 c109 c110 c111 c112 c113 c114 c115 c116 c117 c118 c119 c120 c121 c122 c123 c124 c125 c126 c127 c128 c129 c130 c131 c132 c133 c134 c135 c136 c137 c138 c139 c140 c141 c142 c143 c144 c145 c146 c147 c148 c149 c150 c151 c152 c153 c154 c155 c156 c157 c158 c159 c160 c161 c162 c163 c164 c165 c166 c167 c168 c169 c170 c171 c172 c173 c174 c175 c176 c177 c178 c179 c180 c181 c182 c183 c184 c185 c186 c187 c188 c189 c190 : Value) (df : List Deferred) (K : Act → World → Prop)
    (hK : ∀  (u143 u144 u145 u146 u147 u148 u149 u150 u151 u152 u153 u154 u155 u156 u157 u158 u159 u160 u161 u162 u163 u164 : Value) (wx : World), Ext wr wx → K ⟨#[c0, c1, c2, c3, c4, c5, c6, c7, c8, c9, c10, .pointer (some ⟨QR, 0, none⟩), c12, .slice (some ad) nl cL, c14, c15, .int .i64 (k : Nat), .pointer (some ⟨QY, 0, none⟩), c18, c19, c20, c21, c22, c23, c24, c25, c26, c27, c28, c29, c30, c31, c32, c33, c34, c35, c36, c37, c38, c39, c40, c41, c42, c43, c44, c45, c46, c47, c48, c49, c50, c51, c52, c53, c54, c55, c56, c57, c58, c59, c60, c61, c62, c63, c64, c65, c66, c67, c68, c69, c70, c71, c72, c73, c74, c75, c76, c77, c78, c79, c80, c81, c82, c83, c84, c85, c86, c87, c88, c89, c90, c91, c92, c93, c94, c95, c96, c97, c98, c99, c100, c101, c102, c103, c104, c105, c106, c107, c108, c109, c110, c111, c112, c113, c114, c115, c116, c117, c118, c119, c120, c121, c122, c123, c124, c125, c126, c127, c128, c129, c130, c131, c132, c133, c134, c135, c136, c137, c138, c139, c140, c141, c142, u143, u144, u145, u146, u147, u148, u149, u150, u151, u152, u153, u154, u155, u156, u157, u158, u159, u160, u161, u162, u163, u164, .bool false, c166, c167, c168, c169, c170, c171, c172, c173, c174, c175, c176, c177, c178, c179, c180, c181, c182, c183, c184, c185, c186, c187, c188, c189, c190], df⟩ wx) :
    Code.wp Tryd.prog ls_next1_code (AtEnd K) ⟨#[c0, c1, c2, c3, c4, c5, c6, c7, c8, c9, c10, .pointer (some ⟨QR, 0, none⟩), c12, .slice (some ad) nl cL, c14, c15, .int .i64 (k : Nat), .pointer (some ⟨QY, 0, none⟩), c18, c19, c20, c21, c22, c23, c24, c25, c26, c27, c28, c29, c30, c31, c32, c33, c34, c35, c36, c37, c38, c39, c40, c41, c42, c43, c44, c45, c46, c47, c48, c49, c50, c51, c52, c53, c54, c55, c56, c57, c58, c59, c60, c61, c62, c63, c64, c65, c66, c67, c68, c69, c70, c71, c72, c73, c74, c75, c76, c77, c78, c79, c80, c81, c82, c83, c84, c85, c86, c87, c88, c89, c90, c91, c92, c93, c94, c95, c96, c97, c98, c99, c100, c101, c102, c103, c104, c105, c106, c107, c108, c109, c110, c111, c112, c113, c114, c115, c116, c117, c118, c119, c120, c121, c122, c123, c124, c125, c126, c127, c128, c129, c130, c131, c132, c133, c134, c135, c136, c137, c138, c139, c140, c141, c142, c143, c144, c145, c146, c147, c148, c149, c150, c151, c152, c153, c154, c155, c156, c157, c158, c159, c160, c161, c162, c163, c164, c165, c166, c167, c168, c169, c170, c171, c172, c173, c174, c175, c176, c177, c178, c179, c180, c181, c182, c183, c184, c185, c186, c187, c188, c189, c190], df⟩ wr := by
  conv => arg 2; whnf
  refine region_inv (by kernel_rfl) [[], [0], [1], [], [3], [4], [2, 5], [6], [7], [8, 7], [9, 7, 7], [10], [10], [12, 10], [11, 13, 10], [14, 10], [15, 10], [10], [17, 10], [16, 18, 10, 10], [19, 10], [10, 20, 7], [7, 21]] (by kernel_rfl) [0, 1, 2, 3, 4, 5, 6, 7, 8, 9, 10, 11, 12, 13, 14, 15, 16, 17, 18, 19, 20, 21, 22] (by decide +kernel) (by decide +kernel) (by decide +kernel) (fun L a wc => Inv ls_next1_dsts [.pointer (some ⟨QY, 1, none⟩), .slice FAY nY fcY, .int .i64 (nY : Nat), .pointer (some ⟨QR, 1, none⟩), .slice FAR nR fcR, .int .i64 (nR : Nat), .bool false, .bool false, .int .i64 (k : Nat), .bool true, .bool true, .slice (some ad) nl cL, .int .i64 (k : Nat), .int .i64 (j : Nat), .pointer (some (ad.add (j * 3))), .pointer (some ⟨(ad.add (j * 3)).block, (ad.add (j * 3)).off + 1, none⟩), .slice FA0 n0 fc0, .pointer (some ⟨QY, 1, none⟩), .slice FAY nY fcY, .bool true, .bool false, .bool false, .bool false] ⟨#[c0, c1, c2, c3, c4, c5, c6, c7, c8, c9, c10, .pointer (some ⟨QR, 0, none⟩), c12, .slice (some ad) nl cL, c14, c15, .int .i64 (k : Nat), .pointer (some ⟨QY, 0, none⟩), c18, c19, c20, c21, c22, c23, c24, c25, c26, c27, c28, c29, c30, c31, c32, c33, c34, c35, c36, c37, c38, c39, c40, c41, c42, c43, c44, c45, c46, c47, c48, c49, c50, c51, c52, c53, c54, c55, c56, c57, c58, c59, c60, c61, c62, c63, c64, c65, c66, c67, c68, c69, c70, c71, c72, c73, c74, c75, c76, c77, c78, c79, c80, c81, c82, c83, c84, c85, c86, c87, c88, c89, c90, c91, c92, c93, c94, c95, c96, c97, c98, c99, c100, c101, c102, c103, c104, c105, c106, c107, c108, c109, c110, c111, c112, c113, c114, c115, c116, c117, c118, c119, c120, c121, c122, c123, c124, c125, c126, c127, c128, c129, c130, c131, c132, c133, c134, c135, c136, c137, c138, c139, c140, c141, c142, c143, c144, c145, c146, c147, c148, c149, c150, c151, c152, c153, c154, c155, c156, c157, c158, c159, c160, c161, c162, c163, c164, c165, c166, c167, c168, c169, c170, c171, c172, c173, c174, c175, c176, c177, c178, c179, c180, c181, c182, c183, c184, c185, c186, c187, c188, c189, c190], df⟩ L a ∧ Hid (Ext wr wc)) ⟨Inv.start, Lib.hid ((Ext.refl wr).drew)⟩ ?_ ?_
  · refine ⟨?_, ?_, ?_, ?_, ?_, ?_, ?_, ?_, ?_, ?_, ?_, ?_, ?_, ?_, ?_, ?_, ?_, ?_, ?_, ?_, ?_, ?_, ?_, trivial⟩
    · -- 0 field
      rintro L a wc ⟨hv, HO⟩ hL hc hd
      exact wpOp_val rfl rfl (ex_field rfl ((hv.fixed 17 (by decide)).trans rfl) (by go_simp)) ⟨hv.put ls_next1_apart 0 rfl (Nat.le_of_ble_eq_true rfl) (Nat.le_of_ble_eq_true rfl) rfl, HO⟩
    · -- 1 load
      rintro L a wc ⟨hv, HO⟩ hL hc hd
      have h0 : wc.cell? ⟨QY, 1, none⟩ = some (.slice FAY nY fcY) := HO.out.cell (HY.out 1 _ rfl)
      exact wpOp_val rfl rfl (ex_load rfl (hv.get 0 rfl rfl (hd 0 (by decide))) (by go_simp)) ⟨hv.put ls_next1_apart 1 rfl (Nat.le_of_ble_eq_true rfl) (Nat.le_of_ble_eq_true rfl) rfl, HO⟩
    · -- 2 raw
      rintro L a wc ⟨hv, HO⟩ hL hc hd
      exact wpOp_val rfl rfl (ex_len rfl (hv.get 1 rfl rfl (hd 1 (by decide))) (by go_simp)) ⟨hv.put ls_next1_apart 2 rfl (Nat.le_of_ble_eq_true rfl) (Nat.le_of_ble_eq_true rfl) rfl, HO⟩
    · -- 3 field
      rintro L a wc ⟨hv, HO⟩ hL hc hd
      exact wpOp_val rfl rfl (ex_field rfl ((hv.fixed 11 (by decide)).trans rfl) (by go_simp)) ⟨hv.put ls_next1_apart 3 rfl (Nat.le_of_ble_eq_true rfl) (Nat.le_of_ble_eq_true rfl) rfl, HO⟩
    · -- 4 load
      rintro L a wc ⟨hv, HO⟩ hL hc hd
      have h0 : wc.cell? ⟨QR, 1, none⟩ = some (.slice FAR nR fcR) := HO.out.cell (HC.out 1 _ rfl)
      exact wpOp_val rfl rfl (ex_load rfl (hv.get 3 rfl rfl (hd 3 (by decide))) (by go_simp)) ⟨hv.put ls_next1_apart 4 rfl (Nat.le_of_ble_eq_true rfl) (Nat.le_of_ble_eq_true rfl) rfl, HO⟩
    · -- 5 raw
      rintro L a wc ⟨hv, HO⟩ hL hc hd
      exact wpOp_val rfl rfl (ex_len rfl (hv.get 4 rfl rfl (hd 4 (by decide))) (by go_simp)) ⟨hv.put ls_next1_apart 5 rfl (Nat.le_of_ble_eq_true rfl) (Nat.le_of_ble_eq_true rfl) rfl, HO⟩
    · -- 6 bin
      rintro L a wc ⟨hv, HO⟩ hL hc hd
      have u : (nY : Int) = (nR : Int) := by omega
      exact wpOp_val rfl rfl (ex_bin rfl (hv.get 2 rfl rfl (hd 2 (by decide))) (hv.get 5 rfl rfl (hd 5 (by decide))) (by go_simp)) ⟨hv.put ls_next1_apart 6 rfl (Nat.le_of_ble_eq_true rfl) (Nat.le_of_ble_eq_true rfl) rfl, HO⟩
    · -- 7 move
      rintro L a wc ⟨hv, HO⟩ hL hc hd
      exact wpOp_val rfl rfl (ex_move rfl (hv.get 6 rfl rfl (hd 6 (by decide)))) ⟨hv.put ls_next1_apart 7 rfl (Nat.le_of_ble_eq_true rfl) (Nat.le_of_ble_eq_true rfl) rfl, HO⟩
    · -- 8 move
      rintro L a wc ⟨hv, HO⟩ hL hc hd
      exact wpOp_val rfl ((wanted_at rfl rfl (hv.get 7 rfl rfl (hd 7 (by decide)))).trans rfl) (ex_move rfl ((hv.fixed 16 (by decide)).trans rfl)) ⟨hv.put ls_next1_apart 8 rfl (Nat.le_of_ble_eq_true rfl) (Nat.le_of_ble_eq_true rfl) rfl, HO⟩
    · -- 9 bin
      rintro L a wc ⟨hv, HO⟩ hL hc hd
      have u := hk0
      exact wpOp_val rfl ((wanted_at rfl rfl (hv.get 7 rfl rfl (hd 7 (by decide)))).trans rfl) (ex_bin rfl (hv.get 8 rfl rfl (hd 8 (by decide))) rfl (by go_simp)) ⟨hv.put ls_next1_apart 9 rfl (Nat.le_of_ble_eq_true rfl) (Nat.le_of_ble_eq_true rfl) rfl, HO⟩
    · -- 10 move
      rintro L a wc ⟨hv, HO⟩ hL hc hd
      exact wpOp_val rfl ((wanted_at rfl rfl (hv.get 7 rfl rfl (hd 7 (by decide)))).trans rfl) (ex_move rfl (hv.get 9 rfl rfl (hd 9 (by decide)))) ⟨hv.put ls_next1_apart 10 rfl (Nat.le_of_ble_eq_true rfl) (Nat.le_of_ble_eq_true rfl) rfl, HO⟩
    · -- 11 move
      rintro L a wc ⟨hv, HO⟩ hL hc hd
      exact wpOp_val rfl ((wanted_at rfl rfl (hv.get 10 rfl rfl (hd 10 (by decide)))).trans rfl) (ex_move rfl ((hv.fixed 13 (by decide)).trans rfl)) ⟨hv.put ls_next1_apart 11 rfl (Nat.le_of_ble_eq_true rfl) (Nat.le_of_ble_eq_true rfl) rfl, HO⟩
    · -- 12 move
      rintro L a wc ⟨hv, HO⟩ hL hc hd
      exact wpOp_val rfl ((wanted_at rfl rfl (hv.get 10 rfl rfl (hd 10 (by decide)))).trans rfl) (ex_move rfl ((hv.fixed 16 (by decide)).trans rfl)) ⟨hv.put ls_next1_apart 12 rfl (Nat.le_of_ble_eq_true rfl) (Nat.le_of_ble_eq_true rfl) rfl, HO⟩
    · -- 13 bin
      rintro L a wc ⟨hv, HO⟩ hL hc hd
      have u : wrap64 ((k : Int) - 1) = (j : Int) := by unfold wrap64; omega
      have u2 : IntKind.i64.wrap ((k : Int) - 1) = (j : Int) := by rw [IntKind.wrap_i64]; omega
      have u3 : IntKind.i64.wrap (j : Int) = (j : Int) := by rw [IntKind.wrap_i64]; omega
      exact wpOp_val rfl ((wanted_at rfl rfl (hv.get 10 rfl rfl (hd 10 (by decide)))).trans rfl) (ex_bin rfl (hv.get 12 rfl rfl (hd 12 (by decide))) rfl (by go_simp)) ⟨hv.put ls_next1_apart 13 rfl (Nat.le_of_ble_eq_true rfl) (Nat.le_of_ble_eq_true rfl) rfl, HO⟩
    · -- 14 index
      rintro L a wc ⟨hv, HO⟩ hL hc hd
      have u1 : (0 : Int) ≤ (j : Int) := by omega
      have u2 : (j : Int) < (nl : Int) := by omega
      exact wpOp_val rfl ((wanted_at rfl rfl (hv.get 10 rfl rfl (hd 10 (by decide)))).trans rfl) (ex_index rfl (hv.get 11 rfl rfl (hd 11 (by decide))) (hv.get 13 rfl rfl (hd 13 (by decide))) (by go_simp)) ⟨hv.put ls_next1_apart 14 rfl (Nat.le_of_ble_eq_true rfl) (Nat.le_of_ble_eq_true rfl) rfl, HO⟩
    · -- 15 field
      rintro L a wc ⟨hv, HO⟩ hL hc hd
      exact wpOp_val rfl ((wanted_at rfl rfl (hv.get 10 rfl rfl (hd 10 (by decide)))).trans rfl) (ex_field rfl (hv.get 14 rfl rfl (hd 14 (by decide))) (by go_simp)) ⟨hv.put ls_next1_apart 15 rfl (Nat.le_of_ble_eq_true rfl) (Nat.le_of_ble_eq_true rfl) rfl, HO⟩
    · -- 16 load
      rintro L a wc ⟨hv, HO⟩ hL hc hd
      have h0 : wc.cell? ⟨(ad.add (j * 3)).block, (ad.add (j * 3)).off + 1, none⟩ = some (.slice FA0 n0 fc0) := HO.out.cell a1
      exact wpOp_val rfl ((wanted_at rfl rfl (hv.get 10 rfl rfl (hd 10 (by decide)))).trans rfl) (ex_load rfl (hv.get 15 rfl rfl (hd 15 (by decide))) (by go_simp)) ⟨hv.put ls_next1_apart 16 rfl (Nat.le_of_ble_eq_true rfl) (Nat.le_of_ble_eq_true rfl) rfl, HO⟩
    · -- 17 field
      rintro L a wc ⟨hv, HO⟩ hL hc hd
      exact wpOp_val rfl ((wanted_at rfl rfl (hv.get 10 rfl rfl (hd 10 (by decide)))).trans rfl) (ex_field rfl ((hv.fixed 17 (by decide)).trans rfl) (by go_simp)) ⟨hv.put ls_next1_apart 17 rfl (Nat.le_of_ble_eq_true rfl) (Nat.le_of_ble_eq_true rfl) rfl, HO⟩
    · -- 18 load
      rintro L a wc ⟨hv, HO⟩ hL hc hd
      have h0 : wc.cell? ⟨QY, 1, none⟩ = some (.slice FAY nY fcY) := HO.out.cell (HY.out 1 _ rfl)
      exact wpOp_val rfl ((wanted_at rfl rfl (hv.get 10 rfl rfl (hd 10 (by decide)))).trans rfl) (ex_load rfl (hv.get 17 rfl rfl (hd 17 (by decide))) (by go_simp)) ⟨hv.put ls_next1_apart 18 rfl (Nat.le_of_ble_eq_true rfl) (Nat.le_of_ble_eq_true rfl) rfl, HO⟩
    · -- 19 call
      rintro L a wc ⟨hv, HO⟩ hL hc hd
      refine wpOp_callw (R := fun v w1 => v = .bool true ∧ Ext wc w1) rfl ((wanted_at rfl rfl (hv.get 10 rfl rfl (hd 10 (by decide)))).trans rfl) (ex_call rfl rfl (map2c (hv.get 16 rfl rfl (hd 16 (by decide))) (hv.get 18 rfl rfl (hd 18 (by decide)))) (enters_of Tryd.func31 (by kernel_rfl) rfl _ _)) ((before_any f0 fY _ _ wc (Rs.ext RI.ext _ _ _ _ HO.out H0.out) (Rs.ext RI.ext _ _ _ _ HO.out HF.out) HB.out).mono (fun e w' h => ⟨_, h.1, rfl, h.2⟩)) ?_
      rintro v w' ⟨rfl, hx⟩
      exact ⟨hv.put ls_next1_apart 19 rfl (Nat.le_of_ble_eq_true rfl) (Nat.le_of_ble_eq_true rfl) rfl, Lib.hid (HO.out.trans hx)⟩
    · -- 20 un
      rintro L a wc ⟨hv, HO⟩ hL hc hd
      exact wpOp_val rfl ((wanted_at rfl rfl (hv.get 10 rfl rfl (hd 10 (by decide)))).trans rfl) (ex_un rfl (hv.get 19 rfl rfl (hd 19 (by decide))) (by go_simp)) ⟨hv.put ls_next1_apart 20 rfl (Nat.le_of_ble_eq_true rfl) (Nat.le_of_ble_eq_true rfl) rfl, HO⟩
    · -- 21 pick
      rintro L a wc ⟨hv, HO⟩ hL hc hd
      exact wpOp_val rfl ((wanted_at rfl rfl (hv.get 7 rfl rfl (hd 7 (by decide)))).trans rfl) (ex_pick rfl (hv.get 10 rfl rfl (hd 10 (by decide))) (hv.get 20 rfl rfl (hd 20 (by decide)))) ⟨hv.put ls_next1_apart 21 rfl (Nat.le_of_ble_eq_true rfl) (Nat.le_of_ble_eq_true rfl) rfl, HO⟩
    · -- 22 pick
      rintro L a wc ⟨hv, HO⟩ hL hc hd
      exact wpOp_val rfl rfl (ex_pick rfl (hv.get 7 rfl rfl (hd 7 (by decide))) (hv.get 21 rfl rfl (hd 21 (by decide)))) ⟨hv.put ls_next1_apart 22 rfl (Nat.le_of_ble_eq_true rfl) (Nat.le_of_ble_eq_true rfl) rfl, HO⟩
  · rintro L a wc ⟨hv, HO⟩ hall
    show K a wc
    have ha := act_lit a
    rw [hv.size, hv.defers] at ha
    have hl : ∀ f : Nat → Value, ((List.range (⟨#[c0, c1, c2, c3, c4, c5, c6, c7, c8, c9, c10, .pointer (some ⟨QR, 0, none⟩), c12, .slice (some ad) nl cL, c14, c15, .int .i64 (k : Nat), .pointer (some ⟨QY, 0, none⟩), c18, c19, c20, c21, c22, c23, c24, c25, c26, c27, c28, c29, c30, c31, c32, c33, c34, c35, c36, c37, c38, c39, c40, c41, c42, c43, c44, c45, c46, c47, c48, c49, c50, c51, c52, c53, c54, c55, c56, c57, c58, c59, c60, c61, c62, c63, c64, c65, c66, c67, c68, c69, c70, c71, c72, c73, c74, c75, c76, c77, c78, c79, c80, c81, c82, c83, c84, c85, c86, c87, c88, c89, c90, c91, c92, c93, c94, c95, c96, c97, c98, c99, c100, c101, c102, c103, c104, c105, c106, c107, c108, c109, c110, c111, c112, c113, c114, c115, c116, c117, c118, c119, c120, c121, c122, c123, c124, c125, c126, c127, c128, c129, c130, c131, c132, c133, c134, c135, c136, c137, c138, c139, c140, c141, c142, c143, c144, c145, c146, c147, c148, c149, c150, c151, c152, c153, c154, c155, c156, c157, c158, c159, c160, c161, c162, c163, c164, c165, c166, c167, c168, c169, c170, c171, c172, c173, c174, c175, c176, c177, c178, c179, c180, c181, c182, c183, c184, c185, c186, c187, c188, c189, c190], df⟩ : Act).tmps.size).map f).toArray = #[f 0, f 1, f 2, f 3, f 4, f 5, f 6, f 7, f 8, f 9, f 10, f 11, f 12, f 13, f 14, f 15, f 16, f 17, f 18, f 19, f 20, f 21, f 22, f 23, f 24, f 25, f 26, f 27, f 28, f 29, f 30, f 31, f 32, f 33, f 34, f 35, f 36, f 37, f 38, f 39, f 40, f 41, f 42, f 43, f 44, f 45, f 46, f 47, f 48, f 49, f 50, f 51, f 52, f 53, f 54, f 55, f 56, f 57, f 58, f 59, f 60, f 61, f 62, f 63, f 64, f 65, f 66, f 67, f 68, f 69, f 70, f 71, f 72, f 73, f 74, f 75, f 76, f 77, f 78, f 79, f 80, f 81, f 82, f 83, f 84, f 85, f 86, f 87, f 88, f 89, f 90, f 91, f 92, f 93, f 94, f 95, f 96, f 97, f 98, f 99, f 100, f 101, f 102, f 103, f 104, f 105, f 106, f 107, f 108, f 109, f 110, f 111, f 112, f 113, f 114, f 115, f 116, f 117, f 118, f 119, f 120, f 121, f 122, f 123, f 124, f 125, f 126, f 127, f 128, f 129, f 130, f 131, f 132, f 133, f 134, f 135, f 136, f 137, f 138, f 139, f 140, f 141, f 142, f 143, f 144, f 145, f 146, f 147, f 148, f 149, f 150, f 151, f 152, f 153, f 154, f 155, f 156, f 157, f 158, f 159, f 160, f 161, f 162, f 163, f 164, f 165, f 166, f 167, f 168, f 169, f 170, f 171, f 172, f 173, f 174, f 175, f 176, f 177, f 178, f 179, f 180, f 181, f 182, f 183, f 184, f 185, f 186, f 187, f 188, f 189, f 190] := fun _ => rfl
    rw [hl] at ha
    simp only [hv.fixed 0 (by decide), hv.fixed 1 (by decide), hv.fixed 2 (by decide), hv.fixed 3 (by decide), hv.fixed 4 (by decide), hv.fixed 5 (by decide), hv.fixed 6 (by decide), hv.fixed 7 (by decide), hv.fixed 8 (by decide), hv.fixed 9 (by decide), hv.fixed 10 (by decide), hv.fixed 11 (by decide), hv.fixed 12 (by decide), hv.fixed 13 (by decide), hv.fixed 14 (by decide), hv.fixed 15 (by decide), hv.fixed 16 (by decide), hv.fixed 17 (by decide), hv.fixed 18 (by decide), hv.fixed 19 (by decide), hv.fixed 20 (by decide), hv.fixed 21 (by decide), hv.fixed 22 (by decide), hv.fixed 23 (by decide), hv.fixed 24 (by decide), hv.fixed 25 (by decide), hv.fixed 26 (by decide), hv.fixed 27 (by decide), hv.fixed 28 (by decide), hv.fixed 29 (by decide), hv.fixed 30 (by decide), hv.fixed 31 (by decide), hv.fixed 32 (by decide), hv.fixed 33 (by decide), hv.fixed 34 (by decide), hv.fixed 35 (by decide), hv.fixed 36 (by decide), hv.fixed 37 (by decide), hv.fixed 38 (by decide), hv.fixed 39 (by decide), hv.fixed 40 (by decide), hv.fixed 41 (by decide), hv.fixed 42 (by decide), hv.fixed 43 (by decide), hv.fixed 44 (by decide), hv.fixed 45 (by decide), hv.fixed 46 (by decide), hv.fixed 47 (by decide), hv.fixed 48 (by decide), hv.fixed 49 (by decide), hv.fixed 50 (by decide), hv.fixed 51 (by decide), hv.fixed 52 (by decide), hv.fixed 53 (by decide), hv.fixed 54 (by decide), hv.fixed 55 (by decide), hv.fixed 56 (by decide), hv.fixed 57 (by decide), hv.fixed 58 (by decide), hv.fixed 59 (by decide), hv.fixed 60 (by decide), hv.fixed 61 (by decide), hv.fixed 62 (by decide), hv.fixed 63 (by decide), hv.fixed 64 (by decide), hv.fixed 65 (by decide), hv.fixed 66 (by decide), hv.fixed 67 (by decide), hv.fixed 68 (by decide), hv.fixed 69 (by decide), hv.fixed 70 (by decide), hv.fixed 71 (by decide), hv.fixed 72 (by decide), hv.fixed 73 (by decide), hv.fixed 74 (by decide), hv.fixed 75 (by decide), hv.fixed 76 (by decide), hv.fixed 77 (by decide), hv.fixed 78 (by decide), hv.fixed 79 (by decide), hv.fixed 80 (by decide), hv.fixed 81 (by decide), hv.fixed 82 (by decide), hv.fixed 83 (by decide), hv.fixed 84 (by decide), hv.fixed 85 (by decide), hv.fixed 86 (by decide), hv.fixed 87 (by decide), hv.fixed 88 (by decide), hv.fixed 89 (by decide), hv.fixed 90 (by decide), hv.fixed 91 (by decide), hv.fixed 92 (by decide), hv.fixed 93 (by decide), hv.fixed 94 (by decide), hv.fixed 95 (by decide), hv.fixed 96 (by decide), hv.fixed 97 (by decide), hv.fixed 98 (by decide), hv.fixed 99 (by decide), hv.fixed 100 (by decide), hv.fixed 101 (by decide), hv.fixed 102 (by decide), hv.fixed 103 (by decide), hv.fixed 104 (by decide), hv.fixed 105 (by decide), hv.fixed 106 (by decide), hv.fixed 107 (by decide), hv.fixed 108 (by decide), hv.fixed 109 (by decide), hv.fixed 110 (by decide), hv.fixed 111 (by decide), hv.fixed 112 (by decide), hv.fixed 113 (by decide), hv.fixed 114 (by decide), hv.fixed 115 (by decide), hv.fixed 116 (by decide), hv.fixed 117 (by decide), hv.fixed 118 (by decide), hv.fixed 119 (by decide), hv.fixed 120 (by decide), hv.fixed 121 (by decide), hv.fixed 122 (by decide), hv.fixed 123 (by decide), hv.fixed 124 (by decide), hv.fixed 125 (by decide), hv.fixed 126 (by decide), hv.fixed 127 (by decide), hv.fixed 128 (by decide), hv.fixed 129 (by decide), hv.fixed 130 (by decide), hv.fixed 131 (by decide), hv.fixed 132 (by decide), hv.fixed 133 (by decide), hv.fixed 134 (by decide), hv.fixed 135 (by decide), hv.fixed 136 (by decide), hv.fixed 137 (by decide), hv.fixed 138 (by decide), hv.fixed 139 (by decide), hv.fixed 140 (by decide), hv.fixed 141 (by decide), hv.fixed 142 (by decide), hv.fixed 166 (by decide), hv.fixed 167 (by decide), hv.fixed 168 (by decide), hv.fixed 169 (by decide), hv.fixed 170 (by decide), hv.fixed 171 (by decide), hv.fixed 172 (by decide), hv.fixed 173 (by decide), hv.fixed 174 (by decide), hv.fixed 175 (by decide), hv.fixed 176 (by decide), hv.fixed 177 (by decide), hv.fixed 178 (by decide), hv.fixed 179 (by decide), hv.fixed 180 (by decide), hv.fixed 181 (by decide), hv.fixed 182 (by decide), hv.fixed 183 (by decide), hv.fixed 184 (by decide), hv.fixed 185 (by decide), hv.fixed 186 (by decide), hv.fixed 187 (by decide), hv.fixed 188 (by decide), hv.fixed 189 (by decide), hv.fixed 190 (by decide), hv.get 22 (d := 165) rfl rfl (hall 22 (by decide))] at ha
    rw [ha]
    exact hK _ _ _ _ _ _ _ _ _ _ _ _ _ _ _ _ _ _ _ _ _ _ wc HO.out
end Go.Proofs.YtdmljilcbndmfaaDoor
