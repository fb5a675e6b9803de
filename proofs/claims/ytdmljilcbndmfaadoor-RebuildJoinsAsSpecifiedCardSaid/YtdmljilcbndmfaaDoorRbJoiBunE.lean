/- What the program's functions do, step by step: part E of the texts for this claim; no condition beyond what each theorem states. -/
import Derived.Lib.AppendStr
import Derived.Deep.RegionHeld3
import Derived.Test.YtdmljilcbndmfaaDoorRbJoiBunA
import Derived.Test.YtdmljilcbndmfaaDoorRbJoiBunB
import Derived.Test.YtdmljilcbndmfaaDoorRbJoiBunC
import Derived.Test.YtdmljilcbndmfaaDoorRbJoiBunD
/- THE WALK over Reduce of the specification of matrices. -/
namespace Mx
def toInts (p : List Nat) : List Int := p.map fun x : Nat => (x : Int)
theorem toInts_len (p : List Nat) : (toInts p).length = p.length := by simp [toInts]
theorem toInts_snoc (p : List Nat) (c : Nat) : toInts (p ++ [c]) = toInts p ++ [(c : Int)] := by simp [toInts]
theorem colStep_none {s : Mat × List Nat} {c : Nat} (h : lead s.1 s.2.length c = none) : colStep s c = s := by unfold colStep; rw [h]
theorem colStep_some {s : Mat × List Nat} {c k : Nat} (h : lead s.1 s.2.length c = some k) : colStep s c = (pivot s.1 s.2.length k c, s.2 ++ [c]) := by unfold colStep; rw [h]
theorem redTo_few {n : Nat} {m : Mat} (h : Rect n m) (c : Nat) : (redTo m c).2.length ≤ c := by
  have hr := red_to h c
  by_cases hz : (redTo m c).2.length = 0
  · omega
  · have : ∀ j, j < (redTo m c).2.length → j ≤ (redTo m c).2.getD j 0 := fun j => by
      induction j with
      | zero => intro _; omega
      | succ j ih => intro hj; have h1 := ih (by omega); have h2 := hr.inc j (j + 1) (by omega) hj; omega
    have h1 := this ((redTo m c).2.length - 1) (by omega)
    have h2 := hr.lt ((redTo m c).2.length - 1) (by omega)
    omega
theorem cols_of {n : Nat} {m : Mat} (h : Rect n m) (h0 : 0 < m.length) : cols m = n := by
  have h1 := h 0 h0
  cases m with
  | nil => simp at h0
  | cons a b => exact h1
theorem cols_nil {m : Mat} (h : m.length = 0) : cols m = 0 := by
  rw [List.length_eq_zero_iff.mp h]; rfl
end Mx
namespace Go.Proofs.YtdmljilcbndmfaaDoor
open Go.RowKit
section
variable {P : Program} {w : World}
theorem run_head (t e : TypeId) (hu : P.underlying t = some (.slice e)) (hsz : (P.info? e).map (·.size) = some 1) (A : Option Addr) (n c h : Nat) (h1 : h ≤ c) :
    (Instr.sliceAt t (.slice A n c) none (some (.int .i64 (h : Int))) none).run P w = .ok (.slice A h c) w := by
  cases hq : P.info? e with
  | none => simp [hq] at hsz
  | some i =>
    have ha : (if c = 0 then A else A.map fun x => x.add 0) = A := by
      have : (fun x : Addr => x.add 0) = id := by funext x; simp [Addr.add]
      rw [this, Option.map_id]
      split <;> rfl
    simp [Instr.sliceAt, Instr.slice, Instr.sliceBounds, Instr.sliceBound, asIntOf, run_underlying hu, sizeOf, typeInfo, hq, h1, ha]
theorem wpl_head {ops : Array Oper} {rest : List Oper} {o : Oper} {a : Act} {Q : Exit → Act → World → Prop} (hgd : o.guard = none) (t e : TypeId) (x hi : Operand) (ho : o.op = .slice t x none (some hi) none)
    (hu : P.underlying t = some (.slice e)) (hsz : (P.info? e).map (·.size) = some 1) {A : Option Addr} {n c h : Nat} (hx : a.eval x = .slice A n c) (hhi : a.eval hi = .int .i64 (h : Int)) (hhc : h ≤ c)
    (hK : wpList P ops Q rest (a.put o.dst (.slice A h c)) w) : wpList P ops Q (o :: rest) a w := by
  refine wpList_plain hgd fun K hK' => ?_
  have hr := run_head (P := P) (w := w) t e hu hsz A n c h hhc
  unfold Oper.wp execOp
  simp only [ho, Option.map_some, Option.map_none, hx, hhi, hr, Sem.run_bind, Sem.run_pure, Result.andThen_ok]
  exact hK' _ _ hK
end
section
variable {P : Program} {w0 w : World} {L : List LRow}
theorem run_append_owns_lies (t ty e : TypeId) {z : Value} {s bytes : Nat} (ht : P.underlying t = some (.slice e)) (hi : (P.info? e).map (fun i => (i.zero, i.size, i.bytes)) = some (some z, s, bytes)) (hzs : z.cells.size = s) (hs : 0 < s)
    (h : Owns w0 w L) (i : Nat) {v : Value} {n : Nat} {xs : List Value} (hL : L[i]? = some ⟨v, e, s, n, xs⟩)
    (ad : Addr) (m c : Nat) (news : List Value) (hl : news.length = m * s) (hnews : ∀ j u, news[j]? = some u → w.cell? (ad.add j) = some u) (h1 : ∀ u ∈ news, u.oneCell' = true) (hm : 0 < m)
    (h63 : n + m ≤ maxLen) (hb : (n + m) * bytes ≤ 140737488355328) :
    ∃ g cap w', (Builtin.append_ #[t, t] ty #[v, .slice (some ad) m c]).run P w = .ok (.slice (some ⟨g, 0, none⟩) (n + m) cap) w' ∧ Owns w0 w' (L.set i ⟨.slice (some ⟨g, 0, none⟩) (n + m) cap, e, s, n + m, xs ++ news⟩) ∧ Ext w0 w' ∧ w.grownBy w' v.ownBlock ∧ (v.ownBlock = some g ∨ w.heap.size ≤ g) := by
  obtain ⟨i0, hi0, hiz, hi1, hi2⟩ := info_parts hi
  have hown := h.row i hL
  obtain ⟨g, cap, w', hr, h2, h3, h4, h5⟩ := run_append_lies (P := P) w t ty w0.heap.size e i0 z s bytes ht hi0 hiz hi1 hi2 hzs hs v n xs hown ad m c news hl hnews h1 hm h63 hb h.ext.size _ rfl
  have hx : Ext w0 w' := h.ext.grown h3 (fun k hk => own_ge hown k hk)
  refine ⟨g, cap, w', hr, h.put i _ hx h2 ?_ ?_, hx, h3, h4.imp id (fun h => Nat.le_of_eq h.symm)⟩
  · intro j r hj hrr g' hg'
    have hok := h.ok j r hrr
    refine h3.block g' (World.ownsRow.lt hok g' hg').2 ?_
    have hf := h.far j i r _ hj hrr hL
    rcases hf with hf | hf
    · rw [hg'] at hf; cases hf
    · rw [← hg']; exact hf
  · intro j r hj hrr
    have hf := h.far i j _ r (Ne.symm hj) hL hrr
    rcases h4 with h4 | h4
    · rcases hf with hf | hf
      · simp only at hf; rw [h4] at hf; cases hf
      · refine .inr ?_
        show some g ≠ _
        rw [← h4]; exact hf
    · refine .inr ?_
      show some g ≠ _
      intro he
      have := (World.ownsRow.lt (h.ok j r hrr) g he.symm).2
      omega
theorem wpl_append_owns_lies {ops : Array Oper} {rest : List Oper} {o : Oper} {a : Act} {Q : Exit → Act → World → Prop} (t e : TypeId) (hgd : o.guard = none) (s x : Operand)
    (ho : o.op = .call { callee := .builtin .append, args := #[s, x], argTypes := #[t, t] })
    {z : Value} {bytes : Nat} (ht : P.underlying t = some (.slice e)) (hi : (P.info? e).map (fun i => (i.zero, i.size, i.bytes)) = some (some z, 1, bytes)) (hzs : z.cells.size = 1)
    (h : Owns w0 w L) (i : Nat) {v : Value} {n : Nat} {xs : List Value} (hL : L[i]? = some ⟨v, e, 1, n, xs⟩) (hs : a.eval s = v) {g0 : Nat} {u : Value}
    (hx : a.eval x = .slice (some ⟨g0, 0, none⟩) 1 1) (hu : w.cell? ⟨g0, 0, none⟩ = some u) (h1 : u.oneCell' = true) (hm : n < 1000000000000) (hb : bytes ≤ 100)
    (hK : ∀ g cap w', Owns w0 w' (L.set i ⟨.slice (some ⟨g, 0, none⟩) (n + 1) cap, e, 1, n + 1, xs ++ [u]⟩) → w.grownBy w' v.ownBlock → (v.ownBlock = some g ∨ w.heap.size ≤ g) → wpList P ops Q rest (a.put o.dst (.slice (some ⟨g, 0, none⟩) (n + 1) cap)) w') :
    wpList P ops Q (o :: rest) a w := by
  refine wpList_plain hgd fun K hK' => ?_
  have hbb : (n + 1) * bytes ≤ (n + 1) * 100 := Nat.mul_le_mul_left _ hb
  obtain ⟨g, cap, w', hr, h2, _, h3, h4⟩ := run_append_owns_lies (P := P) t o.type e ht hi hzs (by decide) h i hL ⟨g0, 0, none⟩ 1 1 [u] rfl (fun j y hj => by
    match j, hj with
    | 0, hj => simp at hj; subst hj; exact hu) (fun y hy => by simp at hy; subst hy; exact h1) (by decide) (by unfold maxLen; omega) (by omega)
  unfold Oper.wp execOp
  simp only [ho, resolve, invoke, builtin, Sem.run_bind, Sem.run_pure, Result.andThen_ok, List.map_toArray, List.map_cons, List.map_nil, hs, hx, hr]
  exact hK' _ _ (hK g cap w' h2 h3 h4)
end
theorem FarL.fresh {W : World} {v : Value} {M : Mx.Mat} {g : Nat} (h : Rs (Rs RB) W v M) (h0 : 0 < M.length) (hw : ∀ x ∈ M, 0 < x.length) (hg : W.heap.size ≤ g) : FarL g W v := fun ad n c e => by
  subst e
  have hn := h.len
  obtain ⟨ad1, u1, hA, hc1, _⟩ := h.at h0
  injection hA with hA
  subst hA
  have hb := lt_of_cell hc1
  rw [block_add] at hb
  refine ⟨by omega, fun i hi u hu b hbb => ?_⟩
  obtain ⟨ad2, u2, hA, hc2, hu2⟩ := h.at (i := i) (by omega)
  injection hA with hA
  subst hA
  rw [hu] at hc2
  injection hc2 with hc2
  subst hc2
  obtain ⟨B, d, rfl, _⟩ := hu2.form
  obtain ⟨bd, z, hB, hz, _⟩ := hu2.at (hw _ (List.getElem_mem (show i < M.length by omega)))
  subst hB
  injection hbb with hbb
  have hb2 := lt_of_cell hz
  rw [block_add] at hb2
  omega
theorem FarL.turn {g : Nat} {W W' : World} {row : Option Nat} {v : Value} {M : Mx.Mat} (hr : Rs (Rs RB) W v M) (hg : W.grownBy W' row) (hf : ∀ b, row = some b → FarL b W v) (h : FarL g W v) : FarL g W' v := fun ad n c e => by
  obtain ⟨q1, q2⟩ := h ad n c e
  subst e
  refine ⟨q1, fun i hi u hu b hb => ?_⟩
  obtain ⟨ad2, u2, hA, hc2, _⟩ := hr.at (i := i) (by have := hr.len; omega)
  injection hA with hA
  subst hA
  have hsame : W'.cell? (ad.add i) = W.cell? (ad.add i) := World.cell?_of_block (hg.block _ (lt_of_cell hc2) (fun he => by
    have h1 := (hf _ he.symm ad n c rfl).1
    rw [block_add] at h1
    exact h1 rfl))
  rw [hsame] at hu
  exact q2 i hi u hu b hb
theorem cell_set_far {W : World} {G k : Nat} {u : Value} {p : Addr} (h : p.block ≠ G) : (W.setCell ⟨G, k, none⟩ u).cell? p = W.cell? p := cell_far u h
theorem rs_set {W : World} {G k : Nat} {u v : Value} {M : Mx.Mat} (h : Rs (Rs RB) W v M) (hf : FarL G W v) : Rs (Rs RB) (W.setCell ⟨G, k, none⟩ u) v M := by
  obtain ⟨A, c, rfl, hl, hh⟩ := h
  refine ⟨A, c, rfl, hl, fun i x hi => ?_⟩
  have hin := (List.getElem?_eq_some_iff.1 hi).1
  obtain ⟨ad, z, hA, hc, hu⟩ := hh i x hi
  subst hA
  obtain ⟨q1, q2⟩ := hf ad _ c rfl
  exact ⟨ad, z, rfl, by rw [cell_set_far (by rw [block_add]; exact q1)]; exact hc, Rs.farB u hu (q2 i hin z hc)⟩
theorem FarL.set {W : World} {G k : Nat} {u v : Value} (h : FarL G W v) : FarL G (W.setCell ⟨G, k, none⟩ u) v := fun ad n c e => by
  obtain ⟨q1, q2⟩ := h ad n c e
  refine ⟨q1, fun i hi z hz => ?_⟩
  rw [cell_set_far (by rw [block_add]; exact q1)] at hz
  exact q2 i hi z hz
theorem rs_none {α : Type} {R : World → Value → α → Prop} (w : World) (A : Option Addr) (c : Nat) : Rs R w (.slice A 0 c) [] := ⟨A, c, rfl, by simp, fun i x h => by simp at h⟩
theorem size_row : (Tryd.prog.info? 28).map (·.size) = some 1 := by kernel_rfl
theorem rs_take {α : Type} {R : World → Value → α → Prop} {w : World} {A : Option Addr} {n c k : Nat} {xs : List α} (h : Rs R w (.slice A n c) xs) (hk : k ≤ n) : Rs R w (.slice A k c) (xs.take k) := by
  have hn := h.len
  obtain ⟨_, _, e, hl, hh⟩ := h
  injection e with e1 e2 e3
  subst e1
  refine ⟨_, c, by rw [List.length_take, Nat.min_eq_left (by omega)], by rw [List.length_take]; omega, fun i x hi => ?_⟩
  rw [List.getElem?_take] at hi
  split at hi
  · exact hh i x hi
  · cases hi
theorem rs_pivots {w : World} {A : Option Addr} {n c : Nat} {p : List Nat} {e : TypeId} {w0 : World} {L : List LRow} (h : Owns w0 w L) (k : Nat) (hL : L[k]? = some ⟨.slice A n c, e, 1, n, (Mx.toInts p).map (.int .i64)⟩) (hn : n = p.length) (hl : n ≤ 1000) (hb : ∀ x ∈ p, x ≤ 1000) : Rs RI w (.slice A n c) (Mx.toInts p) := by
  have hrd := h.rd k hL
  refine Rs.of_ints hrd (by rw [Mx.toInts_len]; exact hn) (by rw [Mx.toInts_len]; omega) fun x hx => ?_
  obtain ⟨y, hy, rfl⟩ := List.mem_map.mp hx
  have := hb y hy
  omega
set_option maxHeartbeats 8000000 in
set_option maxRecDepth 100000 in
theorem s5Reduce_any (m : Mx.Mat) (n : Nat) (v : Value) (w : World) (hm : Rs (Rs RB) w v m) (hw : Mx.Rect n m) (hn : n ≤ 200) (hN : m.length ≤ 200) :
    Calls Tryd.prog 105 #[v] w fun e w' => ∃ A1 c1 A2 c2 pl, e = .returned (.agg #[.slice A1 pl c1, .slice A2 pl c2]) ∧ pl = (Mx.redTo m (Mx.cols m)).2.length ∧ Rs (Rs RB) w' (.slice A1 pl c1) ((Mx.redTo m (Mx.cols m)).1.take pl) ∧ Rs RI w' (.slice A2 pl c2) (Mx.toInts (Mx.redTo m (Mx.cols m)).2) ∧ Ext w w' := by
  obtain ⟨PA, cP, rfl, _⟩ := hm.form
  obtain ⟨N, hNN⟩ : ∃ N, m.length = N := ⟨_, rfl⟩
  obtain ⟨K, hK⟩ : ∃ K, Mx.cols m = K := ⟨_, rfl⟩
  have hK1 : K ≤ n ∧ (0 < N → K = n) ∧ (N = 0 → K = 0) := by
    rw [← hK, ← hNN]
    rcases Nat.eq_zero_or_pos m.length with h | h
    · rw [Mx.cols_nil h]; exact ⟨Nat.zero_le _, fun h2 => by omega, fun _ => rfl⟩
    · rw [Mx.cols_of hw h]; exact ⟨Nat.le_refl _, fun _ => rfl, fun h2 => by omega⟩
  obtain ⟨hKn, hKp, hK0⟩ := hK1
  rw [hNN] at hm hN
  rw [hK, hNN]
  have hO0 : Owns w (w.alloc (.cells #[.slice none 0 0, .slice none 0 0] 148)) [⟨.slice (some ⟨w.heap.size, 0, none⟩) 2 2, 148, 1, 2, [.slice none 0 0, .slice none 0 0]⟩] := (Owns.start w (L := [no]) (by intro r hr; simp at hr; subst hr; exact ⟨rfl, rfl, rfl⟩)).new 0 #[.slice none 0 0, .slice none 0 0] 148 (by simp [maxLen])
  have HO0 := Lib.hid hO0
  have HM := Lib.hid hm
  have HW := Lib.hid hw
  have HN := Lib.hid (And.intro hNN hK)
  have HKP := Lib.hid (And.intro hKp hK0)
  have HRED : Hid (∀ c, Mx.Red n m c (Mx.redTo m c).1 (Mx.redTo m c).2) := Lib.hid fun c => Mx.red_to hw c
  have HFEW : Hid (∀ c, (Mx.redTo m c).2.length ≤ c) := Lib.hid fun c => Mx.redTo_few hw c
  clear hO0 hm hw hNN hK hKp hK0
  go_enter Tryd.func105, Tryd.ntmps105
  go_upto_region 1 with fail
  obtain ⟨Q, hQ⟩ : ∃ Q, w.heap.size = Q := ⟨_, rfl⟩
  rw [hQ] at HO0 ⊢
  obtain ⟨w1, hw1⟩ : ∃ x, w.alloc (.cells #[.slice none 0 0, .slice none 0 0] 148) = x := ⟨_, rfl⟩
  rw [hw1] at HO0 ⊢
  clear hw1 hQ
  have HM1 := Lib.hid (Rs.ext (Rs.ext RB.ext) _ _ _ _ HO0.out.ext HM.out)
  have hfq : 0 < K → FarL Q w1 (.slice PA N cP) := fun h => by
    have hN0 : 0 < N := by
      rcases Nat.eq_zero_or_pos N with h2 | h2
      · have := HKP.out.2 h2; omega
      · exact h2
    refine (FarL.fresh HM.out (by rw [HN.out.1]; exact hN0) (fun x hx => ?_) ((HO0.out.row 0 rfl).lt Q rfl).1).ext HM.out HO0.out.ext
    obtain ⟨i, hi, rfl⟩ := List.getElem_of_mem hx
    have h2 := HW.out i hi
    unfold Mx.row at h2
    rw [List.getD_eq_getElem?_getD, List.getElem?_eq_getElem hi, Option.getD_some] at h2
    omega
  have HFQ := Lib.hid hfq
  clear hfq
  go_wp2_with fail
  go_loopw [3, 4, 5] (fun v3 v4 v5 wr => ∃ (c pm pc rc : Nat) (pA rA : Option Addr), c ≤ K ∧ pm ≤ c ∧ pm ≤ rc ∧ v5 = .int .i64 (c : Nat) ∧ v4 = .slice pA pm pc ∧ v3 = .slice rA N rc ∧ Hid (Owns w wr [⟨.slice (some ⟨Q, 0, none⟩) 2 2, 148, 1, 2, [.slice none 0 0, .slice none 0 0]⟩, ⟨.slice pA pm pc, 3, 1, pm, (Mx.toInts (Mx.redTo m c).2).map (.int .i64)⟩] ∧ pm = (Mx.redTo m c).2.length ∧ Rs (Rs RB) wr (.slice rA N rc) (Mx.redTo m c).1 ∧ (∀ ad, pA = some ad → FarL ad.block wr (.slice rA N rc)) ∧ (0 < K → FarL Q wr (.slice rA N rc)))) (fun _ _ v5 _ => K - (intOf v5).toNat)
  case atStart => exact ⟨0, 0, 0, cP, none, PA, Nat.zero_le _, Nat.le_refl _, Nat.zero_le _, rfl, rfl, rfl, Lib.hid ⟨Owns.nilled (L := [⟨.slice (some ⟨Q, 0, none⟩) 2 2, 148, 1, 2, [.slice none 0 0, .slice none 0 0]⟩]) HO0.out, rfl, HM1.out, (fun ad h => by cases h), HFQ.out⟩⟩
  case round =>
    obtain ⟨c, pm, pc, rc, pA, rA, hcK, hpc, hprc, rfl, rfl, rfl, HI⟩ := hrel
    have HMR := Lib.hid (Rs.ext (Rs.ext RB.ext) _ _ _ _ HI.out.1.ext HM.out)
    go_wp2_with fail
    have hcols := sCols_any m (.slice PA N cP) wr HMR.out
    rw [HN.out.2] at hcols
    refine hcols.mono ?_
    clear hcols
    rintro e w' ⟨rfl, rfl⟩
    by_cases hlt : c < K
    case pos =>
      have hN0 : 0 < N := by
        rcases Nat.eq_zero_or_pos N with h | h
        · have := HKP.out.2 h; omega
        · exact h
      have hKe := HKP.out.1 hN0
      have hred := HRED.out c
      have hlen := hred.len
      rw [HN.out.1] at hlen
      have hpf := hred.few
      rw [← HI.out.2.1] at hpf
      have hld := sLead_any (Mx.redTo m c).1 pm c n (.slice rA N rc) wr HI.out.2.2.1 hpf hred.rect (by omega)
      have hld2 : ∀ k, Mx.lead (Mx.redTo m c).1 pm c = some k → _ := fun k h => Mx.lead_some h
      have hnone : Mx.lead (Mx.redTo m c).1 pm c = none → Mx.redTo m (c + 1) = Mx.redTo m c := fun h => by
        show Mx.colStep (Mx.redTo m c) c = _
        exact Mx.colStep_none (by rw [← HI.out.2.1]; exact h)
      have hsome : ∀ k, Mx.lead (Mx.redTo m c).1 pm c = some k → Mx.redTo m (c + 1) = (Mx.pivot (Mx.redTo m c).1 pm k c, (Mx.redTo m c).2 ++ [c]) := fun k h => by
        show Mx.colStep (Mx.redTo m c) c = _
        rw [Mx.colStep_some (k := k) (by rw [← HI.out.2.1]; exact h), ← HI.out.2.1]
      have HRC := Lib.hid hred.rect
      unfold Mx.leadI at hld
      cases hl : Mx.lead (Mx.redTo m c).1 pm c with
      | none =>
        have HS := Lib.hid (hnone hl)
        rw [hl] at hld
        dsimp only at hld
        have HLD := Lib.hid hld
        clear hld hld2 hnone hsome hl hred hlen hpf
        go_wp2_with fail
        refine HLD.out.mono ?_
        rintro e w' ⟨rfl, rfl⟩
        go_wp2_with fail
        go_roundw
        case rel => exact ⟨c + 1, pm, pc, rc, pA, rA, by omega, by omega, hprc, by go_num, (by first | trivial | rfl), (by first | trivial | rfl), Lib.hid (by rw [HS.out]; exact HI.out)⟩
        case measure => simp [intOf]; omega
      | some k =>
        have HS := Lib.hid (hsome k hl)
        obtain ⟨hk1, hk2, hk3⟩ := hld2 k hl
        rw [hl] at hld
        dsimp only at hld
        have HLD := Lib.hid hld
        have hcl := s5Cleared_any (Mx.redTo m c).1 pm k c n (.slice rA N rc) wr HI.out.2.2.1 HRC.out hn (by rw [hlen]; exact hN) (by omega) hk2 (by omega) hk3
        rw [hlen] at hcl
        have HCL := Lib.hid hcl
        have HKK := Lib.hid (And.intro (show pm < (Mx.redTo m c).1.length by omega) hk2)
        have HKK3 := Lib.hid hlen
        have HN0 := Lib.hid hN0
        have hk0 : (0 : Int) ≤ (k : Int) := by omega
        have hpN : pm + 1 ≤ N := by omega
        clear hld hld2 hnone hsome hl hred hlen hpf hcl hk1 hk2 hk3
        go_wp2_with fail
        refine HLD.out.mono ?_
        rintro e w' ⟨rfl, rfl⟩
        go_wp2_with fail
        refine HCL.out.mono ?_
        rintro e w5 ⟨v5, rfl, hv5, hx5, ⟨B, cap, rfl, hcap⟩, hfl⟩
        have hplt : ∀ ad, pA = some ad → ad.block < wr.heap.size := fun ad h => by
          subst h
          exact ((HI.out.1.row 1 rfl).lt ad.block rfl).2
        have HFL5 : Hid (∀ ad, pA = some ad → FarL ad.block w5 (.slice B N cap)) := Lib.hid fun ad h => hfl ad.block (hplt ad h) (HI.out.2.2.2.1 ad h)
        have hQlt : Q < wr.heap.size := ((HI.out.1.row 0 rfl).lt Q rfl).2
        have HFQ5 : Hid (FarL Q w5 (.slice B N cap)) := Lib.hid (hfl Q hQlt (HI.out.2.2.2.2 (by omega)))
        clear hQlt
        have HO5 := Lib.hid (HI.out.1.next hx5)
        have HV5 := Lib.hid hv5
        clear hv5 hx5 hfl hplt
        go_wp2_with (refine wpl_append_owns_lies (u := .int .i64 (c : Nat)) 27 3 rfl (.tmp 27) (.tmp 29) rfl Tryd.underlying27 info_int rfl HO5.out.push1 1 rfl rfl rfl (cell_of_row _ _ 0 _ _ (0, 0) (heap_new _ _)) rfl (by omega) (by decide) ?_; intro g9 c9 w9 hO9 hg9 hlie; have HO9 := Lib.hid hO9; have HG9 := Lib.hid (And.intro hg9 hlie); clear hO9 hg9 hlie)
        have hxa : Ext w5 (w5.alloc (.cells #[.int .i64 (c : Nat)] 3)) := (Ext.refl w5).alloc _
        have hrs5 := Rs.ext (Rs.ext RB.ext) _ _ _ _ hxa HV5.out
        have hfl5 : ∀ ad, pA = some ad → FarL ad.block (w5.alloc (.cells #[.int .i64 (c : Nat)] 3)) (.slice B N cap) := fun ad h => (HFL5.out ad h).ext HV5.out hxa
        have hff : ∀ b, (Value.slice pA pm pc).ownBlock = some b → FarL b (w5.alloc (.cells #[.int .i64 (c : Nat)] 3)) (.slice B N cap) := fun b hb => by
          cases pA with
          | none => cases hb
          | some ad =>
            have : ad.block = b := Option.some.inj hb
            rw [← this]
            exact hfl5 ad rfl
        have hrs9 : Rs (Rs RB) w9 (.slice B N cap) (Mx.pivot (Mx.redTo m c).1 pm k c) := rs_turn hrs5 HG9.out.1 hff
        have hpr := Mx.pivot_rect HRC.out (r := pm) (k := k) (c := c) HKK.out.1 HKK.out.2
        have hfq9 : FarL Q w9 (.slice B N cap) := FarL.turn hrs5 HG9.out.1 hff (HFQ5.out.ext HV5.out hxa)
        have hfl9 : FarL g9 w9 (.slice B N cap) := by
          rcases HG9.out.2 with h | h
          · exact FarL.turn hrs5 HG9.out.1 hff (hff g9 h)
          · refine FarL.turn hrs5 HG9.out.1 hff (FarL.fresh hrs5 (by rw [Mx.pivot_length, HKK3.out]; exact HN0.out) (fun x hx => ?_) h)
            obtain ⟨i, hi, rfl⟩ := List.getElem_of_mem hx
            have h2 := hpr i (by rw [Mx.pivot_length] at hi; rw [Mx.pivot_length]; exact hi)
            unfold Mx.row at h2
            rw [List.getD_eq_getElem?_getD, List.getElem?_eq_getElem hi, Option.getD_some] at h2
            omega
        have hfin : Owns w w9 [⟨.slice (some ⟨Q, 0, none⟩) 2 2, 148, 1, 2, [.slice none 0 0, .slice none 0 0]⟩, ⟨.slice (some ⟨g9, 0, none⟩) (pm + 1) c9, 3, 1, pm + 1, (Mx.toInts (Mx.redTo m (c + 1)).2).map (.int .i64)⟩] := by
          refine Owns.front (M := [⟨.slice (some ⟨w5.heap.size, 0, none⟩) 1 1, 3, 1, 1, [.int .i64 (c : Nat)]⟩]) ?_
          rw [HS.out]
          dsimp only
          rw [Mx.toInts_snoc, List.map_append]
          exact HO9.out
        have HF := Lib.hid (And.intro hfin (And.intro hrs9 (And.intro hfl9 hfq9)))
        clear hxa hrs5 hfl5 hff hrs9 hpr hfl9 hfq9 hfin HO9 HG9
        go_wp2_with fail
        go_roundw
        case rel =>
          refine ⟨c + 1, pm + 1, c9, cap, some ⟨g9, 0, none⟩, B, by omega, by omega, by omega, by go_num, (by first | trivial | rfl), (by first | trivial | rfl), Lib.hid ⟨HF.out.1, ?_, ?_, fun ad h => ?_, fun _ => HF.out.2.2.2⟩⟩
          · rw [HS.out, List.length_append, ← HI.out.2.1]; rfl
          · rw [HS.out]; exact HF.out.2.1
          · injection h with h
            rw [← h]
            exact HF.out.2.2.1
        case measure => simp [intOf]; omega
    case neg =>
      obtain rfl : K = c := by omega
      have hpl := HI.out.2.1
      have HPB : Hid (∀ x ∈ (Mx.redTo m K).2, x ≤ 1000) := Lib.hid fun x hx => by
        obtain ⟨j, hj, rfl⟩ := List.getElem_of_mem hx
        have h := (HRED.out K).lt j hj
        rw [List.getD_eq_getElem?_getD, List.getElem?_eq_getElem hj, Option.getD_some] at h
        omega
      have hpN : pm ≤ N := by have := (HRED.out K).few; have h2 := (HRED.out K).len; rw [HN.out.1] at h2; omega
      have q0 := HI.out.1.cell 0 rfl 0 rfl
      have q1 := HI.out.1.cell 0 rfl 1 rfl
      have f0 := HI.out.1.frozen 0 rfl 0
      have f1 := HI.out.1.frozen 0 rfl 1
      have HO1 := Lib.hid (HI.out.1.store 0 rfl 0 (.slice rA pm rc))
      have HO2 := Lib.hid (HO1.out.store 0 rfl 1 (.slice pA pm pc))
      have HR2 := Lib.hid (rs_pivots HO2.out 1 rfl hpl (by omega) HPB.out)
      have HR1 : Hid (Rs (Rs RB) ((wr.setCell ⟨Q, 0, none⟩ (.slice rA pm rc)).setCell ⟨Q, 1, none⟩ (.slice pA pm pc)) (.slice rA pm rc) ((Mx.redTo m K).1.take pm)) := Lib.hid (by
        rcases Nat.eq_zero_or_pos K with h | h
        · obtain rfl : pm = 0 := by omega
          exact rs_none _ _ _
        · exact rs_take (rs_set (rs_set HI.out.2.2.1 (HI.out.2.2.2.2 h)) (HI.out.2.2.2.2 h).set) hpN)
      clear hpl
      go_wp2_with (refine wpl_head rfl 65 28 (.tmp 31) (.tmp 33) rfl Tryd.underlying65 size_row rfl rfl hprc ?_)
      refine bodyPost_ret (results_cell1 (v := .agg #[.slice rA pm rc, .slice pA pm pc]) rfl rfl ?_) rfl ?_
      · go_simp
      exact ⟨rA, rc, pA, pc, pm, rfl, HI.out.2.1, HR1.out, HR2.out, HO2.out.ext⟩
end Go.Proofs.YtdmljilcbndmfaaDoor

/- THE DRAWN REGION of solutions of the specification of matrices that makes a row. -/
namespace Go.Proofs.YtdmljilcbndmfaaDoor
open Go.RowKit
theorem run_build_none {P : Program} {t e : TypeId} {z : Value} {bytes : Nat} (ht : P.underlying t = some (.slice e)) (hi : (P.info? e).map (fun i => (i.zero, i.size, i.bytes)) = some (some z, 1, bytes)) (w : World) :
    (Instr.buildSlice t 0 #[]).run P w = .ok (.slice (some ⟨w.heap.size, 0, none⟩) 0 0) (w.alloc (.cells #[] e)) := by
  obtain ⟨i0, hi0, _, _, _⟩ := info_parts hi
  simp [Instr.buildSlice, run_underlying ht, sizeOf, typeInfo, hi0, Instr.fill]
  rw [show (Array.map (fun _ => (default : Value)) (Array.range 0)) = #[] from by apply Array.ext'; simp [Array.toList_range]]
  rfl
theorem ex_build0 {P : Program} {w : World} {a : Act} {o : Oper} {t e : TypeId} {z : Value} {bytes : Nat} (ho : o.op = .buildSlice t 0 #[]) (ht : P.underlying t = some (.slice e)) (hi : (P.info? e).map (fun i => (i.zero, i.size, i.bytes)) = some (some z, 1, bytes)) :
    (execOp a.eval o).run P w = .ok (.value (.slice (some ⟨w.heap.size, 0, none⟩) 0 0)) (w.alloc (.cells #[] e)) := by
  have hr := run_build_none (P := P) ht hi w
  unfold execOp
  simp only [ho, List.map_toArray, List.map_nil, hr, Sem.run_bind, Sem.run_pure, Result.andThen_ok]
theorem run_append_copy {P : Program} {w0 w : World} {L : List LRow} (t ty e : TypeId) {z : Value} {bytes : Nat} (ht : P.underlying t = some (.slice e)) (hi : (P.info? e).map (fun i => (i.zero, i.size, i.bytes)) = some (some z, 1, bytes)) (hzs : z.cells.size = 1)
    (h : Owns w0 w L) (i : Nat) {b : Nat} (hL : L[i]? = some ⟨.slice (some ⟨b, 0, none⟩) 0 0, e, 1, 0, []⟩) {B : Option Addr} {m c : Nat} {news : List Value}
    (hl : news.length = m) (hrd : Rd w B news) (h1 : ∀ u ∈ news, u.oneCell' = true) (hm : m < 100000000000) (hb : bytes ≤ 100) :
    ∃ g cap w', (Builtin.append_ #[t, t] ty #[.slice (some ⟨b, 0, none⟩) 0 0, .slice B m c]).run P w = .ok (.slice (some ⟨g, 0, none⟩) m cap) w' ∧ Owns w0 w' (L.set i ⟨.slice (some ⟨g, 0, none⟩) m cap, e, 1, m, news⟩) := by
  by_cases h0 : m = 0
  · subst h0
    have hn : news = [] := List.length_eq_zero_iff.1 hl
    subst hn
    refine ⟨b, 0, w, run_append_zero (P := P) (ty := ty) ht hi w b B c, ?_⟩
    have e : L.set i ⟨.slice (some ⟨b, 0, none⟩) 0 0, e, 1, 0, []⟩ = L := by
      apply List.ext_getElem?
      intro j
      rw [List.getElem?_set]
      split
      · rename_i hij
        subst hij
        split
        · rw [hL]
        · rename_i hlt; rw [List.getElem?_eq_none (by omega)]
      · rfl
    rw [e]
    exact h
  · obtain ⟨ad, rfl, _, _⟩ := hrd.at (k := 0) (by omega)
    have hbb : (0 + m) * bytes ≤ (0 + m) * 100 := Nat.mul_le_mul_left _ hb
    obtain ⟨g, cap, w', hr, h2, _, _⟩ := run_append_owns (P := P) t ty e ht hi hzs (by decide) h i hL ad m c news (by omega) (fun j u hj => (hrd.all (List.getElem?_eq_some_iff.1 hj).1).trans (by rw [(List.getElem?_eq_some_iff.1 hj).2])) h1 (by omega) (by unfold maxLen; omega) (by omega)
    rw [Nat.zero_add] at hr h2
    exact ⟨g, cap, w', hr, h2⟩
theorem wpOp_append_copy {P : Program} {w0 w : World} {L : List LRow} {ops : Array Oper} {o : Oper} {a : Act} {Q : Exit → Act → World → Prop} {K : Act → World → Prop} {i0 : Nat} (hi0 : ops[i0]? = some o) (hg : o.guard = none) (t e : TypeId) {s x : Operand}
    (ho : o.op = .call { callee := .builtin .append, args := #[s, x], argTypes := #[t, t] })
    {z : Value} {bytes : Nat} (ht : P.underlying t = some (.slice e)) (hi : (P.info? e).map (fun i => (i.zero, i.size, i.bytes)) = some (some z, 1, bytes)) (hzs : z.cells.size = 1)
    (h : Owns w0 w L) (i : Nat) {b : Nat} (hL : L[i]? = some ⟨.slice (some ⟨b, 0, none⟩) 0 0, e, 1, 0, []⟩) (hs : a.eval s = .slice (some ⟨b, 0, none⟩) 0 0) {B : Option Addr} {m c : Nat} {news : List Value}
    (hx : a.eval x = .slice B m c) (hl : news.length = m) (hrd : Rd w B news) (h1 : ∀ u ∈ news, u.oneCell' = true) (hm : m < 100000000000) (hb : bytes ≤ 100)
    (hK : ∀ g cap w', Owns w0 w' (L.set i ⟨.slice (some ⟨g, 0, none⟩) m cap, e, 1, m, news⟩) → K (a.put o.dst (.slice (some ⟨g, 0, none⟩) m cap)) w') : wpOp P ops Q i0 K a w := by
  obtain ⟨g, cap, w', hr, h2⟩ := run_append_copy (P := P) t o.type e ht hi hzs h i hL (c := c) hl hrd h1 hm hb
  refine wpOp_value hi0 hg ?_ (hK g cap w' h2)
  unfold execOp
  simp only [ho, resolve, invoke, builtin, Sem.run_bind, Sem.run_pure, Result.andThen_ok, List.map_toArray, List.map_cons, List.map_nil, hs, hx, hr]
theorem one_bytes2 {l : List UInt8} : ∀ u ∈ l.map bv, u.oneCell' = true := fun u hu => by
  obtain ⟨x, _, rfl⟩ := List.mem_map.1 hu
  rfl
/-- Three free rows are laid behind the first one. -/
theorem Owns.three {w0 w : World} {r : LRow} {L : List LRow} (h : Owns w0 w (r :: L)) : Owns w0 w (r :: no :: no :: no :: L) := by
  have h3 := h.wider.wider.wider
  refine h3.perm ?_
  have e : (((r :: L) ++ [no]) ++ [no]) ++ [no] = r :: (L ++ [no, no, no]) := by simp
  rw [e]
  exact List.Perm.cons _ (List.perm_append_comm (l₁ := L) (l₂ := [no, no, no]))
theorem Owns.drew3 {w0 w : World} {r : LRow} {L : List LRow} (h : Owns w0 w (r :: L)) : Owns w0 w.drew (r :: no :: no :: no :: L) := h.drew.three
noncomputable def so5_code : Code := ((Tryd.f96.body.bind (regionOf 5)).getD .skip)
def so5_dsts : List (Option Nat) := [some 22, some 23, some 24, some 25, some 26, some 27, some 28, some 29, some 30, some 31, some 32, some 33, some 34, some 35, some 36, some 7]
theorem so5_apart : apartD so5_dsts = true := by decide +kernel
set_option maxRecDepth 1000000 in
set_option maxHeartbeats 16000000 in
theorem so5 (w0 wr : World) (k n N cP cB cq bc : Nat) (bA QA : Option Addr) (pa ba : Addr) (x : List UInt8) (y : UInt8) (vs : List Value) (LL : List LRow) (hkN : k < N) (hN : N ≤ 1000) (hxl : x.length = n) (hn : n ≤ 1000) (hm : w0.cell? (pa.add k) = some (.slice QA n cq)) (hb : w0.cell? (ba.add k) = some (bv y)) (HRD : Hid (Rd w0 QA (x.map bv))) (HOO : Hid (Owns w0 wr (⟨.slice bA k bc, 28, 1, k, vs⟩ :: LL))) (c2 c3 c4 c5 c6 c9 c10 c11 c12 c13 c14 c15 c16 c17 c18 c19 c20 c21 c22 c23 c24 c25 c26 c27 c28 c29 c30 c31 c32 c33 c34 c35 c36 c37 c38 c39 c40 c41 c42 c43 c44 c45 c46 c47 c48 c49 c50 c51 c52 c53 c54 c55 c56 c57 c58 c59 c60 c61 c62 c63 c64 c65 c66 c67 c68 c69 c70 c71 c72 c73 c74 c75 c76 c77 c78 c79 c80 c81 c82 c83 c84 c85 c86 c87 c88 c89 c90 c91 c92 c93 c94 c95 c96 c97 c98 c99 c100 c101 c102 c103 c104 c105 c106 c107 c108 c109 c110 c111 c112 c113 c114 c115 c116 c117 : Value) (df : List Deferred) (K : Act → World → Prop)
    (hK : ∀ (g12 k12 g14 k14 : Nat) (u22 u23 u24 u25 u26 u27 u28 u29 u30 u31 u32 u33 u34 u35 u36 : Value) (wx : World), Owns w0 wx (⟨.slice (some ⟨g14, 0, none⟩) (k + 1) k14, 28, 1, k + 1, vs ++ [.slice (some ⟨g12, 0, none⟩) (n + 1) k12]⟩ :: ⟨.slice (some ⟨g12, 0, none⟩) (n + 1) k12, 5, 1, n + 1, x.map bv ++ [bv y]⟩ :: LL) → K ⟨#[.slice (some pa) N cP, .slice (some ba) N cB, c2, c3, c4, c5, c6, .slice (some ⟨g14, 0, none⟩) (k + 1) k14, .int .i64 (k : Nat), c9, c10, c11, c12, c13, c14, c15, c16, c17, c18, c19, c20, c21, u22, u23, u24, u25, u26, u27, u28, u29, u30, u31, u32, u33, u34, u35, u36, c37, c38, c39, c40, c41, c42, c43, c44, c45, c46, c47, c48, c49, c50, c51, c52, c53, c54, c55, c56, c57, c58, c59, c60, c61, c62, c63, c64, c65, c66, c67, c68, c69, c70, c71, c72, c73, c74, c75, c76, c77, c78, c79, c80, c81, c82, c83, c84, c85, c86, c87, c88, c89, c90, c91, c92, c93, c94, c95, c96, c97, c98, c99, c100, c101, c102, c103, c104, c105, c106, c107, c108, c109, c110, c111, c112, c113, c114, c115, c116, c117], df⟩ wx) :
    Code.wp Tryd.prog so5_code (AtEnd K) ⟨#[.slice (some pa) N cP, .slice (some ba) N cB, c2, c3, c4, c5, c6, .slice bA k bc, .int .i64 (k : Nat), c9, c10, c11, c12, c13, c14, c15, c16, c17, c18, c19, c20, c21, c22, c23, c24, c25, c26, c27, c28, c29, c30, c31, c32, c33, c34, c35, c36, c37, c38, c39, c40, c41, c42, c43, c44, c45, c46, c47, c48, c49, c50, c51, c52, c53, c54, c55, c56, c57, c58, c59, c60, c61, c62, c63, c64, c65, c66, c67, c68, c69, c70, c71, c72, c73, c74, c75, c76, c77, c78, c79, c80, c81, c82, c83, c84, c85, c86, c87, c88, c89, c90, c91, c92, c93, c94, c95, c96, c97, c98, c99, c100, c101, c102, c103, c104, c105, c106, c107, c108, c109, c110, c111, c112, c113, c114, c115, c116, c117], df⟩ wr := by
  conv => arg 2; whnf
  refine region_inv (by kernel_rfl) [[], [], [], [], [2, 3], [4], [1, 5], [], [], [7, 8], [9], [10], [6, 11, 6], [12], [0, 13, 12], [14, 14, 0, 1, 2, 3, 4, 5, 6, 7, 8, 9, 10, 11, 12, 13, 14]] (by kernel_rfl) [0, 1, 2, 3, 4, 5, 6, 7, 8, 9, 10, 11, 12, 13, 14, 15] (by decide +kernel) (by decide +kernel) (by decide +kernel) (fun L a wc => ∃ (g1 : Nat) (g6 : Nat) (k6 : Nat) (g11 : Nat) (g12 : Nat) (k12 : Nat) (g13 : Nat) (g14 : Nat) (k14 : Nat), InvO so5_dsts [.slice bA k bc, .slice (some ⟨g1, 0, none⟩) 0 0, .slice (some pa) N cP, .int .i64 (k : Nat), .pointer (some (pa.add k)), .slice QA n cq, .slice (some ⟨g6, 0, none⟩) n k6, .slice (some ba) N cB, .int .i64 (k : Nat), .pointer (some (ba.add k)), bv y, .slice (some ⟨g11, 0, none⟩) 1 1, .slice (some ⟨g12, 0, none⟩) (n + 1) k12, .slice (some ⟨g13, 0, none⟩) 1 1, .slice (some ⟨g14, 0, none⟩) (k + 1) k14, .slice (some ⟨g14, 0, none⟩) (k + 1) k14] ⟨#[.slice (some pa) N cP, .slice (some ba) N cB, c2, c3, c4, c5, c6, .slice bA k bc, .int .i64 (k : Nat), c9, c10, c11, c12, c13, c14, c15, c16, c17, c18, c19, c20, c21, c22, c23, c24, c25, c26, c27, c28, c29, c30, c31, c32, c33, c34, c35, c36, c37, c38, c39, c40, c41, c42, c43, c44, c45, c46, c47, c48, c49, c50, c51, c52, c53, c54, c55, c56, c57, c58, c59, c60, c61, c62, c63, c64, c65, c66, c67, c68, c69, c70, c71, c72, c73, c74, c75, c76, c77, c78, c79, c80, c81, c82, c83, c84, c85, c86, c87, c88, c89, c90, c91, c92, c93, c94, c95, c96, c97, c98, c99, c100, c101, c102, c103, c104, c105, c106, c107, c108, c109, c110, c111, c112, c113, c114, c115, c116, c117], df⟩ L a ∧ Hid (Owns w0 wc ((if L 14 = true then ⟨.slice (some ⟨g14, 0, none⟩) (k + 1) k14, 28, 1, k + 1, vs ++ [.slice (some ⟨g12, 0, none⟩) (n + 1) k12]⟩ else ⟨.slice bA k bc, 28, 1, k, vs⟩) :: (if L 12 = true then ⟨.slice (some ⟨g12, 0, none⟩) (n + 1) k12, 5, 1, n + 1, x.map bv ++ [bv y]⟩ else if L 6 = true then ⟨.slice (some ⟨g6, 0, none⟩) n k6, 5, 1, n, x.map bv⟩ else if L 1 = true then ⟨.slice (some ⟨g1, 0, none⟩) 0 0, 5, 1, 0, []⟩ else no) :: (if L 11 = true then ⟨.slice (some ⟨g11, 0, none⟩) 1 1, 5, 1, 1, [bv y]⟩ else no) :: (if L 13 = true then ⟨.slice (some ⟨g13, 0, none⟩) 1 1, 28, 1, 1, [.slice (some ⟨g12, 0, none⟩) (n + 1) k12]⟩ else no) :: LL))) ⟨0, 0, 0, 0, 0, 0, 0, 0, 0, InvO.start, Lib.hid (HOO.out.drew3)⟩ ?_ ?_
  · refine ⟨?_, ?_, ?_, ?_, ?_, ?_, ?_, ?_, ?_, ?_, ?_, ?_, ?_, ?_, ?_, ?_, trivial⟩
    ·
      rintro L a wc ⟨g1, g6, k6, g11, g12, k12, g13, g14, k14, hv, HO⟩ hL hc hd
      exact wpOp_val rfl rfl (ex_move rfl ((hv.old 15 7 rfl (Bool.eq_false_iff.2 fun h => Bool.false_ne_true (hL.symm.trans (hc 15 h 0 (by decide))))).trans rfl)) ⟨g1, g6, k6, g11, g12, k12, g13, g14, k14, hv.put so5_apart 0 rfl (lb rfl) (lb rfl) rfl, HO⟩
    ·
      rintro L a wc ⟨g1, g6, k6, g11, g12, k12, g13, g14, k14, hv, HO⟩ hL hc hd
      have n6 : L 6 = false := Bool.eq_false_iff.2 fun h => Bool.false_ne_true (hL.symm.trans (hc 6 h 1 (by decide)))
      have n12 : L 12 = false := Bool.eq_false_iff.2 fun h => Bool.false_ne_true (hL.symm.trans (hc 6 (hc 12 h 6 (by decide)) 1 (by decide)))
      have h := HO.out
      rw [if_neg (show ¬ (L 12 = true) from by simp [n12]), if_neg (show ¬ (L 6 = true) from by simp [n6]), if_neg (show ¬ (L 1 = true) from by simp [hL])] at h
      have hn := h.new 1 #[] 5 (by simp [maxLen])
      exact wpOp_value rfl rfl (ex_build0 rfl Tryd.underlying28 info_u8) ⟨wc.heap.size, g6, k6, g11, g12, k12, g13, g14, k14, hv.put so5_apart 1 rfl (lb rfl) (lb rfl) rfl, Lib.hid (by rw [if_neg (show ¬ (upd L 1 12 = true) from by simp [upd, n12]), if_neg (show ¬ (upd L 1 6 = true) from by simp [upd, n6]), if_pos (show upd L 1 1 = true from by simp [upd])]; exact hn)⟩
    ·
      rintro L a wc ⟨g1, g6, k6, g11, g12, k12, g13, g14, k14, hv, HO⟩ hL hc hd
      exact wpOp_val rfl rfl (ex_move rfl ((hv.fixed 0 (by decide)).trans rfl)) ⟨g1, g6, k6, g11, g12, k12, g13, g14, k14, hv.put so5_apart 2 rfl (lb rfl) (lb rfl) rfl, HO⟩
    ·
      rintro L a wc ⟨g1, g6, k6, g11, g12, k12, g13, g14, k14, hv, HO⟩ hL hc hd
      exact wpOp_val rfl rfl (ex_move rfl ((hv.fixed 8 (by decide)).trans rfl)) ⟨g1, g6, k6, g11, g12, k12, g13, g14, k14, hv.put so5_apart 3 rfl (lb rfl) (lb rfl) rfl, HO⟩
    ·
      rintro L a wc ⟨g1, g6, k6, g11, g12, k12, g13, g14, k14, hv, HO⟩ hL hc hd
      have u1 : (0 : Int) ≤ (k : Int) := by omega
      have u2 : (k : Int) < (N : Int) := by omega
      exact wpOp_val rfl rfl (ex_index rfl (hv.get 2 rfl rfl (hd 2 (by decide))) (hv.get 3 rfl rfl (hd 3 (by decide))) (by go_simp)) ⟨g1, g6, k6, g11, g12, k12, g13, g14, k14, hv.put so5_apart 4 rfl (lb rfl) (lb rfl) rfl, HO⟩
    ·
      rintro L a wc ⟨g1, g6, k6, g11, g12, k12, g13, g14, k14, hv, HO⟩ hL hc hd
      have h0 : wc.cell? (pa.add k) = some (.slice QA n cq) := HO.out.ext.cell hm
      exact wpOp_val rfl rfl (ex_load rfl (hv.get 4 rfl rfl (hd 4 (by decide))) (by go_simp)) ⟨g1, g6, k6, g11, g12, k12, g13, g14, k14, hv.put so5_apart 5 rfl (lb rfl) (lb rfl) rfl, HO⟩
    ·
      rintro L a wc ⟨g1, g6, k6, g11, g12, k12, g13, g14, k14, hv, HO⟩ hL hc hd
      have n12 : L 12 = false := Bool.eq_false_iff.2 fun h => Bool.false_ne_true (hL.symm.trans (hc 12 h 6 (by decide)))
      have h1 : L 1 = true := hd 1 (by decide)
      have h := HO.out
      rw [if_neg (show ¬ (L 12 = true) from by simp [n12]), if_neg (show ¬ (L 6 = true) from by simp [hL]), if_pos h1] at h
      refine wpOp_append_copy rfl rfl 28 5 rfl Tryd.underlying28 info_u8 rfl h 1 rfl (hv.get 1 rfl rfl h1) (hv.get 5 rfl rfl (hd 5 (by decide))) (by rw [List.length_map]; exact hxl) (HRD.out.ext h.ext) one_bytes2 (by omega) (by decide) ?_
      intro gg cc w2 hO2
      have hv := hv.reset 6 hL (.slice (some ⟨gg, 0, none⟩) n cc)
      exact ⟨g1, gg, cc, g11, g12, k12, g13, g14, k14, hv.put so5_apart 6 rfl (lb rfl) (lb rfl) rfl, Lib.hid (by rw [if_neg (show ¬ (upd L 6 12 = true) from by simp [upd, n12]), if_pos (show upd L 6 6 = true from by simp [upd])]; exact hO2)⟩
    ·
      rintro L a wc ⟨g1, g6, k6, g11, g12, k12, g13, g14, k14, hv, HO⟩ hL hc hd
      exact wpOp_val rfl rfl (ex_move rfl ((hv.fixed 1 (by decide)).trans rfl)) ⟨g1, g6, k6, g11, g12, k12, g13, g14, k14, hv.put so5_apart 7 rfl (lb rfl) (lb rfl) rfl, HO⟩
    ·
      rintro L a wc ⟨g1, g6, k6, g11, g12, k12, g13, g14, k14, hv, HO⟩ hL hc hd
      exact wpOp_val rfl rfl (ex_move rfl ((hv.fixed 8 (by decide)).trans rfl)) ⟨g1, g6, k6, g11, g12, k12, g13, g14, k14, hv.put so5_apart 8 rfl (lb rfl) (lb rfl) rfl, HO⟩
    ·
      rintro L a wc ⟨g1, g6, k6, g11, g12, k12, g13, g14, k14, hv, HO⟩ hL hc hd
      have u1 : (0 : Int) ≤ (k : Int) := by omega
      have u2 : (k : Int) < (N : Int) := by omega
      exact wpOp_val rfl rfl (ex_index rfl (hv.get 7 rfl rfl (hd 7 (by decide))) (hv.get 8 rfl rfl (hd 8 (by decide))) (by go_simp)) ⟨g1, g6, k6, g11, g12, k12, g13, g14, k14, hv.put so5_apart 9 rfl (lb rfl) (lb rfl) rfl, HO⟩
    ·
      rintro L a wc ⟨g1, g6, k6, g11, g12, k12, g13, g14, k14, hv, HO⟩ hL hc hd
      have h0 : wc.cell? (ba.add k) = some (bv y) := HO.out.ext.cell hb
      exact wpOp_val rfl rfl (ex_load rfl (hv.get 9 rfl rfl (hd 9 (by decide))) (by go_simp)) ⟨g1, g6, k6, g11, g12, k12, g13, g14, k14, hv.put so5_apart 10 rfl (lb rfl) (lb rfl) rfl, HO⟩
    ·
      rintro L a wc ⟨g1, g6, k6, g11, g12, k12, g13, g14, k14, hv, HO⟩ hL hc hd
      have h := HO.out
      rw [if_neg (show ¬ (L 11 = true) from by simp [hL])] at h
      have hn := h.new 2 #[bv y] 5 (by simp [maxLen])
      exact wpOp_value rfl rfl (ex_build rfl Tryd.underlying28 info_u8 (hv.get 10 rfl rfl (hd 10 (by decide))) rfl) ⟨g1, g6, k6, wc.heap.size, g12, k12, g13, g14, k14, hv.put so5_apart 11 rfl (lb rfl) (lb rfl) rfl, Lib.hid (by rw [if_pos (show upd L 11 11 = true from by simp [upd])]; exact hn)⟩
    ·
      rintro L a wc ⟨g1, g6, k6, g11, g12, k12, g13, g14, k14, hv, HO⟩ hL hc hd
      have n13 : L 13 = false := Bool.eq_false_iff.2 fun h => Bool.false_ne_true (hL.symm.trans (hc 13 h 12 (by decide)))
      have n14 : L 14 = false := Bool.eq_false_iff.2 fun h => Bool.false_ne_true (hL.symm.trans (hc 13 (hc 14 h 13 (by decide)) 12 (by decide)))
      have h6 : L 6 = true := hd 6 (by decide)
      have h11 : L 11 = true := hd 11 (by decide)
      have h := HO.out
      rw [if_neg (show ¬ (L 14 = true) from by simp [n14]), if_neg (show ¬ (L 12 = true) from by simp [hL]), if_pos h6, if_pos h11, if_neg (show ¬ (L 13 = true) from by simp [n13])] at h
      refine wpOp_append rfl rfl 28 5 rfl Tryd.underlying28 info_u8 rfl h 1 rfl (hv.get 6 rfl rfl h6) (hv.get 11 rfl rfl h11) (h.cell 2 rfl 0 rfl) rfl (by omega) (by decide) ?_
      intro gg cc w2 hO2
      have hv := hv.reset 12 hL (.slice (some ⟨gg, 0, none⟩) (n + 1) cc)
      exact ⟨g1, g6, k6, g11, gg, cc, g13, g14, k14, hv.put so5_apart 12 rfl (lb rfl) (lb rfl) rfl, Lib.hid (by rw [if_neg (show ¬ (upd L 12 14 = true) from by simp [upd, n14]), if_pos (show upd L 12 12 = true from by simp [upd]), if_pos (show upd L 12 11 = true from by simp [upd, h11]), if_neg (show ¬ (upd L 12 13 = true) from by simp [upd, n13])]; exact hO2)⟩
    ·
      rintro L a wc ⟨g1, g6, k6, g11, g12, k12, g13, g14, k14, hv, HO⟩ hL hc hd
      have h := HO.out
      rw [if_neg (show ¬ (L 13 = true) from by simp [hL])] at h
      have hn := h.new 3 #[.slice (some ⟨g12, 0, none⟩) (n + 1) k12] 28 (by simp [maxLen])
      exact wpOp_value rfl rfl (ex_build rfl Tryd.underlying65 info_bytes (hv.get 12 rfl rfl (hd 12 (by decide))) rfl) ⟨g1, g6, k6, g11, g12, k12, wc.heap.size, g14, k14, hv.put so5_apart 13 rfl (lb rfl) (lb rfl) rfl, Lib.hid (by rw [if_pos (show upd L 13 13 = true from by simp [upd])]; exact hn)⟩
    ·
      rintro L a wc ⟨g1, g6, k6, g11, g12, k12, g13, g14, k14, hv, HO⟩ hL hc hd
      have h13 : L 13 = true := hd 13 (by decide)
      have h := HO.out
      rw [if_neg (show ¬ (L 14 = true) from by simp [hL]), if_pos h13] at h
      refine wpOp_append rfl rfl 65 28 rfl Tryd.underlying65 info_bytes rfl h 0 rfl (hv.get 0 rfl rfl (hd 0 (by decide))) (hv.get 13 rfl rfl h13) (h.cell 3 rfl 0 rfl) rfl (by omega) (by decide) ?_
      intro gg cc w2 hO2
      have hv := hv.reset 14 hL (.slice (some ⟨gg, 0, none⟩) (k + 1) cc)
      have n15 : L 15 = false := Bool.eq_false_iff.2 fun h => Bool.false_ne_true (hL.symm.trans (hc 15 h 14 (by decide)))
      have hv := hv.reset 15 n15 (.slice (some ⟨gg, 0, none⟩) (k + 1) cc)
      exact ⟨g1, g6, k6, g11, g12, k12, g13, gg, cc, hv.put so5_apart 14 rfl (lb rfl) (lb rfl) rfl, Lib.hid (by rw [if_pos (show upd L 14 14 = true from by simp [upd]), if_pos (show upd L 14 13 = true from by simp [upd, h13])]; exact hO2)⟩
    ·
      rintro L a wc ⟨g1, g6, k6, g11, g12, k12, g13, g14, k14, hv, HO⟩ hL hc hd
      exact wpOp_val rfl rfl (ex_assign rfl (hv.get 14 rfl rfl (hd 14 (by decide)))) ⟨g1, g6, k6, g11, g12, k12, g13, g14, k14, hv.put so5_apart 15 rfl (lb rfl) (lb rfl) rfl, HO⟩
  · rintro L a wc ⟨g1, g6, k6, g11, g12, k12, g13, g14, k14, hv, HO⟩ hall
    show K a wc
    have ha := act_lit a
    rw [hv.size, hv.defers] at ha
    have hl : ∀ f : Nat → Value, ((List.range (⟨#[.slice (some pa) N cP, .slice (some ba) N cB, c2, c3, c4, c5, c6, .slice bA k bc, .int .i64 (k : Nat), c9, c10, c11, c12, c13, c14, c15, c16, c17, c18, c19, c20, c21, c22, c23, c24, c25, c26, c27, c28, c29, c30, c31, c32, c33, c34, c35, c36, c37, c38, c39, c40, c41, c42, c43, c44, c45, c46, c47, c48, c49, c50, c51, c52, c53, c54, c55, c56, c57, c58, c59, c60, c61, c62, c63, c64, c65, c66, c67, c68, c69, c70, c71, c72, c73, c74, c75, c76, c77, c78, c79, c80, c81, c82, c83, c84, c85, c86, c87, c88, c89, c90, c91, c92, c93, c94, c95, c96, c97, c98, c99, c100, c101, c102, c103, c104, c105, c106, c107, c108, c109, c110, c111, c112, c113, c114, c115, c116, c117], df⟩ : Act).tmps.size).map f).toArray = #[f 0, f 1, f 2, f 3, f 4, f 5, f 6, f 7, f 8, f 9, f 10, f 11, f 12, f 13, f 14, f 15, f 16, f 17, f 18, f 19, f 20, f 21, f 22, f 23, f 24, f 25, f 26, f 27, f 28, f 29, f 30, f 31, f 32, f 33, f 34, f 35, f 36, f 37, f 38, f 39, f 40, f 41, f 42, f 43, f 44, f 45, f 46, f 47, f 48, f 49, f 50, f 51, f 52, f 53, f 54, f 55, f 56, f 57, f 58, f 59, f 60, f 61, f 62, f 63, f 64, f 65, f 66, f 67, f 68, f 69, f 70, f 71, f 72, f 73, f 74, f 75, f 76, f 77, f 78, f 79, f 80, f 81, f 82, f 83, f 84, f 85, f 86, f 87, f 88, f 89, f 90, f 91, f 92, f 93, f 94, f 95, f 96, f 97, f 98, f 99, f 100, f 101, f 102, f 103, f 104, f 105, f 106, f 107, f 108, f 109, f 110, f 111, f 112, f 113, f 114, f 115, f 116, f 117] := fun _ => rfl
    rw [hl] at ha
    simp only [hv.fixed 0 (by decide), hv.fixed 1 (by decide), hv.fixed 2 (by decide), hv.fixed 3 (by decide), hv.fixed 4 (by decide), hv.fixed 5 (by decide), hv.fixed 6 (by decide), hv.fixed 8 (by decide), hv.fixed 9 (by decide), hv.fixed 10 (by decide), hv.fixed 11 (by decide), hv.fixed 12 (by decide), hv.fixed 13 (by decide), hv.fixed 14 (by decide), hv.fixed 15 (by decide), hv.fixed 16 (by decide), hv.fixed 17 (by decide), hv.fixed 18 (by decide), hv.fixed 19 (by decide), hv.fixed 20 (by decide), hv.fixed 21 (by decide), hv.fixed 37 (by decide), hv.fixed 38 (by decide), hv.fixed 39 (by decide), hv.fixed 40 (by decide), hv.fixed 41 (by decide), hv.fixed 42 (by decide), hv.fixed 43 (by decide), hv.fixed 44 (by decide), hv.fixed 45 (by decide), hv.fixed 46 (by decide), hv.fixed 47 (by decide), hv.fixed 48 (by decide), hv.fixed 49 (by decide), hv.fixed 50 (by decide), hv.fixed 51 (by decide), hv.fixed 52 (by decide), hv.fixed 53 (by decide), hv.fixed 54 (by decide), hv.fixed 55 (by decide), hv.fixed 56 (by decide), hv.fixed 57 (by decide), hv.fixed 58 (by decide), hv.fixed 59 (by decide), hv.fixed 60 (by decide), hv.fixed 61 (by decide), hv.fixed 62 (by decide), hv.fixed 63 (by decide), hv.fixed 64 (by decide), hv.fixed 65 (by decide), hv.fixed 66 (by decide), hv.fixed 67 (by decide), hv.fixed 68 (by decide), hv.fixed 69 (by decide), hv.fixed 70 (by decide), hv.fixed 71 (by decide), hv.fixed 72 (by decide), hv.fixed 73 (by decide), hv.fixed 74 (by decide), hv.fixed 75 (by decide), hv.fixed 76 (by decide), hv.fixed 77 (by decide), hv.fixed 78 (by decide), hv.fixed 79 (by decide), hv.fixed 80 (by decide), hv.fixed 81 (by decide), hv.fixed 82 (by decide), hv.fixed 83 (by decide), hv.fixed 84 (by decide), hv.fixed 85 (by decide), hv.fixed 86 (by decide), hv.fixed 87 (by decide), hv.fixed 88 (by decide), hv.fixed 89 (by decide), hv.fixed 90 (by decide), hv.fixed 91 (by decide), hv.fixed 92 (by decide), hv.fixed 93 (by decide), hv.fixed 94 (by decide), hv.fixed 95 (by decide), hv.fixed 96 (by decide), hv.fixed 97 (by decide), hv.fixed 98 (by decide), hv.fixed 99 (by decide), hv.fixed 100 (by decide), hv.fixed 101 (by decide), hv.fixed 102 (by decide), hv.fixed 103 (by decide), hv.fixed 104 (by decide), hv.fixed 105 (by decide), hv.fixed 106 (by decide), hv.fixed 107 (by decide), hv.fixed 108 (by decide), hv.fixed 109 (by decide), hv.fixed 110 (by decide), hv.fixed 111 (by decide), hv.fixed 112 (by decide), hv.fixed 113 (by decide), hv.fixed 114 (by decide), hv.fixed 115 (by decide), hv.fixed 116 (by decide), hv.fixed 117 (by decide), hv.get 15 (d := 7) rfl rfl (hall 15 (by decide))] at ha
    rw [ha]
    have hO := HO.out
    rw [if_pos (hall 14 (by decide)), if_pos (hall 12 (by decide))] at hO
    exact hK g12 k12 g14 k14 _ _ _ _ _ _ _ _ _ _ _ _ _ _ _ wc (hO.sublist (by simp))
end Go.Proofs.YtdmljilcbndmfaaDoor

/- THE WALK over solutions of the specification of matrices. -/
namespace Mx
/-- A matrix with a column laid behind it. -/
def glue (m : Mat) (b : List UInt8) : Mat := (List.range m.length).map fun i => m.getD i [] ++ [b.getD i 0]
theorem glue_length (m : Mat) (b : List UInt8) : (glue m b).length = m.length := by simp [glue]
theorem glue_at (m : Mat) (b : List UInt8) {i : Nat} (h : i < m.length) : (glue m b).getD i [] = m.getD i [] ++ [b.getD i 0] := by
  unfold glue
  rw [List.getD_eq_getElem?_getD, List.getElem?_map, List.getElem?_range h]; rfl
theorem glue_rect {n : Nat} {m : Mat} {b : List UInt8} (h : Rect n m) : Rect (n + 1) (glue m b) := fun i hi => by
  rw [glue_length] at hi
  show ((glue m b).getD i []).length = _
  rw [glue_at m b hi]
  have := h i hi
  have h2 : (m.getD i []).length = n := this
  rw [List.length_append, h2]; rfl
theorem redTo_cols {n : Nat} {m : Mat} (h : Rect n m) : redTo m (cols m) = redTo m n := by
  rcases Nat.eq_zero_or_pos m.length with h0 | h0
  · rw [List.length_eq_zero_iff.mp h0, redTo_nil, redTo_nil]
  · rw [cols_of h h0]
end Mx
namespace Go.Proofs.YtdmljilcbndmfaaDoor
open Go.RowKit
/-- The rows that have been glued. -/
def GlueO (w0 W : World) (n k bc : Nat) (bA : Option Addr) (res : LRow) (A : Mx.Mat) : Prop := ∃ (vs : List Value) (LL : List LRow), Owns w0 W (⟨.slice bA k bc, 28, 1, k, vs⟩ :: res :: LL) ∧ vs.length = k ∧ ∀ i, i < k → ∃ g c, vs[i]? = some (.slice (some ⟨g, 0, none⟩) (n + 1) c) ∧ (⟨.slice (some ⟨g, 0, none⟩) (n + 1) c, 5, 1, n + 1, (A.getD i []).map bv⟩ : LRow) ∈ LL
theorem GlueO.next {w0 W W' : World} {n k bc : Nat} {bA : Option Addr} {res : LRow} {A : Mx.Mat} (h : GlueO w0 W n k bc bA res A) (hx : Ext W W') : GlueO w0 W' n k bc bA res A := by
  obtain ⟨vs, LL, h1, h2⟩ := h
  exact ⟨vs, LL, h1.next hx, h2⟩
theorem GlueO.res {w0 W : World} {n k bc : Nat} {bA : Option Addr} {res : LRow} {A : Mx.Mat} (h : GlueO w0 W n k bc bA res A) : Owns w0 W [res] := by
  obtain ⟨vs, LL, h1, h2⟩ := h
  exact h1.sublist (by simp)
theorem GlueO.rs {w0 W : World} {n bc : Nat} {bA : Option Addr} {res : LRow} {A : Mx.Mat} (h : GlueO w0 W n A.length bc bA res A) (hA : Mx.Rect (n + 1) A) (hl : A.length ≤ 1000) (hn : n ≤ 1000) : Rs (Rs RB) W (.slice bA A.length bc) A := by
  obtain ⟨vs, LL, h1, h2, h3⟩ := h
  refine ⟨bA, bc, rfl, by omega, fun i x hi => ?_⟩
  have hin := (List.getElem?_eq_some_iff.1 hi).1
  obtain ⟨g, c, hv, hm⟩ := h3 i hin
  obtain ⟨ad, hA1, _, hc⟩ := h1.rd 0 (n := A.length) (c := bc) rfl i _ hv
  refine ⟨ad, _, hA1, hc, ?_⟩
  have hok := own_rd (h1.all _ (List.mem_cons_of_mem _ (List.mem_cons_of_mem _ hm)))
  have hx : A.getD i [] = x := by rw [List.getD_eq_getElem?_getD, hi]; rfl
  rw [hx] at hok
  have hxl : x.length = n + 1 := by
    have := hA i hin
    rw [← hx]; exact this
  have := Rs.of_rd (c := c) hok (by omega)
  rw [hxl] at this
  exact this
noncomputable def so13_code : Code := ((Tryd.f96.body.bind (regionOf 13)).getD .skip)
def so13_dsts : List (Option Nat) := [some 57, some 58, some 59, some 60, some 61, some 62, some 63, some 64, some 65, some 66, some 67, some 68, some 69, some 70, some 71, some 72, none]
theorem so13_apart : apartD so13_dsts = true := by decide +kernel
set_option maxRecDepth 1000000 in
set_option maxHeartbeats 16000000 in
theorem so13 (wr : World) (G9 G10 gx n k q pl rc pc cQ W : Nat) (rA pA aq : Addr) (v x0 : UInt8) (hk : k < pl) (hq : q < n) (hW : n < W) (h9a : wr.cell? ⟨G9, 0, none⟩ = some (.slice (some rA) pl rc)) (h9b : wr.cell? ⟨G9, 1, none⟩ = some (.slice (some pA) pl pc)) (hP : wr.cell? (pA.add k) = some (.int .i64 (q : Nat))) (hR : wr.cell? (rA.add k) = some (.slice (some aq) W cQ)) (h10 : wr.cell? ⟨G10, 0, none⟩ = some (.slice (some ⟨gx, 0, none⟩) n n)) (hQ : wr.cell? (aq.add n) = some (bv v)) (hX : wr.cell? ⟨gx, q, none⟩ = some (bv x0)) (hXf : wr.frozen? ⟨gx, q, none⟩ = false) (c0 c1 c3 c4 c5 c6 c7 c8 c12 c13 c14 c15 c16 c17 c18 c19 c20 c21 c22 c23 c24 c25 c26 c27 c28 c29 c30 c31 c32 c33 c34 c35 c36 c37 c38 c39 c40 c41 c42 c43 c44 c45 c46 c47 c48 c49 c50 c51 c52 c53 c54 c55 c56 c57 c58 c59 c60 c61 c62 c63 c64 c65 c66 c67 c68 c69 c70 c71 c72 c73 c74 c75 c76 c77 c78 c79 c80 c81 c82 c83 c84 c85 c86 c87 c88 c89 c90 c91 c92 c93 c94 c95 c96 c97 c98 c99 c100 c101 c102 c103 c104 c105 c106 c107 c108 c109 c110 c111 c112 c113 c114 c115 c116 c117 : Value) (df : List Deferred) (K : Act → World → Prop)
    (hK : ∀  (u57 u58 u59 u60 u61 u62 u63 u64 u65 u66 u67 u68 u69 u70 u71 u72 : Value) (wx : World), wx = (wr.drew).setCell ⟨gx, q, none⟩ (bv v) → K ⟨#[c0, c1, .int .i64 (n : Nat), c3, c4, c5, c6, c7, c8, .pointer (some ⟨G9, 0, none⟩), .pointer (some ⟨G10, 0, none⟩), .int .i64 (k : Nat), c12, c13, c14, c15, c16, c17, c18, c19, c20, c21, c22, c23, c24, c25, c26, c27, c28, c29, c30, c31, c32, c33, c34, c35, c36, c37, c38, c39, c40, c41, c42, c43, c44, c45, c46, c47, c48, c49, c50, c51, c52, c53, c54, c55, c56, u57, u58, u59, u60, u61, u62, u63, u64, u65, u66, u67, u68, u69, u70, u71, u72, c73, c74, c75, c76, c77, c78, c79, c80, c81, c82, c83, c84, c85, c86, c87, c88, c89, c90, c91, c92, c93, c94, c95, c96, c97, c98, c99, c100, c101, c102, c103, c104, c105, c106, c107, c108, c109, c110, c111, c112, c113, c114, c115, c116, c117], df⟩ wx) :
    Code.wp Tryd.prog so13_code (AtEnd K) ⟨#[c0, c1, .int .i64 (n : Nat), c3, c4, c5, c6, c7, c8, .pointer (some ⟨G9, 0, none⟩), .pointer (some ⟨G10, 0, none⟩), .int .i64 (k : Nat), c12, c13, c14, c15, c16, c17, c18, c19, c20, c21, c22, c23, c24, c25, c26, c27, c28, c29, c30, c31, c32, c33, c34, c35, c36, c37, c38, c39, c40, c41, c42, c43, c44, c45, c46, c47, c48, c49, c50, c51, c52, c53, c54, c55, c56, c57, c58, c59, c60, c61, c62, c63, c64, c65, c66, c67, c68, c69, c70, c71, c72, c73, c74, c75, c76, c77, c78, c79, c80, c81, c82, c83, c84, c85, c86, c87, c88, c89, c90, c91, c92, c93, c94, c95, c96, c97, c98, c99, c100, c101, c102, c103, c104, c105, c106, c107, c108, c109, c110, c111, c112, c113, c114, c115, c116, c117], df⟩ wr := by
  conv => arg 2; whnf
  refine region_inv (by kernel_rfl) [[], [0], [], [2], [], [3, 4], [5], [], [7], [], [8, 9], [10], [], [11, 12], [13], [1, 6, 0, 1, 2, 3, 4, 5, 6, 7, 8, 9, 10, 11, 12, 13, 14], [15, 14, 0, 1, 2, 3, 4, 5, 6, 7, 8, 9, 10, 11, 12, 13, 14]] (by kernel_rfl) [0, 1, 2, 3, 4, 5, 6, 7, 8, 9, 10, 11, 12, 13, 14, 15, 16] (by decide +kernel) (by decide +kernel) (by decide +kernel) (fun L a wc => Inv so13_dsts [.pointer (some ⟨G10, 0, none⟩), .slice (some ⟨gx, 0, none⟩) n n, .pointer (some ⟨G9, 1, none⟩), .slice (some pA) pl pc, .int .i64 (k : Nat), .pointer (some (pA.add k)), .int .i64 (q : Nat), .pointer (some ⟨G9, 0, none⟩), .slice (some rA) pl rc, .int .i64 (k : Nat), .pointer (some (rA.add k)), .slice (some aq) W cQ, .int .i64 (n : Nat), .pointer (some (aq.add n)), bv v, .pointer (some ⟨gx, q, none⟩), undef] ⟨#[c0, c1, .int .i64 (n : Nat), c3, c4, c5, c6, c7, c8, .pointer (some ⟨G9, 0, none⟩), .pointer (some ⟨G10, 0, none⟩), .int .i64 (k : Nat), c12, c13, c14, c15, c16, c17, c18, c19, c20, c21, c22, c23, c24, c25, c26, c27, c28, c29, c30, c31, c32, c33, c34, c35, c36, c37, c38, c39, c40, c41, c42, c43, c44, c45, c46, c47, c48, c49, c50, c51, c52, c53, c54, c55, c56, c57, c58, c59, c60, c61, c62, c63, c64, c65, c66, c67, c68, c69, c70, c71, c72, c73, c74, c75, c76, c77, c78, c79, c80, c81, c82, c83, c84, c85, c86, c87, c88, c89, c90, c91, c92, c93, c94, c95, c96, c97, c98, c99, c100, c101, c102, c103, c104, c105, c106, c107, c108, c109, c110, c111, c112, c113, c114, c115, c116, c117], df⟩ L a ∧ Hid ((L 16 = false → wc = wr.drew) ∧ (L 16 = true → wc = (wr.drew).setCell ⟨gx, q, none⟩ (bv v)))) ⟨Inv.start, Lib.hid ⟨fun _ => rfl, fun h => by cases h⟩⟩ ?_ ?_
  · refine ⟨?_, ?_, ?_, ?_, ?_, ?_, ?_, ?_, ?_, ?_, ?_, ?_, ?_, ?_, ?_, ?_, ?_, trivial⟩
    ·
      rintro L a wc ⟨hv, HO⟩ hL hc hd
      exact wpOp_val rfl rfl (ex_field rfl ((hv.fixed 10 (by decide)).trans rfl) (by go_simp)) ⟨hv.put so13_apart 0 rfl (lb rfl) (lb rfl) rfl, HO⟩
    ·
      rintro L a wc ⟨hv, HO⟩ hL hc hd
      have hw0 : wc = wr.drew := HO.out.1 (Bool.eq_false_iff.2 fun h => Bool.false_ne_true (hL.symm.trans (hc 16 h 1 (by decide))))
      have h0 : wc.cell? ⟨G10, 0, none⟩ = some (.slice (some ⟨gx, 0, none⟩) n n) := (by rw [hw0]; exact h10)
      exact wpOp_val rfl rfl (ex_load rfl (hv.get 0 rfl rfl (hd 0 (by decide))) (by go_simp)) ⟨hv.put so13_apart 1 rfl (lb rfl) (lb rfl) rfl, HO⟩
    ·
      rintro L a wc ⟨hv, HO⟩ hL hc hd
      exact wpOp_val rfl rfl (ex_field rfl ((hv.fixed 9 (by decide)).trans rfl) (by go_simp)) ⟨hv.put so13_apart 2 rfl (lb rfl) (lb rfl) rfl, HO⟩
    ·
      rintro L a wc ⟨hv, HO⟩ hL hc hd
      have hw0 : wc = wr.drew := HO.out.1 (Bool.eq_false_iff.2 fun h => Bool.false_ne_true (hL.symm.trans (hc 16 h 3 (by decide))))
      have h0 : wc.cell? ⟨G9, 1, none⟩ = some (.slice (some pA) pl pc) := (by rw [hw0]; exact h9b)
      exact wpOp_val rfl rfl (ex_load rfl (hv.get 2 rfl rfl (hd 2 (by decide))) (by go_simp)) ⟨hv.put so13_apart 3 rfl (lb rfl) (lb rfl) rfl, HO⟩
    ·
      rintro L a wc ⟨hv, HO⟩ hL hc hd
      exact wpOp_val rfl rfl (ex_move rfl ((hv.fixed 11 (by decide)).trans rfl)) ⟨hv.put so13_apart 4 rfl (lb rfl) (lb rfl) rfl, HO⟩
    ·
      rintro L a wc ⟨hv, HO⟩ hL hc hd
      have u1 : (0 : Int) ≤ (k : Int) := by omega
      have u2 : (k : Int) < (pl : Int) := by omega
      exact wpOp_val rfl rfl (ex_index rfl (hv.get 3 rfl rfl (hd 3 (by decide))) (hv.get 4 rfl rfl (hd 4 (by decide))) (by go_simp)) ⟨hv.put so13_apart 5 rfl (lb rfl) (lb rfl) rfl, HO⟩
    ·
      rintro L a wc ⟨hv, HO⟩ hL hc hd
      have hw0 : wc = wr.drew := HO.out.1 (Bool.eq_false_iff.2 fun h => Bool.false_ne_true (hL.symm.trans (hc 16 h 6 (by decide))))
      have h0 : wc.cell? (pA.add k) = some (.int .i64 (q : Nat)) := (by rw [hw0]; exact hP)
      exact wpOp_val rfl rfl (ex_load rfl (hv.get 5 rfl rfl (hd 5 (by decide))) (by go_simp)) ⟨hv.put so13_apart 6 rfl (lb rfl) (lb rfl) rfl, HO⟩
    ·
      rintro L a wc ⟨hv, HO⟩ hL hc hd
      exact wpOp_val rfl rfl (ex_field rfl ((hv.fixed 9 (by decide)).trans rfl) (by go_simp)) ⟨hv.put so13_apart 7 rfl (lb rfl) (lb rfl) rfl, HO⟩
    ·
      rintro L a wc ⟨hv, HO⟩ hL hc hd
      have hw0 : wc = wr.drew := HO.out.1 (Bool.eq_false_iff.2 fun h => Bool.false_ne_true (hL.symm.trans (hc 16 h 8 (by decide))))
      have h0 : wc.cell? ⟨G9, 0, none⟩ = some (.slice (some rA) pl rc) := (by rw [hw0]; exact h9a)
      exact wpOp_val rfl rfl (ex_load rfl (hv.get 7 rfl rfl (hd 7 (by decide))) (by go_simp)) ⟨hv.put so13_apart 8 rfl (lb rfl) (lb rfl) rfl, HO⟩
    ·
      rintro L a wc ⟨hv, HO⟩ hL hc hd
      exact wpOp_val rfl rfl (ex_move rfl ((hv.fixed 11 (by decide)).trans rfl)) ⟨hv.put so13_apart 9 rfl (lb rfl) (lb rfl) rfl, HO⟩
    ·
      rintro L a wc ⟨hv, HO⟩ hL hc hd
      have u1 : (0 : Int) ≤ (k : Int) := by omega
      have u2 : (k : Int) < (pl : Int) := by omega
      exact wpOp_val rfl rfl (ex_index rfl (hv.get 8 rfl rfl (hd 8 (by decide))) (hv.get 9 rfl rfl (hd 9 (by decide))) (by go_simp)) ⟨hv.put so13_apart 10 rfl (lb rfl) (lb rfl) rfl, HO⟩
    ·
      rintro L a wc ⟨hv, HO⟩ hL hc hd
      have hw0 : wc = wr.drew := HO.out.1 (Bool.eq_false_iff.2 fun h => Bool.false_ne_true (hL.symm.trans (hc 16 h 11 (by decide))))
      have h0 : wc.cell? (rA.add k) = some (.slice (some aq) W cQ) := (by rw [hw0]; exact hR)
      exact wpOp_val rfl rfl (ex_load rfl (hv.get 10 rfl rfl (hd 10 (by decide))) (by go_simp)) ⟨hv.put so13_apart 11 rfl (lb rfl) (lb rfl) rfl, HO⟩
    ·
      rintro L a wc ⟨hv, HO⟩ hL hc hd
      exact wpOp_val rfl rfl (ex_move rfl ((hv.fixed 2 (by decide)).trans rfl)) ⟨hv.put so13_apart 12 rfl (lb rfl) (lb rfl) rfl, HO⟩
    ·
      rintro L a wc ⟨hv, HO⟩ hL hc hd
      have u1 : (0 : Int) ≤ (n : Int) := by omega
      have u2 : (n : Int) < (W : Int) := by omega
      exact wpOp_val rfl rfl (ex_index rfl (hv.get 11 rfl rfl (hd 11 (by decide))) (hv.get 12 rfl rfl (hd 12 (by decide))) (by go_simp)) ⟨hv.put so13_apart 13 rfl (lb rfl) (lb rfl) rfl, HO⟩
    ·
      rintro L a wc ⟨hv, HO⟩ hL hc hd
      have hw0 : wc = wr.drew := HO.out.1 (Bool.eq_false_iff.2 fun h => Bool.false_ne_true (hL.symm.trans (hc 16 h 14 (by decide))))
      have h0 : wc.cell? (aq.add n) = some (bv v) := (by rw [hw0]; exact hQ)
      exact wpOp_val rfl rfl (ex_load rfl (hv.get 13 rfl rfl (hd 13 (by decide))) (by go_simp)) ⟨hv.put so13_apart 14 rfl (lb rfl) (lb rfl) rfl, HO⟩
    ·
      rintro L a wc ⟨hv, HO⟩ hL hc hd
      have u1 : (0 : Int) ≤ (q : Int) := by omega
      have u2 : (q : Int) < (n : Int) := by omega
      exact wpOp_val rfl rfl (ex_index rfl (hv.get 1 rfl rfl (hd 1 (by decide))) (hv.get 6 rfl rfl (hd 6 (by decide))) (by go_simp)) ⟨hv.put so13_apart 15 rfl (lb rfl) (lb rfl) rfl, HO⟩
    ·
      rintro L a wc ⟨hv, HO⟩ hL hc hd
      have hw0 : wc = wr.drew := HO.out.1 hL
      have f0 : wc.frozen? ⟨gx, q, none⟩ = false := by rw [hw0]; exact hXf
      have c1 : wc.cell? ⟨gx, q, none⟩ = some (bv x0) := by rw [hw0]; exact hX
      exact wpOp_skip rfl rfl rfl (ex_store (w' := wc.setCell ⟨gx, q, none⟩ (bv v)) rfl (hv.get 15 rfl rfl (hd 15 (by decide))) (hv.get 14 rfl rfl (hd 14 (by decide))) (by clear hw0; go_simp)) ⟨hv.skip 16 rfl, Lib.hid ⟨fun h => absurd h (by simp [upd]), fun _ => by rw [hw0]⟩⟩
  · rintro L a wc ⟨hv, HO⟩ hall
    show K a wc
    have ha := act_lit a
    rw [hv.size, hv.defers] at ha
    have hl : ∀ f : Nat → Value, ((List.range (⟨#[c0, c1, .int .i64 (n : Nat), c3, c4, c5, c6, c7, c8, .pointer (some ⟨G9, 0, none⟩), .pointer (some ⟨G10, 0, none⟩), .int .i64 (k : Nat), c12, c13, c14, c15, c16, c17, c18, c19, c20, c21, c22, c23, c24, c25, c26, c27, c28, c29, c30, c31, c32, c33, c34, c35, c36, c37, c38, c39, c40, c41, c42, c43, c44, c45, c46, c47, c48, c49, c50, c51, c52, c53, c54, c55, c56, c57, c58, c59, c60, c61, c62, c63, c64, c65, c66, c67, c68, c69, c70, c71, c72, c73, c74, c75, c76, c77, c78, c79, c80, c81, c82, c83, c84, c85, c86, c87, c88, c89, c90, c91, c92, c93, c94, c95, c96, c97, c98, c99, c100, c101, c102, c103, c104, c105, c106, c107, c108, c109, c110, c111, c112, c113, c114, c115, c116, c117], df⟩ : Act).tmps.size).map f).toArray = #[f 0, f 1, f 2, f 3, f 4, f 5, f 6, f 7, f 8, f 9, f 10, f 11, f 12, f 13, f 14, f 15, f 16, f 17, f 18, f 19, f 20, f 21, f 22, f 23, f 24, f 25, f 26, f 27, f 28, f 29, f 30, f 31, f 32, f 33, f 34, f 35, f 36, f 37, f 38, f 39, f 40, f 41, f 42, f 43, f 44, f 45, f 46, f 47, f 48, f 49, f 50, f 51, f 52, f 53, f 54, f 55, f 56, f 57, f 58, f 59, f 60, f 61, f 62, f 63, f 64, f 65, f 66, f 67, f 68, f 69, f 70, f 71, f 72, f 73, f 74, f 75, f 76, f 77, f 78, f 79, f 80, f 81, f 82, f 83, f 84, f 85, f 86, f 87, f 88, f 89, f 90, f 91, f 92, f 93, f 94, f 95, f 96, f 97, f 98, f 99, f 100, f 101, f 102, f 103, f 104, f 105, f 106, f 107, f 108, f 109, f 110, f 111, f 112, f 113, f 114, f 115, f 116, f 117] := fun _ => rfl
    rw [hl] at ha
    simp only [hv.fixed 0 (by decide), hv.fixed 1 (by decide), hv.fixed 2 (by decide), hv.fixed 3 (by decide), hv.fixed 4 (by decide), hv.fixed 5 (by decide), hv.fixed 6 (by decide), hv.fixed 7 (by decide), hv.fixed 8 (by decide), hv.fixed 9 (by decide), hv.fixed 10 (by decide), hv.fixed 11 (by decide), hv.fixed 12 (by decide), hv.fixed 13 (by decide), hv.fixed 14 (by decide), hv.fixed 15 (by decide), hv.fixed 16 (by decide), hv.fixed 17 (by decide), hv.fixed 18 (by decide), hv.fixed 19 (by decide), hv.fixed 20 (by decide), hv.fixed 21 (by decide), hv.fixed 22 (by decide), hv.fixed 23 (by decide), hv.fixed 24 (by decide), hv.fixed 25 (by decide), hv.fixed 26 (by decide), hv.fixed 27 (by decide), hv.fixed 28 (by decide), hv.fixed 29 (by decide), hv.fixed 30 (by decide), hv.fixed 31 (by decide), hv.fixed 32 (by decide), hv.fixed 33 (by decide), hv.fixed 34 (by decide), hv.fixed 35 (by decide), hv.fixed 36 (by decide), hv.fixed 37 (by decide), hv.fixed 38 (by decide), hv.fixed 39 (by decide), hv.fixed 40 (by decide), hv.fixed 41 (by decide), hv.fixed 42 (by decide), hv.fixed 43 (by decide), hv.fixed 44 (by decide), hv.fixed 45 (by decide), hv.fixed 46 (by decide), hv.fixed 47 (by decide), hv.fixed 48 (by decide), hv.fixed 49 (by decide), hv.fixed 50 (by decide), hv.fixed 51 (by decide), hv.fixed 52 (by decide), hv.fixed 53 (by decide), hv.fixed 54 (by decide), hv.fixed 55 (by decide), hv.fixed 56 (by decide), hv.fixed 73 (by decide), hv.fixed 74 (by decide), hv.fixed 75 (by decide), hv.fixed 76 (by decide), hv.fixed 77 (by decide), hv.fixed 78 (by decide), hv.fixed 79 (by decide), hv.fixed 80 (by decide), hv.fixed 81 (by decide), hv.fixed 82 (by decide), hv.fixed 83 (by decide), hv.fixed 84 (by decide), hv.fixed 85 (by decide), hv.fixed 86 (by decide), hv.fixed 87 (by decide), hv.fixed 88 (by decide), hv.fixed 89 (by decide), hv.fixed 90 (by decide), hv.fixed 91 (by decide), hv.fixed 92 (by decide), hv.fixed 93 (by decide), hv.fixed 94 (by decide), hv.fixed 95 (by decide), hv.fixed 96 (by decide), hv.fixed 97 (by decide), hv.fixed 98 (by decide), hv.fixed 99 (by decide), hv.fixed 100 (by decide), hv.fixed 101 (by decide), hv.fixed 102 (by decide), hv.fixed 103 (by decide), hv.fixed 104 (by decide), hv.fixed 105 (by decide), hv.fixed 106 (by decide), hv.fixed 107 (by decide), hv.fixed 108 (by decide), hv.fixed 109 (by decide), hv.fixed 110 (by decide), hv.fixed 111 (by decide), hv.fixed 112 (by decide), hv.fixed 113 (by decide), hv.fixed 114 (by decide), hv.fixed 115 (by decide), hv.fixed 116 (by decide), hv.fixed 117 (by decide)] at ha
    rw [ha]
    exact hK _ _ _ _ _ _ _ _ _ _ _ _ _ _ _ _ wc (HO.out.2 (hall 16 (by decide)))
noncomputable def so24_code : Code := ((Tryd.f96.body.bind (regionOf 24)).getD .skip)
def so24_dsts : List (Option Nat) := [some 96, some 97, some 98, some 99, some 100, some 101, some 102, some 103, some 104, some 105, some 106, some 107, some 108, some 109, some 110, none]
theorem so24_apart : apartD so24_dsts = true := by decide +kernel
set_option maxRecDepth 1000000 in
set_option maxHeartbeats 16000000 in
theorem so24 (wr : World) (G9 c gv n k q pl rc pc cQ W : Nat) (rA pA aq : Addr) (v x0 : UInt8) (hk : k < pl) (hq : q < n) (hcn : c < n) (hW : n < W) (h9a : wr.cell? ⟨G9, 0, none⟩ = some (.slice (some rA) pl rc)) (h9b : wr.cell? ⟨G9, 1, none⟩ = some (.slice (some pA) pl pc)) (hP : wr.cell? (pA.add k) = some (.int .i64 (q : Nat))) (hR : wr.cell? (rA.add k) = some (.slice (some aq) W cQ)) (hQ : wr.cell? (aq.add c) = some (bv v)) (hX : wr.cell? ⟨gv, q, none⟩ = some (bv x0)) (hXf : wr.frozen? ⟨gv, q, none⟩ = false) (c0 c1 c2 c3 c4 c5 c6 c7 c8 c10 c11 c13 c16 c17 c18 c19 c20 c21 c22 c23 c24 c25 c26 c27 c28 c29 c30 c31 c32 c33 c34 c35 c36 c37 c38 c39 c40 c41 c42 c43 c44 c45 c46 c47 c48 c49 c50 c51 c52 c53 c54 c55 c56 c57 c58 c59 c60 c61 c62 c63 c64 c65 c66 c67 c68 c69 c70 c71 c72 c73 c74 c75 c76 c77 c78 c79 c80 c81 c82 c83 c84 c85 c86 c87 c88 c89 c90 c91 c92 c93 c94 c95 c96 c97 c98 c99 c100 c101 c102 c103 c104 c105 c106 c107 c108 c109 c110 c111 c112 c113 c114 c115 c116 c117 : Value) (df : List Deferred) (K : Act → World → Prop)
    (hK : ∀  (u96 u97 u98 u99 u100 u101 u102 u103 u104 u105 u106 u107 u108 u109 u110 : Value) (wx : World), wx = (wr.drew).setCell ⟨gv, q, none⟩ (bv v) → K ⟨#[c0, c1, c2, c3, c4, c5, c6, c7, c8, .pointer (some ⟨G9, 0, none⟩), c10, c11, .int .i64 (c : Nat), c13, .slice (some ⟨gv, 0, none⟩) n n, .int .i64 (k : Nat), c16, c17, c18, c19, c20, c21, c22, c23, c24, c25, c26, c27, c28, c29, c30, c31, c32, c33, c34, c35, c36, c37, c38, c39, c40, c41, c42, c43, c44, c45, c46, c47, c48, c49, c50, c51, c52, c53, c54, c55, c56, c57, c58, c59, c60, c61, c62, c63, c64, c65, c66, c67, c68, c69, c70, c71, c72, c73, c74, c75, c76, c77, c78, c79, c80, c81, c82, c83, c84, c85, c86, c87, c88, c89, c90, c91, c92, c93, c94, c95, u96, u97, u98, u99, u100, u101, u102, u103, u104, u105, u106, u107, u108, u109, u110, c111, c112, c113, c114, c115, c116, c117], df⟩ wx) :
    Code.wp Tryd.prog so24_code (AtEnd K) ⟨#[c0, c1, c2, c3, c4, c5, c6, c7, c8, .pointer (some ⟨G9, 0, none⟩), c10, c11, .int .i64 (c : Nat), c13, .slice (some ⟨gv, 0, none⟩) n n, .int .i64 (k : Nat), c16, c17, c18, c19, c20, c21, c22, c23, c24, c25, c26, c27, c28, c29, c30, c31, c32, c33, c34, c35, c36, c37, c38, c39, c40, c41, c42, c43, c44, c45, c46, c47, c48, c49, c50, c51, c52, c53, c54, c55, c56, c57, c58, c59, c60, c61, c62, c63, c64, c65, c66, c67, c68, c69, c70, c71, c72, c73, c74, c75, c76, c77, c78, c79, c80, c81, c82, c83, c84, c85, c86, c87, c88, c89, c90, c91, c92, c93, c94, c95, c96, c97, c98, c99, c100, c101, c102, c103, c104, c105, c106, c107, c108, c109, c110, c111, c112, c113, c114, c115, c116, c117], df⟩ wr := by
  conv => arg 2; whnf
  refine region_inv (by kernel_rfl) [[], [], [1], [], [2, 3], [4], [], [6], [], [7, 8], [9], [], [10, 11], [12], [0, 5, 0, 1, 2, 3, 4, 5, 6, 7, 8, 9, 10, 11, 12, 13], [14, 13, 0, 1, 2, 3, 4, 5, 6, 7, 8, 9, 10, 11, 12, 13]] (by kernel_rfl) [0, 1, 2, 3, 4, 5, 6, 7, 8, 9, 10, 11, 12, 13, 14, 15] (by decide +kernel) (by decide +kernel) (by decide +kernel) (fun L a wc => Inv so24_dsts [.slice (some ⟨gv, 0, none⟩) n n, .pointer (some ⟨G9, 1, none⟩), .slice (some pA) pl pc, .int .i64 (k : Nat), .pointer (some (pA.add k)), .int .i64 (q : Nat), .pointer (some ⟨G9, 0, none⟩), .slice (some rA) pl rc, .int .i64 (k : Nat), .pointer (some (rA.add k)), .slice (some aq) W cQ, .int .i64 (c : Nat), .pointer (some (aq.add c)), bv v, .pointer (some ⟨gv, q, none⟩), undef] ⟨#[c0, c1, c2, c3, c4, c5, c6, c7, c8, .pointer (some ⟨G9, 0, none⟩), c10, c11, .int .i64 (c : Nat), c13, .slice (some ⟨gv, 0, none⟩) n n, .int .i64 (k : Nat), c16, c17, c18, c19, c20, c21, c22, c23, c24, c25, c26, c27, c28, c29, c30, c31, c32, c33, c34, c35, c36, c37, c38, c39, c40, c41, c42, c43, c44, c45, c46, c47, c48, c49, c50, c51, c52, c53, c54, c55, c56, c57, c58, c59, c60, c61, c62, c63, c64, c65, c66, c67, c68, c69, c70, c71, c72, c73, c74, c75, c76, c77, c78, c79, c80, c81, c82, c83, c84, c85, c86, c87, c88, c89, c90, c91, c92, c93, c94, c95, c96, c97, c98, c99, c100, c101, c102, c103, c104, c105, c106, c107, c108, c109, c110, c111, c112, c113, c114, c115, c116, c117], df⟩ L a ∧ Hid ((L 15 = false → wc = wr.drew) ∧ (L 15 = true → wc = (wr.drew).setCell ⟨gv, q, none⟩ (bv v)))) ⟨Inv.start, Lib.hid ⟨fun _ => rfl, fun h => by cases h⟩⟩ ?_ ?_
  · refine ⟨?_, ?_, ?_, ?_, ?_, ?_, ?_, ?_, ?_, ?_, ?_, ?_, ?_, ?_, ?_, ?_, trivial⟩
    ·
      rintro L a wc ⟨hv, HO⟩ hL hc hd
      exact wpOp_val rfl rfl (ex_move rfl ((hv.fixed 14 (by decide)).trans rfl)) ⟨hv.put so24_apart 0 rfl (lb rfl) (lb rfl) rfl, HO⟩
    ·
      rintro L a wc ⟨hv, HO⟩ hL hc hd
      exact wpOp_val rfl rfl (ex_field rfl ((hv.fixed 9 (by decide)).trans rfl) (by go_simp)) ⟨hv.put so24_apart 1 rfl (lb rfl) (lb rfl) rfl, HO⟩
    ·
      rintro L a wc ⟨hv, HO⟩ hL hc hd
      have hw0 : wc = wr.drew := HO.out.1 (Bool.eq_false_iff.2 fun h => Bool.false_ne_true (hL.symm.trans (hc 15 h 2 (by decide))))
      have h0 : wc.cell? ⟨G9, 1, none⟩ = some (.slice (some pA) pl pc) := (by rw [hw0]; exact h9b)
      exact wpOp_val rfl rfl (ex_load rfl (hv.get 1 rfl rfl (hd 1 (by decide))) (by go_simp)) ⟨hv.put so24_apart 2 rfl (lb rfl) (lb rfl) rfl, HO⟩
    ·
      rintro L a wc ⟨hv, HO⟩ hL hc hd
      exact wpOp_val rfl rfl (ex_move rfl ((hv.fixed 15 (by decide)).trans rfl)) ⟨hv.put so24_apart 3 rfl (lb rfl) (lb rfl) rfl, HO⟩
    ·
      rintro L a wc ⟨hv, HO⟩ hL hc hd
      have u1 : (0 : Int) ≤ (k : Int) := by omega
      have u2 : (k : Int) < (pl : Int) := by omega
      exact wpOp_val rfl rfl (ex_index rfl (hv.get 2 rfl rfl (hd 2 (by decide))) (hv.get 3 rfl rfl (hd 3 (by decide))) (by go_simp)) ⟨hv.put so24_apart 4 rfl (lb rfl) (lb rfl) rfl, HO⟩
    ·
      rintro L a wc ⟨hv, HO⟩ hL hc hd
      have hw0 : wc = wr.drew := HO.out.1 (Bool.eq_false_iff.2 fun h => Bool.false_ne_true (hL.symm.trans (hc 15 h 5 (by decide))))
      have h0 : wc.cell? (pA.add k) = some (.int .i64 (q : Nat)) := (by rw [hw0]; exact hP)
      exact wpOp_val rfl rfl (ex_load rfl (hv.get 4 rfl rfl (hd 4 (by decide))) (by go_simp)) ⟨hv.put so24_apart 5 rfl (lb rfl) (lb rfl) rfl, HO⟩
    ·
      rintro L a wc ⟨hv, HO⟩ hL hc hd
      exact wpOp_val rfl rfl (ex_field rfl ((hv.fixed 9 (by decide)).trans rfl) (by go_simp)) ⟨hv.put so24_apart 6 rfl (lb rfl) (lb rfl) rfl, HO⟩
    ·
      rintro L a wc ⟨hv, HO⟩ hL hc hd
      have hw0 : wc = wr.drew := HO.out.1 (Bool.eq_false_iff.2 fun h => Bool.false_ne_true (hL.symm.trans (hc 15 h 7 (by decide))))
      have h0 : wc.cell? ⟨G9, 0, none⟩ = some (.slice (some rA) pl rc) := (by rw [hw0]; exact h9a)
      exact wpOp_val rfl rfl (ex_load rfl (hv.get 6 rfl rfl (hd 6 (by decide))) (by go_simp)) ⟨hv.put so24_apart 7 rfl (lb rfl) (lb rfl) rfl, HO⟩
    ·
      rintro L a wc ⟨hv, HO⟩ hL hc hd
      exact wpOp_val rfl rfl (ex_move rfl ((hv.fixed 15 (by decide)).trans rfl)) ⟨hv.put so24_apart 8 rfl (lb rfl) (lb rfl) rfl, HO⟩
    ·
      rintro L a wc ⟨hv, HO⟩ hL hc hd
      have u1 : (0 : Int) ≤ (k : Int) := by omega
      have u2 : (k : Int) < (pl : Int) := by omega
      exact wpOp_val rfl rfl (ex_index rfl (hv.get 7 rfl rfl (hd 7 (by decide))) (hv.get 8 rfl rfl (hd 8 (by decide))) (by go_simp)) ⟨hv.put so24_apart 9 rfl (lb rfl) (lb rfl) rfl, HO⟩
    ·
      rintro L a wc ⟨hv, HO⟩ hL hc hd
      have hw0 : wc = wr.drew := HO.out.1 (Bool.eq_false_iff.2 fun h => Bool.false_ne_true (hL.symm.trans (hc 15 h 10 (by decide))))
      have h0 : wc.cell? (rA.add k) = some (.slice (some aq) W cQ) := (by rw [hw0]; exact hR)
      exact wpOp_val rfl rfl (ex_load rfl (hv.get 9 rfl rfl (hd 9 (by decide))) (by go_simp)) ⟨hv.put so24_apart 10 rfl (lb rfl) (lb rfl) rfl, HO⟩
    ·
      rintro L a wc ⟨hv, HO⟩ hL hc hd
      exact wpOp_val rfl rfl (ex_move rfl ((hv.fixed 12 (by decide)).trans rfl)) ⟨hv.put so24_apart 11 rfl (lb rfl) (lb rfl) rfl, HO⟩
    ·
      rintro L a wc ⟨hv, HO⟩ hL hc hd
      have u1 : (0 : Int) ≤ (c : Int) := by omega
      have u2 : (c : Int) < (W : Int) := by omega
      exact wpOp_val rfl rfl (ex_index rfl (hv.get 10 rfl rfl (hd 10 (by decide))) (hv.get 11 rfl rfl (hd 11 (by decide))) (by go_simp)) ⟨hv.put so24_apart 12 rfl (lb rfl) (lb rfl) rfl, HO⟩
    ·
      rintro L a wc ⟨hv, HO⟩ hL hc hd
      have hw0 : wc = wr.drew := HO.out.1 (Bool.eq_false_iff.2 fun h => Bool.false_ne_true (hL.symm.trans (hc 15 h 13 (by decide))))
      have h0 : wc.cell? (aq.add c) = some (bv v) := (by rw [hw0]; exact hQ)
      exact wpOp_val rfl rfl (ex_load rfl (hv.get 12 rfl rfl (hd 12 (by decide))) (by go_simp)) ⟨hv.put so24_apart 13 rfl (lb rfl) (lb rfl) rfl, HO⟩
    ·
      rintro L a wc ⟨hv, HO⟩ hL hc hd
      have u1 : (0 : Int) ≤ (q : Int) := by omega
      have u2 : (q : Int) < (n : Int) := by omega
      exact wpOp_val rfl rfl (ex_index rfl (hv.get 0 rfl rfl (hd 0 (by decide))) (hv.get 5 rfl rfl (hd 5 (by decide))) (by go_simp)) ⟨hv.put so24_apart 14 rfl (lb rfl) (lb rfl) rfl, HO⟩
    ·
      rintro L a wc ⟨hv, HO⟩ hL hc hd
      have hw0 : wc = wr.drew := HO.out.1 hL
      have f0 : wc.frozen? ⟨gv, q, none⟩ = false := by rw [hw0]; exact hXf
      have c1 : wc.cell? ⟨gv, q, none⟩ = some (bv x0) := by rw [hw0]; exact hX
      exact wpOp_skip rfl rfl rfl (ex_store (w' := wc.setCell ⟨gv, q, none⟩ (bv v)) rfl (hv.get 14 rfl rfl (hd 14 (by decide))) (hv.get 13 rfl rfl (hd 13 (by decide))) (by clear hw0; go_simp)) ⟨hv.skip 15 rfl, Lib.hid ⟨fun h => absurd h (by simp [upd]), fun _ => by rw [hw0]⟩⟩
  · rintro L a wc ⟨hv, HO⟩ hall
    show K a wc
    have ha := act_lit a
    rw [hv.size, hv.defers] at ha
    have hl : ∀ f : Nat → Value, ((List.range (⟨#[c0, c1, c2, c3, c4, c5, c6, c7, c8, .pointer (some ⟨G9, 0, none⟩), c10, c11, .int .i64 (c : Nat), c13, .slice (some ⟨gv, 0, none⟩) n n, .int .i64 (k : Nat), c16, c17, c18, c19, c20, c21, c22, c23, c24, c25, c26, c27, c28, c29, c30, c31, c32, c33, c34, c35, c36, c37, c38, c39, c40, c41, c42, c43, c44, c45, c46, c47, c48, c49, c50, c51, c52, c53, c54, c55, c56, c57, c58, c59, c60, c61, c62, c63, c64, c65, c66, c67, c68, c69, c70, c71, c72, c73, c74, c75, c76, c77, c78, c79, c80, c81, c82, c83, c84, c85, c86, c87, c88, c89, c90, c91, c92, c93, c94, c95, c96, c97, c98, c99, c100, c101, c102, c103, c104, c105, c106, c107, c108, c109, c110, c111, c112, c113, c114, c115, c116, c117], df⟩ : Act).tmps.size).map f).toArray = #[f 0, f 1, f 2, f 3, f 4, f 5, f 6, f 7, f 8, f 9, f 10, f 11, f 12, f 13, f 14, f 15, f 16, f 17, f 18, f 19, f 20, f 21, f 22, f 23, f 24, f 25, f 26, f 27, f 28, f 29, f 30, f 31, f 32, f 33, f 34, f 35, f 36, f 37, f 38, f 39, f 40, f 41, f 42, f 43, f 44, f 45, f 46, f 47, f 48, f 49, f 50, f 51, f 52, f 53, f 54, f 55, f 56, f 57, f 58, f 59, f 60, f 61, f 62, f 63, f 64, f 65, f 66, f 67, f 68, f 69, f 70, f 71, f 72, f 73, f 74, f 75, f 76, f 77, f 78, f 79, f 80, f 81, f 82, f 83, f 84, f 85, f 86, f 87, f 88, f 89, f 90, f 91, f 92, f 93, f 94, f 95, f 96, f 97, f 98, f 99, f 100, f 101, f 102, f 103, f 104, f 105, f 106, f 107, f 108, f 109, f 110, f 111, f 112, f 113, f 114, f 115, f 116, f 117] := fun _ => rfl
    rw [hl] at ha
    simp only [hv.fixed 0 (by decide), hv.fixed 1 (by decide), hv.fixed 2 (by decide), hv.fixed 3 (by decide), hv.fixed 4 (by decide), hv.fixed 5 (by decide), hv.fixed 6 (by decide), hv.fixed 7 (by decide), hv.fixed 8 (by decide), hv.fixed 9 (by decide), hv.fixed 10 (by decide), hv.fixed 11 (by decide), hv.fixed 12 (by decide), hv.fixed 13 (by decide), hv.fixed 14 (by decide), hv.fixed 15 (by decide), hv.fixed 16 (by decide), hv.fixed 17 (by decide), hv.fixed 18 (by decide), hv.fixed 19 (by decide), hv.fixed 20 (by decide), hv.fixed 21 (by decide), hv.fixed 22 (by decide), hv.fixed 23 (by decide), hv.fixed 24 (by decide), hv.fixed 25 (by decide), hv.fixed 26 (by decide), hv.fixed 27 (by decide), hv.fixed 28 (by decide), hv.fixed 29 (by decide), hv.fixed 30 (by decide), hv.fixed 31 (by decide), hv.fixed 32 (by decide), hv.fixed 33 (by decide), hv.fixed 34 (by decide), hv.fixed 35 (by decide), hv.fixed 36 (by decide), hv.fixed 37 (by decide), hv.fixed 38 (by decide), hv.fixed 39 (by decide), hv.fixed 40 (by decide), hv.fixed 41 (by decide), hv.fixed 42 (by decide), hv.fixed 43 (by decide), hv.fixed 44 (by decide), hv.fixed 45 (by decide), hv.fixed 46 (by decide), hv.fixed 47 (by decide), hv.fixed 48 (by decide), hv.fixed 49 (by decide), hv.fixed 50 (by decide), hv.fixed 51 (by decide), hv.fixed 52 (by decide), hv.fixed 53 (by decide), hv.fixed 54 (by decide), hv.fixed 55 (by decide), hv.fixed 56 (by decide), hv.fixed 57 (by decide), hv.fixed 58 (by decide), hv.fixed 59 (by decide), hv.fixed 60 (by decide), hv.fixed 61 (by decide), hv.fixed 62 (by decide), hv.fixed 63 (by decide), hv.fixed 64 (by decide), hv.fixed 65 (by decide), hv.fixed 66 (by decide), hv.fixed 67 (by decide), hv.fixed 68 (by decide), hv.fixed 69 (by decide), hv.fixed 70 (by decide), hv.fixed 71 (by decide), hv.fixed 72 (by decide), hv.fixed 73 (by decide), hv.fixed 74 (by decide), hv.fixed 75 (by decide), hv.fixed 76 (by decide), hv.fixed 77 (by decide), hv.fixed 78 (by decide), hv.fixed 79 (by decide), hv.fixed 80 (by decide), hv.fixed 81 (by decide), hv.fixed 82 (by decide), hv.fixed 83 (by decide), hv.fixed 84 (by decide), hv.fixed 85 (by decide), hv.fixed 86 (by decide), hv.fixed 87 (by decide), hv.fixed 88 (by decide), hv.fixed 89 (by decide), hv.fixed 90 (by decide), hv.fixed 91 (by decide), hv.fixed 92 (by decide), hv.fixed 93 (by decide), hv.fixed 94 (by decide), hv.fixed 95 (by decide), hv.fixed 111 (by decide), hv.fixed 112 (by decide), hv.fixed 113 (by decide), hv.fixed 114 (by decide), hv.fixed 115 (by decide), hv.fixed 116 (by decide), hv.fixed 117 (by decide)] at ha
    rw [ha]
    exact hK _ _ _ _ _ _ _ _ _ _ _ _ _ _ _ wc (HO.out.2 (hall 15 (by decide)))
set_option maxHeartbeats 8000000 in
set_option maxRecDepth 100000 in
theorem s5Solutions_any (m : Mx.Mat) (b : List UInt8) (n : Nat) (v u : Value) (w : World) (hm : Rs (Rs RB) w v m) (hb : Rs RB w u b) (hw : Mx.Rect n m) (hl : m.length = b.length) (hn : n ≤ 100) (hN : m.length ≤ 100) :
    Calls Tryd.prog 96 #[v, u, .int .i64 (n : Nat)] w fun e w' => ∃ vx A2 n2 c2, e = .returned (.agg #[vx, .slice A2 n2 c2, .int .i64 (if (Mx.solved (Mx.glue m b) n).isSome then 0 else 8)]) ∧ Rs RB w' vx ((Mx.solved (Mx.glue m b) n).getD []) ∧ Ext w w' ∧ ∀ b, vx.ownBlock = some b → w.heap.size ≤ b := by
  obtain ⟨PA, cP, rfl, _⟩ := hm.form
  obtain ⟨BA, cB, rfl, _⟩ := hb.form
  obtain ⟨N, hNN⟩ : ∃ N, m.length = N := ⟨_, rfl⟩
  obtain ⟨A, hA⟩ : ∃ A, Mx.glue m b = A := ⟨_, rfl⟩
  have hAl : A.length = N := by rw [← hA, Mx.glue_length, hNN]
  have hAr : Mx.Rect (n + 1) A := by rw [← hA]; exact Mx.glue_rect hw
  have hAt : ∀ i, i < N → A.getD i [] = m.getD i [] ++ [b.getD i 0] := fun i hi => by rw [← hA]; exact Mx.glue_at m b (by omega)
  have hbl : b.length = N := by omega
  obtain ⟨er, her⟩ : ∃ er : Int, (if (Mx.solved A n).isSome then 0 else 8) = er := ⟨_, rfl⟩
  have HER := Lib.hid her
  have hO0 : Owns w (w.alloc (.cells #[.slice none 0 0, .slice none 0 0, .int .i64 0] 138)) [⟨.slice (some ⟨w.heap.size, 0, none⟩) 3 3, 138, 1, 3, [.slice none 0 0, .slice none 0 0, .int .i64 0]⟩] := (Owns.start w (L := [no]) (by intro r hr; simp at hr; subst hr; exact ⟨rfl, rfl, rfl⟩)).new 0 #[.slice none 0 0, .slice none 0 0, .int .i64 0] 138 (by simp [maxLen])
  rw [hA, her]
  clear her
  rw [hNN] at hm hN
  rw [hbl] at hb
  rw [hNN, hbl]
  have HO0 := Lib.hid hO0
  have HM := Lib.hid (And.intro hm hb)
  have HW := Lib.hid (And.intro hw (And.intro hNN hbl))
  have HA := Lib.hid (And.intro hAl (And.intro hAr hAt))
  obtain ⟨i0, hi, hz0, hz1, hz2⟩ := info_parts info_u8
  have HZ := Lib.hid hz2
  clear hO0 hm hb hw hNN hbl hA hAl hAr hAt hl hz2
  go_enter Tryd.func96, Tryd.ntmps96
  go_upto_region 1 with fail
  obtain ⟨Q, hQ⟩ : ∃ Q, w.heap.size = Q := ⟨_, rfl⟩
  rw [hQ] at HO0 ⊢
  obtain ⟨w1, hw1⟩ : ∃ x, w.alloc (.cells #[.slice none 0 0, .slice none 0 0, .int .i64 0] 138) = x := ⟨_, rfl⟩
  rw [hw1] at HO0 ⊢
  clear hw1 hQ
  go_wp2_with fail
  go_loopw [7, 8] (fun v7 v8 wr => ∃ (k bc : Nat) (bA : Option Addr), k ≤ N ∧ v8 = .int .i64 (k : Nat) ∧ v7 = .slice bA k bc ∧ Hid (GlueO w wr n k bc bA ⟨.slice (some ⟨Q, 0, none⟩) 3 3, 138, 1, 3, [.slice none 0 0, .slice none 0 0, .int .i64 0]⟩ A)) (fun _ v8 _ => N - (intOf v8).toNat)
  case atStart => exact ⟨0, 0, none, Nat.zero_le _, rfl, rfl, Lib.hid ⟨[], [], (HO0.out.nilled (e := 28)).perm (List.Perm.swap _ _ _), rfl, fun i h => absurd h (by omega)⟩⟩
  case round =>
    obtain ⟨k, bc, bA, hk, rfl, rfl, HI⟩ := hrel
    by_cases hlt : k < N
    · have hx : Ext w wr := HI.out.res.ext
      obtain ⟨pa, u1, hpa, hc1, hu1⟩ := HM.out.1.at (i := k) (by rw [HW.out.2.1]; exact hlt)
      subst hpa
      obtain ⟨QA, cQ, rfl, _⟩ := hu1.form
      obtain ⟨ba, u2, hba, hc2, hu2⟩ := HM.out.2.at (i := k) (by rw [HW.out.2.2]; exact hlt)
      subst hba
      obtain rfl := hu2
      obtain ⟨x, hxe⟩ : ∃ x, m[k]'(by rw [HW.out.2.1]; exact hlt) = x := ⟨_, rfl⟩
      obtain ⟨y, hye⟩ : ∃ y, b[k]'(by rw [HW.out.2.2]; exact hlt) = y := ⟨_, rfl⟩
      have hxl : x.length = n := by
        have := HW.out.1 k (by rw [HW.out.2.1]; exact hlt)
        unfold Mx.row at this
        rw [List.getD_eq_getElem?_getD, List.getElem?_eq_getElem (by rw [HW.out.2.1]; exact hlt), Option.getD_some, hxe] at this
        exact this
      have hAk : A.getD k [] = x ++ [y] := by
        rw [HA.out.2.2 k hlt, List.getD_eq_getElem?_getD, List.getElem?_eq_getElem (by rw [HW.out.2.1]; exact hlt), Option.getD_some, hxe, List.getD_eq_getElem?_getD, List.getElem?_eq_getElem (by rw [HW.out.2.2]; exact hlt), Option.getD_some, hye]
      rw [hxe, hxl] at hc1
      rw [hxe, hxl] at hu1
      rw [hye] at hc2
      have HRD := Lib.hid (Rs.rd hu1)
      have HAK := Lib.hid (And.intro hAk hxl)
      obtain ⟨vs, LL, hO, hvl, hin⟩ := HI.out
      have HIN := Lib.hid (And.intro hvl hin)
      have HO := Lib.hid hO
      clear hxe hye hu1 hAk hO hvl hin
      go_wp2_with fail
      refine wp_atEnd' (so5 w wr k n N cP cB cQ bc bA QA pa ba x y vs (⟨.slice (some ⟨Q, 0, none⟩) 3 3, 138, 1, 3, [.slice none 0 0, .slice none 0 0, .int .i64 0]⟩ :: LL) hlt (by omega) hxl (by omega) hc1 hc2 HRD HO _ _ _ _ _ _ _ _ _ _ _ _ _ _ _ _ _ _ _ _ _ _ _ _ _ _ _ _ _ _ _ _ _ _ _ _ _ _ _ _ _ _ _ _ _ _ _ _ _ _ _ _ _ _ _ _ _ _ _ _ _ _ _ _ _ _ _ _ _ _ _ _ _ _ _ _ _ _ _ _ _ _ _ _ _ _ _ _ _ _ _ _ _ _ _ _ _ _ _ _ _ _ _ _ _ _ _ _ _ _ _ _ _ _ _ _ ?_)
      rintro g2 k2 g4 k4 u22 u23 u24 u25 u26 u27 u28 u29 u30 u31 u32 u33 u34 u35 u36 wx hOx
      have hnew : GlueO w wx n (k + 1) k4 (some ⟨g4, 0, none⟩) ⟨.slice (some ⟨Q, 0, none⟩) 3 3, 138, 1, 3, [.slice none 0 0, .slice none 0 0, .int .i64 0]⟩ A := by
        refine ⟨vs ++ [.slice (some ⟨g2, 0, none⟩) (n + 1) k2], ⟨.slice (some ⟨g2, 0, none⟩) (n + 1) k2, 5, 1, n + 1, x.map bv ++ [bv y]⟩ :: LL, hOx.perm (List.Perm.cons _ (List.Perm.swap _ _ _)), by rw [List.length_append, HIN.out.1]; rfl, fun i hi => ?_⟩
        by_cases he : i = k
        · refine ⟨g2, k2, ?_, ?_⟩
          · rw [List.getElem?_append_right (by rw [HIN.out.1]; omega), HIN.out.1, he, Nat.sub_self]; rfl
          · rw [he, HAK.out.1, List.map_append]; exact List.mem_cons_self
        · obtain ⟨g, c, e1, e2⟩ := HIN.out.2 i (by omega)
          exact ⟨g, c, by rw [List.getElem?_append_left (by rw [HIN.out.1]; omega)]; exact e1, List.mem_cons_of_mem _ e2⟩
      have HNEW := Lib.hid hnew
      clear hnew hOx hc1 hc2 HO HIN
      go_wp2_with fail
      go_roundw
      case rel => exact ⟨k + 1, k4, some ⟨g4, 0, none⟩, by omega, by go_num, (by first | trivial | rfl), HNEW⟩
      case measure => simp [intOf]; omega
    · obtain rfl : N = k := by omega
      have hrs := HI.out
      have hA1 := HA.out.1
      rw [← hA1] at hrs
      have hRS := hrs.rs HA.out.2.1 (by omega) (by omega)
      have hred := s5Reduce_any A (n + 1) _ wr hRS HA.out.2.1 (by omega) (by omega)
      rw [hA1] at hred
      rw [Mx.redTo_cols HA.out.2.1] at hred
      have HRED := Lib.hid hred
      have HRES := Lib.hid HI.out.res
      clear hrs hA1 hRS hred
      go_wp2_with fail
      refine HRED.out.mono ?_
      clear HRED
      rintro e w5 ⟨A1, c1, A2, c2, pl, rfl, hpl, hR, hP, hx5⟩
      have HR5 := Lib.hid (And.intro hR (And.intro hP hpl))
      have HX5 := Lib.hid hx5
      clear hR hP hpl hx5
      obtain ⟨R, P, hRP⟩ : ∃ R P, Mx.redTo A (n + 1) = (R, P) := ⟨_, _, rfl⟩
      have hred := Mx.red_to HA.out.2.1 (n + 1)
      have h5 := HR5.out
      rw [hRP] at hred h5
      dsimp only at hred h5
      have h5l : pl ≤ R.length := by have := hred.few; rw [h5.2.2]; exact this
      have hplN : pl ≤ N := by have h2 := hred.len; have h3 := HA.out.1; omega
      have H5 : Hid (Rs (Rs RB) w5 (.slice A1 pl c1) (R.take pl) ∧ Rs RI w5 (.slice A2 pl c2) (Mx.toInts P) ∧ Mx.Red (n + 1) A (n + 1) R P ∧ P.length = pl ∧ pl ≤ R.length) := Lib.hid ⟨h5.1, h5.2.1, hred, h5.2.2.symm, h5l⟩
      have HRP := Lib.hid hRP
      have hO6 : Owns w5 (w5.alloc (.cells #[.slice A1 pl c1, .slice A2 pl c2] 148)) [⟨.slice (some ⟨w5.heap.size, 0, none⟩) 2 2, 148, 1, 2, [.slice A1 pl c1, .slice A2 pl c2]⟩] := (Owns.start w5 (L := [no]) (by intro r hr; simp at hr; subst hr; exact ⟨rfl, rfl, rfl⟩)).new 0 #[.slice A1 pl c1, .slice A2 pl c2] 148 (by simp [maxLen])
      have HO6 := Lib.hid hO6
      have HRS5 := Lib.hid (HRES.out.next HX5.out)
      have HSZ := Lib.hid (HRES.out.next HX5.out).ext.size
      clear HR5 hred h5 h5l hRP hO6 HRES HX5 HI
      go_upto_region 7 with fail
      obtain ⟨G9, hG9⟩ : ∃ g, w5.heap.size = g := ⟨_, rfl⟩
      rw [hG9] at HO6 ⊢
      obtain ⟨w6, hw6⟩ : ∃ x, w5.alloc (.cells #[.slice A1 pl c1, .slice A2 pl c2] 148) = x := ⟨_, rfl⟩
      rw [hw6] at HO6 ⊢
      clear hw6 hG9
      go_upto_region 8 with (refine wpList_make_full _ rfl (.tmp 39) (.tmp 39) 28 rfl w6.heap.size 5 i0 (.int .u8 0) 1 Tryd.underlying28 hi hz0 hz1 _ _ _ _ n rfl rfl rfl rfl (by rw [HZ.out]; omega) (by unfold maxLen; omega) (Nat.le_refl _) ?_; intro w7 hown hgrow; have hx7 : Ext w6 w7 := (Ext.refl w6).grown hgrow (fun k h => by cases h); have hw7 : w7.ownsRow w6.heap.size 5 1 (.slice (some ⟨w6.heap.size, 0, none⟩) n n) n ((List.replicate n (0 : UInt8)).map bv) := (by rw [List.map_replicate]; rw [show bv 0 = .int .u8 0 from rfl, ← toList_madeCells_one]; simpa [Value.cells] using hown); have HO7 := Lib.hid (HO6.out.behind hx7 hw7); clear hown hgrow hx7 hw7)
      obtain ⟨gx, hgx⟩ : ∃ g, w6.heap.size = g := ⟨_, rfl⟩
      rw [hgx] at HO7 ⊢
      have hO8 : Owns w5 (w7.alloc (.cells #[.slice (some ⟨gx, 0, none⟩) n n, .slice none 0 0, .int .i64 0] 138)) [⟨.slice (some ⟨G9, 0, none⟩) 2 2, 148, 1, 2, [.slice A1 pl c1, .slice A2 pl c2]⟩, ⟨.slice (some ⟨gx, 0, none⟩) n n, 5, 1, n, (List.replicate n (0 : UInt8)).map bv⟩, ⟨.slice (some ⟨w7.heap.size, 0, none⟩) 3 3, 138, 1, 3, [.slice (some ⟨gx, 0, none⟩) n n, .slice none 0 0, .int .i64 0]⟩] := HO7.out.wider.new 2 #[.slice (some ⟨gx, 0, none⟩) n n, .slice none 0 0, .int .i64 0] 138 (by simp [maxLen])
      have HO8 := Lib.hid hO8
      clear hO8
      obtain ⟨G0, hG0⟩ : ∃ g, w7.heap.size = g := ⟨_, rfl⟩
      rw [hG0] at HO8 ⊢
      obtain ⟨w8, hw8⟩ : ∃ x, w7.alloc (.cells #[.slice (some ⟨gx, 0, none⟩) n n, .slice none 0 0, .int .i64 0] 138) = x := ⟨_, rfl⟩
      rw [hw8] at HO8 ⊢
      clear hw8 hG0 hgx HO6 HO7
      obtain ⟨wo, rfl⟩ : ∃ wo, wo = wr := ⟨_, rfl⟩
      go_wp2_with fail
      go_loopw [11] (fun vi wr => ∃ k : Nat, k ≤ pl ∧ vi = .int .i64 (k : Nat) ∧ Hid ((∀ j, j < k → P.getD j 0 < n) ∧ Owns w5 wr [⟨.slice (some ⟨G9, 0, none⟩) 2 2, 148, 1, 2, [.slice A1 pl c1, .slice A2 pl c2]⟩, ⟨.slice (some ⟨gx, 0, none⟩) n n, 5, 1, n, (Mx.solTo R P n k).map bv⟩, ⟨.slice (some ⟨G0, 0, none⟩) 3 3, 138, 1, 3, [.slice (some ⟨gx, 0, none⟩) n n, .slice none 0 0, .int .i64 0]⟩])) (fun vi _ => pl - (intOf vi).toNat)
      case atStart => exact ⟨0, Nat.zero_le _, rfl, Lib.hid ⟨fun j h => absurd h (by omega), HO8.out⟩⟩
      case round =>
        obtain ⟨k, hk, rfl, HI⟩ := hrel
        have h9a : wr.cell? ⟨G9, 0, none⟩ = some (.slice A1 pl c1) := HI.out.2.cell 0 rfl 0 rfl
        have h9b : wr.cell? ⟨G9, 1, none⟩ = some (.slice A2 pl c2) := HI.out.2.cell 0 rfl 1 rfl
        by_cases hlt : k < pl
        · have hkP : k < P.length := by rw [H5.out.2.2.2.1]; exact hlt
          obtain ⟨ap, u1, hap, hc1, hu1⟩ := (Rs.ext RI.ext _ _ _ _ HI.out.2.ext H5.out.2.1).at (i := k) (by rw [Mx.toInts_len]; exact hkP)
          subst hap
          have hue := hu1.1
          subst hue
          clear hu1
          unfold Mx.toInts at hc1
          rw [List.getElem_map] at hc1
          have hPk : P.getD k 0 = P[k] := by rw [List.getD_eq_getElem?_getD, List.getElem?_eq_getElem hkP]; rfl
          have hcl := H5.out.2.2.1.lt k hkP
          rw [hPk] at hcl
          obtain ⟨c, hc⟩ : ∃ c, P[k] = c := ⟨_, rfl⟩
          rw [hc] at hc1 hPk hcl
          have HPK := Lib.hid (And.intro hPk hkP)
          clear hPk hkP hc
          by_cases hcn : c = n
          · subst hcn
            have hnone : Mx.solved A c = none := Mx.solved_none (by
              rw [HRP.out]
              have h := HPK.out.1
              rw [List.getD_eq_getElem?_getD, List.getElem?_eq_getElem HPK.out.2] at h
              have h2 : P[k]'HPK.out.2 = c := h
              rw [← h2]
              exact List.getElem_mem _)
            have HNO := Lib.hid hnone
            have HR9 := Lib.hid (HRS5.out.next HI.out.2.ext)
            have q0 := HR9.out.cell 0 rfl 0 rfl
            have q1 := HR9.out.cell 0 rfl 1 rfl
            have q2 := HR9.out.cell 0 rfl 2 rfl
            have f0 := HR9.out.frozen 0 rfl 0
            have f1 := HR9.out.frozen 0 rfl 1
            have f2 := HR9.out.frozen 0 rfl 2
            have HS1 := Lib.hid (((HR9.out.store 0 rfl 0 (.slice none 0 0)).store 0 rfl 1 (.slice none 0 0)).store 0 rfl 2 (.int .i64 8))
            clear hnone
            go_wp2_with fail
            refine bodyPost_ret (results_cell1 (v := .agg #[.slice none 0 0, .slice none 0 0, .int .i64 8]) rfl rfl ?_) rfl ?_
            · go_simp
            have he8 : er = 8 := by rw [← HER.out, HNO.out]; rfl
            rw [HNO.out, he8]
            exact ⟨_, none, 0, 0, rfl, rs_none _ none 0, HS1.out.ext, fun b h => by cases h⟩
          · have hcl2 : c < n := by omega
            have hce : ((c : Int) == (n : Int)) = false := by rw [beq_eq_false_iff_ne]; omega
            have hkt : k < (R.take pl).length := by rw [List.length_take]; have := H5.out.2.2.2.2; omega
            obtain ⟨ar, u2, har, hc2, hu2⟩ := (Rs.ext (Rs.ext RB.ext) _ _ _ _ HI.out.2.ext H5.out.1).at (i := k) hkt
            subst har
            have hkR : k < R.length := by have := H5.out.2.2.2.2; omega
            have hrowk : (R.take pl)[k] = Mx.row R k := by rw [List.getElem_take, Mx.row_at hkR]
            rw [hrowk] at hu2
            obtain ⟨QA, cQ, rfl, _⟩ := hu2.form
            have hql : (Mx.row R k).length = n + 1 := H5.out.2.2.1.rect k hkR
            obtain ⟨aq, u3, haq, hc3, hu3⟩ := hu2.at (i := n) (by omega)
            subst haq
            obtain rfl := hu3
            have hcell : (Mx.row R k)[n]'(by omega) = Mx.cell R k n := by unfold Mx.cell; rw [List.getD_eq_getElem?_getD, List.getElem?_eq_getElem (by omega)]; rfl
            rw [hcell] at hc3
            rw [hql] at hc2
            obtain ⟨v, hv⟩ : ∃ v, Mx.cell R k n = v := ⟨_, rfl⟩
            rw [hv] at hc3
            have hXl : (Mx.solTo R P n k).length = n := Mx.solTo_length R P n k
            have hX : wr.cell? ⟨gx, c, none⟩ = some (bv ((Mx.solTo R P n k).getD c 0)) := HI.out.2.cell 1 rfl c (by
              rw [List.getElem?_map, List.getElem?_eq_getElem (by rw [hXl]; exact hcl2), List.getD_eq_getElem?_getD, List.getElem?_eq_getElem (by rw [hXl]; exact hcl2)]; rfl)
            have hXf : wr.frozen? ⟨gx, c, none⟩ = false := HI.out.2.frozen 1 rfl c
            have h10 : wr.cell? ⟨G0, 0, none⟩ = some (.slice (some ⟨gx, 0, none⟩) n n) := HI.out.2.cell 2 rfl 0 rfl
            have HO1 := Lib.hid (HI.out.2.drew.store 1 rfl c (bv v))
            have HV := Lib.hid hv
            clear hv hcell hql hu2 hrowk hkt hkR hXl
            go_wp2_with fail
            refine wp_atEnd' (so13 wr G9 G0 gx n k c pl c1 c2 cQ (n + 1) ar ap aq v _ hlt hcl2 (by omega) h9a h9b hc1 hc2 h10 hc3 hX hXf _ _ _ _ _ _ _ _ _ _ _ _ _ _ _ _ _ _ _ _ _ _ _ _ _ _ _ _ _ _ _ _ _ _ _ _ _ _ _ _ _ _ _ _ _ _ _ _ _ _ _ _ _ _ _ _ _ _ _ _ _ _ _ _ _ _ _ _ _ _ _ _ _ _ _ _ _ _ _ _ _ _ _ _ _ _ _ _ _ _ _ _ _ _ _ _ _ _ _ _ _ _ _ _ _ _ _ _ _ _ _ _ _ _ _ _ ?_)
            rintro u57 u58 u59 u60 u61 u62 u63 u64 u65 u66 u67 u68 u69 u70 u71 u72 wy hy
            have hOy : Owns w5 wy [⟨.slice (some ⟨G9, 0, none⟩) 2 2, 148, 1, 2, [.slice (some ar) pl c1, .slice (some ap) pl c2]⟩, ⟨.slice (some ⟨gx, 0, none⟩) n n, 5, 1, n, (Mx.solTo R P n (k + 1)).map bv⟩, ⟨.slice (some ⟨G0, 0, none⟩) 3 3, 138, 1, 3, [.slice (some ⟨gx, 0, none⟩) n n, .slice none 0 0, .int .i64 0]⟩] := by
              have e1 : (Mx.solTo R P n (k + 1)).map bv = ((Mx.solTo R P n k).map bv).set c (bv v) := by
                rw [Mx.solTo, HPK.out.1, HV.out, List.map_set]
              rw [e1, hy]
              exact HO1.out
            have HOy := Lib.hid hOy
            clear hy hOy hX hXf hc1 hc2 hc3 hce h9a h9b h10
            go_wp2_with fail
            go_roundw
            case rel =>
              refine ⟨k + 1, by omega, by go_num, Lib.hid ⟨fun j hj => ?_, HOy.out⟩⟩
              by_cases e : j = k
              · rw [e, HPK.out.1]; exact hcl2
              · exact HI.out.1 j (by omega)
            case measure => simp [intOf]; omega
        · obtain rfl : pl = k := by omega
          have hno : n ∉ P := fun hm => by
            obtain ⟨i, hi, he⟩ := List.getElem_of_mem hm
            have h1 := HI.out.1 i (by rw [← H5.out.2.2.2.1]; exact hi)
            rw [List.getD_eq_getElem?_getD, List.getElem?_eq_getElem hi] at h1
            have h2 : P[i] < n := h1
            omega
          have hsome : Mx.solved A n = some (Mx.solTo R P n pl) := by
            rw [Mx.solved_some (by rw [HRP.out]; exact hno), HRP.out, H5.out.2.2.2.1]
          obtain ⟨x, hx⟩ : ∃ x, Mx.solTo R P n pl = x := ⟨_, rfl⟩
          have hxl : x.length = n := by rw [← hx]; exact Mx.solTo_length R P n pl
          have hO1 := HI.out.2
          rw [hx] at hsome hO1
          have HO1 := Lib.hid hO1
          have HSO := Lib.hid (And.intro hsome hxl)
          have HBL := Lib.hid HI.out.1
          clear hno hsome hx hxl hO1 HI
          obtain ⟨wo2, rfl⟩ : ∃ wo, wo = wr := ⟨_, rfl⟩
          go_wp2_with fail
          clear h9a h9b
          go_loopw [12] (fun vi wr => ∃ (c kn kc : Nat) (kA : Option Addr) (ks : List Value), c ≤ n ∧ kn ≤ c ∧ vi = .int .i64 (c : Nat) ∧ Hid (Owns w5 wr [⟨.slice (some ⟨G9, 0, none⟩) 2 2, 148, 1, 2, [.slice A1 pl c1, .slice A2 pl c2]⟩, ⟨.slice (some ⟨gx, 0, none⟩) n n, 5, 1, n, x.map bv⟩, ⟨.slice (some ⟨G0, 0, none⟩) 3 3, 138, 1, 3, [.slice (some ⟨gx, 0, none⟩) n n, .slice kA kn kc, .int .i64 0]⟩, ⟨.slice kA kn kc, 28, 1, kn, ks⟩])) (fun vi _ => n - (intOf vi).toNat)
          case atStart => exact ⟨0, 0, 0, none, [], Nat.zero_le _, Nat.le_refl _, rfl, Lib.hid HO1.out.nilled⟩
          case round =>
            obtain ⟨c, kn, kc, kA, ks, hcn, hkn, rfl, HI⟩ := hrel
            by_cases hlt : c < n
            · have h9b : wr.cell? ⟨G9, 1, none⟩ = some (.slice A2 pl c2) := HI.out.cell 0 rfl 1 rfl
              have hhas := sHas_any (Mx.toInts P) (c : Nat) (.slice A2 pl c2) wr (Rs.ext RI.ext _ _ _ _ HI.out.ext H5.out.2.1)
              obtain ⟨b1, hb1⟩ : ∃ b1, decide ((c : Int) ∈ Mx.toInts P) = b1 := ⟨_, rfl⟩
              rw [hb1] at hhas
              have HH := Lib.hid hhas
              clear hb1 hhas
              go_wp2_with fail
              refine HH.out.mono ?_
              rintro e wz ⟨rfl, rfl⟩
              clear HH
              cases b1 with
              | true =>
                go_wp2_with fail
                clear h9b
                go_roundw
                case rel => exact ⟨c + 1, kn, kc, kA, ks, by omega, by omega, by go_num, HI⟩
                case measure => simp [intOf]; omega
              | false =>
                clear h9b
                go_wp2_with (refine wpList_make_full _ rfl (.tmp 84) (.tmp 84) 28 rfl wr.heap.size 5 i0 (.int .u8 0) 1 Tryd.underlying28 hi hz0 hz1 _ _ _ _ n rfl rfl rfl rfl (by rw [HZ.out]; omega) (by unfold maxLen; omega) (Nat.le_refl _) ?_; intro w6 hown hgrow; have hx6 : Ext wr w6 := (Ext.refl wr).grown hgrow (fun k h => by cases h); have hw6 : w6.ownsRow wr.heap.size 5 1 (.slice (some ⟨wr.heap.size, 0, none⟩) n n) n ((List.replicate n (0 : UInt8)).map bv) := (by rw [List.map_replicate]; rw [show bv 0 = .int .u8 0 from rfl, ← toList_madeCells_one]; simpa [Value.cells] using hown); have hcv : w6.cell? ⟨wr.heap.size, c, none⟩ = some (.int .u8 0) := (by rw [hw6.cellAt c (by omega), List.getElem?_map, List.getElem?_replicate_of_lt hlt]; rfl); have hfv : w6.frozen? ⟨wr.heap.size, c, none⟩ = false := hw6.frozenAt c)
                have hO6 := ((HI.out.behind hx6 hw6).store 4 rfl c (bv 1))
                have hO7 : Owns w5 (w6.setCell ⟨wr.heap.size, c, none⟩ (.int .u8 1)) [⟨.slice (some ⟨G9, 0, none⟩) 2 2, 148, 1, 2, [.slice A1 pl c1, .slice A2 pl c2]⟩, ⟨.slice (some ⟨gx, 0, none⟩) n n, 5, 1, n, x.map bv⟩, ⟨.slice (some ⟨G0, 0, none⟩) 3 3, 138, 1, 3, [.slice (some ⟨gx, 0, none⟩) n n, .slice kA kn kc, .int .i64 0]⟩, ⟨.slice kA kn kc, 28, 1, kn, ks⟩, ⟨.slice (some ⟨wr.heap.size, 0, none⟩) n n, 5, 1, n, (((List.replicate n (0 : UInt8)).set c 1).map bv)⟩] := by
                  rw [List.map_set]; exact hO6
                obtain ⟨w7, hw7⟩ : ∃ w7, w6.setCell ⟨wr.heap.size, c, none⟩ (.int .u8 1) = w7 := ⟨_, rfl⟩
                rw [hw7] at hO7 ⊢
                obtain ⟨h, hh⟩ : ∃ h, wr.heap.size = h := ⟨_, rfl⟩
                rw [hh] at hO7
                have H7 := Lib.hid hO7
                clear hown hgrow hx6 hw6 hcv hfv hO6 hO7
                try rw [hh]
                clear hh hw7
                obtain ⟨wy, rfl⟩ : ∃ wy, wy = wr := ⟨_, rfl⟩
                go_wp2_with fail
                go_loopw [15] (fun vi wi => ∃ (j : Nat) (vs : List UInt8), j ≤ pl ∧ vi = .int .i64 (j : Nat) ∧ Hid (vs.length = n ∧ Owns w5 wi [⟨.slice (some ⟨G9, 0, none⟩) 2 2, 148, 1, 2, [.slice A1 pl c1, .slice A2 pl c2]⟩, ⟨.slice (some ⟨gx, 0, none⟩) n n, 5, 1, n, x.map bv⟩, ⟨.slice (some ⟨G0, 0, none⟩) 3 3, 138, 1, 3, [.slice (some ⟨gx, 0, none⟩) n n, .slice kA kn kc, .int .i64 0]⟩, ⟨.slice kA kn kc, 28, 1, kn, ks⟩, ⟨.slice (some ⟨h, 0, none⟩) n n, 5, 1, n, vs.map bv⟩])) (fun vi _ => pl - (intOf vi).toNat)
                case atStart => exact ⟨0, _, Nat.zero_le _, rfl, Lib.hid ⟨by simp, H7.out⟩⟩
                case round =>
                  obtain ⟨j, vs, hj, rfl, HJ⟩ := hrel
                  have h9a : wr.cell? ⟨G9, 0, none⟩ = some (.slice A1 pl c1) := HJ.out.2.cell 0 rfl 0 rfl
                  have h9b : wr.cell? ⟨G9, 1, none⟩ = some (.slice A2 pl c2) := HJ.out.2.cell 0 rfl 1 rfl
                  by_cases hjl : j < pl
                  · have hkP : j < P.length := by rw [H5.out.2.2.2.1]; exact hjl
                    obtain ⟨ap, u1, hap, hc1, hu1⟩ := (Rs.ext RI.ext _ _ _ _ HJ.out.2.ext H5.out.2.1).at (i := j) (by rw [Mx.toInts_len]; exact hkP)
                    subst hap
                    have hue := hu1.1
                    subst hue
                    clear hu1
                    unfold Mx.toInts at hc1
                    rw [List.getElem_map] at hc1
                    have hcl := HBL.out j hjl
                    rw [List.getD_eq_getElem?_getD, List.getElem?_eq_getElem hkP] at hcl
                    have hcl2 : P[j] < n := hcl
                    obtain ⟨q, hq⟩ : ∃ q, P[j] = q := ⟨_, rfl⟩
                    rw [hq] at hc1 hcl2
                    have hkt : j < (R.take pl).length := by rw [List.length_take]; have := H5.out.2.2.2.2; omega
                    obtain ⟨ar, u2, har, hc2, hu2⟩ := (Rs.ext (Rs.ext RB.ext) _ _ _ _ HJ.out.2.ext H5.out.1).at (i := j) hkt
                    subst har
                    have hkR : j < R.length := by have := H5.out.2.2.2.2; omega
                    have hrowk : (R.take pl)[j] = Mx.row R j := by rw [List.getElem_take, Mx.row_at hkR]
                    rw [hrowk] at hu2
                    obtain ⟨QA, cQ, rfl, _⟩ := hu2.form
                    have hql : (Mx.row R j).length = n + 1 := H5.out.2.2.1.rect j hkR
                    obtain ⟨aq, u3, haq, hc3, hu3⟩ := hu2.at (i := c) (by omega)
                    subst haq
                    obtain rfl := hu3
                    obtain ⟨y, hy⟩ : ∃ y, (Mx.row R j)[c]'(by omega) = y := ⟨_, rfl⟩
                    rw [hy] at hc3
                    rw [hql] at hc2
                    have hcv : wr.cell? ⟨h, q, none⟩ = some (bv (vs.getD q 0)) := HJ.out.2.cell 4 rfl q (by
                      rw [List.getElem?_map, List.getElem?_eq_getElem (by rw [HJ.out.1]; exact hcl2), List.getD_eq_getElem?_getD, List.getElem?_eq_getElem (by rw [HJ.out.1]; exact hcl2)]; rfl)
                    have hfv : wr.frozen? ⟨h, q, none⟩ = false := HJ.out.2.frozen 4 rfl q
                    have HO8 := Lib.hid (HJ.out.2.drew.store 4 rfl q (bv y))
                    clear hy hql hrowk hu2 hkt hq hcl
                    go_wp2_with fail
                    refine wp_atEnd' (so24 wr G9 c h n j q pl c1 c2 cQ (n + 1) ar ap aq y _ hjl hcl2 hlt (by omega) h9a h9b hc1 hc2 hc3 hcv hfv _ _ _ _ _ _ _ _ _ _ _ _ _ _ _ _ _ _ _ _ _ _ _ _ _ _ _ _ _ _ _ _ _ _ _ _ _ _ _ _ _ _ _ _ _ _ _ _ _ _ _ _ _ _ _ _ _ _ _ _ _ _ _ _ _ _ _ _ _ _ _ _ _ _ _ _ _ _ _ _ _ _ _ _ _ _ _ _ _ _ _ _ _ _ _ _ _ _ _ _ _ _ _ _ _ _ _ _ _ _ _ _ _ _ _ _ ?_)
                    rintro u96 u97 u98 u99 u100 u101 u102 u103 u104 u105 u106 u107 u108 u109 u110 wy2 hy2
                    have hOy : Owns w5 wy2 [⟨.slice (some ⟨G9, 0, none⟩) 2 2, 148, 1, 2, [.slice (some ar) pl c1, .slice (some ap) pl c2]⟩, ⟨.slice (some ⟨gx, 0, none⟩) n n, 5, 1, n, x.map bv⟩, ⟨.slice (some ⟨G0, 0, none⟩) 3 3, 138, 1, 3, [.slice (some ⟨gx, 0, none⟩) n n, .slice kA kn kc, .int .i64 0]⟩, ⟨.slice kA kn kc, 28, 1, kn, ks⟩, ⟨.slice (some ⟨h, 0, none⟩) n n, 5, 1, n, (vs.set q y).map bv⟩] := by
                      rw [List.map_set, hy2]; exact HO8.out
                    have HOy := Lib.hid hOy
                    clear hy2 hOy hc1 hc2 hc3 hcv hfv h9a h9b HO8
                    go_wp2_with fail
                    go_roundw
                    case rel => exact ⟨j + 1, vs.set q y, by omega, by go_num, Lib.hid ⟨by rw [List.length_set]; exact HJ.out.1, HOy.out⟩⟩
                    case measure => simp [intOf]; omega
                  · obtain rfl : pl = j := by omega
                    have k0 : wr.cell? ⟨G0, 1, none⟩ = some (.slice kA kn kc) := HJ.out.2.cell 2 rfl 1 rfl
                    clear h9a
                    go_wp2_with (refine wpl_append_owns (u := .slice (some ⟨h, 0, none⟩) n n) 65 28 rfl (.tmp 112) (.tmp 114) rfl Tryd.underlying65 info_bytes rfl HJ.out.2.push1 3 rfl rfl rfl (cell_of_row _ _ 0 _ _ (0, 0) (heap_new _ _)) rfl (by omega) (by decide) ?_; intro g9 c9 w9 hO9 hg9; have k1 := hO9.cell 2 rfl 1 rfl; have f1 := hO9.frozen 2 rfl 1)
                    have hfin : Owns w5 (w9.setCell ⟨G0, 1, none⟩ (.slice (some ⟨g9, 0, none⟩) (kn + 1) c9)) [⟨.slice (some ⟨G9, 0, none⟩) 2 2, 148, 1, 2, [.slice A1 pl c1, .slice A2 pl c2]⟩, ⟨.slice (some ⟨gx, 0, none⟩) n n, 5, 1, n, x.map bv⟩, ⟨.slice (some ⟨G0, 0, none⟩) 3 3, 138, 1, 3, [.slice (some ⟨gx, 0, none⟩) n n, .slice (some ⟨g9, 0, none⟩) (kn + 1) c9, .int .i64 0]⟩, ⟨.slice (some ⟨g9, 0, none⟩) (kn + 1) c9, 28, 1, kn + 1, ks ++ [.slice (some ⟨h, 0, none⟩) n n]⟩] := by
                      refine Owns.front (M := [⟨.slice (some ⟨h, 0, none⟩) n n, 5, 1, n, vs.map bv⟩, ⟨.slice (some ⟨wr.heap.size, 0, none⟩) 1 1, 28, 1, 1, [.slice (some ⟨h, 0, none⟩) n n]⟩]) ?_
                      exact hO9.store 2 rfl 1 (.slice (some ⟨g9, 0, none⟩) (kn + 1) c9)
                    have HF := Lib.hid hfin
                    clear hO9 hg9 hfin k0 k1 f1 h9b
                    go_wp2_with fail
                    go_roundw
                    case rel => exact ⟨c + 1, kn + 1, c9, some ⟨g9, 0, none⟩, _, by omega, by omega, by go_num, HF⟩
                    case measure => simp [intOf]; omega
            · obtain rfl : n = c := by omega
              have hrs : Rs RB wr (.slice (some ⟨gx, 0, none⟩) n n) x := by
                have := Rs.of_rd (c := n) (HI.out.rd 1 (n := n) (c := n) (e := 5) rfl) (by rw [HSO.out.2]; omega)
                rw [HSO.out.2] at this
                exact this
              have HR9 := Lib.hid (HRS5.out.next HI.out.ext)
              have hQg : Q < w5.heap.size := ((HRS5.out.row 0 rfl).lt Q rfl).2
              have hgg : w5.heap.size ≤ gx := ((HI.out.row 1 rfl).lt gx rfl).1
              have hfx : ∀ b, (Value.slice (some ⟨gx, 0, none⟩) n n).ownBlock = some b → b ≠ Q := fun b hb => by have hb2 : gx = b := Option.some.inj hb; omega
              have HRS := Lib.hid (Rs.farB (G := Q) (k := 2) (.int .i64 0) (Rs.farB (G := Q) (k := 1) (.slice kA kn kc) (Rs.farB (G := Q) (k := 0) (.slice (some ⟨gx, 0, none⟩) n n) hrs hfx) hfx) hfx)
              have k0 := HI.out.cell 2 rfl 0 rfl
              have k1 := HI.out.cell 2 rfl 1 rfl
              have k2 := HI.out.cell 2 rfl 2 rfl
              have q0 := HR9.out.cell 0 rfl 0 rfl
              have q1 := HR9.out.cell 0 rfl 1 rfl
              have q2 := HR9.out.cell 0 rfl 2 rfl
              have f0 := HR9.out.frozen 0 rfl 0
              have f1 := HR9.out.frozen 0 rfl 1
              have f2 := HR9.out.frozen 0 rfl 2
              have HS1 := Lib.hid (((HR9.out.store 0 rfl 0 (.slice (some ⟨gx, 0, none⟩) n n)).store 0 rfl 1 (.slice kA kn kc)).store 0 rfl 2 (.int .i64 0))
              have HGG := Lib.hid hgg
              clear hrs hQg hgg hfx
              go_wp2_with fail
              refine bodyPost_ret (results_cell1 (v := .agg #[.slice (some ⟨gx, 0, none⟩) n n, .slice kA kn kc, .int .i64 0]) rfl rfl ?_) rfl ?_
              · go_simp
              have he0 : er = 0 := by rw [← HER.out, HSO.out.1]; rfl
              rw [HSO.out.1, he0]
              exact ⟨_, kA, kn, kc, rfl, HRS.out, HS1.out.ext, fun b hb => by have hb2 : gx = b := Option.some.inj hb; have := HGG.out; have := HSZ.out; omega⟩
end Go.Proofs.YtdmljilcbndmfaaDoor

/- THE WALK over Express of the specification of matrices. -/
namespace Mx
/-- The columns of a matrix. -/
def colsM (m : Mat) (n : Nat) : Mat := (List.range n).map fun c => colFew m c m.length
theorem colsM_length (m : Mat) (n : Nat) : (colsM m n).length = n := by simp [colsM]
theorem colsM_at (m : Mat) (n : Nat) {i : Nat} (h : i < n) : (colsM m n).getD i [] = colFew m i m.length := by
  unfold colsM
  rw [List.getD_eq_getElem?_getD, List.getElem?_map, List.getElem?_range h]; rfl
theorem colsM_rect (m : Mat) (n : Nat) : Rect m.length (colsM m n) := fun i hi => by
  rw [colsM_length] at hi
  show ((colsM m n).getD i []).length = _
  rw [colsM_at m n hi, colFew_len]
theorem glue_cols (m : Mat) (b : List UInt8) : glue (colsM m b.length) b = aug m b := by
  unfold glue aug
  rw [colsM_length]
  refine List.map_congr_left fun i hi => ?_
  rw [colsM_at m _ (List.mem_range.mp hi), List.range_succ, List.map_append]
  unfold colFew
  congr 1
  · refine List.map_congr_left fun k hk => ?_
    rw [if_pos (List.mem_range.mp hk)]
  · simp
end Mx
namespace Go.Proofs.YtdmljilcbndmfaaDoor
open Go.RowKit
/-- A row is not turned by an append elsewhere. -/
theorem rb_turn {W W' : World} {row : Option Nat} {v : Value} {x : List UInt8} (h : Rs RB W v x) (hg : W.grownBy W' row) (hf : ∀ b, row = some b → ∀ b', v.ownBlock = some b' → b' ≠ b) : Rs RB W' v x := by
  obtain ⟨B, d, rfl, hl2, hh2⟩ := h
  refine ⟨B, d, rfl, hl2, fun j y hj => ?_⟩
  obtain ⟨bd, z, hB, hz, hy⟩ := hh2 j y hj
  subst hB
  refine ⟨bd, z, rfl, ?_, hy⟩
  rw [World.cell?_of_block (hg.block _ (lt_of_cell hz) (fun e => ?_))]
  · exact hz
  · rw [block_add] at e
    exact hf _ e.symm bd.block rfl rfl
/-- The columns that have been laid. -/
def ColO (m : Mx.Mat) (N : Nat) (w0 W : World) (k cc : Nat) (A : Option Addr) (res : LRow) : Prop := ∃ vs : List Value, Owns w0 W [res, ⟨.slice A k cc, 28, 1, k, vs⟩] ∧ vs.length = k ∧ ∀ i, i < k → Rs RB W (vs.getD i (.slice none 0 0)) (Mx.colFew m i N) ∧ ∀ b, (vs.getD i (.slice none 0 0)).ownBlock = some b → b < W.heap.size ∧ ∀ ad, A = some ad → b ≠ ad.block
theorem ColO.rs {m : Mx.Mat} {w0 W : World} {n cc : Nat} {A : Option Addr} {res : LRow} (h : ColO m m.length w0 W n cc A res) (hn : n ≤ 1000) : Rs (Rs RB) W (.slice A n cc) (Mx.colsM m n) := by
  obtain ⟨vs, h1, h2, h3⟩ := h
  refine ⟨A, cc, by rw [Mx.colsM_length], by rw [Mx.colsM_length]; omega, fun i x hi => ?_⟩
  have hin := (List.getElem?_eq_some_iff.1 hi).1
  rw [Mx.colsM_length] at hin
  have hx : (Mx.colsM m n).getD i [] = x := by rw [List.getD_eq_getElem?_getD, hi]; rfl
  rw [Mx.colsM_at m n hin] at hx
  obtain ⟨ad, hA1, _, hc⟩ := h1.rd 1 rfl i (vs.getD i (.slice none 0 0)) (by rw [List.getD_eq_getElem?_getD, List.getElem?_eq_getElem (by omega)]; rfl)
  refine ⟨ad, _, hA1, hc, ?_⟩
  rw [← hx]
  exact (h3 i hin).1
theorem ColO.res {m : Mx.Mat} {N : Nat} {w0 W : World} {k cc : Nat} {A : Option Addr} {res : LRow} (h : ColO m N w0 W k cc A res) : Owns w0 W [res] := by
  obtain ⟨vs, h1, h2⟩ := h
  exact h1.front (M := [_])
theorem ColO.next {m : Mx.Mat} {N : Nat} {w0 W W' : World} {k cc : Nat} {A : Option Addr} {res : LRow} (h : ColO m N w0 W k cc A res) (hx : Ext W W') : ColO m N w0 W' k cc A res := by
  obtain ⟨vs, h1, h2, h3⟩ := h
  exact ⟨vs, h1.next hx, h2, fun i hi => ⟨Rs.ext RB.ext _ _ _ _ hx (h3 i hi).1, fun b hb => ⟨Nat.lt_of_lt_of_le ((h3 i hi).2 b hb).1 hx.size, ((h3 i hi).2 b hb).2⟩⟩⟩
theorem colO_push {m : Mx.Mat} {N : Nat} {w0 W0 W Wa W9 : World} {k cc g9 c9 : Nat} {A : Option Addr} {res : LRow} {vs : List Value} {v : Value} (_hO : Owns w0 W0 [res, ⟨.slice A k cc, 28, 1, k, vs⟩]) (hl : vs.length = k)
    (hin : ∀ i, i < k → Rs RB W0 (vs.getD i (.slice none 0 0)) (Mx.colFew m i N) ∧ ∀ b, (vs.getD i (.slice none 0 0)).ownBlock = some b → b < W0.heap.size ∧ ∀ ad, A = some ad → b ≠ ad.block)
    (hx : Ext W0 W) (hv : Rs RB W v (Mx.colFew m k N)) (hfar : ∀ b, v.ownBlock = some b → W0.heap.size ≤ b ∧ b < W.heap.size) (hxa : Ext W Wa)
    (hO9 : Owns w0 W9 [res, ⟨.slice (some ⟨g9, 0, none⟩) (k + 1) c9, 28, 1, k + 1, vs ++ [v]⟩]) (hg : Wa.grownBy W9 (Value.slice A k cc).ownBlock) (hlie : (Value.slice A k cc).ownBlock = some g9 ∨ Wa.heap.size ≤ g9) : ColO m N w0 W9 (k + 1) c9 (some ⟨g9, 0, none⟩) res := by
  have hA : ∀ ad, A = some ad → ad.block < W0.heap.size := fun ad h => by
    subst h
    exact ((_hO.row 1 rfl).lt ad.block rfl).2
  have hsz := hxa.size
  have hsz9 := hg.size
  have hszx := hx.size
  have key : ∀ (u : Value) (x : List UInt8), Rs RB W u x → (∀ b, u.ownBlock = some b → b < W.heap.size ∧ ∀ ad, A = some ad → b ≠ ad.block) → Rs RB W9 u x ∧ ∀ b, u.ownBlock = some b → b < W9.heap.size ∧ ∀ ad, some (⟨g9, 0, none⟩ : Addr) = some ad → b ≠ ad.block := fun u x hu hb => by
    refine ⟨rb_turn (Rs.ext RB.ext _ _ _ _ hxa hu) hg (fun b hb2 b' hb3 => ?_), fun b hb2 => ⟨by have := (hb b hb2).1; omega, fun ad he => ?_⟩⟩
    · cases A with
      | none => cases hb2
      | some a =>
        have h1 : a.block = b := Option.some.inj hb2
        rw [← h1]
        exact (hb b' hb3).2 a rfl
    · have h2 : (⟨g9, 0, none⟩ : Addr) = ad := Option.some.inj he
      rw [← h2]
      rcases hlie with h | h
      · cases A with
        | none => cases h
        | some a =>
          have h1 : a.block = g9 := Option.some.inj h
          show b ≠ g9
          rw [← h1]
          exact (hb b hb2).2 a rfl
      · have := (hb b hb2).1
        show b ≠ g9
        omega
  refine ⟨vs ++ [v], hO9, by rw [List.length_append, hl]; rfl, fun i hi => ?_⟩
  by_cases he : i = k
  · have e : (vs ++ [v]).getD i (.slice none 0 0) = v := by
      rw [he, List.getD_eq_getElem?_getD, List.getElem?_append_right (by omega), hl, Nat.sub_self]; rfl
    rw [e, he]
    exact key v _ hv fun b hb => ⟨(hfar b hb).2, fun ad h => by have h1 := (hfar b hb).1; have h2 := hA ad h; omega⟩
  · have hik : i < k := by omega
    have e : (vs ++ [v]).getD i (.slice none 0 0) = vs.getD i (.slice none 0 0) := by
      rw [List.getD_eq_getElem?_getD, List.getElem?_append_left (by omega), ← List.getD_eq_getElem?_getD]
    rw [e]
    exact key _ _ (Rs.ext RB.ext _ _ _ _ hx (hin i hik).1) fun b hb => ⟨Nat.lt_of_lt_of_le ((hin i hik).2 b hb).1 hszx, ((hin i hik).2 b hb).2⟩
set_option maxHeartbeats 8000000 in
set_option maxRecDepth 100000 in
theorem s5Express_any (m : Mx.Mat) (b : List UInt8) (vm vb : Value) (w : World) (hM : Rs (Rs RB) w vm m) (hB : Rs RB w vb b) (hw : ∀ r ∈ m, r.length = b.length) (h0 : 0 < b.length) (hb : b.length ≤ 48) (hm : m.length ≤ 48) :
    Calls Tryd.prog 76 #[vm, vb] w fun e w' => ∃ X, e = .returned (.agg #[X, .int .i64 (if (Mx.expr m b).isSome then 0 else 8)]) ∧ Rs RB w' X ((Mx.expr m b).getD []) ∧ Ext w w' := by
  obtain ⟨PA, cP, rfl, _⟩ := hM.form
  obtain ⟨BA, cB, rfl, _⟩ := hB.form
  have hck : Mx.check m = 0 := Mx.check_all hw hb hm
  obtain ⟨N, hNN⟩ : ∃ N, m.length = N := ⟨_, rfl⟩
  obtain ⟨n, hn⟩ : ∃ n, b.length = n := ⟨_, rfl⟩
  obtain ⟨er, her⟩ : ∃ er : Int, (if (Mx.expr m b).isSome then 0 else 8) = er := ⟨_, rfl⟩
  have hrect : Mx.Rect n m := fun i hi => by
    rw [Mx.row_at hi, ← hn]
    exact hw _ (List.getElem_mem hi)
  have hcols : 0 < N → Mx.cols m = n := fun h => Mx.cols_of hrect (by omega)
  have hex : Mx.solved (Mx.glue (Mx.colsM m n) b) N = Mx.expr m b := by
    rw [← hn, Mx.glue_cols, ← hNN, ← Mx.expr_solved]
  have hO0 : Owns w (w.alloc (.cells #[.slice none 0 0, .int .i64 0] 117)) [⟨.slice (some ⟨w.heap.size, 0, none⟩) 2 2, 117, 1, 2, [.slice none 0 0, .int .i64 0]⟩] := (Owns.start w (L := [no]) (by intro r hr; simp at hr; subst hr; exact ⟨rfl, rfl, rfl⟩)).new 0 #[.slice none 0 0, .int .i64 0] 117 (by simp [maxLen])
  rw [her]
  rw [hNN] at hM hm
  rw [hn] at hB hb h0
  rw [hNN, hn]
  have HO0 := Lib.hid hO0
  have HM := Lib.hid (And.intro hM hB)
  have HW := Lib.hid (And.intro hrect (And.intro hNN (And.intro hn hck)))
  have HC := Lib.hid hcols
  have HE := Lib.hid (And.intro hex her)
  clear hO0 hM hB hw hNN hn her hck hrect hcols hex
  go_enter Tryd.func76, Tryd.ntmps76
  go_upto_region 1 with fail
  obtain ⟨Q, hQ⟩ : ∃ Q, w.heap.size = Q := ⟨_, rfl⟩
  rw [hQ] at HO0 ⊢
  obtain ⟨w1, hw1⟩ : ∃ x, w.alloc (.cells #[.slice none 0 0, .int .i64 0] 117) = x := ⟨_, rfl⟩
  rw [hw1] at HO0 ⊢
  clear hw1 hQ
  have HM1 := Lib.hid (Rs.ext (Rs.ext RB.ext) _ _ _ _ HO0.out.ext HM.out.1)
  go_wp2_with fail
  have hchk := sCheck_any m _ w1 HM1.out
  rw [HW.out.2.2.2] at hchk
  refine hchk.mono ?_
  clear hchk
  rintro e w2 ⟨rfl, hx2⟩
  have HO2 := Lib.hid (HO0.out.next hx2)
  have HM2 := Lib.hid (Rs.ext (Rs.ext RB.ext) _ _ _ _ hx2 HM1.out)
  clear hx2 HM1 HO0
  have h48 : ¬ (48 : Int) < (n : Int) := by omega
  have HO3 := Lib.hid HO2.out
  rcases Nat.eq_zero_or_pos N with hN | hN
  · have hz : ¬ (0 : Int) < (N : Int) := by omega
    clear HO2 HM2 hN
    go_wp2_with fail
    clear hz h48
    go_loopw [6, 7] (fun v6 v7 wr => ∃ (k cc : Nat) (cA : Option Addr), k ≤ n ∧ v7 = .int .i64 (k : Nat) ∧ v6 = .slice cA k cc ∧ Hid (ColO m N w wr k cc cA ⟨.slice (some ⟨Q, 0, none⟩) 2 2, 117, 1, 2, [.slice none 0 0, .int .i64 0]⟩)) (fun _ v7 _ => n - (intOf v7).toNat)
    case atStart => exact ⟨0, 0, none, Nat.zero_le _, rfl, rfl, Lib.hid ⟨[], HO3.out.nilled, rfl, fun i h => absurd h (by omega)⟩⟩
    case round =>
      obtain ⟨k, cc, cA, hk, rfl, rfl, HI⟩ := hrel
      have HX := Lib.hid HI.out.res.ext
      have HMr := Lib.hid (Rs.ext (Rs.ext RB.ext) _ _ _ _ HX.out HM.out.1)
      by_cases hlt : k < n
      · have hcol := s5Column_any m n k _ wr HMr.out HW.out.1 hlt (by rw [HW.out.2.1]; omega)
        rw [HW.out.2.1] at hcol
        have HCO := Lib.hid hcol
        clear hcol
        go_wp2_with fail
        refine HCO.out.mono ?_
        clear HCO
        rintro e w4 ⟨vc, rfl, hv1, hx4, hfar⟩
        obtain ⟨QA, cq, rfl, _⟩ := hv1.form
        rw [Mx.colFew_len] at hv1 hfar ⊢
        obtain ⟨vs, hO, hvl, hin⟩ := HI.out
        have HO4 := Lib.hid (hO.next hx4)
        have HV := Lib.hid (And.intro hv1 (And.intro hx4 (And.intro hfar (And.intro hO (And.intro hvl hin)))))
        clear hv1 hx4 hfar hO hvl hin
        go_wp2_with (refine wpl_append_owns_lies (u := .slice QA N cq) 65 28 rfl (.tmp 36) (.tmp 40) rfl Tryd.underlying65 info_bytes rfl HO4.out.push1 1 rfl rfl rfl (cell_of_row _ _ 0 _ _ (0, 0) (heap_new _ _)) rfl (by omega) (by decide) ?_; intro g9 c9 w9 hO9 hg9 hlie)
        have hnew : ColO m N w w9 (k + 1) c9 (some ⟨g9, 0, none⟩) ⟨.slice (some ⟨Q, 0, none⟩) 2 2, 117, 1, 2, [.slice none 0 0, .int .i64 0]⟩ := colO_push HV.out.2.2.2.1 HV.out.2.2.2.2.1 HV.out.2.2.2.2.2 HV.out.2.1 HV.out.1 HV.out.2.2.1 ((Ext.refl w4).alloc _) (hO9.front (M := [⟨.slice (some ⟨w4.heap.size, 0, none⟩) 1 1, 28, 1, 1, [.slice QA N cq]⟩])) hg9 hlie
        have HNEW := Lib.hid hnew
        clear hnew hO9 hg9 hlie HV
        go_roundw
        case rel => exact ⟨k + 1, c9, some ⟨g9, 0, none⟩, by omega, by go_num, (by first | trivial | rfl), HNEW⟩
        case measure => simp [intOf]; omega
      · obtain rfl : n = k := by omega
        have hcr := HI.out
        have hNN := HW.out.2.1
        rw [← hNN] at hcr
        have hso := s5Solutions_any (Mx.colsM m n) b N _ _ wr (hcr.rs (by omega)) (Rs.ext RB.ext _ _ _ _ HX.out HM.out.2) (by rw [← hNN]; exact Mx.colsM_rect m n) (by rw [Mx.colsM_length, HW.out.2.2.1]) (by omega) (by rw [Mx.colsM_length]; omega)
        rw [HE.out.1] at hso
        rw [HE.out.2] at hso
        have HS := Lib.hid hso
        have HRES := Lib.hid HI.out.res
        clear hso hcr hNN
        go_wp2_with fail
        refine HS.out.mono ?_
        clear HS
        rintro e w5 ⟨vx, A2, n2, c2, rfl, hvx, hx5, hfx⟩
        obtain ⟨X, cX, rfl, _⟩ := hvx.form
        obtain ⟨nx, hnx⟩ : ∃ nx, ((Mx.expr m b).getD []).length = nx := ⟨_, rfl⟩
        rw [hnx] at hvx hfx ⊢
        have HR5 := Lib.hid (HRES.out.next hx5)
        have HR6 := Lib.hid (HR5.out.alloc (.cells #[.slice X nx cX, .slice A2 n2 c2, .int .i64 er] 138))
        have hQl : Q < wr.heap.size := ((HRES.out.row 0 rfl).lt Q rfl).2
        have hfq : ∀ b, (Value.slice X nx cX).ownBlock = some b → b ≠ Q := fun b hb => by have := hfx b hb; omega
        have hv6 := Rs.ext RB.ext _ _ _ _ ((Ext.refl w5).alloc (.cells #[.slice X nx cX, .slice A2 n2 c2, .int .i64 er] 138)) hvx
        have HV7 := Lib.hid (Rs.farB (G := Q) (k := 1) (.int .i64 er) (Rs.farB (G := Q) (k := 0) (.slice X nx cX) hv6 hfq) hfq)
        have q0 := HR6.out.cell 0 rfl 0 rfl
        have q1 := HR6.out.cell 0 rfl 1 rfl
        have f0 := HR6.out.frozen 0 rfl 0
        have f1 := HR6.out.frozen 0 rfl 1
        have HS1 := Lib.hid ((HR6.out.store 0 rfl 0 (.slice X nx cX)).store 0 rfl 1 (.int .i64 er))
        clear hvx hx5 hfx hQl hfq hv6 hnx
        go_wp2_with fail
        refine bodyPost_ret (results_cell1 (v := .agg #[.slice X nx cX, .int .i64 er]) rfl rfl ?_) rfl ?_
        · go_simp
        exact ⟨_, rfl, HV7.out, HS1.out.ext⟩
  · have hz : (0 : Int) < (N : Int) := by omega
    have hcc := sCols_any m _ w2 HM2.out
    rw [HC.out hN] at hcc
    have HCC := Lib.hid hcc
    clear hcc HO2 hN
    go_wp2_with fail
    refine HCC.out.mono ?_
    clear HCC
    rintro e w' ⟨rfl, rfl⟩
    clear HM2
    go_wp2_with fail
    clear hz h48
    go_loopw [6, 7] (fun v6 v7 wr => ∃ (k cc : Nat) (cA : Option Addr), k ≤ n ∧ v7 = .int .i64 (k : Nat) ∧ v6 = .slice cA k cc ∧ Hid (ColO m N w wr k cc cA ⟨.slice (some ⟨Q, 0, none⟩) 2 2, 117, 1, 2, [.slice none 0 0, .int .i64 0]⟩)) (fun _ v7 _ => n - (intOf v7).toNat)
    case atStart => exact ⟨0, 0, none, Nat.zero_le _, rfl, rfl, Lib.hid ⟨[], HO3.out.nilled, rfl, fun i h => absurd h (by omega)⟩⟩
    case round =>
      obtain ⟨k, cc, cA, hk, rfl, rfl, HI⟩ := hrel
      have HX := Lib.hid HI.out.res.ext
      have HMr := Lib.hid (Rs.ext (Rs.ext RB.ext) _ _ _ _ HX.out HM.out.1)
      by_cases hlt : k < n
      · have hcol := s5Column_any m n k _ wr HMr.out HW.out.1 hlt (by rw [HW.out.2.1]; omega)
        rw [HW.out.2.1] at hcol
        have HCO := Lib.hid hcol
        clear hcol
        go_wp2_with fail
        refine HCO.out.mono ?_
        clear HCO
        rintro e w4 ⟨vc, rfl, hv1, hx4, hfar⟩
        obtain ⟨QA, cq, rfl, _⟩ := hv1.form
        rw [Mx.colFew_len] at hv1 hfar ⊢
        obtain ⟨vs, hO, hvl, hin⟩ := HI.out
        have HO4 := Lib.hid (hO.next hx4)
        have HV := Lib.hid (And.intro hv1 (And.intro hx4 (And.intro hfar (And.intro hO (And.intro hvl hin)))))
        clear hv1 hx4 hfar hO hvl hin
        go_wp2_with (refine wpl_append_owns_lies (u := .slice QA N cq) 65 28 rfl (.tmp 36) (.tmp 40) rfl Tryd.underlying65 info_bytes rfl HO4.out.push1 1 rfl rfl rfl (cell_of_row _ _ 0 _ _ (0, 0) (heap_new _ _)) rfl (by omega) (by decide) ?_; intro g9 c9 w9 hO9 hg9 hlie)
        have hnew : ColO m N w w9 (k + 1) c9 (some ⟨g9, 0, none⟩) ⟨.slice (some ⟨Q, 0, none⟩) 2 2, 117, 1, 2, [.slice none 0 0, .int .i64 0]⟩ := colO_push HV.out.2.2.2.1 HV.out.2.2.2.2.1 HV.out.2.2.2.2.2 HV.out.2.1 HV.out.1 HV.out.2.2.1 ((Ext.refl w4).alloc _) (hO9.front (M := [⟨.slice (some ⟨w4.heap.size, 0, none⟩) 1 1, 28, 1, 1, [.slice QA N cq]⟩])) hg9 hlie
        have HNEW := Lib.hid hnew
        clear hnew hO9 hg9 hlie HV
        go_roundw
        case rel => exact ⟨k + 1, c9, some ⟨g9, 0, none⟩, by omega, by go_num, (by first | trivial | rfl), HNEW⟩
        case measure => simp [intOf]; omega
      · obtain rfl : n = k := by omega
        have hcr := HI.out
        have hNN := HW.out.2.1
        rw [← hNN] at hcr
        have hso := s5Solutions_any (Mx.colsM m n) b N _ _ wr (hcr.rs (by omega)) (Rs.ext RB.ext _ _ _ _ HX.out HM.out.2) (by rw [← hNN]; exact Mx.colsM_rect m n) (by rw [Mx.colsM_length, HW.out.2.2.1]) (by omega) (by rw [Mx.colsM_length]; omega)
        rw [HE.out.1] at hso
        rw [HE.out.2] at hso
        have HS := Lib.hid hso
        have HRES := Lib.hid HI.out.res
        clear hso hcr hNN
        go_wp2_with fail
        refine HS.out.mono ?_
        clear HS
        rintro e w5 ⟨vx, A2, n2, c2, rfl, hvx, hx5, hfx⟩
        obtain ⟨X, cX, rfl, _⟩ := hvx.form
        obtain ⟨nx, hnx⟩ : ∃ nx, ((Mx.expr m b).getD []).length = nx := ⟨_, rfl⟩
        rw [hnx] at hvx hfx ⊢
        have HR5 := Lib.hid (HRES.out.next hx5)
        have HR6 := Lib.hid (HR5.out.alloc (.cells #[.slice X nx cX, .slice A2 n2 c2, .int .i64 er] 138))
        have hQl : Q < wr.heap.size := ((HRES.out.row 0 rfl).lt Q rfl).2
        have hfq : ∀ b, (Value.slice X nx cX).ownBlock = some b → b ≠ Q := fun b hb => by have := hfx b hb; omega
        have hv6 := Rs.ext RB.ext _ _ _ _ ((Ext.refl w5).alloc (.cells #[.slice X nx cX, .slice A2 n2 c2, .int .i64 er] 138)) hvx
        have HV7 := Lib.hid (Rs.farB (G := Q) (k := 1) (.int .i64 er) (Rs.farB (G := Q) (k := 0) (.slice X nx cX) hv6 hfq) hfq)
        have q0 := HR6.out.cell 0 rfl 0 rfl
        have q1 := HR6.out.cell 0 rfl 1 rfl
        have f0 := HR6.out.frozen 0 rfl 0
        have f1 := HR6.out.frozen 0 rfl 1
        have HS1 := Lib.hid ((HR6.out.store 0 rfl 0 (.slice X nx cX)).store 0 rfl 1 (.int .i64 er))
        clear hvx hx5 hfx hQl hfq hv6 hnx
        go_wp2_with fail
        refine bodyPost_ret (results_cell1 (v := .agg #[.slice X nx cX, .int .i64 er]) rfl rfl ?_) rfl ?_
        · go_simp
        exact ⟨_, rfl, HV7.out, HS1.out.ext⟩
end Go.Proofs.YtdmljilcbndmfaaDoor

/- THE SPECIFICATION'S RANK of rows, in plain terms: it is the number of columns exactly if the rows span all. -/
namespace Cd
open Gf
/-- A row from which a multiple of another one was taken, so that it is 0 at a place. -/
def lessR (r o : List UInt8) (a : Nat) : List UInt8 := (List.range r.length).map fun k => r.getD k 0 ^^^ mul (mul (r.getD a 0) (inv (o.getD a 0))) (o.getD k 0)
theorem lessR_get {r o : List UInt8} {a k : Nat} (h : k < r.length) : (lessR r o a).getD k 0 = r.getD k 0 ^^^ mul (mul (r.getD a 0) (inv (o.getD a 0))) (o.getD k 0) := getD_map_range _ _ h
/-- The first row of the first k that is not 0 at a place. -/
def pivTo (l : List (List UInt8)) (a : Nat) : Nat → Option Nat
  | 0 => none
  | k + 1 => match pivTo l a k with
    | some p => some p
    | none => if (l.getD k []).getD a 0 = 0 then none else some k
/-- The rows but p, of the first m. -/
def restTo (l : List (List UInt8)) (p a : Nat) : Nat → List (List UInt8)
  | 0 => []
  | m + 1 => if m = p then restTo l p a m else restTo l p a m ++ [lessR (l.getD m []) (l.getD p []) a]
theorem restTo_skip (l : List (List UInt8)) (p a : Nat) : restTo l p a (p + 1) = restTo l p a p := by rw [restTo, if_pos rfl]
theorem restTo_next {l : List (List UInt8)} {p a m : Nat} (h : m ≠ p) : restTo l p a (m + 1) = restTo l p a m ++ [lessR (l.getD m []) (l.getD p []) a] := by rw [restTo, if_neg h]
theorem restTo_mem {l : List (List UInt8)} {p a : Nat} {x : List UInt8} : ∀ {m : Nat}, x ∈ restTo l p a m ↔ ∃ k, k < m ∧ k ≠ p ∧ x = lessR (l.getD k []) (l.getD p []) a
  | 0 => by simp [restTo]
  | m + 1 => by
    by_cases h : m = p
    · subst h
      rw [restTo_skip, restTo_mem]
      constructor
      · rintro ⟨k, h1, h2, h3⟩; exact ⟨k, by omega, h2, h3⟩
      · rintro ⟨k, h1, h2, h3⟩; exact ⟨k, by omega, h2, h3⟩
    · rw [restTo_next h, List.mem_append, List.mem_singleton, restTo_mem]
      constructor
      · rintro (⟨k, h1, h2, h3⟩ | h3)
        · exact ⟨k, by omega, h2, h3⟩
        · exact ⟨m, by omega, h, h3⟩
      · rintro ⟨k, h1, h2, h3⟩
        by_cases hk : k = m
        · subst hk; exact .inr h3
        · exact .inl ⟨k, by omega, h2, h3⟩
/-- The rows that are left, and the rank, after the first a columns. -/
def rankTo (l : List (List UInt8)) : Nat → List (List UInt8) × Nat
  | 0 => (l, 0)
  | a + 1 => match pivTo (rankTo l a).1 a (rankTo l a).1.length with
    | none => rankTo l a
    | some p => (restTo (rankTo l a).1 p a (rankTo l a).1.length, (rankTo l a).2 + 1)
theorem getD_mem {α : Type} {l : List α} {k : Nat} {x : α} (h : k < l.length) : l.getD k x ∈ l := by
  rw [List.getD_eq_getElem?_getD, List.getElem?_eq_getElem h]
  exact List.getElem_mem h
theorem SpanL.zero {n : Nat} {L : List (List UInt8)} {v : Nat → UInt8} (h : ∀ i, i < n → v i = 0) : SpanL n L v := InSpan.zero n _ _ h
theorem SpanL.sum {n : Nat} {L : List (List UInt8)} (c : Nat → UInt8) (us : Nat → Nat → UInt8) (k : Nat) (h : ∀ j, j < k → SpanL n L (us j)) : SpanL n L fun i => sm k fun j => mul (c j) (us j i) := InSpan.sum c us k h
theorem rest_split {n a p : Nat} {L : List (List UInt8)} (hL : ∀ r ∈ L, r.length = n) {x : List UInt8} (hx : x ∈ L) : ∃ c, SpanL n (restTo L p a L.length) fun i => vec x i ^^^ mul c ((L.getD p []).getD i 0) := by
  obtain ⟨k, hk, rfl⟩ := List.getElem_of_mem hx
  have e : L[k] = L.getD k [] := by rw [List.getD_eq_getElem?_getD, List.getElem?_eq_getElem hk]; rfl
  rw [e]
  by_cases hkp : k = p
  · subst hkp
    refine ⟨1, SpanL.zero fun i _ => ?_⟩
    rw [one_mul]
    exact UInt8.xor_self
  · refine ⟨mul ((L.getD k []).getD a 0) (inv ((L.getD p []).getD a 0)), (SpanL.mem (restTo_mem.2 ⟨k, hk, hkp, rfl⟩)).congr fun i hi => ?_⟩
    exact (lessR_get (by rw [hL _ (getD_mem hk)]; exact hi)).symm
theorem SpanL.rest {n a p : Nat} {L : List (List UInt8)} (hL : ∀ r ∈ L, r.length = n) {u : Nat → UInt8} (h : SpanL n L u) : ∃ c, SpanL n (restTo L p a L.length) fun i => u i ^^^ mul c ((L.getD p []).getD i 0) := by
  obtain ⟨c, hc⟩ := h
  have hd : ∃ d : Nat → UInt8, ∀ k, k < L.length → SpanL n (restTo L p a L.length) fun i => vec (L.getD k []) i ^^^ mul (d k) ((L.getD p []).getD i 0) := by
    refine ⟨fun k => if hk : k < L.length then (rest_split (p := p) (a := a) hL (getD_mem hk (x := []))).choose else 0, fun k hk => ?_⟩
    simp only [hk, ↓reduceDIte]
    exact (rest_split (p := p) (a := a) hL (getD_mem hk (x := []))).choose_spec
  obtain ⟨d, hd⟩ := hd
  refine ⟨sm L.length fun k => mul (c k) (d k), (SpanL.sum c _ L.length hd).congr fun i hi => ?_⟩
  show u i ^^^ mul _ _ = _
  rw [hc i hi, mul_comm (sm _ _), sm_mul, ← sm_add]
  refine sm_congr fun k _ => ?_
  rw [mul_xor]
  congr 1
  rw [mul_comm ((L.getD p []).getD i 0), mul_assoc]
attribute [irreducible] rankTo restTo pivTo lessR
end Cd

/- What the root words reach of other texts. -/
/- THE WALKS over the strings of the field's specification. -/
namespace Go.Proofs.YtdmljilcbndmfaaDoor
open Go.RowKit

theorem map_range_succ7 (g : Nat → UInt8) (k : Nat) : ((List.range k).map g).map bv ++ [bv (g k)] = ((List.range (k + 1)).map g).map bv := by
  rw [List.range_succ]; simp

end Go.Proofs.YtdmljilcbndmfaaDoor
/- THE SPECIFICATION'S CHECK of codes, in plain terms: it is the program's. -/
namespace Cd
/-- Is a number in one of the first g groups? -/
def prevHas (gs : List (List Int)) (g : Nat) (x : Int) : Bool := (List.range g).any fun h => decide (x ∈ gs.getD h [])
def refBad (d : Int) (gs : List (List Int)) (g k : Nat) : Bool :=
  decide ((gs.getD g []).getD k 0 < 0) || decide (d ≤ (gs.getD g []).getD k 0) || (decide (0 < k) && decide ((gs.getD g []).getD k 0 ≤ (gs.getD g []).getD (k - 1) 0)) || prevHas gs g ((gs.getD g []).getD k 0)
/-- The error of one group. -/
def refGroup (d : Int) (gs : List (List Int)) (g : Nat) : Int :=
  if gs.getD g [] = [] then 8 else if (List.range (gs.getD g []).length).any (refBad d gs g) then 1 else 0
theorem prevHas_true {gs : List (List Int)} {g h : Nat} {x : Int} (hh : h < g) (hx : x ∈ gs.getD h []) : prevHas gs g x = true := by
  unfold prevHas
  rw [List.any_eq_true]
  exact ⟨h, List.mem_range.2 hh, by simpa using hx⟩
theorem prevHas_false {gs : List (List Int)} {g : Nat} {x : Int} (h : ∀ j, j < g → x ∉ gs.getD j []) : prevHas gs g x = false := by
  unfold prevHas
  rw [List.any_eq_false]
  intro j hj
  simpa using h j (List.mem_range.1 hj)
theorem prevHas_succ (gs : List (List Int)) (g : Nat) (x : Int) : prevHas gs (g + 1) x = true ↔ prevHas gs g x = true ∨ x ∈ gs.getD g [] := by
  unfold prevHas
  rw [List.range_succ, List.any_append, Bool.or_eq_true]
  simp
theorem refGroup_none {d : Int} {gs : List (List Int)} {g : Nat} (h : gs.getD g [] = []) : refGroup d gs g = 8 := if_pos h
theorem refGroup_bad {d : Int} {gs : List (List Int)} {g k : Nat} (h : gs.getD g [] ≠ []) (hk : k < (gs.getD g []).length) (hb : refBad d gs g k = true) : refGroup d gs g = 1 := by
  unfold refGroup
  rw [if_neg h, if_pos]
  rw [List.any_eq_true]
  exact ⟨k, List.mem_range.2 hk, hb⟩
theorem refGroup_ok {d : Int} {gs : List (List Int)} {g : Nat} (h : gs.getD g [] ≠ []) (hb : ∀ k, k < (gs.getD g []).length → refBad d gs g k = false) : refGroup d gs g = 0 := by
  unfold refGroup
  rw [if_neg h, if_neg]
  rw [Bool.not_eq_true, List.any_eq_false]
  intro k hk
  rw [hb k (List.mem_range.1 hk)]
  simp
theorem refBad_def (d : Int) (gs : List (List Int)) (g k : Nat) : refBad d gs g k = (decide ((gs.getD g []).getD k 0 < 0) || decide (d ≤ (gs.getD g []).getD k 0) || (decide (0 < k) && decide ((gs.getD g []).getD k 0 ≤ (gs.getD g []).getD (k - 1) 0)) || prevHas gs g ((gs.getD g []).getD k 0)) := rfl
/-- A group is bad for the program exactly if it is for the specification. -/
theorem bad_ref {d : Int} {gs : List (List Int)} {g s : Nat} (hs : ∀ x : Nat, bitAt s x = 1 ↔ prevHas gs g x = true) : bad d s (gs.getD g []) = (List.range (gs.getD g []).length).any (refBad d gs g) := by
  have each : ∀ k, badAt d s (gs.getD g []) k = refBad d gs g k := fun k => by
    rw [badAt_def, refBad_def]
    obtain ⟨x, hx⟩ : ∃ x, (gs.getD g []).getD k 0 = x := ⟨_, rfl⟩
    rw [hx]
    by_cases h0 : x < 0
    · simp [h0]
    · have h1 := hs x.toNat
      rw [show ((x.toNat : Nat) : Int) = x from by omega] at h1
      cases hp : prevHas gs g x with
      | true => rw [h1.2 hp]; simp
      | false =>
        have : bitAt s x.toNat ≠ 1 := fun h => by rw [h1.1 h] at hp; cases hp
        rw [show (bitAt s x.toNat == 1) = false from by simpa using this]
  unfold bad
  congr 1
  funext k
  exact each k
theorem checkG_ref {d : Int} {gs : List (List Int)} : ∀ i, i ≤ gs.length → (∀ h, h < i → refGroup d gs h = 0) →
    ∃ s, checkG d 0 gs = checkG d s (gs.drop i) ∧ ∀ x : Nat, bitAt s x = 1 ↔ prevHas gs i x = true
  | 0, _, _ => ⟨0, rfl, fun x => by simp [bitAt, prevHas]⟩
  | i + 1, hi, h => by
    obtain ⟨s, h1, h2⟩ := checkG_ref i (by omega) (fun j hj => h j (by omega))
    have hl : i < gs.length := by omega
    have hg : gs.getD i [] = gs[i] := by rw [List.getD_eq_getElem?_getD, List.getElem?_eq_getElem hl]; rfl
    have hr := h i (by omega)
    have hne : gs.getD i [] ≠ [] := fun he => by rw [refGroup_none he] at hr; cases hr
    have hb := bad_ref (d := d) h2
    have hbf : bad d s (gs.getD i []) = false := by
      rw [hb]
      cases ha : (List.range (gs.getD i []).length).any (refBad d gs i) with
      | false => rfl
      | true =>
        unfold refGroup at hr
        rw [if_neg hne, if_pos ha] at hr
        cases hr
    refine ⟨setOf s gs[i], ?_, fun x => ?_⟩
    · rw [h1, drop_cons hl, checkG_next (by rw [← hg]; exact hne) (by rw [← hg]; exact hbf)]
    · rw [bit_set gs[i] s x (fun j hj => by rw [← hg] at hj; exact (bad_bounds hbf hj).1), h2 x, prevHas_succ, hg]
theorem checkG_err {d : Int} {gs : List (List Int)} {i : Nat} (hi : i < gs.length) (h : ∀ j, j < i → refGroup d gs j = 0) (he : refGroup d gs i ≠ 0) : checkG d 0 gs = refGroup d gs i := by
  obtain ⟨s, h1, h2⟩ := checkG_ref i (by omega) h
  have hg : gs.getD i [] = gs[i] := by rw [List.getD_eq_getElem?_getD, List.getElem?_eq_getElem hi]; rfl
  rw [h1, drop_cons hi, ← hg]
  by_cases hne : gs.getD i [] = []
  · rw [refGroup_none hne, hne, checkG_nil]
  · have hb := bad_ref (d := d) h2
    unfold refGroup at he ⊢
    rw [if_neg hne] at he ⊢
    cases ha : (List.range (gs.getD i []).length).any (refBad d gs i) with
    | false => rw [ha] at he; simp at he
    | true => rw [ha] at hb; rw [checkG_bad hne hb]; rfl
theorem checkR_err {d gl : Int} {gs : List (List Int)} (h1 : ¬ (d < 1 ∨ 16 < d ∨ gl < 0 ∨ 4 < gl)) (h2 : ¬ 24 < d + gs.length + gl) {i : Nat} (hi : i < gs.length) (h : ∀ j, j < i → refGroup d gs j = 0) (he : refGroup d gs i ≠ 0) : check d gs gl = refGroup d gs i := by
  rw [check_groups h1 (by omega), checkG_err hi h he]
theorem checkR_ok {d gl : Int} {gs : List (List Int)} (h1 : ¬ (d < 1 ∨ 16 < d ∨ gl < 0 ∨ 4 < gl)) (h2 : ¬ 24 < d + gs.length + gl) (h : ∀ j, j < gs.length → refGroup d gs j = 0) : check d gs gl = 0 := by
  obtain ⟨s, e, _⟩ := checkG_ref gs.length (Nat.le_refl _) h
  rw [check_groups h1 (by omega), e, List.drop_length, checkG_end]
attribute [irreducible] refGroup refBad prevHas
end Cd
/- THE WALKS over the specification of codes: Has, group, Check, Pieces, Size, Bit, In, IsSet. -/
namespace Go.Proofs.YtdmljilcbndmfaaDoor
open Go.RowKit
theorem rHas_any (l : List Int) (x : Int) (B : Option Addr) (n c : Nat) (w : World) (hB : Rs RI w (.slice B n c) l) :
    Calls Tryd.prog 99 #[.slice B n c, .int .i64 x] w fun e w' => e = .returned (.bool (decide (x ∈ l))) ∧ w = w' := by
  have hn := hB.len
  obtain ⟨_, _, e0, hl⟩ := hB.form
  have HB := Lib.hid hB
  have HN := Lib.hid hn
  have hl2 : n ≤ 9223372036854775807 := by omega
  clear hB hn e0 hl
  go_enter Tryd.func99, Tryd.ntmps99
  go_wp2_with fail
  go_loop [5] (fun vi => ∃ i : Nat, i ≤ n ∧ vi = .int .i64 i ∧ Hid (∀ j, j < i → l.getD j 0 ≠ x)) (fun vi => n - (intOf vi).toNat)
  case atStart => exact ⟨0, Nat.zero_le _, rfl, Lib.hid fun j hj => absurd hj (Nat.not_lt_zero j)⟩
  case round =>
    obtain ⟨i, hi, rfl, HJ⟩ := hrel
    by_cases hlt : i < n
    · have hll : i < l.length := by rw [← HN.out]; exact hlt
      obtain ⟨ad, u, rfl, hc, hu⟩ := HB.out.at hll
      obtain ⟨rfl, _, _⟩ := hu
      have hgd := getD_get (x := (0 : Int)) hll
      obtain ⟨y, hy⟩ : ∃ y, l[i] = y := ⟨_, rfl⟩
      rw [hy] at hc hgd
      have hm : y ∈ l := by rw [← hy]; exact List.getElem_mem hll
      have HM := Lib.hid (And.intro hgd hm)
      clear hgd hm hy
      by_cases h1 : y = x
      · have e1 : (y == x) = true := by rw [h1]; simp
        have hd : decide (x ∈ l) = true := by rw [decide_eq_true_eq, ← h1]; exact HM.out.2
        have HD := Lib.hid hd
        clear h1 hd
        go_wp2_with fail
        go_ret
        exact ⟨ret_bool HD.out.symm, rfl⟩
      · have e1 : (y == x) = false := by rw [beq_eq_false_iff_ne]; exact h1
        have H1 := Lib.hid h1
        clear h1
        go_wp2_with fail
        go_round
        case rel => exact ⟨i + 1, by omega, by go_num, Lib.hid fun j hj => by
          by_cases hji : j = i
          · rw [hji, HM.out.1]; exact H1.out
          · exact HJ.out j (by omega)⟩
        case measure => simp [intOf]; omega
    · obtain rfl : i = n := by omega
      have hd : decide (x ∈ l) = false := by
        rw [decide_eq_false_iff_not]
        intro hm
        obtain ⟨j, hj, he⟩ := List.getElem_of_mem hm
        have := HJ.out j (by rw [HN.out]; exact hj)
        rw [getD_get hj] at this
        exact this he
      have HD := Lib.hid hd
      clear hd
      go_wp2_with fail
      go_ret
      exact ⟨ret_bool HD.out.symm, rfl⟩

set_option maxHeartbeats 1000000 in
theorem rGroup_any (d gl : Int) (gs : List (List Int)) (g : Nat) (G : Value) (w : World) (hG : Rs (Rs RI) w G gs) (hg : g < gs.length) :
    Calls Tryd.prog 88 #[.agg #[.int .i64 d, G, .int .i64 gl], .int .i64 g] w fun e w' => e = .returned (.int .i64 (Cd.refGroup d gs g)) ∧ Ext w w' := by
  have hx0 := (Ext.refl w).alloc (.cells #[.int .i64 d, G, .int .i64 gl] 24)
  have hG1 := Rs.ext (Rs.ext RI.ext) _ _ _ _ hx0 hG
  obtain ⟨A, c, rfl, hl⟩ := hG.form
  obtain ⟨ad, u, rfl, hcell, hu⟩ := hG1.at hg
  obtain ⟨B, cB, rfl, hlB⟩ := hu.form
  have hgd := getD_get (x := ([] : List Int)) hg
  obtain ⟨p, hp⟩ : ∃ p, gs[g] = p := ⟨_, rfl⟩
  rw [hp] at hu hlB hgd hcell
  have HX := Lib.hid hx0
  have HG := Lib.hid hG1
  have HU := Lib.hid hu
  have HD := Lib.hid hgd
  clear hG hx0 hG1 hu hgd hp
  by_cases h0 : p = []
  · have h8 : Cd.refGroup d gs g = 8 := Cd.refGroup_none (by rw [HD.out]; exact h0)
    have H8 := Lib.hid h8
    have hl0 : p.length = 0 := by rw [h0]; rfl
    clear h8 h0
    go_enter Tryd.func88, Tryd.ntmps88
    go_wp2_with fail
    go_ret
    exact ⟨ret_int H8.out.symm, HX.out⟩
  · have hgl : p.length ≠ 0 := fun h => h0 (List.length_eq_zero_iff.1 h)
    have e0 : ((p.length : Int) == 0) = false := by rw [beq_eq_false_iff_ne]; omega
    have H0 := Lib.hid (show gs.getD g [] ≠ [] by rw [HD.out]; exact h0)
    clear h0 hgl
    go_enter Tryd.func88, Tryd.ntmps88
    go_wp2_with fail
    go_loop [5] (fun vk => ∃ k : Nat, k ≤ p.length ∧ vk = .int .i64 k ∧ Hid (∀ j, j < k → Cd.refBad d gs g j = false)) (fun vk => p.length - (intOf vk).toNat)
    case atStart => exact ⟨0, Nat.zero_le _, rfl, Lib.hid fun j hj => absurd hj (Nat.not_lt_zero j)⟩
    case round =>
      obtain ⟨k, hk, rfl, HB⟩ := hrel
      by_cases hkl : k < p.length
      · obtain ⟨bd, u, rfl, hbc, hu⟩ := HU.out.at hkl
        obtain ⟨rfl, hlo, hhi⟩ := hu
        have hgk := getD_get (x := (0 : Int)) hkl
        have hbd := Cd.refBad_def d gs g k
        rw [HD.out, hgk] at hbd
        obtain ⟨y, hy⟩ : ∃ y, p[k] = y := ⟨_, rfl⟩
        rw [hy] at hbd hbc hlo hhi
        have bad1 : Cd.refBad d gs g k = true → Cd.refGroup d gs g = 1 := fun h => Cd.refGroup_bad H0.out (by rw [HD.out]; exact hkl) h
        have BD := Lib.hid hbd
        have B1 := Lib.hid bad1
        clear hgk hbd bad1 hy
        by_cases c1 : y < 0
        · have H1 := Lib.hid (B1.out (by rw [BD.out]; simp [c1]))
          go_wp2_with fail
          go_ret
          exact ⟨ret_int H1.out.symm, HX.out⟩
        · by_cases c2 : d ≤ y
          · have H1 := Lib.hid (B1.out (by rw [BD.out]; simp [c2]))
            go_wp2_with fail
            go_ret
            exact ⟨ret_int H1.out.symm, HX.out⟩
          · by_cases ck : 0 < k
            · obtain ⟨bd2, u2, e2, hbc2, hu2⟩ := HU.out.at (i := k - 1) (by omega)
              injection e2 with e2
              subst e2
              obtain ⟨rfl, hlo2, hhi2⟩ := hu2
              have hgk2 := getD_get (x := (0 : Int)) (show k - 1 < p.length by omega)
              obtain ⟨z, hz⟩ : ∃ z, p[k - 1] = z := ⟨_, rfl⟩
              rw [hz] at hgk2 hbc2 hlo2 hhi2
              have HK2 := Lib.hid hgk2
              clear hgk2 hz
              by_cases c3 : y ≤ z
              · have H1 := Lib.hid (B1.out (by rw [BD.out, HK2.out]; simp [c3, ck]))
                go_wp2_with fail
                go_ret
                exact ⟨ret_int H1.out.symm, HX.out⟩
              · have hno : Cd.prevHas gs g y = false → Cd.refBad d gs g k = false := fun h => by rw [BD.out, HK2.out, h]; simp [c1, c2, c3]
                have hyes : Cd.prevHas gs g y = true → Cd.refGroup d gs g = 1 := fun h => B1.out (by rw [BD.out, h]; simp)
                have HNO := Lib.hid (And.intro hno hyes)
                clear hno hyes
                go_wp2_with fail
                go_loop [7] (fun vh => ∃ h : Nat, h ≤ g ∧ vh = .int .i64 h ∧ Hid (∀ j, j < h → y ∉ gs.getD j [])) (fun vh => g - (intOf vh).toNat)
                case atStart => exact ⟨0, Nat.zero_le _, rfl, Lib.hid fun j hj => absurd hj (Nat.not_lt_zero j)⟩
                case round =>
                  obtain ⟨h, hh, rfl, HH⟩ := hrel
                  by_cases hhl : h < g
                  · obtain ⟨ad2, v, e3, hvc, hv⟩ := HG.out.at (i := h) (by omega)
                    injection e3 with e3
                    subst e3
                    obtain ⟨B2, c2', rfl, hl2⟩ := hv.form
                    have hgh := getD_get (x := ([] : List Int)) (show h < gs.length by omega)
                    obtain ⟨q, hq⟩ : ∃ q, gs[h] = q := ⟨_, rfl⟩
                    rw [hq] at hv hl2 hgh hvc
                    have HV := Lib.hid hv
                    have HGH := Lib.hid hgh
                    clear hv hgh hq
                    by_cases hin : y ∈ q
                    · have e4 : decide (y ∈ q) = true := by simpa using hin
                      have H1 := Lib.hid (HNO.out.2 (Cd.prevHas_true hhl (by rw [HGH.out]; exact hin)))
                      clear hin
                      go_wp2_with fail
                      refine (rHas_any q y _ _ _ _ HV.out).mono ?_
                      rintro e w1 ⟨rfl, rfl⟩
                      rw [e4]
                      go_wp2_with fail
                      go_ret
                      exact ⟨ret_int H1.out.symm, HX.out⟩
                    · have e4 : decide (y ∈ q) = false := by simpa using hin
                      have HIN := Lib.hid hin
                      clear hin
                      go_wp2_with fail
                      refine (rHas_any q y _ _ _ _ HV.out).mono ?_
                      rintro e w1 ⟨rfl, rfl⟩
                      rw [e4]
                      go_wp2_with fail
                      go_round
                      case rel => exact ⟨h + 1, by omega, by go_num, Lib.hid fun j hj => by
                        by_cases hjh : j = h
                        · rw [hjh, HGH.out]; exact HIN.out
                        · exact HH.out j (by omega)⟩
                      case measure => simp [intOf]; omega
                  · obtain rfl : h = g := by omega
                    have H1 := Lib.hid (HNO.out.1 (Cd.prevHas_false HH.out))
                    go_wp2_with fail
                    go_round
                    case rel => exact ⟨k + 1, by omega, by go_num, Lib.hid fun j hj => by
                      by_cases hjk : j = k
                      · rw [hjk]; exact H1.out
                      · exact HB.out j (by omega)⟩
                    case measure => simp [intOf]; omega
            · have hno : Cd.prevHas gs g y = false → Cd.refBad d gs g k = false := fun h => by rw [BD.out, h]; simp [c1, c2, ck]
              have hyes : Cd.prevHas gs g y = true → Cd.refGroup d gs g = 1 := fun h => B1.out (by rw [BD.out, h]; simp)
              have HNO := Lib.hid (And.intro hno hyes)
              clear hno hyes
              go_wp2_with fail
              go_loop [7] (fun vh => ∃ h : Nat, h ≤ g ∧ vh = .int .i64 h ∧ Hid (∀ j, j < h → y ∉ gs.getD j [])) (fun vh => g - (intOf vh).toNat)
              case atStart => exact ⟨0, Nat.zero_le _, rfl, Lib.hid fun j hj => absurd hj (Nat.not_lt_zero j)⟩
              case round =>
                obtain ⟨h, hh, rfl, HH⟩ := hrel
                by_cases hhl : h < g
                · obtain ⟨ad2, v, e3, hvc, hv⟩ := HG.out.at (i := h) (by omega)
                  injection e3 with e3
                  subst e3
                  obtain ⟨B2, c2', rfl, hl2⟩ := hv.form
                  have hgh := getD_get (x := ([] : List Int)) (show h < gs.length by omega)
                  obtain ⟨q, hq⟩ : ∃ q, gs[h] = q := ⟨_, rfl⟩
                  rw [hq] at hv hl2 hgh hvc
                  have HV := Lib.hid hv
                  have HGH := Lib.hid hgh
                  clear hv hgh hq
                  by_cases hin : y ∈ q
                  · have e4 : decide (y ∈ q) = true := by simpa using hin
                    have H1 := Lib.hid (HNO.out.2 (Cd.prevHas_true hhl (by rw [HGH.out]; exact hin)))
                    clear hin
                    go_wp2_with fail
                    refine (rHas_any q y _ _ _ _ HV.out).mono ?_
                    rintro e w1 ⟨rfl, rfl⟩
                    rw [e4]
                    go_wp2_with fail
                    go_ret
                    exact ⟨ret_int H1.out.symm, HX.out⟩
                  · have e4 : decide (y ∈ q) = false := by simpa using hin
                    have HIN := Lib.hid hin
                    clear hin
                    go_wp2_with fail
                    refine (rHas_any q y _ _ _ _ HV.out).mono ?_
                    rintro e w1 ⟨rfl, rfl⟩
                    rw [e4]
                    go_wp2_with fail
                    go_round
                    case rel => exact ⟨h + 1, by omega, by go_num, Lib.hid fun j hj => by
                      by_cases hjh : j = h
                      · rw [hjh, HGH.out]; exact HIN.out
                      · exact HH.out j (by omega)⟩
                    case measure => simp [intOf]; omega
                · obtain rfl : h = g := by omega
                  have H1 := Lib.hid (HNO.out.1 (Cd.prevHas_false HH.out))
                  go_wp2_with fail
                  go_round
                  case rel => exact ⟨k + 1, by omega, by go_num, Lib.hid fun j hj => by
                    by_cases hjk : j = k
                    · rw [hjk]; exact H1.out
                    · exact HB.out j (by omega)⟩
                  case measure => simp [intOf]; omega
      · obtain rfl : k = p.length := by omega
        have hz : Cd.refGroup d gs g = 0 := Cd.refGroup_ok H0.out (by rw [HD.out]; exact HB.out)
        have HZ := Lib.hid hz
        clear hz
        go_wp2_with fail
        go_ret
        exact ⟨ret_int HZ.out.symm, HX.out⟩
end Go.Proofs.YtdmljilcbndmfaaDoor
/- THE WALKS over the specification of codes: Check, Pieces, Size, Bit, In, IsSet. -/
namespace Cd
end Cd
namespace Go.Proofs.YtdmljilcbndmfaaDoor
open Go.RowKit
set_option maxHeartbeats 4000000 in
theorem rCheck_any (d gl : Int) (gs : List (List Int)) (G : Value) (w : World) (hG : Rs (Rs RI) w G gs) (hn : gs.length ≤ 4611686018427387904) :
    Calls Tryd.prog 65 #[.agg #[.int .i64 d, G, .int .i64 gl]] w fun e w' => e = .returned (.int .i64 (Cd.check d gs gl)) ∧ Ext w w' := by
  have hx0 := (Ext.refl w).alloc (.cells #[.int .i64 d, G, .int .i64 gl] 24)
  have HX := Lib.hid (And.intro hx0 (Rs.ext (Rs.ext RI.ext) _ _ _ _ hx0 hG))
  by_cases h : d < 1 ∨ 16 < d ∨ gl < 0 ∨ 4 < gl
  · rw [Cd.check_range h]
    have four : d < 1 ∨ (¬ d < 1 ∧ 16 < d) ∨ (¬ d < 1 ∧ ¬ 16 < d ∧ gl < 0) ∨ (¬ d < 1 ∧ ¬ 16 < d ∧ ¬ gl < 0 ∧ 4 < gl) := by omega
    clear h hG hx0
    rcases four with g | ⟨g1, g⟩ | ⟨g1, g2, g⟩ | ⟨g1, g2, g3, g⟩
    all_goals
      go_enter Tryd.func65, Tryd.ntmps65
      go_wp2_with fail
      go_ret
      exact ⟨rfl, HX.out.1⟩
  · have h1 : 1 ≤ d := by omega
    have h2 : d ≤ 16 := by omega
    have h3 : 0 ≤ gl := by omega
    have h4 : gl ≤ 4 := by omega
    obtain ⟨A, c, rfl, hl⟩ := hG.form
    have H := Lib.hid h
    clear hG hx0 h
    by_cases hb : 24 < d + gs.length + gl
    · have hc := Cd.check_limit H.out (.inr hb)
      have HC := Lib.hid hc
      clear hc
      go_enter Tryd.func65, Tryd.ntmps65
      go_wp2_with fail
      go_ret
      exact ⟨ret_int HC.out.symm, HX.out.1⟩
    · have hb2 : d + gs.length + gl ≤ 24 := by omega
      clear hb
      go_enter Tryd.func65, Tryd.ntmps65
      go_wp2_with fail
      go_loopw [3] (fun vi wr => ∃ i : Nat, i ≤ gs.length ∧ vi = .int .i64 i ∧ Hid (Ext (w.alloc (.cells #[.int .i64 d, .slice A gs.length c, .int .i64 gl] 24)) wr ∧ ∀ j, j < i → Cd.refGroup d gs j = 0)) (fun vi _ => gs.length - (intOf vi).toNat)
      case atStart => exact ⟨0, Nat.zero_le _, rfl, Lib.hid (And.intro (Ext.refl _) fun j hj => absurd hj (Nat.not_lt_zero j))⟩
      case round =>
        obtain ⟨i, hi, rfl, HR⟩ := hrel
        have hc0 : wr.cell? ⟨w.heap.size, 0, none⟩ = some (.int .i64 d) := HR.out.1.cell (by go_simp)
        have hc1 : wr.cell? ⟨w.heap.size, 1, none⟩ = some (.slice A gs.length c) := HR.out.1.cell (by go_simp)
        have hc2 : wr.cell? ⟨w.heap.size, 2, none⟩ = some (.int .i64 gl) := HR.out.1.cell (by go_simp)
        by_cases hlt : i < gs.length
        · have hgr := Rs.ext (Rs.ext RI.ext) _ _ _ _ HR.out.1 HX.out.2
          have HG := Lib.hid hgr
          clear hgr
          by_cases he : Cd.refGroup d gs i = 0
          · have e1 : (Cd.refGroup d gs i != 0) = false := by rw [he]; rfl
            have HE := Lib.hid he
            clear he
            go_wp2_with fail
            refine (rGroup_any d gl gs i _ _ HG.out hlt).mono ?_
            rintro e w1 ⟨rfl, hx1⟩
            have HX1 := Lib.hid (HR.out.1.trans hx1)
            clear hx1 hc0 hc1 hc2
            go_wp2_with fail
            go_roundw
            case rel => exact ⟨i + 1, by omega, by go_num, Lib.hid (And.intro HX1.out fun j hj => by
              by_cases hji : j = i
              · rw [hji]; exact HE.out
              · exact HR.out.2 j (by omega))⟩
            case measure => simp [intOf]; omega
          · have e1 : (Cd.refGroup d gs i != 0) = true := by rw [bne_iff_ne]; exact he
            have hc := Cd.checkR_err H.out (by omega) hlt HR.out.2 he
            have HC := Lib.hid hc
            clear he hc
            go_wp2_with fail
            refine (rGroup_any d gl gs i _ _ HG.out hlt).mono ?_
            rintro e w1 ⟨rfl, hx1⟩
            have HX1 := Lib.hid (HR.out.1.trans hx1)
            clear hx1 hc0 hc1 hc2
            go_wp2_with fail
            go_ret
            exact ⟨ret_int HC.out.symm, HX.out.1.trans HX1.out⟩
        · obtain rfl : i = gs.length := by omega
          have hc := Cd.checkR_ok H.out (by omega) HR.out.2
          have HC := Lib.hid hc
          clear hc
          go_wp2_with fail
          go_ret
          exact ⟨ret_int HC.out.symm, HX.out.1.trans HR.out.1⟩
theorem rPieces_any (d gl : Int) (gs : List (List Int)) (G : Value) (w : World) (hG : Rs (Rs RI) w G gs) (hn : gs.length ≤ 4611686018427387904) :
    Calls Tryd.prog 29 #[.agg #[.int .i64 d, G, .int .i64 gl]] w fun e w' => e = .returned (.int .i64 (Cd.pieces d gs gl)) ∧ Ext w w' := by
  have hx0 := (Ext.refl w).alloc (.cells #[.int .i64 d, G, .int .i64 gl] 24)
  have HX := Lib.hid (And.intro hx0 (Rs.ext (Rs.ext RI.ext) _ _ _ _ hx0 hG))
  obtain ⟨A, c, rfl, hl⟩ := hG.form
  clear hG hx0
  by_cases h0 : Cd.check d gs gl = 0
  · have hp := Cd.pieces_ok h0
    have hk := Cd.check_ok h0
    have e1 : (Cd.check d gs gl != 0) = false := by rw [h0]; rfl
    have HP := Lib.hid hp
    clear h0 hp
    go_enter Tryd.func29, Tryd.ntmps29
    go_wp2_with fail
    refine (rCheck_any d gl gs _ _ HX.out.2 hn).mono ?_
    rintro e w1 ⟨rfl, hx1⟩
    have hc0 : w1.cell? ⟨w.heap.size, 0, none⟩ = some (.int .i64 d) := hx1.cell (by go_simp)
    have hc1 : w1.cell? ⟨w.heap.size, 1, none⟩ = some (.slice A gs.length c) := hx1.cell (by go_simp)
    have hc2 : w1.cell? ⟨w.heap.size, 2, none⟩ = some (.int .i64 gl) := hx1.cell (by go_simp)
    have HX1 := Lib.hid (HX.out.1.trans hx1)
    clear hx1
    go_wp2_with fail
    go_ret
    exact ⟨ret_int HP.out.symm, HX1.out⟩
  · have hp := Cd.pieces_no h0
    have e1 : (Cd.check d gs gl != 0) = true := by rw [bne_iff_ne]; exact h0
    have HP := Lib.hid hp
    clear h0 hp
    go_enter Tryd.func29, Tryd.ntmps29
    go_wp2_with fail
    refine (rCheck_any d gl gs _ _ HX.out.2 hn).mono ?_
    rintro e w1 ⟨rfl, hx1⟩
    have HX1 := Lib.hid (HX.out.1.trans hx1)
    clear hx1
    go_wp2_with fail
    go_ret
    exact ⟨ret_int HP.out.symm, HX1.out⟩
end Go.Proofs.YtdmljilcbndmfaaDoor
/- THE WALKS over the specification of codes: row, Rows, part. -/
namespace Cd
open Gf
/-- A coefficient of a piece's row. -/
def rowAt (d : Nat) (gs : List (List Int)) (k i : Nat) : UInt8 := if k < d then unitAt k i else if k < d + gs.length then inAt (setOf 0 (gs.getD (k - d) [])) i else gloAt (k - d - gs.length) i
theorem rowAt_unit {d k : Nat} (gs : List (List Int)) (i : Nat) (h : k < d) : rowAt d gs k i = unitAt k i := if_pos h
theorem rowAt_in {d k : Nat} {gs : List (List Int)} (i : Nat) (h : ¬ k < d) (h2 : k < d + gs.length) : rowAt d gs k i = inAt (setOf 0 (gs.getD (k - d) [])) i := by rw [rowAt, if_neg h, if_pos h2]
theorem rowAt_glo {d k : Nat} {gs : List (List Int)} (i : Nat) (h2 : ¬ k < d + gs.length) : rowAt d gs k i = gloAt (k - d - gs.length) i := by rw [rowAt, if_neg (by omega), if_neg h2]
theorem rows_get {d gl k : Nat} {gs : List (List Int)} (h : k < d + gs.length + gl) : (rows d gs gl).getD k [] = (List.range d).map (rowAt d gs k) := by
  have hr : ∀ g : Nat → UInt8, (∀ i, rowAt d gs k i = g i) → rowOf d g = (List.range d).map (rowAt d gs k) := fun g hg => by
    unfold rowOf
    congr 1
    funext i
    rw [hg i]
  rw [← rows_parts, List.getD_eq_getElem?_getD]
  by_cases h1 : k < d
  · rw [List.getElem?_append_left (by rw [List.length_append, rows1_length]; omega), List.getElem?_append_left (by rw [rows1_length]; exact h1)]
    unfold rows1
    rw [List.getElem?_map, List.getElem?_range h1]
    exact hr _ fun i => rowAt_unit gs i h1
  · by_cases h2 : k < d + gs.length
    · rw [List.getElem?_append_left (by rw [List.length_append, rows1_length, rows2_length]; exact h2), List.getElem?_append_right (by rw [rows1_length]; omega), rows1_length]
      unfold rows2
      rw [List.getElem?_map, List.getElem?_eq_getElem (by omega)]
      refine hr _ fun i => ?_
      rw [rowAt_in i h1 h2, List.getD_eq_getElem?_getD, List.getElem?_eq_getElem (by omega)]
      rfl
    · rw [List.getElem?_append_right (by rw [List.length_append, rows1_length, rows2_length]; omega), List.length_append, rows1_length, rows2_length]
      unfold rows3
      rw [List.getElem?_map, List.getElem?_range (by omega)]
      refine hr _ fun i => ?_
      rw [rowAt_glo i h2]
      show gloAt _ i = gloAt _ i
      rw [show k - d - gs.length = k - (d + gs.length) from by omega]
theorem inAt_set7 {d : Nat} {g : List Int} (hg : ∀ i ∈ g, 0 ≤ i ∧ i < (d : Int)) (i : Nat) : inAt (setOf 0 g) i = if (i : Int) ∈ g then 1 else 0 := by
  have h := bit_set g 0 i fun j hj => (hg j hj).1
  unfold inAt
  have h0 : ¬ bitAt 0 i = 1 := by simp [bitAt]
  by_cases hm : (i : Int) ∈ g
  · rw [if_pos hm, h.2 (.inr hm)]; rfl
  · rw [if_neg hm]
    have h1 : bitAt (setOf 0 g) i ≠ 1 := fun e => by rcases h.1 e with h2 | h2; exact h0 h2; exact hm h2
    have h2 : bitAt (setOf 0 g) i = 0 := by rcases bit_01 (setOf 0 g) i with h2 | h2; exact h2; exact absurd h2 h1
    rw [h2]; rfl
theorem glo_val {i j : Nat} : (gloAt j i).toNat = powN 2 (i * (j + 1) % 255) := by
  unfold gloAt
  rw [UInt8.toNat_ofNat', Nat.mod_eq_of_lt (powN_lt _)]
attribute [irreducible] rowAt
end Cd
namespace Go.Proofs.YtdmljilcbndmfaaDoor
open Go.RowKit
theorem own_older {w : World} {B B' e s n : Nat} {v : Value} {xs : List Value} (h : w.ownsRow B' e s v n xs) (hb : B ≤ B') : w.ownsRow B e s v n xs := by
  refine ⟨h.1, ?_⟩
  rcases h.2 with h2 | ⟨g, cap, cur, hv, hB, rest⟩
  · exact .inl h2
  · exact .inr ⟨g, cap, cur, hv, Nat.le_trans hb hB, rest⟩
theorem Rd.range {w : World} {A : Option Addr} {d : Nat} {g : Nat → UInt8} {l : List UInt8} (h : Rd w A (((List.range d).map g).map bv)) (hl : (List.range d).map g = l) : Rd w A (l.map bv) := hl ▸ h

set_option maxHeartbeats 4000000 in
theorem rRow_ok (d gl k : Nat) (gs : List (List Int)) (G : Value) (w : World) (hG : Rs (Rs RI) w G gs) (h0 : Cd.check d gs gl = 0) (hk : k < d + gs.length + gl) :
    Calls Tryd.prog 104 #[.agg #[.int .i64 d, G, .int .i64 gl], .int .i64 k] w fun e w' => ∃ A c, e = .returned (.slice A d c) ∧ Ext w w' ∧ w'.ownsRow w.heap.size 5 1 (.slice A d c) d (((List.range d).map (Cd.rowAt d gs k)).map bv) := by
  have hx0 := (Ext.refl w).alloc (.cells #[.int .i64 d, G, .int .i64 gl] 24)
  have HX := Lib.hid (And.intro hx0 (Rs.ext (Rs.ext RI.ext) _ _ _ _ hx0 hG))
  obtain ⟨GA, Gc, rfl, hgl⟩ := hG.form
  have hck := Cd.check_ok h0
  obtain ⟨k1, k2, k3, k4, k5, k6⟩ := hck
  have HGO := Lib.hid (Cd.check_groups_ok h0)
  clear hG hx0 h0
  go_enter Tryd.func104, Tryd.ntmps104
  go_wp2_with fail
  go_loopw [5, 6] (fun vo vi wr => ∃ (i : Nat) (A : Option Addr) (cp : Nat), i ≤ d ∧ vi = .int .i64 i ∧ vo = .slice A i cp ∧ Hid (Ext (w.alloc (.cells #[.int .i64 d, .slice GA gs.length Gc, .int .i64 gl] 24)) wr ∧ wr.ownsRow (w.alloc (.cells #[.int .i64 d, .slice GA gs.length Gc, .int .i64 gl] 24)).heap.size 5 1 (.slice A i cp) i (((List.range i).map (Cd.rowAt d gs k)).map bv))) (fun _ vi _ => d - (intOf vi).toNat)
  case atStart => exact ⟨0, none, 0, Nat.zero_le _, rfl, rfl, Lib.hid (And.intro (Ext.refl _) (World.ownsRow_nil _ _ _ _))⟩
  case round =>
    obtain ⟨i, A, cp, hi, rfl, rfl, HR⟩ := hrel
    have hc0 : wr.cell? ⟨w.heap.size, 0, none⟩ = some (.int .i64 d) := HR.out.1.cell (by go_simp)
    have hc1 : wr.cell? ⟨w.heap.size, 1, none⟩ = some (.slice GA gs.length Gc) := HR.out.1.cell (by go_simp)
    by_cases hlt : i < d
    · by_cases hkd : k < d
      · by_cases hik : i = k
        · have e1 : ((i : Int) == (k : Int)) = true := by rw [beq_iff_eq]; omega
          have hval : Value.int .u8 1 = bv (Cd.rowAt d gs k i) := by rw [Cd.rowAt_unit gs i hkd, hik, Cd.unitAt_eq]; rfl
          clear hik
          have HVAL := Lib.hid hval
          clear hval
          go_wp2_with (at_builtin; refine wpl_append_new (w.alloc (.cells #[.int .i64 d, .slice GA gs.length Gc, .int .i64 gl] 24)) 28 5 rfl _ _ rfl Tryd.underlying28 info_u8 rfl rfl HR.out.2 HR.out.1 rfl rfl (by omega) (by omega) ?_; intro A' c' w2 ho hx _)
          have ho' : w2.ownsRow (w.alloc (.cells #[.int .i64 d, .slice GA gs.length Gc, .int .i64 gl] 24)).heap.size 5 1 (.slice A' (i + 1) c') (i + 1) (((List.range (i + 1)).map (Cd.rowAt d gs k)).map bv) := by
            rw [← map_range_succ7 (Cd.rowAt d gs k), ← HVAL.out]
            exact ho
          have HO := Lib.hid (And.intro hx ho')
          clear hx ho ho' hc0 hc1
          go_wp2_with fail
          go_roundw
          case rel => exact ⟨i + 1, A', c', by omega, by go_num, rfl, HO.out⟩
          case measure => simp [intOf]; omega
        · have e1 : ((i : Int) == (k : Int)) = false := by rw [beq_eq_false_iff_ne]; omega
          have hval : Value.int .u8 0 = bv (Cd.rowAt d gs k i) := by rw [Cd.rowAt_unit gs i hkd, Cd.unitAt_ne hik]; rfl
          clear hik
          have HVAL := Lib.hid hval
          clear hval
          go_wp2_with (at_builtin; refine wpl_append_new (w.alloc (.cells #[.int .i64 d, .slice GA gs.length Gc, .int .i64 gl] 24)) 28 5 rfl _ _ rfl Tryd.underlying28 info_u8 rfl rfl HR.out.2 HR.out.1 rfl rfl (by omega) (by omega) ?_; intro A' c' w2 ho hx _)
          have ho' : w2.ownsRow (w.alloc (.cells #[.int .i64 d, .slice GA gs.length Gc, .int .i64 gl] 24)).heap.size 5 1 (.slice A' (i + 1) c') (i + 1) (((List.range (i + 1)).map (Cd.rowAt d gs k)).map bv) := by
            rw [← map_range_succ7 (Cd.rowAt d gs k), ← HVAL.out]
            exact ho
          have HO := Lib.hid (And.intro hx ho')
          clear hx ho ho' hc0 hc1
          go_wp2_with fail
          go_roundw
          case rel => exact ⟨i + 1, A', c', by omega, by go_num, rfl, HO.out⟩
          case measure => simp [intOf]; omega
      · by_cases hkg : k < d + gs.length
        · have hlk : k - d < gs.length := by omega
          obtain ⟨ad, u, rfl, hcell, hu⟩ := (Rs.ext (Rs.ext RI.ext) _ _ _ _ HR.out.1 HX.out.2).at hlk
          obtain ⟨B, cB, rfl, hlB⟩ := hu.form
          have hgb := HGO.out gs[k - d] (List.getElem_mem hlk)
          have hra := Cd.rowAt_in (gs := gs) i hkd hkg
          rw [getD_get hlk] at hra
          obtain ⟨g, hg⟩ : ∃ g, gs[k - d] = g := ⟨_, rfl⟩
          rw [hg] at hcell hu hlB hgb hra
          rw [Cd.inAt_set7 (d := d) hgb] at hra
          have HU := Lib.hid hu
          have HRA := Lib.hid hra
          clear hu hgb hra hg
          by_cases hm : (i : Int) ∈ g
          · have e4 : decide ((i : Int) ∈ g) = true := by simpa using hm
            have hval : Value.int .u8 1 = bv (Cd.rowAt d gs k i) := by rw [HRA.out, if_pos hm]; rfl
            clear hm
            have HVAL := Lib.hid hval
            clear hval
            go_wp2_with fail
            refine (rHas_any g i _ _ _ _ HU.out).mono ?_
            rintro e w1 ⟨rfl, rfl⟩
            rw [e4]
            go_wp2_with (at_builtin; refine wpl_append_new (w.alloc (.cells #[.int .i64 d, .slice (some ad) gs.length Gc, .int .i64 gl] 24)) 28 5 rfl _ _ rfl Tryd.underlying28 info_u8 rfl rfl HR.out.2 HR.out.1 rfl rfl (by omega) (by omega) ?_; intro A' c' w2 ho hx _)
            have ho' : w2.ownsRow (w.alloc (.cells #[.int .i64 d, .slice (some ad) gs.length Gc, .int .i64 gl] 24)).heap.size 5 1 (.slice A' (i + 1) c') (i + 1) (((List.range (i + 1)).map (Cd.rowAt d gs k)).map bv) := by
              rw [← map_range_succ7 (Cd.rowAt d gs k), ← HVAL.out]
              exact ho
            have HO := Lib.hid (And.intro hx ho')
            clear hx ho ho' hc0 hc1
            go_wp2_with fail
            go_roundw
            case rel => exact ⟨i + 1, A', c', by omega, by go_num, rfl, HO.out⟩
            case measure => simp [intOf]; omega
          · have e4 : decide ((i : Int) ∈ g) = false := by simpa using hm
            have hval : Value.int .u8 0 = bv (Cd.rowAt d gs k i) := by rw [HRA.out, if_neg hm]; rfl
            clear hm
            have HVAL := Lib.hid hval
            clear hval
            go_wp2_with fail
            refine (rHas_any g i _ _ _ _ HU.out).mono ?_
            rintro e w1 ⟨rfl, rfl⟩
            rw [e4]
            go_wp2_with (at_builtin; refine wpl_append_new (w.alloc (.cells #[.int .i64 d, .slice (some ad) gs.length Gc, .int .i64 gl] 24)) 28 5 rfl _ _ rfl Tryd.underlying28 info_u8 rfl rfl HR.out.2 HR.out.1 rfl rfl (by omega) (by omega) ?_; intro A' c' w2 ho hx _)
            have ho' : w2.ownsRow (w.alloc (.cells #[.int .i64 d, .slice (some ad) gs.length Gc, .int .i64 gl] 24)).heap.size 5 1 (.slice A' (i + 1) c') (i + 1) (((List.range (i + 1)).map (Cd.rowAt d gs k)).map bv) := by
              rw [← map_range_succ7 (Cd.rowAt d gs k), ← HVAL.out]
              exact ho
            have HO := Lib.hid (And.intro hx ho')
            clear hx ho ho' hc0 hc1
            go_wp2_with fail
            go_roundw
            case rel => exact ⟨i + 1, A', c', by omega, by go_num, rfl, HO.out⟩
            case measure => simp [intOf]; omega
        · obtain ⟨j, hj⟩ : ∃ j, k - d - gs.length = j := ⟨_, rfl⟩
          obtain ⟨m, hm⟩ : ∃ m, i * (j + 1) = m := ⟨_, rfl⟩
          have hj4 : j < 4 := by omega
          have hi16 : i < 16 := by omega
          have hm64 : m < 64 := by
            have := Nat.mul_le_mul (show i ≤ 15 by omega) (show j + 1 ≤ 4 by omega)
            omega
          have hmul : (i : Int) * ((k : Int) - (d : Int) - (gs.length : Int) + 1) = (m : Int) := by
            rw [← hm, Int.natCast_mul]
            congr 1
            omega
          have hval : Value.int .u8 (Gf.powN 2 m : Nat) = bv (Cd.rowAt d gs k i) := by
            rw [Cd.rowAt_glo i hkg, hj]
            show _ = Value.int .u8 ((Cd.gloAt j i).toNat : Int)
            rw [Cd.glo_val, hm, Nat.mod_eq_of_lt (by omega)]
          have hm2 : ((m : Int) % 255).toNat = m := by omega
          clear hj hm
          have HVAL := Lib.hid hval
          clear hval
          go_wp2_with fail
          refine (rexp (m : Int) _ (by omega) (by omega)).mono ?_
          rintro e w1 ⟨rfl, rfl⟩
          rw [hm2]
          go_wp2_with (at_builtin; refine wpl_append_new (w.alloc (.cells #[.int .i64 d, .slice GA gs.length Gc, .int .i64 gl] 24)) 28 5 rfl _ _ rfl Tryd.underlying28 info_u8 rfl rfl HR.out.2 HR.out.1 rfl rfl (by omega) (by omega) ?_; intro A' c' w2 ho hx _)
          have ho' : w2.ownsRow (w.alloc (.cells #[.int .i64 d, .slice GA gs.length Gc, .int .i64 gl] 24)).heap.size 5 1 (.slice A' (i + 1) c') (i + 1) (((List.range (i + 1)).map (Cd.rowAt d gs k)).map bv) := by
            rw [← map_range_succ7 (Cd.rowAt d gs k), ← HVAL.out]
            exact ho
          have HO := Lib.hid (And.intro hx ho')
          clear hx ho ho' hc0 hc1
          go_wp2_with fail
          go_roundw
          case rel => exact ⟨i + 1, A', c', by omega, by go_num, rfl, HO.out⟩
          case measure => simp [intOf]; omega
    · obtain rfl : i = d := by omega
      go_wp2_with fail
      go_ret
      exact ⟨A, cp, rfl, HX.out.1.trans HR.out.1, own_older HR.out.2 HX.out.1.size⟩
end Go.Proofs.YtdmljilcbndmfaaDoor
/- THE WALKS over the specification of codes: Rows, part, Encode, SameRows, SameTexts, Few. -/
namespace Cd
end Cd
namespace Go.Proofs.YtdmljilcbndmfaaDoor
open Go.RowKit
/-- A row of bytes that a call has made. -/
def byteRow (A : Option Addr) (c : Nat) (r : List UInt8) : LRow := ⟨.slice A r.length c, 5, 1, r.length, r.map bv⟩
/-- Rows of bytes that a call has made, and the list of them. -/
def RowsOwn (w0 w : World) (A : Option Addr) (n c : Nat) (rs : List (List UInt8)) : Prop :=
  ∃ L : List LRow, n = rs.length ∧ L.length = rs.length ∧ (∀ (j : Nat) (r : List UInt8), rs[j]? = some r → ∃ A2 c2, L[j]? = some (byteRow A2 c2 r)) ∧ Owns w0 w (⟨.slice A n c, 28, 1, n, L.map (·.v)⟩ :: L)
/-- The same with one row more, that is not in the list yet. -/
def RowsMore (w0 w : World) (A : Option Addr) (n c : Nat) (rs : List (List UInt8)) (A2 : Option Addr) (c2 : Nat) (r : List UInt8) : Prop :=
  ∃ L : List LRow, n = rs.length ∧ L.length = rs.length ∧ (∀ (j : Nat) (r : List UInt8), rs[j]? = some r → ∃ A2 c2, L[j]? = some (byteRow A2 c2 r)) ∧ Owns w0 w ((⟨.slice A n c, 28, 1, n, L.map (·.v)⟩ :: L) ++ [byteRow A2 c2 r])
theorem RowsOwn.nil (w : World) : RowsOwn w w none 0 0 [] := ⟨[], rfl, rfl, fun j r h => by simp at h, Owns.start w (by intro r hr; simp at hr; subst hr; exact ⟨rfl, rfl, rfl⟩)⟩
theorem RowsOwn.next {w0 w w' : World} {A : Option Addr} {n c : Nat} {rs : List (List UInt8)} (h : RowsOwn w0 w A n c rs) (hx : Ext w w') : RowsOwn w0 w' A n c rs := by
  obtain ⟨L, h1, h2, h3, h4⟩ := h
  exact ⟨L, h1, h2, h3, h4.next hx⟩
theorem RowsOwn.ext {w0 w : World} {A : Option Addr} {n c : Nat} {rs : List (List UInt8)} (h : RowsOwn w0 w A n c rs) : Ext w0 w := by
  obtain ⟨L, h1, h2, h3, h4⟩ := h
  exact h4.ext
theorem RowsOwn.more {w0 w w2 : World} {A A2 : Option Addr} {n c c2 : Nat} {rs : List (List UInt8)} {r : List UInt8} (h : RowsOwn w0 w A n c rs) (hx : Ext w w2) (ho : w2.ownsRow w.heap.size 5 1 (.slice A2 r.length c2) r.length (r.map bv)) : RowsMore w0 w2 A n c rs A2 c2 r := by
  obtain ⟨L, h1, h2, h3, h4⟩ := h
  exact ⟨L, h1, h2, h3, h4.behind hx ho⟩
theorem RowsOwn.rs {w0 w : World} {A : Option Addr} {n c : Nat} {rs : List (List UInt8)} (h : RowsOwn w0 w A n c rs) (hl : rs.length ≤ 9223372036854775807) (hw : ∀ r ∈ rs, r.length ≤ 9223372036854775807) : Rs (Rs RB) w (.slice A n c) rs := by
  obtain ⟨L, rfl, h2, h3, h4⟩ := h
  refine ⟨A, c, rfl, hl, fun i r hi => ?_⟩
  obtain ⟨A2, c2, hL⟩ := h3 i r hi
  have hv : (L.map (·.v))[i]? = some (.slice A2 r.length c2) := by rw [List.getElem?_map, hL]; rfl
  obtain ⟨ad, e1, _, e3⟩ := h4.rd 0 rfl i _ hv
  exact ⟨ad, _, e1, e3, Rs.of_rd (h4.rd (i + 1) (n := r.length) hL) (hw r (List.mem_of_getElem? hi))⟩
/-- 'out = append(out, r)': a row of bytes that is the call's own. -/
theorem wpl_append_row {P : Program} {w0 w : World} {e' : TypeId} {ops : Array Oper} {rest : List Oper} {o : Oper} {a : Act} {Q : Exit → Act → World → Prop} (t : TypeId) (hgd : o.guard = none) (s x : Operand)
    (ho : o.op = .call { callee := .builtin .append, args := #[s, x], argTypes := #[t, t] })
    {z : Value} (ht : P.underlying t = some (.slice 28)) (hi : (P.info? 28).map (fun i => (i.zero, i.size, i.bytes)) = some (some z, 1, 24)) (hz1 : z.cells.size = 1)
    {A A2 : Option Addr} {n c c2 m : Nat} {rs : List (List UInt8)} {r : List UInt8} (h : RowsMore w0 w A n c rs A2 c2 r) (hm : m = r.length) (hs : a.eval s = .slice A n c)
    (hx : a.eval x = .slice (some ⟨w.heap.size, 0, none⟩) 1 1) (hn : n < 1000000000000)
    (hK : ∀ A' c' w', RowsOwn w0 w' A' (n + 1) c' (rs ++ [r]) → wpList P ops Q rest (a.put o.dst (.slice A' (n + 1) c')) w') :
    wpList P ops Q (o :: rest) a (w.alloc (.cells #[.slice A2 m c2] e')) := by
  subst hm
  obtain ⟨L, h1, h2, h3, h4⟩ := h
  refine wpl_append_owns (u := .slice A2 r.length c2) t 28 hgd s x ho ht hi hz1 (h4.push1 (e := e')) 0 rfl hs hx (cell_of_row _ _ 0 #[_] e' (0, 0) (heap_new w _)) rfl hn (by decide) ?_
  intro g cap w' hO _
  refine hK _ _ _ ⟨L ++ [byteRow A2 c2 r], by simp [h1], by simp [h2], fun j q hj => ?_, ?_⟩
  · rw [List.getElem?_append] at hj ⊢
    rw [h2]
    split
    · rename_i hlt
      rw [if_pos hlt] at hj
      exact h3 j q hj
    · rename_i hlt
      rw [if_neg hlt] at hj
      cases hk : j - rs.length with
      | zero =>
        rw [hk] at hj
        simp at hj
        subst hj
        exact ⟨A2, c2, rfl⟩
      | succ k => rw [hk] at hj; simp at hj
  · have h5 := hO.sublist (L' := ⟨.slice (some ⟨g, 0, none⟩) (n + 1) cap, 28, 1, n + 1, L.map (·.v) ++ [.slice A2 r.length c2]⟩ :: (L ++ [byteRow A2 c2 r])) (by simp)
    simpa [byteRow] using h5
theorem rs_nil {α : Type} (R : World → Value → α → Prop) (w : World) : Rs R w (.slice none 0 0) [] := ⟨none, 0, rfl, by simp, fun i x h => by simp at h⟩
def rowsR (d : Nat) (gs : List (List Int)) (k : Nat) : List (List UInt8) := (List.range k).map fun j => (List.range d).map (Cd.rowAt d gs j)
theorem rowsR_succ (d : Nat) (gs : List (List Int)) (k : Nat) : rowsR d gs (k + 1) = rowsR d gs k ++ [(List.range d).map (Cd.rowAt d gs k)] := by simp [rowsR, List.range_succ]
theorem rowsR_all (d gl : Nat) (gs : List (List Int)) : rowsR d gs (d + gs.length + gl) = Cd.rows d gs gl := by
  apply List.ext_getElem
  · rw [Cd.rows_len]; simp [rowsR]
  · intro k h1 h2
    have := Cd.rows_get (d := d) (gl := gl) (gs := gs) (k := k) (by rw [← Cd.rows_len]; exact h2)
    rw [getD_get h2] at this
    rw [this]
    simp [rowsR]
theorem rowsR_len (d : Nat) (gs : List (List Int)) (k : Nat) : (rowsR d gs k).length = k := by simp [rowsR]
set_option maxHeartbeats 4000000 in
theorem rRows_any (d gl : Int) (gs : List (List Int)) (G : Value) (w : World) (hG : Rs (Rs RI) w G gs) (hn : gs.length ≤ 4611686018427387904) :
    Calls Tryd.prog 92 #[.agg #[.int .i64 d, G, .int .i64 gl]] w fun e w' => ∃ v, e = .returned v ∧ Rs (Rs RB) w' v (Cd.rowsOf d gs gl) ∧ Ext w w' := by
  have hx0 := (Ext.refl w).alloc (.cells #[.int .i64 d, G, .int .i64 gl] 24)
  have HX := Lib.hid (And.intro hx0 (Rs.ext (Rs.ext RI.ext) _ _ _ _ hx0 hG))
  obtain ⟨GA, Gc, rfl, hgl⟩ := hG.form
  by_cases h0 : Cd.check d gs gl = 0
  · have hck := Cd.check_ok h0
    obtain ⟨dn, rfl⟩ : ∃ n : Nat, d = n := ⟨d.toNat, by omega⟩
    obtain ⟨gn, rfl⟩ : ∃ n : Nat, gl = n := ⟨gl.toNat, by omega⟩
    obtain ⟨p, hp⟩ : ∃ p, dn + gs.length + gn = p := ⟨_, rfl⟩
    have hpc : Cd.pieces dn gs gn = (p : Int) := by rw [Cd.pieces_ok h0]; omega
    have hfin : rowsR dn gs p = Cd.rowsOf dn gs gn := by rw [Cd.rowsOf_ok h0, ← hp, rowsR_all]; rfl
    have hp24 : p ≤ 24 := by omega
    have hd16 : dn ≤ 16 := by omega
    have HP := Lib.hid (And.intro h0 (And.intro hp (And.intro hpc hfin)))
    clear hG hx0 h0 hck hp hpc hfin
    go_enter Tryd.func92, Tryd.ntmps92
    go_wp2_with fail
    go_loopw [3, 4] (fun vo vi wr => ∃ (i : Nat) (A : Option Addr) (cp : Nat), i ≤ p ∧ vi = .int .i64 i ∧ vo = .slice A i cp ∧ Hid (RowsOwn (w.alloc (.cells #[.int .i64 dn, .slice GA gs.length Gc, .int .i64 gn] 24)) wr A i cp (rowsR dn gs i))) (fun _ vi _ => p - (intOf vi).toNat)
    case atStart => exact ⟨0, none, 0, Nat.zero_le _, rfl, rfl, Lib.hid (RowsOwn.nil _)⟩
    case round =>
      obtain ⟨i, A, cp, hi, rfl, rfl, HR0⟩ := hrel
      have HR := Lib.hid (And.intro HR0.out.ext HR0.out)
      clear HR0
      have hc0 : wr.cell? ⟨w.heap.size, 0, none⟩ = some (.int .i64 dn) := HR.out.1.cell (by go_simp)
      have hc1 : wr.cell? ⟨w.heap.size, 1, none⟩ = some (.slice GA gs.length Gc) := HR.out.1.cell (by go_simp)
      have hc2 : wr.cell? ⟨w.heap.size, 2, none⟩ = some (.int .i64 gn) := HR.out.1.cell (by go_simp)
      have HC := Lib.hid (And.intro hc0 (And.intro hc1 hc2))
      go_wp2_with fail
      refine (rPieces_any dn gn gs _ _ (Rs.ext (Rs.ext RI.ext) _ _ _ _ HR.out.1 HX.out.2) hn).mono ?_
      rintro e w1 ⟨rfl, hx1⟩
      rw [HP.out.2.2.1]
      have hd0 : w1.cell? ⟨w.heap.size, 0, none⟩ = some (.int .i64 dn) := hx1.cell HC.out.1
      have hd1 : w1.cell? ⟨w.heap.size, 1, none⟩ = some (.slice GA gs.length Gc) := hx1.cell HC.out.2.1
      have hd2 : w1.cell? ⟨w.heap.size, 2, none⟩ = some (.int .i64 gn) := hx1.cell HC.out.2.2
      have HX1 := Lib.hid hx1
      clear hx1 hc0 hc1 hc2
      by_cases hlt : i < p
      · go_wp2_with fail
        refine (rRow_ok dn gn i gs _ _ (Rs.ext (Rs.ext RI.ext) _ _ _ _ (HR.out.1.trans HX1.out) HX.out.2) HP.out.1 (by rw [HP.out.2.1]; exact hlt)).mono ?_
        rintro e w2 ⟨A2, c2, rfl, hx2, ho2⟩
        have hmo : RowsMore (w.alloc (.cells #[.int .i64 dn, .slice GA gs.length Gc, .int .i64 gn] 24)) w2 A i cp (rowsR dn gs i) A2 c2 ((List.range dn).map (Cd.rowAt dn gs i)) := (HR.out.2.next HX1.out).more hx2 (by simpa using ho2)
        have HMO := Lib.hid hmo
        clear hx2 ho2 hmo hd0 hd1 hd2
        go_wp2_with (at_builtin; refine wpl_append_row 65 rfl _ _ rfl Tryd.underlying65 info_bytes rfl HMO.out (by simp) rfl rfl (by omega) ?_; intro A' c' w3 hO)
        have HO := Lib.hid hO
        clear hO
        go_wp2_with fail
        go_roundw
        case rel => exact ⟨i + 1, A', c', by omega, by go_num, rfl, by rw [rowsR_succ]; exact HO.out⟩
        case measure => simp [intOf]; omega
      · obtain rfl : i = p := by omega
        have HF := Lib.hid ((HR.out.2.next HX1.out).rs (by rw [rowsR_len]; omega) (fun r hr => by
          obtain ⟨j, _, rfl⟩ := List.mem_map.1 hr
          simp; omega))
        clear hd0 hd1 hd2
        go_wp2_with fail
        go_ret
        refine ⟨_, rfl, ?_, HX.out.1.trans (HR.out.1.trans HX1.out)⟩
        rw [← HP.out.2.2.2]
        exact HF.out
  · have hp := Cd.pieces_no h0
    have hr := Cd.rowsOf_no h0
    have HP := Lib.hid (And.intro hp hr)
    clear hG hx0 h0 hp hr
    go_enter Tryd.func92, Tryd.ntmps92
    go_wp2_with fail
    go_loopw [3, 4] (fun vo vi wr => vi = .int .i64 0 ∧ vo = .slice none 0 0 ∧ Hid (Ext (w.alloc (.cells #[.int .i64 d, .slice GA gs.length Gc, .int .i64 gl] 24)) wr)) (fun _ _ _ => 0)
    case atStart => exact ⟨rfl, rfl, Lib.hid (Ext.refl _)⟩
    case round =>
      obtain ⟨rfl, rfl, HR⟩ := hrel
      have hc0 : wr.cell? ⟨w.heap.size, 0, none⟩ = some (.int .i64 d) := HR.out.cell (by go_simp)
      have hc1 : wr.cell? ⟨w.heap.size, 1, none⟩ = some (.slice GA gs.length Gc) := HR.out.cell (by go_simp)
      have hc2 : wr.cell? ⟨w.heap.size, 2, none⟩ = some (.int .i64 gl) := HR.out.cell (by go_simp)
      go_wp2_with fail
      refine (rPieces_any d gl gs _ _ (Rs.ext (Rs.ext RI.ext) _ _ _ _ HR.out HX.out.2) hn).mono ?_
      rintro e w1 ⟨rfl, hx1⟩
      rw [HP.out.1]
      have HX1 := Lib.hid hx1
      clear hx1 hc0 hc1 hc2
      go_wp2_with fail
      go_ret
      refine ⟨_, rfl, ?_, HX.out.1.trans (HR.out.trans HX1.out)⟩
      rw [HP.out.2]
      exact rs_nil _ _
end Go.Proofs.YtdmljilcbndmfaaDoor
/- THE WALKS over the specification of codes: SameRows, SameTexts, Few. -/
namespace Cd
/-- At most n groups of at most 20 elements. -/
def few (gs : List (List Int)) (n : Nat) : Bool := decide (gs.length ≤ n) && gs.all fun g => decide (g.length ≤ 20)
theorem few_big {gs : List (List Int)} {n : Nat} (h : ¬ gs.length ≤ n) : few gs n = false := by simp [few, h]
theorem few_bad {gs : List (List Int)} {n g : Nat} (h : g < gs.length) (h2 : ¬ (gs[g]).length ≤ 20) : few gs n = false := by
  unfold few
  rw [Bool.and_eq_false_iff]
  right
  rw [List.all_eq_false]
  exact ⟨gs[g], List.getElem_mem h, by simpa using h2⟩
theorem few_ok {gs : List (List Int)} {n : Nat} (h : gs.length ≤ n) (h2 : ∀ g, g < gs.length → (gs.getD g []).length ≤ 20) : few gs n = true := by
  unfold few
  rw [Bool.and_eq_true, List.all_eq_true]
  refine ⟨by simpa using h, fun g hg => ?_⟩
  obtain ⟨i, hi, rfl⟩ := List.getElem_of_mem hg
  have := h2 i hi
  rw [Go.Proofs.YtdmljilcbndmfaaDoor.getD_get hi] at this
  simpa using this
end Cd
namespace Go.Proofs.YtdmljilcbndmfaaDoor
open Go.RowKit
theorem rFew_any (d gl : Int) (gs : List (List Int)) (n : Nat) (G : Value) (w : World) (hG : Rs (Rs RI) w G gs) (hn : n ≤ 1000) :
    Calls Tryd.prog 35 #[.agg #[.int .i64 d, G, .int .i64 gl], .int .i64 n] w fun e w' => e = .returned (.bool (Cd.few gs n)) ∧ Ext w w' := by
  have hx0 := (Ext.refl w).alloc (.cells #[.int .i64 d, G, .int .i64 gl] 24)
  have HX := Lib.hid (And.intro hx0 (Rs.ext (Rs.ext RI.ext) _ _ _ _ hx0 hG))
  obtain ⟨GA, Gc, rfl, hgl⟩ := hG.form
  clear hG hx0
  by_cases h1 : gs.length ≤ n
  · have H1 := Lib.hid h1
    go_enter Tryd.func35, Tryd.ntmps35
    go_wp2_with fail
    go_loop [5] (fun vi => ∃ i : Nat, i ≤ gs.length ∧ vi = .int .i64 i ∧ Hid (∀ j, j < i → (gs.getD j []).length ≤ 20)) (fun vi => gs.length - (intOf vi).toNat)
    case atStart => exact ⟨0, Nat.zero_le _, rfl, Lib.hid fun j hj => absurd hj (Nat.not_lt_zero j)⟩
    case round =>
      obtain ⟨i, hi, rfl, HI⟩ := hrel
      by_cases hlt : i < gs.length
      · obtain ⟨ad, u, rfl, hcell, hu⟩ := HX.out.2.at hlt
        obtain ⟨B, cB, rfl, hlB⟩ := hu.form
        have hgd := getD_get (x := ([] : List Int)) hlt
        have hbad := fun h => Cd.few_bad (n := n) hlt h
        obtain ⟨g, hg⟩ : ∃ g, gs[i] = g := ⟨_, rfl⟩
        rw [hg] at hcell hu hlB hgd hbad
        have HB := Lib.hid (And.intro hgd hbad)
        clear hgd hbad hu hg
        by_cases h2 : g.length ≤ 20
        · go_wp2_with fail
          go_round
          case rel => exact ⟨i + 1, by omega, by go_num, Lib.hid fun j hj => by
            by_cases hji : j = i
            · rw [hji, HB.out.1]; exact h2
            · exact HI.out j (by omega)⟩
          case measure => simp [intOf]; omega
        · go_wp2_with fail
          go_ret
          exact ⟨ret_bool (HB.out.2 h2).symm, HX.out.1⟩
      · obtain rfl : i = gs.length := by omega
        go_wp2_with fail
        go_ret
        exact ⟨ret_bool (Cd.few_ok H1.out HI.out).symm, HX.out.1⟩
  · go_enter Tryd.func35, Tryd.ntmps35
    go_wp2_with fail
    go_ret
    exact ⟨ret_bool (Cd.few_big h1).symm, HX.out.1⟩
end Go.Proofs.YtdmljilcbndmfaaDoor

/- THE WALKS over the specification of rebuilds: In, Rows, available. -/
namespace Go.Proofs.YtdmljilcbndmfaaDoor
open Go.RowKit
set_option maxHeartbeats 8000000 in
set_option maxRecDepth 100000 in
theorem sIn_any (lost k : Nat) (w : World) (hl : lost < 2 ^ 40) (hk : k ≤ 1000) :
    Calls Tryd.prog 74 #[.int .i64 (lost : Nat), .int .i64 (k : Nat)] w fun e w' => e = .returned (.bool (decide (lost / 2 ^ k % 2 = 1))) ∧ w = w' := by
  have HL := Lib.hid hl
  clear hl
  go_enter Tryd.func74, Tryd.ntmps74
  go_wp2_with fail
  go_loopw [0, 5] (fun v0 v5 wr => ∃ i x : Nat, i ≤ k ∧ v5 = .int .i64 (i : Nat) ∧ v0 = .int .i64 (x : Nat) ∧ wr = w ∧ Hid (x = lost / 2 ^ i)) (fun _ v5 _ => k - (intOf v5).toNat)
  case atStart => exact ⟨0, lost, Nat.zero_le _, rfl, rfl, rfl, Lib.hid (by simp)⟩
  case round =>
    obtain ⟨i, x, hi, rfl, rfl, rfl, HI⟩ := hrel
    have hx40 : x < 2 ^ 40 := by rw [HI.out]; exact Nat.lt_of_le_of_lt (Nat.div_le_self _ _) HL.out
    have hq : Int.tdiv (x : Int) 2 = ((x / 2 : Nat) : Int) := by simp [Int.tdiv_eq_ediv]
    have hr : Int.tmod (x : Int) 2 = ((x % 2 : Nat) : Int) := by simp [Int.tmod_eq_emod]
    obtain ⟨y, hy⟩ : ∃ y, x / 2 = y := ⟨_, rfl⟩
    obtain ⟨z, hz⟩ : ∃ z, x % 2 = z := ⟨_, rfl⟩
    rw [hy] at hq
    rw [hz] at hr
    have hy40 : y < 2 ^ 40 := by omega
    have HYZ := Lib.hid (And.intro hy hz)
    clear hy hz
    by_cases hlt : i < k
    · go_wp2_with fail
      go_roundw
      case rel => exact ⟨i + 1, y, by omega, by go_num, by go_num, (by first | trivial | rfl), Lib.hid (by rw [← HYZ.out.1, HI.out, Nat.div_div_eq_div_mul, Nat.pow_succ])⟩
      case measure => simp [intOf]; omega
    · obtain rfl : k = i := by omega
      go_wp2_with fail
      go_ret
      have := HYZ.out.2
      rw [HI.out] at this
      refine ⟨?_, rfl⟩
      rw [this]
      have e : ((z : Int) == 1) = decide (z = 1) := by
        by_cases h : z = 1
        · subst h; rfl
        · rw [decide_eq_false h, beq_eq_false_iff_ne]; omega
      rw [e]
      rfl
set_option maxHeartbeats 8000000 in
set_option maxRecDepth 100000 in
theorem sRows_any (d gl : Int) (gs : List (List Int)) (l : List Int) (G v : Value) (w : World) (hG : Rs (Rs RI) w G gs) (hn : gs.length ≤ 4611686018427387904) (hl : Rs RI w v l) (hl48 : l.length ≤ 48) (hfm : ∀ i ∈ l, 0 ≤ i ∧ i < ((Cd.rowsOf d gs gl).length : Int)) :
    Calls Tryd.prog 75 #[.agg #[.int .i64 d, G, .int .i64 gl], v] w fun e w' => ∃ v', e = .returned v' ∧ Rs (Rs RB) w' v' (Rb.rowsAt (Cd.rowsOf d gs gl) l) ∧ Ext w w' := by
  obtain ⟨GA, Gc, rfl, _⟩ := hG.form
  obtain ⟨LA, lc, rfl, _⟩ := hl.form
  obtain ⟨M, hM⟩ : ∃ M, Cd.rowsOf d gs gl = M := ⟨_, rfl⟩
  have hx0 := (Ext.refl w).alloc (.cells #[.int .i64 d, .slice GA gs.length Gc, .int .i64 gl] 24)
  have hrr := rRows_any d gl gs (.slice GA gs.length Gc) _ (Rs.ext (Rs.ext RI.ext) _ _ _ _ hx0 hG) hn
  rw [hM] at hrr hfm
  rw [hM]
  have HRR := Lib.hid hrr
  have HX := Lib.hid (And.intro hx0 hl)
  have HF := Lib.hid hfm
  obtain ⟨N, hN⟩ : ∃ N, l.length = N := ⟨_, rfl⟩
  have HN := Lib.hid hN
  rw [hN] at HX hl48 ⊢
  clear hx0 hrr hG hl hfm hM hN
  go_enter Tryd.func75, Tryd.ntmps75
  go_wp2_with fail
  refine HRR.out.mono ?_
  clear HRR
  rintro e w1 ⟨va, rfl, hva, hx1⟩
  obtain ⟨VA, vc, rfl, _⟩ := hva.form
  have HX1 := Lib.hid (HX.out.1.trans hx1)
  have HL1 := Lib.hid (Rs.ext RI.ext _ _ _ _ HX1.out HX.out.2)
  have HV := Lib.hid hva
  obtain ⟨nm, hnm⟩ : ∃ nm, M.length = nm := ⟨_, rfl⟩
  have HNM := Lib.hid hnm
  rw [hnm] at HV ⊢
  clear hva hx1 hnm HX
  go_wp2_with fail
  go_loopw [6, 7] (fun v6 v7 wr => ∃ (k cc : Nat) (cA : Option Addr), k ≤ N ∧ v7 = .int .i64 (k : Nat) ∧ v6 = .slice cA k cc ∧ Hid (∃ vs : List Value, Owns w1 wr [⟨.slice cA k cc, 28, 1, k, vs⟩] ∧ vs.length = k ∧ ∀ i, i < k → Rs RB w1 (vs.getD i (.slice none 0 0)) (M.getD ((l.getD i 0).toNat) []))) (fun _ v7 _ => N - (intOf v7).toNat)
  case atStart => exact ⟨0, 0, none, Nat.zero_le _, rfl, rfl, Lib.hid ⟨[], Owns.start w1 (L := [nilRow 28]) (by intro r hr; simp at hr; subst hr; exact ⟨rfl, rfl, rfl⟩), rfl, fun i h => absurd h (by omega)⟩⟩
  case round =>
    obtain ⟨k, cc, cA, hk, rfl, rfl, HI⟩ := hrel
    obtain ⟨vs, hO, hvl, hin⟩ := HI.out
    by_cases hlt : k < N
    · obtain ⟨al, ul, hal, hcl, hul⟩ := (Rs.ext RI.ext _ _ _ _ hO.ext HL1.out).at (i := k) (by rw [HN.out]; exact hlt)
      subst hal
      have hue := hul.1
      subst hue
      have hmem := HF.out _ (List.getElem_mem (show k < l.length by rw [HN.out]; exact hlt))
      obtain ⟨y, hy⟩ : ∃ y, l[k]'(by rw [HN.out]; exact hlt) = y := ⟨_, rfl⟩
      have hyk : l.getD k 0 = y := by rw [List.getD_eq_getElem?_getD, List.getElem?_eq_getElem (by rw [HN.out]; exact hlt)]; exact hy
      rw [hy] at hcl hmem
      obtain ⟨q, rfl⟩ : ∃ q : Nat, y = (q : Int) := ⟨y.toNat, by omega⟩
      have hq : q < nm := by have := HNM.out; omega
      obtain ⟨av, uv, hav, hcv0, huv⟩ := HV.out.at (i := q) (by rw [HNM.out]; exact hq)
      have hcv := hO.ext.cell hcv0
      clear hcv0
      subst hav
      obtain ⟨QA, cq, rfl, _⟩ := huv.form
      have hrow : M.getD ((l.getD k 0).toNat) [] = M[q]'(by rw [HNM.out]; exact hq) := by
        rw [hyk, Int.toNat_natCast, List.getD_eq_getElem?_getD, List.getElem?_eq_getElem (by rw [HNM.out]; exact hq)]; rfl
      rw [← hrow] at hcv huv
      obtain ⟨rl, hrl⟩ : ∃ rl, (M.getD ((l.getD k 0).toNat) []).length = rl := ⟨_, rfl⟩
      rw [hrl] at hcv huv
      have HU := Lib.hid (And.intro huv (And.intro hvl hin))
      have HO := Lib.hid hO
      clear hul hy hyk hmem huv hrow hrl hO hvl hin
      go_wp2_with (refine wpl_append_owns (u := .slice QA rl cq) 65 28 rfl (.tmp 16) (.tmp 24) rfl Tryd.underlying65 info_bytes rfl HO.out.push1 0 rfl rfl rfl (cell_of_row _ _ 0 _ _ (0, 0) (heap_new _ _)) rfl (by omega) (by decide) ?_; intro g9 c9 w9 hO9 hg9)
      have hfin : Owns w1 w9 [⟨.slice (some ⟨g9, 0, none⟩) (k + 1) c9, 28, 1, k + 1, vs ++ [.slice QA rl cq]⟩] := hO9.front (M := [⟨.slice (some ⟨wr.heap.size, 0, none⟩) 1 1, 28, 1, 1, [.slice QA rl cq]⟩])
      have HFI := Lib.hid hfin
      clear hO9 hg9 hfin hcl hcv HO
      go_roundw
      case rel =>
        refine ⟨k + 1, c9, some ⟨g9, 0, none⟩, by omega, by go_num, (by first | trivial | rfl), Lib.hid ⟨_, HFI.out, by rw [List.length_append, HU.out.2.1]; rfl, fun i hi => ?_⟩⟩
        by_cases he : i = k
        · rw [he, List.getD_eq_getElem?_getD (l := vs ++ _), List.getElem?_append_right (by have := HU.out.2.1; omega), HU.out.2.1, Nat.sub_self]
          exact HU.out.1
        · rw [List.getD_eq_getElem?_getD (l := vs ++ _), List.getElem?_append_left (by have := HU.out.2.1; omega), ← List.getD_eq_getElem?_getD]
          exact HU.out.2.2 i (by omega)
      case measure => simp [intOf]; omega
    · obtain rfl : N = k := by omega
      have hrs : Rs (Rs RB) wr (.slice cA N cc) (Rb.rowsAt M l) := by
        refine ⟨cA, cc, by rw [Rb.rowsAt, List.length_map, HN.out], by rw [Rb.rowsAt, List.length_map, HN.out]; omega, fun i x hi => ?_⟩
        have hin2 := (List.getElem?_eq_some_iff.1 hi).1
        rw [Rb.rowsAt, List.length_map, HN.out] at hin2
        have hx : M.getD ((l.getD i 0).toNat) [] = x := by
          rw [Rb.rowsAt, List.getElem?_map, List.getElem?_eq_getElem (by rw [HN.out]; exact hin2)] at hi
          rw [List.getD_eq_getElem?_getD (l := l), List.getElem?_eq_getElem (by rw [HN.out]; exact hin2)]
          exact Option.some.inj hi
        obtain ⟨ad, hA1, _, hc⟩ := hO.rd 0 rfl i (vs.getD i (.slice none 0 0)) (by rw [List.getD_eq_getElem?_getD, List.getElem?_eq_getElem (by omega)]; rfl)
        refine ⟨ad, _, hA1, hc, ?_⟩
        rw [← hx]
        exact Rs.ext RB.ext _ _ _ _ hO.ext (hin i hin2)
      have HRS := Lib.hid (And.intro hrs (HX1.out.trans hO.ext))
      clear hrs hO hvl hin
      go_wp2_with fail
      go_ret
      exact ⟨_, rfl, HRS.out.1, HRS.out.2⟩
end Go.Proofs.YtdmljilcbndmfaaDoor

/- THE WALK over available of the specification of rebuilds. -/
namespace Go.Proofs.YtdmljilcbndmfaaDoor
open Go.RowKit
set_option maxHeartbeats 8000000 in
set_option maxRecDepth 100000 in
theorem sAvail_any (d gl : Int) (gs : List (List Int)) (n lost : Nat) (p : Int) (G : Value) (w : World) (hG : Rs (Rs RI) w G gs) (hgn : gs.length ≤ 4611686018427387904) (hpn : Cd.pieces d gs gl = (n : Int)) (hn : n ≤ 24) (hl : lost < 2 ^ 40) (hp : -1 ≤ p) (hp2 : p ≤ 1000) :
    Calls Tryd.prog 45 #[.agg #[.int .i64 d, G, .int .i64 gl], .int .i64 (lost : Nat), .int .i64 p] w fun e w' => ∃ A m c, e = .returned (.slice A m c) ∧ Rs RI w' (.slice A m c) (Rb.avail n lost p) ∧ Ext w w' ∧ m ≤ c ∧ m ≤ 24 := by
  obtain ⟨GA, Gc, rfl, _⟩ := hG.form
  obtain ⟨ng, hng⟩ : ∃ ng, gs.length = ng := ⟨_, rfl⟩
  have HL := Lib.hid hl
  have hB : Owns w (w.alloc (.cells #[.int .i64 d, .slice GA ng Gc, .int .i64 gl] 24)) [⟨.slice (some ⟨w.heap.size, 0, none⟩) 3 3, 24, 1, 3, [.int .i64 d, .slice GA ng Gc, .int .i64 gl]⟩] := (Owns.start w (L := [no]) (by intro r hr; simp at hr; subst hr; exact ⟨rfl, rfl, rfl⟩)).new 0 #[.int .i64 d, .slice GA ng Gc, .int .i64 gl] 24 (by simp [maxLen])
  rw [hng] at hG ⊢
  have HG := Lib.hid (And.intro hG (And.intro hgn hpn))
  have HB := Lib.hid hB
  clear hl hG hgn hpn hB hng
  go_enter Tryd.func45, Tryd.ntmps45
  go_upto_region 1 with fail
  obtain ⟨Q, hQ⟩ : ∃ Q, w.heap.size = Q := ⟨_, rfl⟩
  rw [hQ] at HB ⊢
  obtain ⟨w1, hw1⟩ : ∃ x, w.alloc (.cells #[.int .i64 d, .slice GA ng Gc, .int .i64 gl] 24) = x := ⟨_, rfl⟩
  rw [hw1] at HB ⊢
  clear hw1 hQ
  go_wp2_with fail
  go_loopw [7, 8] (fun vo vi wr => ∃ (k m c : Nat) (A : Option Addr), k ≤ n ∧ m ≤ k ∧ vi = .int .i64 (k : Nat) ∧ vo = .slice A m c ∧ Hid (m = (Rb.avail k lost p).length ∧ Owns w wr [⟨.slice (some ⟨Q, 0, none⟩) 3 3, 24, 1, 3, [.int .i64 d, .slice GA ng Gc, .int .i64 gl]⟩, ⟨.slice A m c, 3, 1, m, (Rb.avail k lost p).map (.int .i64)⟩])) (fun _ vi _ => n - (intOf vi).toNat)
  case atStart => exact ⟨0, 0, 0, none, Nat.zero_le _, Nat.le_refl _, rfl, rfl, Lib.hid ⟨rfl, HB.out.nilled⟩⟩
  case round =>
    obtain ⟨k, m, c, A, hk, hm, rfl, rfl, HI⟩ := hrel
    have b0 : wr.cell? ⟨Q, 0, none⟩ = some (.int .i64 d) := HI.out.2.cell 0 rfl 0 rfl
    have b1 : wr.cell? ⟨Q, 1, none⟩ = some (.slice GA ng Gc) := HI.out.2.cell 0 rfl 1 rfl
    have b2 : wr.cell? ⟨Q, 2, none⟩ = some (.int .i64 gl) := HI.out.2.cell 0 rfl 2 rfl
    have hpc := rPieces_any d gl gs _ wr (Rs.ext (Rs.ext RI.ext) _ _ _ _ HI.out.2.ext HG.out.1) HG.out.2.1
    rw [HG.out.2.2] at hpc
    have HP := Lib.hid hpc
    clear hpc
    go_wp2_with fail
    refine HP.out.mono ?_
    clear HP
    rintro e w4 ⟨rfl, hx4⟩
    have HO4 := Lib.hid (HI.out.2.next hx4)
    have HM4 := Lib.hid HI.out.1
    clear HI hx4 b0 b1 b2
    by_cases hlt : k < n
    · obtain ⟨bt, hbt⟩ : ∃ bt, decide (lost / 2 ^ k % 2 = 1) = bt := ⟨_, rfl⟩
      have hin := sIn_any lost k w4 HL.out (by omega)
      rw [hbt] at hin
      have HIN := Lib.hid hin
      have hbit : Cd.bitAt lost k = 0 ↔ bt = false := by
        rw [← hbt, decide_eq_false_iff_not]
        have : lost / 2 ^ k % 2 < 2 := Nat.mod_lt _ (by decide)
        show lost / 2 ^ k % 2 = 0 ↔ _
        omega
      have HBT := Lib.hid hbit
      clear hin hbt hbit
      go_wp2_with fail
      refine HIN.out.mono ?_
      clear HIN
      rintro e w' ⟨rfl, rfl⟩
      cases bt with
      | true =>
        have hs := Rb.avail_off (lost := lost) (k := k) (p := p) (fun e => by have := HBT.out.1 e.1; cases this)
        have HS := Lib.hid hs
        clear hs
        go_wp2_with fail
        go_roundw
        case rel => exact ⟨k + 1, m, c, A, by omega, by omega, by go_num, (by first | trivial | rfl), Lib.hid ⟨by rw [HS.out]; exact HM4.out, by rw [HS.out]; exact HO4.out⟩⟩
        case measure => simp [intOf]; omega
      | false =>
        by_cases hkp : (k : Int) = p
        · have hs := Rb.avail_off (lost := lost) (k := k) (p := p) (fun e => e.2 hkp)
          have HS := Lib.hid hs
          subst hkp
          clear hs
          go_wp2_with fail
          go_roundw
          case rel => exact ⟨k + 1, m, c, A, by omega, by omega, by go_num, (by first | trivial | rfl), Lib.hid ⟨by rw [HS.out]; exact HM4.out, by rw [HS.out]; exact HO4.out⟩⟩
          case measure => simp [intOf]; omega
        · have hs := Rb.avail_on (lost := lost) (k := k) (p := p) (HBT.out.2 rfl) hkp
          have HS := Lib.hid hs
          have hne : ((k : Int) != p) = true := by rw [bne_iff_ne]; exact hkp
          have hne2 : ((k : Int) == p) = false := by rw [beq_eq_false_iff_ne]; exact hkp
          clear hs
          go_wp2_with (refine wpl_append_owns (u := .int .i64 (k : Nat)) 27 3 rfl (.tmp 26) (.tmp 28) rfl Tryd.underlying27 info_int rfl HO4.out.push1 1 rfl rfl rfl (cell_of_row _ _ 0 _ _ (0, 0) (heap_new _ _)) rfl (by omega) (by decide) ?_; intro g9 c9 w9 hO9 hg9)
          have hfin : Owns w w9 [⟨.slice (some ⟨Q, 0, none⟩) 3 3, 24, 1, 3, [.int .i64 d, .slice GA ng Gc, .int .i64 gl]⟩, ⟨.slice (some ⟨g9, 0, none⟩) (m + 1) c9, 3, 1, m + 1, (Rb.avail (k + 1) lost p).map (.int .i64)⟩] := by
            refine Owns.front (M := [⟨.slice (some ⟨w4.heap.size, 0, none⟩) 1 1, 3, 1, 1, [.int .i64 (k : Nat)]⟩]) ?_
            rw [HS.out, List.map_append]
            exact hO9
          have HF := Lib.hid hfin
          clear hO9 hg9 hfin hne hne2 hkp
          go_roundw
          case rel => exact ⟨k + 1, m + 1, c9, some ⟨g9, 0, none⟩, by omega, by omega, by go_num, (by first | trivial | rfl), Lib.hid ⟨by rw [HS.out, List.length_append, ← HM4.out]; rfl, HF.out⟩⟩
          case measure => simp [intOf]; omega
    · obtain rfl : n = k := by omega
      have hrs : Rs RI w4 (.slice A m c) (Rb.avail n lost p) := by
        have hrd := HO4.out.rd 1 (A := A) (n := m) (c := c) (e := 3) rfl
        refine ⟨A, c, by rw [← HM4.out], by rw [← HM4.out]; omega, fun i x hi => ?_⟩
        obtain ⟨ad, hA, _, hcell⟩ := hrd i (.int .i64 x) (by rw [List.getElem?_map, hi]; rfl)
        have hb := Rb.avail_bounds (List.mem_of_getElem? hi)
        exact ⟨ad, _, hA, hcell, rfl, by omega, by omega⟩
      have hcap : m ≤ c := Owns.cap (HO4.out.sublist (L' := [⟨.slice A m c, 3, 1, m, (Rb.avail n lost p).map (.int .i64)⟩]) (by simp))
      have hm24 : m ≤ 24 := by omega
      have HR := Lib.hid (And.intro hrs (And.intro hcap hm24))
      clear hrs hcap hm24
      go_wp2_with fail
      go_ret
      exact ⟨_, _, _, rfl, HR.out.1, HO4.out.ext, HR.out.2.1, HR.out.2.2⟩
end Go.Proofs.YtdmljilcbndmfaaDoor

/- THE WALK over wrong of the specification of rebuilds. -/
namespace Go.Proofs.YtdmljilcbndmfaaDoor
open Go.RowKit
set_option maxHeartbeats 8000000 in
set_option maxRecDepth 100000 in
theorem sWrong_any (d gl : Int) (gs : List (List Int)) (lost piece : Int) (G : Value) (w : World) (hG : Rs (Rs RI) w G gs) (hgn : gs.length ≤ 4611686018427387904) :
    Calls Tryd.prog 44 #[.agg #[.int .i64 d, G, .int .i64 gl], .int .i64 lost, .int .i64 piece] w fun e w' => e = .returned (.int .i64 (Rb.err1 d gl gs lost piece)) ∧ Ext w w' := by
  obtain ⟨GA, Gc, rfl, _⟩ := hG.form
  obtain ⟨ng, hng⟩ : ∃ ng, gs.length = ng := ⟨_, rfl⟩
  have hx1 := (Ext.refl w).alloc (.cells #[.int .i64 d, .slice GA ng Gc, .int .i64 gl] 24)
  have hB : Owns w (w.alloc (.cells #[.int .i64 d, .slice GA ng Gc, .int .i64 gl] 24)) [⟨.slice (some ⟨w.heap.size, 0, none⟩) 3 3, 24, 1, 3, [.int .i64 d, .slice GA ng Gc, .int .i64 gl]⟩] := (Owns.start w (L := [no]) (by intro r hr; simp at hr; subst hr; exact ⟨rfl, rfl, rfl⟩)).new 0 #[.int .i64 d, .slice GA ng Gc, .int .i64 gl] 24 (by simp [maxLen])
  rw [hng] at hG ⊢
  have hpn : Cd.check d gs gl = 0 → Cd.pieces d gs gl = ((Cd.rowsOf d gs gl).length : Int) := fun h => by rw [Cd.pieces_ok h, Cd.rowsOf_len h]
  have hn24 : Cd.check d gs gl = 0 → (Cd.rowsOf d gs gl).length ≤ 24 := fun h => by have h1 := Cd.rowsOf_len h; have h2 := Cd.check_ok h; omega
  obtain ⟨er, her⟩ : ∃ er, Rb.err1 d gl gs lost piece = er := ⟨_, rfl⟩
  rw [her]
  have HER := Lib.hid her
  have HPN := Lib.hid (And.intro hpn hn24)
  clear her hpn hn24
  have HG := Lib.hid (And.intro hG hgn)
  have HB := Lib.hid hB
  clear hG hgn hB hng hx1
  go_enter Tryd.func44, Tryd.ntmps44
  go_upto_region 1 with fail
  obtain ⟨Q, hQ⟩ : ∃ Q, w.heap.size = Q := ⟨_, rfl⟩
  rw [hQ] at HB ⊢
  obtain ⟨w1, hw1⟩ : ∃ x, w.alloc (.cells #[.int .i64 d, .slice GA ng Gc, .int .i64 gl] 24) = x := ⟨_, rfl⟩
  rw [hw1] at HB ⊢
  clear hw1 hQ
  have HCK := Lib.hid (rCheck_any d gl gs _ w1 (Rs.ext (Rs.ext RI.ext) _ _ _ _ HB.out.ext HG.out.1) HG.out.2)
  have b0 : w1.cell? ⟨Q, 0, none⟩ = some (.int .i64 d) := HB.out.cell 0 rfl 0 rfl
  have b1 : w1.cell? ⟨Q, 1, none⟩ = some (.slice GA ng Gc) := HB.out.cell 0 rfl 1 rfl
  have b2 : w1.cell? ⟨Q, 2, none⟩ = some (.int .i64 gl) := HB.out.cell 0 rfl 2 rfl
  go_wp2_with fail
  refine HCK.out.mono ?_
  clear HCK
  rintro e w2 ⟨rfl, hx2⟩
  have HB2 := Lib.hid (HB.out.next hx2)
  clear hx2 b0 b1 b2
  obtain ⟨ck, hck⟩ : ∃ ck, Cd.check d gs gl = ck := ⟨_, rfl⟩
  rw [hck]
  have HC := Lib.hid hck
  clear hck
  by_cases h0 : ck = 0
  case neg =>
    have hne : (ck == 0) = false := by rw [beq_eq_false_iff_ne]; exact h0
    have hne2 : (ck != 0) = true := by rw [bne_iff_ne]; exact h0
    have he : er = ck := by rw [← HER.out, Rb.err1_bad (by rw [Rb.err0_bad (by rw [HC.out]; exact h0), HC.out]; exact h0), Rb.err0_bad (by rw [HC.out]; exact h0), HC.out]
    have HE := Lib.hid he
    clear h0 he
    go_wp2_with fail
    go_ret
    exact ⟨by rw [HE.out]; rfl, HB2.out.ext⟩
  case pos =>
    subst h0
    have hpn := HPN.out.1 HC.out
    have hn24 := HPN.out.2 HC.out
    obtain ⟨n, hn⟩ : ∃ n, (Cd.rowsOf d gs gl).length = n := ⟨_, rfl⟩
    rw [hn] at hpn hn24
    have HP := Lib.hid (rPieces_any d gl gs _ w2 (Rs.ext (Rs.ext RI.ext) _ _ _ _ HB2.out.ext HG.out.1) HG.out.2)
    have hp := HP.out
    rw [hpn] at hp
    have HP2 := Lib.hid hp
    have HN := Lib.hid hn
    have b0 : w2.cell? ⟨Q, 0, none⟩ = some (.int .i64 d) := HB2.out.cell 0 rfl 0 rfl
    have b1 : w2.cell? ⟨Q, 1, none⟩ = some (.slice GA ng Gc) := HB2.out.cell 0 rfl 1 rfl
    have b2 : w2.cell? ⟨Q, 2, none⟩ = some (.int .i64 gl) := HB2.out.cell 0 rfl 2 rfl
    clear hp HP hn hpn
    go_wp2_with fail
    refine HP2.out.mono ?_
    clear HP2
    rintro e w3 ⟨rfl, hx3⟩
    have HX3 := Lib.hid (HB2.out.next hx3).ext
    clear hx3 b0 b1 b2
    by_cases h16 : 16 < n
    case pos =>
      have h16' : (16 : Int) < (n : Int) := by omega
      have he : er = 2 := by
        have h1 := Rb.err0_many (lost := lost) HC.out (by rw [HN.out]; exact h16)
        rw [← HER.out, Rb.err1_bad (by rw [h1]; decide), h1]
      have HE := Lib.hid he
      clear he
      go_wp2_with fail
      go_ret
      exact ⟨by rw [HE.out]; rfl, HX3.out⟩
    case neg =>
      have h16' : ¬ (16 : Int) < (n : Int) := by omega
      obtain ⟨wo, rfl⟩ : ∃ wo, wo = w3 := ⟨_, rfl⟩
      go_wp2_with fail
      go_loopw [9, 10] (fun v9 v10 wr => ∃ k y : Nat, k ≤ n ∧ v10 = .int .i64 (k : Nat) ∧ v9 = .int .i64 (y : Nat) ∧ wr = wo ∧ Hid (y = 2 ^ k)) (fun _ v10 _ => n - (intOf v10).toNat)
      case atStart => exact ⟨0, 1, Nat.zero_le _, rfl, rfl, rfl, Lib.hid (by simp)⟩
      case round =>
        obtain ⟨k, y, hk, rfl, rfl, hwr, HI⟩ := hrel
        subst hwr
        have hy : y ≤ 65536 := by
          rw [HI.out]
          exact Nat.le_trans (Nat.pow_le_pow_right (by decide) (show k ≤ 16 by omega)) (by decide)
        by_cases hlt : k < n
        · go_wp2_with fail
          go_roundw
          case rel => exact ⟨k + 1, 2 * y, by omega, by go_num, by go_num, (by first | trivial | rfl), Lib.hid (by rw [HI.out, Nat.pow_succ]; omega)⟩
          case measure => simp [intOf]; omega
        · obtain rfl : n = k := by omega
          have hy2 := HI.out
          have hend : ∀ (b : Bool), ((lost < 0 ∨ (y : Int) ≤ lost ∨ piece < 0 ∨ (n : Int) ≤ piece) ↔ b = true) → er = if b then 1 else 0 := fun b hb => by
            rw [← HER.out]
            by_cases hl : lost < 0 ∨ ((2 ^ (Cd.rowsOf d gs gl).length : Nat) : Int) ≤ lost
            · have h1 := Rb.err0_lost HC.out (by rw [HN.out]; exact h16) hl
              rw [HN.out, ← hy2] at hl
              have hbt : b = true := hb.1 (by omega)
              rw [Rb.err1_bad (by rw [h1]; decide), h1, hbt]; rfl
            · have h1 := Rb.err0_ok HC.out (by rw [HN.out]; exact h16) hl
              rw [HN.out, ← hy2] at hl
              by_cases hp : piece < 0 ∨ ((Cd.rowsOf d gs gl).length : Int) ≤ piece
              · rw [Rb.err1_piece h1 hp]
                rw [HN.out] at hp
                have hbt : b = true := hb.1 (by omega)
                rw [hbt]; rfl
              · rw [Rb.err1_ok h1 hp]
                rw [HN.out] at hp
                have hbt : b = false := Bool.eq_false_iff.2 fun e => by have := hb.2 e; omega
                rw [hbt]; rfl
          have HEND := Lib.hid hend
          clear hend hy2
          by_cases c1 : lost < 0
          · have he := HEND.out true ⟨fun _ => rfl, fun _ => .inl c1⟩
            have HE := Lib.hid he
            clear he
            go_wp2_with fail
            go_ret
            exact ⟨by rw [HE.out]; rfl, HX3.out⟩
          by_cases c2 : (y : Int) ≤ lost
          · have he := HEND.out true ⟨fun _ => rfl, fun _ => .inr (.inl c2)⟩
            have HE := Lib.hid he
            clear he
            go_wp2_with fail
            go_ret
            exact ⟨by rw [HE.out]; rfl, HX3.out⟩
          by_cases c3 : piece < 0
          · have he := HEND.out true ⟨fun _ => rfl, fun _ => .inr (.inr (.inl c3))⟩
            have HE := Lib.hid he
            clear he
            go_wp2_with fail
            go_ret
            exact ⟨by rw [HE.out]; rfl, HX3.out⟩
          by_cases c4 : (n : Int) ≤ piece
          · have he := HEND.out true ⟨fun _ => rfl, fun _ => .inr (.inr (.inr c4))⟩
            have HE := Lib.hid he
            clear he
            go_wp2_with fail
            go_ret
            exact ⟨by rw [HE.out]; rfl, HX3.out⟩
          · have he := HEND.out false ⟨fun h => by omega, fun h => by cases h⟩
            have HE := Lib.hid he
            clear he
            go_wp2_with fail
            go_ret
            exact ⟨by rw [HE.out]; rfl, HX3.out⟩
end Go.Proofs.YtdmljilcbndmfaaDoor

/- An append of some elements, or of none, to a row of the call's own. -/
namespace Go.Proofs.YtdmljilcbndmfaaDoor
open Go.RowKit
theorem run_append_zero2 {P : Program} {t ty e : TypeId} {z : Value} {bytes : Nat} (ht : P.underlying t = some (.slice e)) (hi : (P.info? e).map (fun i => (i.zero, i.size, i.bytes)) = some (some z, 1, bytes)) (w : World) (b n c0 : Nat) (hnc : n ≤ c0) (B : Option Addr) (c : Nat) :
    (Builtin.append_ #[t, t] ty #[.slice (some ⟨b, 0, none⟩) n c0, .slice B 0 c]).run P w = .ok (.slice (some ⟨b, 0, none⟩) n c0) w := by
  obtain ⟨i0, hi0, hiz, hi1, hi2⟩ := info_parts hi
  cases B <;> simp [Builtin.append_, run_underlying ht, sizeOf, typeInfo, hi0, hi1, Builtin.lenOf, Builtin.firstCells, loadCells, loadCellsFrom, storeCells, Result.andThen, hnc]
/-- An append of any number of elements. -/
theorem run_append_more {P : Program} {w0 w : World} {L : List LRow} (t ty e : TypeId) {z : Value} {bytes : Nat} (ht : P.underlying t = some (.slice e)) (hi : (P.info? e).map (fun i => (i.zero, i.size, i.bytes)) = some (some z, 1, bytes)) (hzs : z.cells.size = 1)
    (h : Owns w0 w L) (i : Nat) {b n c0 : Nat} {xs : List Value} (hL : L[i]? = some ⟨.slice (some ⟨b, 0, none⟩) n c0, e, 1, n, xs⟩) (hnc : n ≤ c0) {B : Option Addr} {m c : Nat} {news : List Value}
    (hl : news.length = m) (hrd : Rd w B news) (h1 : ∀ u ∈ news, u.oneCell' = true) (hm : m + n < 100000000000) (hb : bytes ≤ 100) :
    ∃ g cap w', (Builtin.append_ #[t, t] ty #[.slice (some ⟨b, 0, none⟩) n c0, .slice B m c]).run P w = .ok (.slice (some ⟨g, 0, none⟩) (n + m) cap) w' ∧ Owns w0 w' (L.set i ⟨.slice (some ⟨g, 0, none⟩) (n + m) cap, e, 1, n + m, xs ++ news⟩) := by
  by_cases h0 : m = 0
  · subst h0
    have hn : news = [] := List.length_eq_zero_iff.1 hl
    subst hn
    refine ⟨b, c0, w, run_append_zero2 (P := P) (ty := ty) ht hi w b n c0 hnc B c, ?_⟩
    rw [List.append_nil, Nat.add_zero]
    have e : L.set i ⟨.slice (some ⟨b, 0, none⟩) n c0, e, 1, n, xs⟩ = L := by
      apply List.ext_getElem?
      intro j
      rw [List.getElem?_set]
      split
      · rename_i hij
        subst hij
        split
        · rw [hL]
        · rename_i hlt; rw [List.getElem?_eq_none (by omega)]
      · rfl
    rw [e]
    exact h
  · obtain ⟨ad, rfl, _, _⟩ := hrd.at (k := 0) (by omega)
    have hbb : (n + m) * bytes ≤ (n + m) * 100 := Nat.mul_le_mul_left _ hb
    obtain ⟨g, cap, w', hr, h2, _, _⟩ := run_append_owns (P := P) t ty e ht hi hzs (by decide) h i hL ad m c news (by omega) (fun j u hj => (hrd.all (List.getElem?_eq_some_iff.1 hj).1).trans (by rw [(List.getElem?_eq_some_iff.1 hj).2])) h1 (by omega) (by unfold maxLen; omega) (by omega)
    exact ⟨g, cap, w', hr, h2⟩
theorem wpOp_append_more {P : Program} {w0 w : World} {L : List LRow} {ops : Array Oper} {o : Oper} {a : Act} {Q : Exit → Act → World → Prop} {K : Act → World → Prop} {i0 : Nat} (hi0 : ops[i0]? = some o) (hg : o.guard = none) (t e : TypeId) {s x : Operand}
    (ho : o.op = .call { callee := .builtin .append, args := #[s, x], argTypes := #[t, t] })
    {z : Value} {bytes : Nat} (ht : P.underlying t = some (.slice e)) (hi : (P.info? e).map (fun i => (i.zero, i.size, i.bytes)) = some (some z, 1, bytes)) (hzs : z.cells.size = 1)
    (h : Owns w0 w L) (i : Nat) {b n c0 : Nat} {xs : List Value} (hL : L[i]? = some ⟨.slice (some ⟨b, 0, none⟩) n c0, e, 1, n, xs⟩) (hnc : n ≤ c0) (hs : a.eval s = .slice (some ⟨b, 0, none⟩) n c0) {B : Option Addr} {m c : Nat} {news : List Value}
    (hx : a.eval x = .slice B m c) (hl : news.length = m) (hrd : Rd w B news) (h1 : ∀ u ∈ news, u.oneCell' = true) (hm : m + n < 100000000000) (hb : bytes ≤ 100)
    (hK : ∀ g cap w', Owns w0 w' (L.set i ⟨.slice (some ⟨g, 0, none⟩) (n + m) cap, e, 1, n + m, xs ++ news⟩) → K (a.put o.dst (.slice (some ⟨g, 0, none⟩) (n + m) cap)) w') : wpOp P ops Q i0 K a w := by
  obtain ⟨g, cap, w', hr, h2⟩ := run_append_more (P := P) t o.type e ht hi hzs h i hL hnc (c := c) hl hrd h1 hm hb
  refine wpOp_value hi0 hg ?_ (hK g cap w' h2)
  unfold execOp
  simp only [ho, resolve, invoke, builtin, Sem.run_bind, Sem.run_pure, Result.andThen_ok, List.map_toArray, List.map_cons, List.map_nil, hs, hx, hr]
end Go.Proofs.YtdmljilcbndmfaaDoor

/- THE DRAWN REGION of Choices of the specification of rebuilds. -/
namespace Go.Proofs.YtdmljilcbndmfaaDoor
open Go.RowKit
theorem info_si8 : (Tryd.prog.info? 27).map (fun i => (i.zero, i.size, i.bytes)) = some (some (.slice none 0 0), 1, 24) := by kernel_rfl
theorem one_ints8 {l : List Int} : ∀ u ∈ l.map (Value.int .i64), u.oneCell' = true := fun u hu => by
  obtain ⟨x, _, rfl⟩ := List.mem_map.1 hu
  rfl
theorem Owns.drew2 {w0 w : World} {r : LRow} {L : List LRow} (h : Owns w0 w (r :: L)) : Owns w0 w.drew (r :: no :: no :: L) := by
  have h3 := h.drew.wider.wider
  refine h3.perm ?_
  have e : ((r :: L) ++ [no]) ++ [no] = r :: (L ++ [no, no]) := by simp
  rw [e]
  exact List.Perm.cons _ (List.perm_append_comm (l₁ := L) (l₂ := [no, no]))
/-- What a call owns, behind what was owned ahead of it. -/
theorem Owns.merge {w0 w1 w2 : World} {L M : List LRow} (h : Owns w0 w1 L) (h2 : Owns w1 w2 M) : Owns w0 w2 (L ++ M) := by
  have hn := h.next h2.ext
  refine Owns.of_pairwise hn.ext (fun r hr => ?_) (List.pairwise_append.mpr ⟨hn.pairwise, h2.pairwise, fun a ha b hb => ?_⟩)
  · rcases List.mem_append.1 hr with h3 | h3
    · exact hn.all r h3
    · have ho := h2.all r h3
      exact ⟨ho.1, ho.2.imp id fun ⟨g, cap, cur, e1, e2, e3⟩ => ⟨g, cap, cur, e1, Nat.le_trans h.ext.size e2, e3⟩⟩
  · unfold LRow.far
    cases hv : a.v.ownBlock with
    | none => exact .inl rfl
    | some g =>
      refine .inr fun hh => ?_
      have h3 := (World.ownsRow.lt (h.all a ha) g hv).2
      have h4 := (World.ownsRow.lt (h2.all b hb) g hh.symm).1
      omega
/-- Lists of numbers, all in blocks of the call's own. -/
def ChO (w0 W : World) (q oc : Nat) (oA : Option Addr) (LL : List LRow) (ys : List (List Int)) : Prop := ∃ vs : List Value, Owns w0 W (⟨.slice oA q oc, 27, 1, q, vs⟩ :: LL) ∧ vs.length = q ∧ ys.length = q ∧ ∀ i, i < q → ∃ g c m, m = (ys.getD i []).length ∧ vs[i]? = some (.slice (some ⟨g, 0, none⟩) m c) ∧ (⟨.slice (some ⟨g, 0, none⟩) m c, 3, 1, m, (ys.getD i []).map (.int .i64)⟩ : LRow) ∈ LL
theorem ChO.push {w0 W' : World} {q g10 k10 g12 k12 m : Nat} {LL : List LRow} {ys : List (List Int)} {x : List Int} {vs : List Value} (hvl : vs.length = q) (hyl : ys.length = q)
    (hin : ∀ i, i < q → ∃ g c m, m = (ys.getD i []).length ∧ vs[i]? = some (.slice (some ⟨g, 0, none⟩) m c) ∧ (⟨.slice (some ⟨g, 0, none⟩) m c, 3, 1, m, (ys.getD i []).map (.int .i64)⟩ : LRow) ∈ LL) (hm : m = x.length)
    (hO : Owns w0 W' (⟨.slice (some ⟨g12, 0, none⟩) (q + 1) k12, 27, 1, q + 1, vs ++ [.slice (some ⟨g10, 0, none⟩) m k10]⟩ :: ⟨.slice (some ⟨g10, 0, none⟩) m k10, 3, 1, m, x.map (.int .i64)⟩ :: LL)) :
    ChO w0 W' (q + 1) k12 (some ⟨g12, 0, none⟩) (⟨.slice (some ⟨g10, 0, none⟩) m k10, 3, 1, m, x.map (.int .i64)⟩ :: LL) (ys ++ [x]) := by
  refine ⟨_, hO, by rw [List.length_append, hvl]; rfl, by rw [List.length_append, hyl]; rfl, fun i hi => ?_⟩
  by_cases he : i = q
  · have e : (ys ++ [x]).getD i [] = x := by rw [he, List.getD_eq_getElem?_getD, List.getElem?_append_right (by omega), hyl, Nat.sub_self]; rfl
    rw [e]
    exact ⟨g10, k10, m, hm, by rw [he, List.getElem?_append_right (by omega), hvl, Nat.sub_self]; rfl, List.mem_cons_self⟩
  · have e : (ys ++ [x]).getD i [] = ys.getD i [] := by rw [List.getD_eq_getElem?_getD, List.getElem?_append_left (by omega), ← List.getD_eq_getElem?_getD]
    rw [e]
    obtain ⟨g, c, m', e1, e2, e3⟩ := hin i (by omega)
    exact ⟨g, c, m', e1, by rw [List.getElem?_append_left (by omega)]; exact e2, List.mem_cons_of_mem _ e3⟩
noncomputable def ch11_code : Code := ((Tryd.f46.body.bind (regionOf 11)).getD .skip)
def ch11_dsts : List (Option Nat) := [some 32, some 33, some 34, some 35, some 36, some 37, some 38, some 39, some 40, some 41, some 42, some 43, some 44, some 5]
theorem ch11_apart : apartD ch11_dsts = true := by decide +kernel
set_option maxRecDepth 1000000 in
set_option maxHeartbeats 16000000 in
theorem ch11 (w0 wr : World) (k i N cl nr cr m cx q oc : Nat) (oA XA : Option Addr) (la ra : Addr) (y : Int) (xs : List Int) (vs : List Value) (LL : List LRow) (hkN : k < N) (hin : i < nr) (hq : q < 1000000000) (hxl : xs.length = m) (hm : m ≤ 1000) (hy : w0.cell? (la.add k) = some (.int .i64 y)) (HR : Hid (∀ (W : World) (R0 R1 R2 : LRow), Owns w0 W (R0 :: R1 :: R2 :: LL) → W.cell? (ra.add i) = some (.slice XA m cx))) (HRD : Hid (∀ (W : World) (R0 R1 R2 : LRow), Owns w0 W (R0 :: R1 :: R2 :: LL) → Rd W XA (xs.map (Value.int .i64)))) (HOO : Hid (Owns w0 wr (⟨.slice oA q oc, 27, 1, q, vs⟩ :: LL))) (c1 c2 c3 c4 c9 c10 c11 c12 c13 c14 c15 c16 c17 c18 c19 c20 c21 c22 c23 c24 c25 c26 c27 c28 c29 c30 c31 c32 c33 c34 c35 c36 c37 c38 c39 c40 c41 c42 c43 c44 c45 : Value) (df : List Deferred) (K : Act → World → Prop)
    (hK : ∀ (g10 k10 g12 k12 : Nat) (u32 u33 u34 u35 u36 u37 u38 u39 u40 u41 u42 u43 u44 : Value) (wx : World), Owns w0 wx (⟨.slice (some ⟨g12, 0, none⟩) (q + 1) k12, 27, 1, q + 1, vs ++ [.slice (some ⟨g10, 0, none⟩) (1 + m) k10]⟩ :: ⟨.slice (some ⟨g10, 0, none⟩) (1 + m) k10, 3, 1, 1 + m, [.int .i64 y] ++ xs.map (Value.int .i64)⟩ :: LL) → K ⟨#[.slice (some la) N cl, c1, c2, c3, c4, .slice (some ⟨g12, 0, none⟩) (q + 1) k12, .int .i64 (k : Nat), .slice (some ra) nr cr, .int .i64 (i : Nat), c9, c10, c11, c12, c13, c14, c15, c16, c17, c18, c19, c20, c21, c22, c23, c24, c25, c26, c27, c28, c29, c30, c31, u32, u33, u34, u35, u36, u37, u38, u39, u40, u41, u42, u43, u44, c45], df⟩ wx) :
    Code.wp Tryd.prog ch11_code (AtEnd K) ⟨#[.slice (some la) N cl, c1, c2, c3, c4, .slice oA q oc, .int .i64 (k : Nat), .slice (some ra) nr cr, .int .i64 (i : Nat), c9, c10, c11, c12, c13, c14, c15, c16, c17, c18, c19, c20, c21, c22, c23, c24, c25, c26, c27, c28, c29, c30, c31, c32, c33, c34, c35, c36, c37, c38, c39, c40, c41, c42, c43, c44, c45], df⟩ wr := by
  conv => arg 2; whnf
  refine region_inv (by kernel_rfl) [[], [], [], [1, 2], [3], [4], [], [], [6, 7], [8], [5, 9], [10], [0, 11, 10], [12, 12, 0, 1, 2, 3, 4, 5, 6, 7, 8, 9, 10, 11, 12]] (by kernel_rfl) [0, 1, 2, 3, 4, 5, 6, 7, 8, 9, 10, 11, 12, 13] (by decide +kernel) (by decide +kernel) (by decide +kernel) (fun L a wc => ∃ (g5 : Nat) (g10 : Nat) (k10 : Nat) (g11 : Nat) (g12 : Nat) (k12 : Nat), InvO ch11_dsts [.slice oA q oc, .slice (some la) N cl, .int .i64 (k : Nat), .pointer (some (la.add k)), .int .i64 y, .slice (some ⟨g5, 0, none⟩) 1 1, .slice (some ra) nr cr, .int .i64 (i : Nat), .pointer (some (ra.add i)), .slice XA m cx, .slice (some ⟨g10, 0, none⟩) (1 + m) k10, .slice (some ⟨g11, 0, none⟩) 1 1, .slice (some ⟨g12, 0, none⟩) (q + 1) k12, .slice (some ⟨g12, 0, none⟩) (q + 1) k12] ⟨#[.slice (some la) N cl, c1, c2, c3, c4, .slice oA q oc, .int .i64 (k : Nat), .slice (some ra) nr cr, .int .i64 (i : Nat), c9, c10, c11, c12, c13, c14, c15, c16, c17, c18, c19, c20, c21, c22, c23, c24, c25, c26, c27, c28, c29, c30, c31, c32, c33, c34, c35, c36, c37, c38, c39, c40, c41, c42, c43, c44, c45], df⟩ L a ∧ Hid (Owns w0 wc ((if L 12 = true then ⟨.slice (some ⟨g12, 0, none⟩) (q + 1) k12, 27, 1, q + 1, vs ++ [.slice (some ⟨g10, 0, none⟩) (1 + m) k10]⟩ else ⟨.slice oA q oc, 27, 1, q, vs⟩) :: (if L 10 = true then ⟨.slice (some ⟨g10, 0, none⟩) (1 + m) k10, 3, 1, 1 + m, [.int .i64 y] ++ xs.map (Value.int .i64)⟩ else if L 5 = true then ⟨.slice (some ⟨g5, 0, none⟩) 1 1, 3, 1, 1, [.int .i64 y]⟩ else no) :: (if L 11 = true then ⟨.slice (some ⟨g11, 0, none⟩) 1 1, 27, 1, 1, [.slice (some ⟨g10, 0, none⟩) (1 + m) k10]⟩ else no) :: LL))) ⟨0, 0, 0, 0, 0, 0, InvO.start, Lib.hid (HOO.out.drew2)⟩ ?_ ?_
  · refine ⟨?_, ?_, ?_, ?_, ?_, ?_, ?_, ?_, ?_, ?_, ?_, ?_, ?_, ?_, trivial⟩
    ·
      rintro L a wc ⟨g5, g10, k10, g11, g12, k12, hv, HO⟩ hL hc hd
      exact wpOp_val rfl rfl (ex_move rfl ((hv.old 13 5 rfl (Bool.eq_false_iff.2 fun h => Bool.false_ne_true (hL.symm.trans (hc 13 h 0 (by decide))))).trans rfl)) ⟨g5, g10, k10, g11, g12, k12, hv.put ch11_apart 0 rfl (lb rfl) (lb rfl) rfl, HO⟩
    ·
      rintro L a wc ⟨g5, g10, k10, g11, g12, k12, hv, HO⟩ hL hc hd
      exact wpOp_val rfl rfl (ex_move rfl ((hv.fixed 0 (by decide)).trans rfl)) ⟨g5, g10, k10, g11, g12, k12, hv.put ch11_apart 1 rfl (lb rfl) (lb rfl) rfl, HO⟩
    ·
      rintro L a wc ⟨g5, g10, k10, g11, g12, k12, hv, HO⟩ hL hc hd
      exact wpOp_val rfl rfl (ex_move rfl ((hv.fixed 6 (by decide)).trans rfl)) ⟨g5, g10, k10, g11, g12, k12, hv.put ch11_apart 2 rfl (lb rfl) (lb rfl) rfl, HO⟩
    ·
      rintro L a wc ⟨g5, g10, k10, g11, g12, k12, hv, HO⟩ hL hc hd
      have u1 : (0 : Int) ≤ (k : Int) := by omega
      have u2 : (k : Int) < (N : Int) := by omega
      exact wpOp_val rfl rfl (ex_index rfl (hv.get 1 rfl rfl (hd 1 (by decide))) (hv.get 2 rfl rfl (hd 2 (by decide))) (by go_simp)) ⟨g5, g10, k10, g11, g12, k12, hv.put ch11_apart 3 rfl (lb rfl) (lb rfl) rfl, HO⟩
    ·
      rintro L a wc ⟨g5, g10, k10, g11, g12, k12, hv, HO⟩ hL hc hd
      have h0 : wc.cell? (la.add k) = some (.int .i64 y) := HO.out.ext.cell hy
      exact wpOp_val rfl rfl (ex_load rfl (hv.get 3 rfl rfl (hd 3 (by decide))) (by go_simp)) ⟨g5, g10, k10, g11, g12, k12, hv.put ch11_apart 4 rfl (lb rfl) (lb rfl) rfl, HO⟩
    ·
      rintro L a wc ⟨g5, g10, k10, g11, g12, k12, hv, HO⟩ hL hc hd
      have n10 : L 10 = false := Bool.eq_false_iff.2 fun h => Bool.false_ne_true (hL.symm.trans (hc 10 h 5 (by decide)))
      have h := HO.out
      rw [if_neg (show ¬ (L 10 = true) from by simp [n10]), if_neg (show ¬ (L 5 = true) from by simp [hL])] at h
      have hn := h.new 1 #[.int .i64 y] 3 (by simp [maxLen])
      exact wpOp_value rfl rfl (ex_build rfl Tryd.underlying27 info_int (hv.get 4 rfl rfl (hd 4 (by decide))) rfl) ⟨wc.heap.size, g10, k10, g11, g12, k12, hv.put ch11_apart 5 rfl (lb rfl) (lb rfl) rfl, Lib.hid (by rw [if_neg (show ¬ (upd L 5 10 = true) from by simp [upd, n10]), if_pos (show upd L 5 5 = true from by simp [upd])]; exact hn)⟩
    ·
      rintro L a wc ⟨g5, g10, k10, g11, g12, k12, hv, HO⟩ hL hc hd
      exact wpOp_val rfl rfl (ex_move rfl ((hv.fixed 7 (by decide)).trans rfl)) ⟨g5, g10, k10, g11, g12, k12, hv.put ch11_apart 6 rfl (lb rfl) (lb rfl) rfl, HO⟩
    ·
      rintro L a wc ⟨g5, g10, k10, g11, g12, k12, hv, HO⟩ hL hc hd
      exact wpOp_val rfl rfl (ex_move rfl ((hv.fixed 8 (by decide)).trans rfl)) ⟨g5, g10, k10, g11, g12, k12, hv.put ch11_apart 7 rfl (lb rfl) (lb rfl) rfl, HO⟩
    ·
      rintro L a wc ⟨g5, g10, k10, g11, g12, k12, hv, HO⟩ hL hc hd
      have u1 : (0 : Int) ≤ (i : Int) := by omega
      have u2 : (i : Int) < (nr : Int) := by omega
      exact wpOp_val rfl rfl (ex_index rfl (hv.get 6 rfl rfl (hd 6 (by decide))) (hv.get 7 rfl rfl (hd 7 (by decide))) (by go_simp)) ⟨g5, g10, k10, g11, g12, k12, hv.put ch11_apart 8 rfl (lb rfl) (lb rfl) rfl, HO⟩
    ·
      rintro L a wc ⟨g5, g10, k10, g11, g12, k12, hv, HO⟩ hL hc hd
      have h0 : wc.cell? (ra.add i) = some (.slice XA m cx) := HR.out _ _ _ _ HO.out
      exact wpOp_val rfl rfl (ex_load rfl (hv.get 8 rfl rfl (hd 8 (by decide))) (by go_simp)) ⟨g5, g10, k10, g11, g12, k12, hv.put ch11_apart 9 rfl (lb rfl) (lb rfl) rfl, HO⟩
    ·
      rintro L a wc ⟨g5, g10, k10, g11, g12, k12, hv, HO⟩ hL hc hd
      have n11 : L 11 = false := Bool.eq_false_iff.2 fun h => Bool.false_ne_true (hL.symm.trans (hc 11 h 10 (by decide)))
      have n12 : L 12 = false := Bool.eq_false_iff.2 fun h => Bool.false_ne_true (hL.symm.trans (hc 11 (hc 12 h 11 (by decide)) 10 (by decide)))
      have h5 : L 5 = true := hd 5 (by decide)
      have h := HO.out
      rw [if_neg (show ¬ (L 12 = true) from by simp [n12]), if_neg (show ¬ (L 10 = true) from by simp [hL]), if_pos h5, if_neg (show ¬ (L 11 = true) from by simp [n11])] at h
      refine wpOp_append_more rfl rfl 27 3 rfl Tryd.underlying27 info_int rfl h 1 rfl (Nat.le_refl _) (hv.get 5 rfl rfl h5) (hv.get 9 rfl rfl (hd 9 (by decide))) (by rw [List.length_map]; exact hxl) (HRD.out _ _ _ _ h) one_ints8 (by omega) (by decide) ?_
      intro gg cc w2 hO2
      have hv := hv.reset 10 hL (.slice (some ⟨gg, 0, none⟩) (1 + m) cc)
      exact ⟨g5, gg, cc, g11, g12, k12, hv.put ch11_apart 10 rfl (lb rfl) (lb rfl) rfl, Lib.hid (by rw [if_neg (show ¬ (upd L 10 12 = true) from by simp [upd, n12]), if_pos (show upd L 10 10 = true from by simp [upd]), if_neg (show ¬ (upd L 10 11 = true) from by simp [upd, n11])]; exact hO2)⟩
    ·
      rintro L a wc ⟨g5, g10, k10, g11, g12, k12, hv, HO⟩ hL hc hd
      have h := HO.out
      rw [if_neg (show ¬ (L 11 = true) from by simp [hL])] at h
      have hn := h.new 2 #[.slice (some ⟨g10, 0, none⟩) (1 + m) k10] 27 (by simp [maxLen])
      exact wpOp_value rfl rfl (ex_build rfl Tryd.underlying22 info_si8 (hv.get 10 rfl rfl (hd 10 (by decide))) rfl) ⟨g5, g10, k10, wc.heap.size, g12, k12, hv.put ch11_apart 11 rfl (lb rfl) (lb rfl) rfl, Lib.hid (by rw [if_pos (show upd L 11 11 = true from by simp [upd])]; exact hn)⟩
    ·
      rintro L a wc ⟨g5, g10, k10, g11, g12, k12, hv, HO⟩ hL hc hd
      have h11 : L 11 = true := hd 11 (by decide)
      have h := HO.out
      rw [if_neg (show ¬ (L 12 = true) from by simp [hL]), if_pos h11] at h
      refine wpOp_append rfl rfl 22 27 rfl Tryd.underlying22 info_si8 rfl h 0 rfl (hv.get 0 rfl rfl (hd 0 (by decide))) (hv.get 11 rfl rfl h11) (h.cell 2 rfl 0 rfl) rfl (by omega) (by decide) ?_
      intro gg cc w2 hO2
      have hv := hv.reset 12 hL (.slice (some ⟨gg, 0, none⟩) (q + 1) cc)
      have n13 : L 13 = false := Bool.eq_false_iff.2 fun h => Bool.false_ne_true (hL.symm.trans (hc 13 h 12 (by decide)))
      have hv := hv.reset 13 n13 (.slice (some ⟨gg, 0, none⟩) (q + 1) cc)
      exact ⟨g5, g10, k10, g11, gg, cc, hv.put ch11_apart 12 rfl (lb rfl) (lb rfl) rfl, Lib.hid (by rw [if_pos (show upd L 12 12 = true from by simp [upd]), if_pos (show upd L 12 11 = true from by simp [upd, h11])]; exact hO2)⟩
    ·
      rintro L a wc ⟨g5, g10, k10, g11, g12, k12, hv, HO⟩ hL hc hd
      exact wpOp_val rfl rfl (ex_assign rfl (hv.get 12 rfl rfl (hd 12 (by decide)))) ⟨g5, g10, k10, g11, g12, k12, hv.put ch11_apart 13 rfl (lb rfl) (lb rfl) rfl, HO⟩
  · rintro L a wc ⟨g5, g10, k10, g11, g12, k12, hv, HO⟩ hall
    show K a wc
    have ha := act_lit a
    rw [hv.size, hv.defers] at ha
    have hl : ∀ f : Nat → Value, ((List.range (⟨#[.slice (some la) N cl, c1, c2, c3, c4, .slice oA q oc, .int .i64 (k : Nat), .slice (some ra) nr cr, .int .i64 (i : Nat), c9, c10, c11, c12, c13, c14, c15, c16, c17, c18, c19, c20, c21, c22, c23, c24, c25, c26, c27, c28, c29, c30, c31, c32, c33, c34, c35, c36, c37, c38, c39, c40, c41, c42, c43, c44, c45], df⟩ : Act).tmps.size).map f).toArray = #[f 0, f 1, f 2, f 3, f 4, f 5, f 6, f 7, f 8, f 9, f 10, f 11, f 12, f 13, f 14, f 15, f 16, f 17, f 18, f 19, f 20, f 21, f 22, f 23, f 24, f 25, f 26, f 27, f 28, f 29, f 30, f 31, f 32, f 33, f 34, f 35, f 36, f 37, f 38, f 39, f 40, f 41, f 42, f 43, f 44, f 45] := fun _ => rfl
    rw [hl] at ha
    simp only [hv.fixed 0 (by decide), hv.fixed 1 (by decide), hv.fixed 2 (by decide), hv.fixed 3 (by decide), hv.fixed 4 (by decide), hv.fixed 6 (by decide), hv.fixed 7 (by decide), hv.fixed 8 (by decide), hv.fixed 9 (by decide), hv.fixed 10 (by decide), hv.fixed 11 (by decide), hv.fixed 12 (by decide), hv.fixed 13 (by decide), hv.fixed 14 (by decide), hv.fixed 15 (by decide), hv.fixed 16 (by decide), hv.fixed 17 (by decide), hv.fixed 18 (by decide), hv.fixed 19 (by decide), hv.fixed 20 (by decide), hv.fixed 21 (by decide), hv.fixed 22 (by decide), hv.fixed 23 (by decide), hv.fixed 24 (by decide), hv.fixed 25 (by decide), hv.fixed 26 (by decide), hv.fixed 27 (by decide), hv.fixed 28 (by decide), hv.fixed 29 (by decide), hv.fixed 30 (by decide), hv.fixed 31 (by decide), hv.fixed 45 (by decide), hv.get 13 (d := 5) rfl rfl (hall 13 (by decide))] at ha
    rw [ha]
    have hO := HO.out
    rw [if_pos (hall 12 (by decide)), if_pos (hall 10 (by decide))] at hO
    exact hK g10 k10 g12 k12 _ _ _ _ _ _ _ _ _ _ _ _ _ wc (hO.sublist (by simp))
end Go.Proofs.YtdmljilcbndmfaaDoor
