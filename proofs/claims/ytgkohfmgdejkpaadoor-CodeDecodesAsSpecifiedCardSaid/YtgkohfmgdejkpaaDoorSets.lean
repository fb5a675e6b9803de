/- THE WALK over sets: an iterator. -/
import Derived.Test.YtgkohfmgdejkpaaDoorSetsR
import Derived.Test.YtgkohfmgdejkpaaDoorDecW
namespace Cd
/-- The sets below k with so many elements. -/
def setsTo (sz k : Nat) : List Nat := (List.range k).filter fun s => Ones.cnt s == sz
def setsL (n sz : Nat) : List Nat := setsTo sz (2 ^ n)
theorem setsTo_zero (sz : Nat) : setsTo sz 0 = [] := rfl
theorem setsTo_yes {sz k : Nat} (h : Ones.cnt k = sz) : setsTo sz (k + 1) = setsTo sz k ++ [k] := by
  simp [setsTo, List.range_succ, List.filter_append, h]
theorem setsTo_no {sz k : Nat} (h : Ones.cnt k ≠ sz) : setsTo sz (k + 1) = setsTo sz k := by
  simp [setsTo, List.range_succ, List.filter_append, h]
theorem setsTo_len {sz : Nat} {k m : Nat} (h : k ≤ m) : (setsTo sz k).length ≤ (setsTo sz m).length := by
  obtain ⟨d, rfl⟩ : ∃ d, m = k + d := ⟨m - k, by omega⟩
  clear h
  induction d with
  | zero => exact Nat.le_refl _
  | succ d ih =>
    by_cases hc : Ones.cnt (k + d) = sz
    · rw [← Nat.add_assoc, setsTo_yes hc, List.length_append]; omega
    · rw [← Nat.add_assoc, setsTo_no hc]; exact ih
end Cd
namespace Go.Proofs.YtgkohfmgdejkpaaDoor
open Go.RowKit Go.Shelf
attribute [local go_sem] Oper.semAt_some
theorem cSets_any (n sz : Int) (w : World) : Calls Tryd.prog 44 #[.int .i64 n, .int .i64 sz] w fun e w' => e = .returned (.func (.func 61) #[] #[.pointer (some ⟨w.heap.size, 0, none⟩), .pointer (some ⟨w.heap.size + 1, 0, none⟩)]) ∧ w' = (w.alloc (.cells #[.int .i64 n] 3)).alloc (.cells #[.int .i64 sz] 3) := by
  go_enter Tryd.func44, Tryd.ntmps44
  go_wp2_with fail
  go_ret
  exact ⟨rfl, rfl⟩
def SetsS (n sz : Nat) (xs : List SetN) : Prop := xs.map (·.1) = Cd.setsL n sz
def SetsSp (n sz : Nat) (pre : List SetN) : Prop := ∃ k, k < 2 ^ n ∧ pre.map (·.1) = Cd.setsTo sz (k + 1)
set_option maxRecDepth 100000 in
set_option maxHeartbeats 4000000 in
theorem sets1_stops (n sz Bn Bs m : Nat) (w : World) (hn : n ≤ 14) (h1 : w.cell? ⟨Bn, 0, none⟩ = some (.int .i64 n)) (h2 : w.cell? ⟨Bs, 0, none⟩ = some (.int .i64 sz)) :
    SeqStopsK Fence.wide m Tryd.prog 61 #[.pointer (some ⟨Bn, 0, none⟩), .pointer (some ⟨Bs, 0, none⟩)] encN (Below w.heap.size) (SetsS n sz) (SetsSp n sz) (Cd.setsL n sz).length w := by
  intro l J Jx W hW hJ hJx hY h0
  have hp : 2 ^ n ≤ 2 ^ 14 := Nat.pow_le_pow_right (by decide) hn
  have c1 : W.cell? ⟨Bn, 0, none⟩ = some (.int .i64 n) := (Below.cell hW (lt_of_cell h1)).trans h1
  have hwp := wrap_pow n (by omega)
  obtain ⟨N, hN⟩ : ∃ N, 2 ^ n = N := ⟨_, rfl⟩
  rw [hN] at hwp hp
  have HN := Lib.hid hN
  have HY := Lib.hid hY
  have HJ := Lib.hid hJ
  have HJX := Lib.hid hJx
  have H0 := Lib.hid h0
  have HW := Lib.hid hW
  have HC := Lib.hid (And.intro h1 h2)
  clear hJ hJx hY h0 hN h1 h2 hW
  refine callsIn_of_wp Tryd.func61 rfl trivial ?_ rfl
  simp only [Tryd.ntmps61, List.size_toArray, List.length_cons, List.length_nil, Nat.reduceAdd, Nat.reduceSub, Array.replicate_succ, Array.replicate_zero, List.push_toArray, List.append_toArray, List.nil_append, List.cons_append]
  gi_wp2
  rw [hwp]
  gi_loopw [7] (fun v wr => ∃ (k : Nat) (pre : List SetN), k ≤ N ∧ v = .int .i64 k ∧ Hid (pre.map (·.1) = Cd.setsTo sz k ∧ J pre wr ∧ Below w.heap.size w wr)) (fun v _ => N - (intOf v).toNat)
  case atStart => exact ⟨0, [], Nat.zero_le _, rfl, rfl, H0.out, HW.out⟩
  case round =>
    obtain ⟨k, pre, hk, rfl, HI⟩ := hrel
    by_cases hlt : k < N
    · have hk2 : k < 16384 := by omega
      have hbs : wr.drew.cell? ⟨Bs, 0, none⟩ = some (.int .i64 sz) := (Below.cell HI.out.2.2 (lt_of_cell HC.out.2)).trans HC.out.2
      have hJd : J pre wr.drew := HJ.out pre wr wr.drew none HI.out.2.1 ⟨rfl, rfl, rfl, Nat.le_refl _, fun _ _ _ => rfl⟩ (fun r e => by cases e)
      have HBS := Lib.hid hbs
      clear hbs
      by_cases hcnt : Ones.cnt k = sz
      · have hlen : pre.length < (Cd.setsL n sz).length := by
          have h1 : (Cd.setsTo sz (k + 1)).length ≤ (Cd.setsL n sz).length := Cd.setsTo_len (by rw [HN.out]; omega)
          rw [Cd.setsTo_yes hcnt, ← HI.out.1] at h1
          simp at h1
          omega
        have hy := HY.out pre ⟨k, hk2⟩ wr.drew hJd hlen
        have HYY := Lib.hid (hy.mono (R' := fun e w' => ∃ b, e = .returned (.bool b) ∧ ((b = true ∧ J (pre ++ [⟨k, hk2⟩]) w' ∧ Below w.heap.size wr.drew w') ∨ (b = false ∧ Jx (pre ++ [⟨k, hk2⟩]) w'))) (fun e w' h => by
          rcases h with ⟨h1, h2, h3⟩ | ⟨h1, h2⟩
          · exact ⟨true, h1, .inl ⟨rfl, h2, h3⟩⟩
          · exact ⟨false, h1, .inr ⟨rfl, h2⟩⟩))
        have hnext : (pre ++ [(⟨k, hk2⟩ : SetN)]).map (·.1) = Cd.setsTo sz (k + 1) := by
          rw [Cd.setsTo_yes hcnt, ← HI.out.1]; simp
        have HNX := Lib.hid hnext
        have HCN := Lib.hid hcnt
        clear hy hJd hlen hnext hcnt
        gi_wp2
        refine wpIn_atEnd' (sets_on l m k sz Bs _ wr hk2 HCN.out HBS.out HYY.out _ _ _ _ _ _ _ _ _ _ _ _ _ _ _ _ _ _ _ _ _ ?_)
        intro b u10 u11 u12 u13 u14 u15 u16 u17 u18 u19 wx hR
        rcases hR with ⟨rfl, hR1, hR2⟩ | ⟨rfl, hR1⟩
        · have HR := Lib.hid (And.intro hR1 hR2)
          clear hR1 hR2
          gi_wp2
          go_roundw
          case rel => exact ⟨k + 1, pre ++ [⟨k, hk2⟩], by omega, by go_num, HNX.out, HR.out.1, HI.out.2.2.drew.trans HR.out.2⟩
          case measure => simp [intOf]; omega
        · have HR := Lib.hid hR1
          clear hR1
          gi_wp2
          refine bodyPost_ret (results_none rfl _ _ _) rfl ?_
          exact ⟨⟨_, rfl⟩, .inr ⟨pre ++ [⟨k, hk2⟩], ⟨k, by rw [HN.out]; exact hlt, HNX.out⟩, HR.out⟩⟩
      · have HJD := Lib.hid hJd
        have hnext := HI.out.1
        rw [← Cd.setsTo_no hcnt] at hnext
        have HNX := Lib.hid hnext
        have HCN := Lib.hid hcnt
        clear hJd hnext hcnt
        gi_wp2
        refine wpIn_atEnd' (sets_off l m k sz Bs wr hk2 HCN.out HBS.out _ _ _ _ _ _ _ _ _ _ _ _ _ _ _ _ _ _ _ _ _ ?_)
        rintro u10 u11 u12 u13 u14 u15 u16 u17 u18 u19 wx rfl
        gi_wp2
        go_roundw
        case rel => exact ⟨k + 1, pre, by omega, by go_num, HNX.out, HJD.out, HI.out.2.2.drew⟩
        case measure => simp [intOf]; omega
    · obtain rfl : k = N := by omega
      gi_wp2
      go_end0
      exact ⟨⟨_, rfl⟩, .inl ⟨pre, by rw [SetsS, HI.out.1, Cd.setsL, HN.out], HI.out.2.1⟩⟩
end Go.Proofs.YtgkohfmgdejkpaaDoor
