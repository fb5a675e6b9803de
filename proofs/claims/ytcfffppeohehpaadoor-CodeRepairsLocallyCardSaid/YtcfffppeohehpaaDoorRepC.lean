/- THE WALK over the specification's Count; how many are lost. -/
import Derived.Test.YtcfffppeohehpaaDoorRep
import Derived.Test.YtcfffppeohehpaaDoorRepR
namespace Cd
theorem bit_zero (s : Nat) : bitAt s 0 = s % 2 := by simp [bitAt]
theorem bit_succ (s i : Nat) : bitAt s (i + 1) = bitAt (s / 2) i := by
  unfold bitAt
  rw [Nat.pow_succ, Nat.mul_comm, Nat.div_div_eq_div_mul]
theorem cntF_list : ∀ (k s : Nat), Ones.cntF k s = ((List.range k).filter fun i => bitAt s i == 1).length
  | 0, _ => rfl
  | k + 1, s => by
    have e : ((List.range k).map Nat.succ).filter (fun i => bitAt s i == 1) = ((List.range k).filter fun i => bitAt (s / 2) i == 1).map Nat.succ := by
      rw [List.filter_map]
      congr 1
      exact List.filter_congr fun i _ => by simp [bit_succ]
    rw [Ones.cntF, cntF_list k, List.range_succ_eq_map, List.filter_cons, e, bit_zero]
    rcases Nat.mod_two_eq_zero_or_one s with h | h
    · rw [h]; simp
    · rw [h]; simp; omega
theorem cnt_lost {d s : Nat} (hd : d ≤ 16) (hs : s < 2 ^ d) : Ones.cnt s = (lostL d s).length := by
  unfold Ones.cnt
  rw [cntF_list]
  rw [show (16 : Nat) = d + (16 - d) from by omega, List.range_add, List.filter_append]
  have : ((List.range (16 - d)).map (d + ·)).filter (fun i => bitAt s i == 1) = [] := by
    rw [List.filter_eq_nil_iff]
    intro a ha
    obtain ⟨j, _, rfl⟩ := List.mem_map.1 ha
    rw [high_bit hs (by omega)]
    simp
  rw [this, List.append_nil]
  rfl
theorem many_take {s : Nat} {g : List Int} {k : Nat} (hk : k < g.length) : many s (g.take (k + 1)) = many s (g.take k) + bitAt s (g[k]).toNat := by
  unfold many
  rw [List.take_succ_eq_append_getElem hk, List.map_append, List.sum_append]
  simp
theorem many_le (s : Nat) : ∀ g : List Int, many s g ≤ g.length
  | [] => by simp [many]
  | i :: g => by
    have e : many s (i :: g) = bitAt s i.toNat + many s g := rfl
    have := many_le s g
    have := bit_01 s i.toNat
    rw [e, List.length_cons]
    omega
theorem alone_take {s : Nat} {gs : List (List Int)} {k : Nat} (hk : k < gs.length) : alone s (gs.take (k + 1)) = alone s (gs.take k) + if many s gs[k] = 1 then 1 else 0 := by
  unfold alone
  rw [List.take_succ_eq_append_getElem hk, List.countP_append]
  simp [List.countP_cons]
theorem alone_le (s : Nat) (gs : List (List Int)) : alone s gs ≤ gs.length := List.countP_le_length
theorem cnt_le (s : Nat) : Ones.cnt s ≤ 16 := by
  unfold Ones.cnt
  rw [cntF_list]
  have := List.length_filter_le (fun i => bitAt s i == 1) (List.range 16)
  simpa using this
end Cd
namespace Go.Proofs.YtcfffppeohehpaaDoor
open Go.RowKit
theorem cCount_any (s : Nat) (w : World) (hs : s < 65536) : Calls Tryd.prog 36 #[.int .i64 s] w fun e w' => e = .returned (.int .i64 (Ones.cnt s : Nat)) ∧ w = w' := by
  go_enter Tryd.func36, Tryd.ntmps36
  go_wp2_with fail
  go_loop [0, 3] (fun vs vn => ∃ (t n k : Nat), vs = .int .i64 t ∧ vn = .int .i64 n ∧ k ≤ 16 ∧ t < 65536 ∧ n ≤ 16 ∧ Hid (t < 2 ^ k ∧ n + Ones.cntF k t = Ones.cnt s ∧ n + k ≤ 16)) (fun vs _ => (intOf vs).toNat)
  case atStart => exact ⟨s, 0, 16, rfl, rfl, by omega, hs, by omega, hs, by simp [Ones.cnt], by omega⟩
  case round =>
    obtain ⟨t, n, k, rfl, rfl, hk, ht, hn, HR⟩ := hrel
    by_cases h0 : 0 < t
    · have hk0 : 0 < k := by
        rcases Nat.eq_zero_or_pos k with h | h
        · have := HR.out.1; rw [h] at this; omega
        · exact h
      obtain ⟨j, rfl⟩ : ∃ j, k = j + 1 := ⟨k - 1, by omega⟩
      have hn1 : n + t % 2 + Ones.cntF j (t / 2) = Ones.cnt s := by
        have := HR.out.2.1
        rw [Ones.cntF] at this
        omega
      have ht2 : t / 2 < 2 ^ j := by have := HR.out.1; rw [Nat.pow_succ] at this; omega
      have hm : t % 2 ≤ 1 := by omega
      have hq := HR.out.2.2
      have HN := Lib.hid (And.intro hn1 (And.intro ht2 hq))
      clear hn1 ht2
      go_wp2_with fail
      go_round
      case rel => exact ⟨t / 2, n + t % 2, j, by go_num, by go_num, by omega, by omega, by omega, HN.out.2.1, HN.out.1, by omega⟩
      case measure => simp [intOf]; omega
    · obtain rfl : t = 0 := by omega
      have hz : ∀ k, Ones.cntF k 0 = 0 := by
        intro k
        induction k with
        | zero => rfl
        | succ k ih => rw [Ones.cntF, show 0 / 2 = 0 from rfl, ih]
      have hfin := HR.out.2.1
      rw [hz] at hfin
      have HF := Lib.hid hfin
      clear hfin hz h0
      go_wp2_with fail
      go_ret
      exact ⟨ret_int (by have := HF.out; omega), rfl⟩
end Go.Proofs.YtcfffppeohehpaaDoor
