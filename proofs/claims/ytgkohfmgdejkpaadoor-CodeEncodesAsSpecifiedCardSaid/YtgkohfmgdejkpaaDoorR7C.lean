/- THE WALKS over the specification of codes: row, Rows, part. -/
import Derived.Test.YtgkohfmgdejkpaaDoorR7B
import Derived.Test.YtgkohfmgdejkpaaDoorRef4R
import Derived.Test.YtgkohfmgdejkpaaDoorEncX
namespace Cd
open Gf
/-- A coefficient of a piece's row. -/
def rowAt (d : Nat) (gs : List (List Int)) (k i : Nat) : UInt8 := if k < d then unitAt k i else if k < d + gs.length then inAt (setOf 0 (gs.getD (k - d) [])) i else gloAt (k - d - gs.length) i
theorem rowAt_unit {d k : Nat} (gs : List (List Int)) (i : Nat) (h : k < d) : rowAt d gs k i = unitAt k i := if_pos h
theorem rowAt_in {d k : Nat} {gs : List (List Int)} (i : Nat) (h : ¬ k < d) (h2 : k < d + gs.length) : rowAt d gs k i = inAt (setOf 0 (gs.getD (k - d) [])) i := by rw [rowAt, if_neg h, if_pos h2]
theorem rowAt_glo {d k : Nat} {gs : List (List Int)} (i : Nat) (h2 : ¬ k < d + gs.length) : rowAt d gs k i = gloAt (k - d - gs.length) i := by rw [rowAt, if_neg (by omega), if_neg h2]
theorem rows_get {d gl k : Nat} {gs : List (List Int)} (h : k < d + gs.length + gl) : (rows d gs gl).getD k [] = (List.range d).map (rowAt d gs k) := by
  have hr : ∀ g : Nat → UInt8, (∀ i, rowAt d gs k i = g i) → rowOf d g = (List.range d).map (rowAt d gs k) := fun g hg => by
    unfold rowOf
    congr 1
    funext i
    rw [hg i]
  rw [← rows_parts, List.getD_eq_getElem?_getD]
  by_cases h1 : k < d
  · rw [List.getElem?_append_left (by rw [List.length_append, rows1_length]; omega), List.getElem?_append_left (by rw [rows1_length]; exact h1)]
    unfold rows1
    rw [List.getElem?_map, List.getElem?_range h1]
    exact hr _ fun i => rowAt_unit gs i h1
  · by_cases h2 : k < d + gs.length
    · rw [List.getElem?_append_left (by rw [List.length_append, rows1_length, rows2_length]; exact h2), List.getElem?_append_right (by rw [rows1_length]; omega), rows1_length]
      unfold rows2
      rw [List.getElem?_map, List.getElem?_eq_getElem (by omega)]
      refine hr _ fun i => ?_
      rw [rowAt_in i h1 h2, List.getD_eq_getElem?_getD, List.getElem?_eq_getElem (by omega)]
      rfl
    · rw [List.getElem?_append_right (by rw [List.length_append, rows1_length, rows2_length]; omega), List.length_append, rows1_length, rows2_length]
      unfold rows3
      rw [List.getElem?_map, List.getElem?_range (by omega)]
      refine hr _ fun i => ?_
      rw [rowAt_glo i h2]
      show gloAt _ i = gloAt _ i
      rw [show k - d - gs.length = k - (d + gs.length) from by omega]
theorem inAt_set {d : Nat} {g : List Int} (hg : ∀ i ∈ g, 0 ≤ i ∧ i < (d : Int)) (i : Nat) : inAt (setOf 0 g) i = if (i : Int) ∈ g then 1 else 0 := by
  have h := bit_set g 0 i fun j hj => (hg j hj).1
  unfold inAt
  have h0 : ¬ bitAt 0 i = 1 := by simp [bitAt]
  by_cases hm : (i : Int) ∈ g
  · rw [if_pos hm, h.2 (.inr hm)]; rfl
  · rw [if_neg hm]
    have h1 : bitAt (setOf 0 g) i ≠ 1 := fun e => by rcases h.1 e with h2 | h2; exact h0 h2; exact hm h2
    have h2 : bitAt (setOf 0 g) i = 0 := by rcases bit_01 (setOf 0 g) i with h2 | h2; exact h2; exact absurd h2 h1
    rw [h2]; rfl
theorem glo_val {i j : Nat} : (gloAt j i).toNat = powN 2 (i * (j + 1) % 255) := by
  unfold gloAt
  rw [UInt8.toNat_ofNat', Nat.mod_eq_of_lt (powN_lt _)]
attribute [irreducible] rowAt
end Cd
namespace Go.Proofs.YtgkohfmgdejkpaaDoor
open Go.RowKit
theorem own_older {w : World} {B B' e s n : Nat} {v : Value} {xs : List Value} (h : w.ownsRow B' e s v n xs) (hb : B ≤ B') : w.ownsRow B e s v n xs := by
  refine ⟨h.1, ?_⟩
  rcases h.2 with h2 | ⟨g, cap, cur, hv, hB, rest⟩
  · exact .inl h2
  · exact .inr ⟨g, cap, cur, hv, Nat.le_trans hb hB, rest⟩
theorem Rd.range {w : World} {A : Option Addr} {d : Nat} {g : Nat → UInt8} {l : List UInt8} (h : Rd w A (((List.range d).map g).map bv)) (hl : (List.range d).map g = l) : Rd w A (l.map bv) := hl ▸ h

set_option maxHeartbeats 4000000 in
theorem rRow_ok (d gl k : Nat) (gs : List (List Int)) (G : Value) (w : World) (hG : Rs (Rs RI) w G gs) (h0 : Cd.check d gs gl = 0) (hk : k < d + gs.length + gl) :
    Calls Tryd.prog 38 #[.agg #[.int .i64 d, G, .int .i64 gl], .int .i64 k] w fun e w' => ∃ A c, e = .returned (.slice A d c) ∧ Ext w w' ∧ w'.ownsRow w.heap.size 5 1 (.slice A d c) d (((List.range d).map (Cd.rowAt d gs k)).map bv) := by
  have hx0 := (Ext.refl w).alloc (.cells #[.int .i64 d, G, .int .i64 gl] 24)
  have HX := Lib.hid (And.intro hx0 (Rs.ext (Rs.ext RI.ext) _ _ _ _ hx0 hG))
  obtain ⟨GA, Gc, rfl, hgl⟩ := hG.form
  have hck := Cd.check_ok h0
  obtain ⟨k1, k2, k3, k4, k5, k6⟩ := hck
  have HGO := Lib.hid (Cd.check_groups_ok h0)
  clear hG hx0 h0
  go_enter Tryd.func38, Tryd.ntmps38
  go_wp2_with fail
  go_loopw [5, 6] (fun vo vi wr => ∃ (i : Nat) (A : Option Addr) (cp : Nat), i ≤ d ∧ vi = .int .i64 i ∧ vo = .slice A i cp ∧ Hid (Ext (w.alloc (.cells #[.int .i64 d, .slice GA gs.length Gc, .int .i64 gl] 24)) wr ∧ wr.ownsRow (w.alloc (.cells #[.int .i64 d, .slice GA gs.length Gc, .int .i64 gl] 24)).heap.size 5 1 (.slice A i cp) i (((List.range i).map (Cd.rowAt d gs k)).map bv))) (fun _ vi _ => d - (intOf vi).toNat)
  case atStart => exact ⟨0, none, 0, Nat.zero_le _, rfl, rfl, Lib.hid (And.intro (Ext.refl _) (World.ownsRow_nil _ _ _ _))⟩
  case round =>
    obtain ⟨i, A, cp, hi, rfl, rfl, HR⟩ := hrel
    have hc0 : wr.cell? ⟨w.heap.size, 0, none⟩ = some (.int .i64 d) := HR.out.1.cell (by go_simp)
    have hc1 : wr.cell? ⟨w.heap.size, 1, none⟩ = some (.slice GA gs.length Gc) := HR.out.1.cell (by go_simp)
    by_cases hlt : i < d
    · by_cases hkd : k < d
      · by_cases hik : i = k
        · have e1 : ((i : Int) == (k : Int)) = true := by rw [beq_iff_eq]; omega
          have hval : Value.int .u8 1 = bv (Cd.rowAt d gs k i) := by rw [Cd.rowAt_unit gs i hkd, hik, Cd.unitAt_eq]; rfl
          clear hik
          have HVAL := Lib.hid hval
          clear hval
          go_wp2_with (at_builtin; refine wpl_append_new (w.alloc (.cells #[.int .i64 d, .slice GA gs.length Gc, .int .i64 gl] 24)) 57 5 rfl _ _ rfl Tryd.underlying57 info_u8 rfl rfl HR.out.2 HR.out.1 rfl rfl (by omega) (by omega) ?_; intro A' c' w2 ho hx _)
          have ho' : w2.ownsRow (w.alloc (.cells #[.int .i64 d, .slice GA gs.length Gc, .int .i64 gl] 24)).heap.size 5 1 (.slice A' (i + 1) c') (i + 1) (((List.range (i + 1)).map (Cd.rowAt d gs k)).map bv) := by
            rw [← map_range_succ (Cd.rowAt d gs k), ← HVAL.out]
            exact ho
          have HO := Lib.hid (And.intro hx ho')
          clear hx ho ho' hc0 hc1
          go_wp2_with fail
          go_roundw
          case rel => exact ⟨i + 1, A', c', by omega, by go_num, rfl, HO.out⟩
          case measure => simp [intOf]; omega
        · have e1 : ((i : Int) == (k : Int)) = false := by rw [beq_eq_false_iff_ne]; omega
          have hval : Value.int .u8 0 = bv (Cd.rowAt d gs k i) := by rw [Cd.rowAt_unit gs i hkd, Cd.unitAt_ne hik]; rfl
          clear hik
          have HVAL := Lib.hid hval
          clear hval
          go_wp2_with (at_builtin; refine wpl_append_new (w.alloc (.cells #[.int .i64 d, .slice GA gs.length Gc, .int .i64 gl] 24)) 57 5 rfl _ _ rfl Tryd.underlying57 info_u8 rfl rfl HR.out.2 HR.out.1 rfl rfl (by omega) (by omega) ?_; intro A' c' w2 ho hx _)
          have ho' : w2.ownsRow (w.alloc (.cells #[.int .i64 d, .slice GA gs.length Gc, .int .i64 gl] 24)).heap.size 5 1 (.slice A' (i + 1) c') (i + 1) (((List.range (i + 1)).map (Cd.rowAt d gs k)).map bv) := by
            rw [← map_range_succ (Cd.rowAt d gs k), ← HVAL.out]
            exact ho
          have HO := Lib.hid (And.intro hx ho')
          clear hx ho ho' hc0 hc1
          go_wp2_with fail
          go_roundw
          case rel => exact ⟨i + 1, A', c', by omega, by go_num, rfl, HO.out⟩
          case measure => simp [intOf]; omega
      · by_cases hkg : k < d + gs.length
        · have hlk : k - d < gs.length := by omega
          obtain ⟨ad, u, rfl, hcell, hu⟩ := (Rs.ext (Rs.ext RI.ext) _ _ _ _ HR.out.1 HX.out.2).at hlk
          obtain ⟨B, cB, rfl, hlB⟩ := hu.form
          have hgb := HGO.out gs[k - d] (List.getElem_mem hlk)
          have hra := Cd.rowAt_in (gs := gs) i hkd hkg
          rw [getD_get hlk] at hra
          obtain ⟨g, hg⟩ : ∃ g, gs[k - d] = g := ⟨_, rfl⟩
          rw [hg] at hcell hu hlB hgb hra
          rw [Cd.inAt_set (d := d) hgb] at hra
          have HU := Lib.hid hu
          have HRA := Lib.hid hra
          clear hu hgb hra hg
          by_cases hm : (i : Int) ∈ g
          · have e4 : decide ((i : Int) ∈ g) = true := by simpa using hm
            have hval : Value.int .u8 1 = bv (Cd.rowAt d gs k i) := by rw [HRA.out, if_pos hm]; rfl
            clear hm
            have HVAL := Lib.hid hval
            clear hval
            go_wp2_with fail
            refine (rHas_any g i _ _ _ _ HU.out).mono ?_
            rintro e w1 ⟨rfl, rfl⟩
            rw [e4]
            go_wp2_with (at_builtin; refine wpl_append_new (w.alloc (.cells #[.int .i64 d, .slice (some ad) gs.length Gc, .int .i64 gl] 24)) 57 5 rfl _ _ rfl Tryd.underlying57 info_u8 rfl rfl HR.out.2 HR.out.1 rfl rfl (by omega) (by omega) ?_; intro A' c' w2 ho hx _)
            have ho' : w2.ownsRow (w.alloc (.cells #[.int .i64 d, .slice (some ad) gs.length Gc, .int .i64 gl] 24)).heap.size 5 1 (.slice A' (i + 1) c') (i + 1) (((List.range (i + 1)).map (Cd.rowAt d gs k)).map bv) := by
              rw [← map_range_succ (Cd.rowAt d gs k), ← HVAL.out]
              exact ho
            have HO := Lib.hid (And.intro hx ho')
            clear hx ho ho' hc0 hc1
            go_wp2_with fail
            go_roundw
            case rel => exact ⟨i + 1, A', c', by omega, by go_num, rfl, HO.out⟩
            case measure => simp [intOf]; omega
          · have e4 : decide ((i : Int) ∈ g) = false := by simpa using hm
            have hval : Value.int .u8 0 = bv (Cd.rowAt d gs k i) := by rw [HRA.out, if_neg hm]; rfl
            clear hm
            have HVAL := Lib.hid hval
            clear hval
            go_wp2_with fail
            refine (rHas_any g i _ _ _ _ HU.out).mono ?_
            rintro e w1 ⟨rfl, rfl⟩
            rw [e4]
            go_wp2_with (at_builtin; refine wpl_append_new (w.alloc (.cells #[.int .i64 d, .slice (some ad) gs.length Gc, .int .i64 gl] 24)) 57 5 rfl _ _ rfl Tryd.underlying57 info_u8 rfl rfl HR.out.2 HR.out.1 rfl rfl (by omega) (by omega) ?_; intro A' c' w2 ho hx _)
            have ho' : w2.ownsRow (w.alloc (.cells #[.int .i64 d, .slice (some ad) gs.length Gc, .int .i64 gl] 24)).heap.size 5 1 (.slice A' (i + 1) c') (i + 1) (((List.range (i + 1)).map (Cd.rowAt d gs k)).map bv) := by
              rw [← map_range_succ (Cd.rowAt d gs k), ← HVAL.out]
              exact ho
            have HO := Lib.hid (And.intro hx ho')
            clear hx ho ho' hc0 hc1
            go_wp2_with fail
            go_roundw
            case rel => exact ⟨i + 1, A', c', by omega, by go_num, rfl, HO.out⟩
            case measure => simp [intOf]; omega
        · obtain ⟨j, hj⟩ : ∃ j, k - d - gs.length = j := ⟨_, rfl⟩
          obtain ⟨m, hm⟩ : ∃ m, i * (j + 1) = m := ⟨_, rfl⟩
          have hj4 : j < 4 := by omega
          have hi16 : i < 16 := by omega
          have hm64 : m < 64 := by
            have := Nat.mul_le_mul (show i ≤ 15 by omega) (show j + 1 ≤ 4 by omega)
            omega
          have hmul : (i : Int) * ((k : Int) - (d : Int) - (gs.length : Int) + 1) = (m : Int) := by
            rw [← hm, Int.natCast_mul]
            congr 1
            omega
          have hval : Value.int .u8 (Gf.powN 2 m : Nat) = bv (Cd.rowAt d gs k i) := by
            rw [Cd.rowAt_glo i hkg, hj]
            show _ = Value.int .u8 ((Cd.gloAt j i).toNat : Int)
            rw [Cd.glo_val, hm, Nat.mod_eq_of_lt (by omega)]
          have hm2 : ((m : Int) % 255).toNat = m := by omega
          clear hj hm
          have HVAL := Lib.hid hval
          clear hval
          go_wp2_with fail
          refine (rexp (m : Int) _ (by omega) (by omega)).mono ?_
          rintro e w1 ⟨rfl, rfl⟩
          rw [hm2]
          go_wp2_with (at_builtin; refine wpl_append_new (w.alloc (.cells #[.int .i64 d, .slice GA gs.length Gc, .int .i64 gl] 24)) 57 5 rfl _ _ rfl Tryd.underlying57 info_u8 rfl rfl HR.out.2 HR.out.1 rfl rfl (by omega) (by omega) ?_; intro A' c' w2 ho hx _)
          have ho' : w2.ownsRow (w.alloc (.cells #[.int .i64 d, .slice GA gs.length Gc, .int .i64 gl] 24)).heap.size 5 1 (.slice A' (i + 1) c') (i + 1) (((List.range (i + 1)).map (Cd.rowAt d gs k)).map bv) := by
            rw [← map_range_succ (Cd.rowAt d gs k), ← HVAL.out]
            exact ho
          have HO := Lib.hid (And.intro hx ho')
          clear hx ho ho' hc0 hc1
          go_wp2_with fail
          go_roundw
          case rel => exact ⟨i + 1, A', c', by omega, by go_num, rfl, HO.out⟩
          case measure => simp [intOf]; omega
    · obtain rfl : i = d := by omega
      go_wp2_with fail
      go_ret
      exact ⟨A, cp, rfl, HX.out.1.trans HR.out.1, own_older HR.out.2 HX.out.1.size⟩
end Go.Proofs.YtgkohfmgdejkpaaDoor
