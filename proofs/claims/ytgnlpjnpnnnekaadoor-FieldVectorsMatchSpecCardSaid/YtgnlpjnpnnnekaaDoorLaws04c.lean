/- THE LAW of the field's strings: FieldVectorsMatchSpec. -/
import Derived.Test.YtgnlpjnpnnnekaaDoorSane
import Derived.Test.YtgnlpjnpnnnekaaDoorRef4S
namespace Go.Proofs.YtgnlpjnpnnnekaaDoor
open Go.RowKit
theorem scale_at (x : Int) (c : UInt8) (s : ByteArray) (hx : (c.toNat : Int) = x) (w : World) (hT : Tab w) (hs : s.size ≤ 140737488351232) :
    Calls Tryd.prog 23 #[.int .u8 x, .string s] w fun e w' => e = .returned (.string (sb (Gf.scale c (bl s)))) ∧ Ext w w' := by
  subst hx
  exact scale_any c s w hT hs
theorem rscale_at (x : Int) (c : UInt8) (s : ByteArray) (hx : (c.toNat : Int) = x) (w : World) (hs : s.size ≤ 1000000) :
    Calls Tryd.prog 24 #[.int .u8 x, .string s] w fun e w' => e = .returned (.string (sb (Gf.scale c (bl s)))) ∧ Ext w w' := by
  subst hx
  exact rscale_any c s w hs

set_option maxHeartbeats 1000000 in
set_option maxRecDepth 100000 in
theorem vectors_out (a b : ByteArray) (A B : Option Addr) (n m ca cb : Nat) (w : World) (hT : Tab w) (ha : a.size ≤ 9223372036854775807) (hb : b.size ≤ 9223372036854775807) (hn : n ≤ 9223372036854775807) (hm : m ≤ 9223372036854775807)
    (hout : 200 < a.size ∨ 200 < b.size ∨ 8 < n ∨ 8 < m) :
    Calls Tryd.prog 6 #[.string a, .string b, .slice A n ca, .slice B m cb] w fun e w' => e = .returned (.bool true) ∧ Ext w w' := by
  have HT := Lib.hid hT
  clear hT
  have four : 200 < a.size ∨ (¬ 200 < a.size ∧ 200 < b.size) ∨ (¬ 200 < a.size ∧ ¬ 200 < b.size ∧ 8 < n) ∨ (¬ 200 < a.size ∧ ¬ 200 < b.size ∧ ¬ 8 < n ∧ 8 < m) := by omega
  clear hout
  rcases four with g | ⟨g1, g⟩ | ⟨g1, g2, g⟩ | ⟨g1, g2, g3, g⟩
  all_goals
    go_enter Tryd.func6, Tryd.ntmps6
    go_wp2_with fail
    refine (sanity_any _ HT.out).mono ?_
    rintro e w1 ⟨rfl, hx⟩
    have HX := Lib.hid hx
    clear hx
    go_wp2_with fail
    go_ret
    exact ⟨rfl, HX.out⟩

set_option maxHeartbeats 4000000 in
set_option maxRecDepth 100000 in
theorem vectors_in (a b : ByteArray) (coef : List UInt8) (parts : List (List UInt8)) (A B : Option Addr) (n m ca cb : Nat) (w : World) (hT : Tab w) (hnc : n = coef.length) (hmp : m = parts.length)
    (ha : a.size ≤ 200) (hb : b.size ≤ 200) (hn : n ≤ 8) (hm : m ≤ 8) (hA : Rd w A (coef.map bv)) (hB : Rd w B (parts.map fun p => .string (sb p))) (hps : ∀ p ∈ parts, p.length ≤ maxLen) :
    Calls Tryd.prog 6 #[.string a, .string b, .slice A n ca, .slice B m cb] w fun e w' => e = .returned (.bool true) ∧ Ext w w' := by
  have HT := Lib.hid hT
  have HA := Lib.hid hA
  have HB := Lib.hid hB
  have HP := Lib.hid hps
  have HN := Lib.hid (And.intro hnc hmp)
  clear hT hA hB hps hnc hmp
  go_enter Tryd.func6, Tryd.ntmps6
  go_wp2_with fail
  go_loop [36] (fun vi => ∃ i : Nat, i ≤ m ∧ vi = .int .i64 i ∧ Hid (∀ j, j < i → (parts.getD j []).length ≤ 200)) (fun vi => m - (intOf vi).toNat)
  case atStart => exact ⟨0, Nat.zero_le _, rfl, fun j hj => absurd hj (by omega)⟩
  case round =>
    obtain ⟨i, hi, rfl, HJ⟩ := hrel
    by_cases hlt : i < m
    · have hlp : i < parts.length := by rw [← HN.out.2]; exact hlt
      obtain ⟨bd, rfl, _, hbi⟩ := HB.out.at (k := i) (by simpa using hlp)
      rw [List.getElem_map] at hbi
      have hsz : parts[i].length ≤ 9223372036854775807 := by have := HP.out _ (List.getElem_mem hlp); unfold maxLen at this; exact this
      have hgd : parts.getD i [] = parts[i] := by rw [List.getD_eq_getElem?_getD, List.getElem?_eq_getElem hlp]; rfl
      have HG := Lib.hid hgd
      clear hgd
      by_cases hbig : 200 < parts[i].length
      · by_cases h0 : i = 0
        · subst h0
          have hb0 : w.cell? bd = some (.string (sb parts[0])) := hbi
          go_wp2_with fail
          refine (sanity_any _ HT.out).mono ?_
          rintro e w1 ⟨rfl, hx⟩
          have HX := Lib.hid hx
          clear hx
          go_wp2_with fail
          go_ret
          exact ⟨rfl, HX.out⟩
        · go_wp2_with fail
          refine (sanity_any _ HT.out).mono ?_
          rintro e w1 ⟨rfl, hx⟩
          have HX := Lib.hid hx
          clear hx
          go_wp2_with fail
          go_ret
          exact ⟨rfl, HX.out⟩
      · have HS := Lib.hid (show parts[i].length ≤ 200 by omega)
        by_cases h0 : i = 0
        · subst h0
          have hb0 : w.cell? bd = some (.string (sb parts[0])) := hbi
          go_wp2_with fail
          go_round
          case rel => exact ⟨1, by omega, by go_num, fun j hj => by
            obtain rfl : j = 0 := by omega
            rw [HG.out]; exact HS.out⟩
          case measure => simp [intOf]; omega
        · go_wp2_with fail
          go_round
          case rel => exact ⟨i + 1, by omega, by go_num, fun j hj => by
            by_cases hji : j = i
            · rw [hji, HG.out]; exact HS.out
            · exact HJ.out j (by omega)⟩
          case measure => simp [intOf]; omega
    · obtain rfl : i = m := by omega
      have hall : ∀ p ∈ parts, p.length ≤ 200 := fun p hp => by
        obtain ⟨j, hj, rfl⟩ := List.getElem_of_mem hp
        have := HJ.out j (by rw [HN.out.2]; exact hj)
        rwa [List.getD_eq_getElem?_getD, List.getElem?_eq_getElem hj] at this
      have HL := Lib.hid hall
      clear hall
      by_cases hz : n = 0
      · subst hz
        have hc : ((UInt8.ofNat b.size).toNat : Int) = (b.size : Int) := by simp; omega
        have HC := Lib.hid hc
        clear hc
        go_wp2_with fail
        refine (combine_any coef parts _ _ 0 i ca cb _ HT.out HN.out.1 HN.out.2 (by omega) (fun p hp => by have := HL.out p hp; omega) HA.out HB.out).mono ?_
        rintro e w1 ⟨rfl, hx1⟩
        have HX1 := Lib.hid hx1
        clear hx1
        go_wp2_with fail
        refine (rcombine_any coef parts _ _ 0 i ca cb _ HN.out.1 HN.out.2 (by omega) (fun p hp => by have := HL.out p hp; omega) (HA.out.ext HX1.out) (HB.out.ext HX1.out)).mono ?_
        rintro e w2 ⟨rfl, hx2⟩
        have HX2 := Lib.hid hx2
        clear hx2
        have hx : Ext w (w2.alloc (.cells #[.string (sb (Gf.combS coef parts)), .int .i64 (Gf.combE coef parts)] 41)) := (HX1.out.trans HX2.out).alloc _
        have hk := heap_new w2 (.cells #[.string (sb (Gf.combS coef parts)), .int .i64 (Gf.combE coef parts)] 41)
        have HX := Lib.hid hx
        have HK := Lib.hid hk
        clear hx hk
        go_wp2_with fail
        refine (sanity_any _ (HT.out.ext HX.out)).mono ?_
        rintro e w3 ⟨rfl, hx3⟩
        have HX3 := Lib.hid hx3
        clear hx3
        go_wp2_with fail
        refine (sum_any a b _ (by omega) (by omega)).mono ?_
        rintro e w4 ⟨rfl, hx4⟩
        have HX4 := Lib.hid hx4
        clear hx4
        go_wp2_with fail
        refine (rsum_any a b _ (by omega) (by omega)).mono ?_
        rintro e w5 ⟨rfl, hx5⟩
        have HX5 := Lib.hid hx5
        clear hx5
        go_wp2_with fail
        refine (scale_at (b.size : Int) (UInt8.ofNat b.size) a HC.out _ (HT.out.ext (HX.out.trans (HX3.out.trans (HX4.out.trans HX5.out)))) (by omega)).mono ?_
        rintro e w6 ⟨rfl, hx6⟩
        have HX6 := Lib.hid hx6
        clear hx6
        go_wp2_with fail
        refine (rscale_at (b.size : Int) (UInt8.ofNat b.size) a HC.out _ (by omega)).mono ?_
        rintro e w7 ⟨rfl, hx7⟩
        have hb7 := hx7.heap (HX6.out.heap (HX5.out.heap (HX4.out.heap (HX3.out.heap HK.out))))
        have hc0 : w7.cell? ⟨w2.heap.size, 0, none⟩ = some (.string (sb (Gf.combS coef parts))) := by simp [World.cell?, hb7]
        have hc1 : w7.cell? ⟨w2.heap.size, 1, none⟩ = some (.int .i64 (Gf.combE coef parts)) := by simp [World.cell?, hb7]
        have HX7 := Lib.hid (HX.out.trans (HX3.out.trans (HX4.out.trans (HX5.out.trans (HX6.out.trans hx7)))))
        clear hx7 hb7
        go_wp2_with fail
        go_ret
        exact ⟨rfl, HX7.out⟩
      · have hlc : 0 < coef.length := by rw [← HN.out.1]; omega
        obtain ⟨ad, rfl, _, hac⟩ := HA.out.at (k := 0) (by simpa using hlc)
        rw [List.getElem_map] at hac
        have hac0 : w.cell? ad = some (bv coef[0]) := hac
        go_wp2_with fail
        refine (combine_any coef parts _ _ n i ca cb _ HT.out HN.out.1 HN.out.2 (by omega) (fun p hp => by have := HL.out p hp; omega) HA.out HB.out).mono ?_
        rintro e w1 ⟨rfl, hx1⟩
        have HX1 := Lib.hid hx1
        clear hx1
        go_wp2_with fail
        refine (rcombine_any coef parts _ _ n i ca cb _ HN.out.1 HN.out.2 (by omega) (fun p hp => by have := HL.out p hp; omega) (HA.out.ext HX1.out) (HB.out.ext HX1.out)).mono ?_
        rintro e w2 ⟨rfl, hx2⟩
        have HX2 := Lib.hid hx2
        clear hx2
        have hx : Ext w (w2.alloc (.cells #[.string (sb (Gf.combS coef parts)), .int .i64 (Gf.combE coef parts)] 41)) := (HX1.out.trans HX2.out).alloc _
        have hk := heap_new w2 (.cells #[.string (sb (Gf.combS coef parts)), .int .i64 (Gf.combE coef parts)] 41)
        have HX := Lib.hid hx
        have HK := Lib.hid hk
        clear hx hk
        go_wp2_with fail
        refine (sanity_any _ (HT.out.ext HX.out)).mono ?_
        rintro e w3 ⟨rfl, hx3⟩
        have HX3 := Lib.hid hx3
        clear hx3
        go_wp2_with fail
        refine (sum_any a b _ (by omega) (by omega)).mono ?_
        rintro e w4 ⟨rfl, hx4⟩
        have HX4 := Lib.hid hx4
        clear hx4
        go_wp2_with fail
        refine (rsum_any a b _ (by omega) (by omega)).mono ?_
        rintro e w5 ⟨rfl, hx5⟩
        have HX5 := Lib.hid hx5
        clear hx5
        go_wp2_with fail
        refine (scale_at (coef[0].toNat : Int) coef[0] a rfl _ (HT.out.ext (HX.out.trans (HX3.out.trans (HX4.out.trans HX5.out)))) (by omega)).mono ?_
        rintro e w6 ⟨rfl, hx6⟩
        have HX6 := Lib.hid hx6
        clear hx6
        go_wp2_with fail
        refine (rscale_at (coef[0].toNat : Int) coef[0] a rfl _ (by omega)).mono ?_
        rintro e w7 ⟨rfl, hx7⟩
        have hb7 := hx7.heap (HX6.out.heap (HX5.out.heap (HX4.out.heap (HX3.out.heap HK.out))))
        have hc0 : w7.cell? ⟨w2.heap.size, 0, none⟩ = some (.string (sb (Gf.combS coef parts))) := by simp [World.cell?, hb7]
        have hc1 : w7.cell? ⟨w2.heap.size, 1, none⟩ = some (.int .i64 (Gf.combE coef parts)) := by simp [World.cell?, hb7]
        have HX7 := Lib.hid (HX.out.trans (HX3.out.trans (HX4.out.trans (HX5.out.trans (HX6.out.trans hx7)))))
        clear hx7 hb7
        go_wp2_with fail
        go_ret
        exact ⟨rfl, HX7.out⟩
end Go.Proofs.YtgnlpjnpnnnekaaDoor
