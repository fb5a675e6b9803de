/- THE WALKS over Combine of package gf. -/
import Derived.Test.YtgkohfmgdejkpaaDoorGfS
namespace Go.Proofs.YtgkohfmgdejkpaaDoor
open Go.RowKit

/-- Combine's closure: the byte at one place of the combination. -/
theorem comb1_any (k P1 P2 : Nat) (coef : List UInt8) (parts : List (List UInt8)) (A B : Option Addr) (n ca cb : Nat) (w : World) (hT : Tab w) (hn : n = coef.length) (hn' : n = parts.length)
    (hl : n ≤ 140737488351232) (hk : ∀ i, i < n → k < (parts.getD i []).length)
    (h1 : w.cell? ⟨P1, 0, none⟩ = some (.slice A n ca)) (h2 : w.cell? ⟨P2, 0, none⟩ = some (.slice B n cb)) (hA : Rd w A (coef.map bv)) (hB : Rd w B (parts.map fun p => .string (sb p))) :
    Calls Tryd.prog 50 #[.int .i64 k, .pointer (some ⟨P1, 0, none⟩), .pointer (some ⟨P2, 0, none⟩)] w fun e w' => e = .returned (bv (Gf.comb coef parts k coef.length)) ∧ Ext w w' := by
  have HT := Lib.hid hT
  have HA := Lib.hid hA
  have HB := Lib.hid hB
  have HK := Lib.hid hk
  have HN := Lib.hid (And.intro hn hn')
  clear hT hA hB hk hn hn'
  go_enter Tryd.func50, Tryd.ntmps50
  go_wp2_with fail
  go_loop [5, 10] (fun vx vi => ∃ i : Nat, i ≤ n ∧ vi = .int .i64 i ∧ vx = bv (Gf.comb coef parts k i)) (fun _ vi => n - (intOf vi).toNat)
  case atStart => exact ⟨0, Nat.zero_le _, rfl, rfl⟩
  case round =>
    obtain ⟨i, hi, rfl, rfl⟩ := hrel
    by_cases hlt : i < n
    · have hlc : i < coef.length := by rw [← HN.out.1]; exact hlt
      have hlp : i < parts.length := by rw [← HN.out.2]; exact hlt
      obtain ⟨ad, rfl, _, ha⟩ := HA.out.at (k := i) (by simpa using hlc)
      obtain ⟨bd, rfl, _, hb⟩ := HB.out.at (k := i) (by simpa using hlp)
      rw [List.getElem_map] at ha hb
      have hkk : k < (sb parts[i]).size := by
        have := HK.out i hlt
        rw [List.getD_eq_getElem?_getD, List.getElem?_eq_getElem hlp] at this
        simpa using this
      have hstep : Gf.comb coef parts k (i + 1) = Gf.comb coef parts k i ^^^ Gf.mul coef[i] ((sb parts[i])[k]'hkk) := by
        rw [Gf.comb, get_bl, List.getD_eq_getElem?_getD, List.getElem?_eq_getElem hlc, List.getD_eq_getElem?_getD (l := parts), List.getElem?_eq_getElem hlp, List.getD_eq_getElem?_getD]
        simp only [Option.getD_some]
        rw [List.getElem?_eq_getElem (by simpa using hkk)]
        rfl
      have hx : bits .xor .u8 ((Gf.comb coef parts k i).toNat : Int) ((Gf.mul coef[i] ((sb parts[i])[k]'hkk)).toNat : Int) = ((Gf.comb coef parts k (i + 1)).toNat : Int) := by
        rw [u8_xor_nat _ _ (Gf.lt8 _) (Gf.lt8 _), hstep, UInt8.toNat_xor]
      have HX := Lib.hid hx
      clear hx hstep
      go_wp2_with fail
      refine (mul_u8 _ _ _ HT.out).mono ?_
      rintro e w' ⟨rfl, rfl⟩
      go_wp2_with fail
      go_round
      case rel => exact ⟨i + 1, by omega, by go_num, by rw [HX.out]⟩
      case measure => simp [intOf]; omega
    · obtain rfl : i = n := by omega
      have HI := Lib.hid HN.out.1
      go_wp2_with fail
      go_ret
      exact ⟨by rw [← HI.out]; rfl, Ext.refl _⟩

theorem enters50 : ∀ args w, (callFunc 50 args).run Tryd.prog w = .ok (.enter 50 args) w := enters_of Tryd.func50 (by kernel_rfl) rfl

theorem combine_ne (A B : Option Addr) (n m ca cb : Nat) (w : World) (hne : n ≠ m) :
    Calls Tryd.prog 35 #[.slice A n ca, .slice B m cb] w fun e w' => e = .returned (.tuple #[.string (sb []), .int .i64 1]) ∧ Ext w w' := by
  have h1 : ((n : Int) != (m : Int)) = true := by rw [bne_iff_ne]; omega
  clear hne
  go_enter Tryd.func35, Tryd.ntmps35
  go_wp2_with fail
  go_ret2
  exact ⟨rfl, ((Ext.refl _).alloc _).alloc _⟩
/-- The length that Combine has taken after i parts. -/
def headN (parts : List (List UInt8)) (i : Nat) : Nat := if i = 0 then 0 else (parts.headD []).length
theorem combine_eq (coef : List UInt8) (parts : List (List UInt8)) (A B : Option Addr) (n ca cb : Nat) (w : World) (hT : Tab w) (hn : n = coef.length) (hn' : n = parts.length)
    (hl : n ≤ 140737488351232) (hs : ∀ p ∈ parts, p.length ≤ 140737488351232) (hA : Rd w A (coef.map bv)) (hB : Rd w B (parts.map fun p => .string (sb p))) :
    Calls Tryd.prog 35 #[.slice A n ca, .slice B n cb] w fun e w' => e = .returned (.tuple #[.string (sb (Gf.combS coef parts)), .int .i64 (Gf.combE coef parts)]) ∧ Ext w w' := by
  have HT := Lib.hid hT
  have HA := Lib.hid hA
  have HB := Lib.hid hB
  have HS := Lib.hid hs
  have HN := Lib.hid (And.intro hn hn')
  clear hT hA hB hs hn hn'
  go_enter Tryd.func35, Tryd.ntmps35
  go_wp2_with fail
  have hW : Ext w ((w.alloc (.cells #[.slice A n ca] 57)).alloc (.cells #[.slice B n cb] 32)) := ((Ext.refl w).alloc _).alloc _
  have HW := Lib.hid hW
  clear hW
  go_loop [6, 16] (fun vn vi => ∃ i : Nat, i ≤ n ∧ vi = .int .i64 i ∧ vn = .int .i64 (headN parts i : Nat) ∧ Hid (∀ j, j < i → (parts.getD j []).length = (parts.headD []).length)) (fun _ vi => n - (intOf vi).toNat)
  case atStart => exact ⟨0, Nat.zero_le _, rfl, rfl, fun j hj => absurd hj (by omega)⟩
  case round =>
    obtain ⟨i, hi, rfl, rfl, HJ⟩ := hrel
    by_cases hlt : i < n
    · have hlp : i < parts.length := by rw [← HN.out.2]; exact hlt
      obtain ⟨bd, rfl, _, hb⟩ := (HB.out.ext HW.out).at (k := i) (by simpa using hlp)
      rw [List.getElem_map] at hb
      have hsz : parts[i].length ≤ 140737488351232 := HS.out _ (List.getElem_mem _)
      have hgd : parts.getD i [] = parts[i] := by rw [List.getD_eq_getElem?_getD, List.getElem?_eq_getElem hlp]; rfl
      have HG := Lib.hid hgd
      clear hgd
      by_cases h0 : i = 0
      · subst h0
        have hb0 : ((w.alloc (.cells #[.slice A n ca] 57)).alloc (.cells #[.slice (some bd) n cb] 32)).cell? bd = some (.string (sb parts[0])) := hb
        have hh : (parts.headD []).length = parts[0].length := by
          cases parts with
          | nil => simp at hlp
          | cons a l => rfl
        have HH := Lib.hid hh
        clear hh
        go_wp2_with fail
        go_round
        case rel => exact ⟨1, by omega, by go_num, by rw [headN, if_neg (by omega), HH.out], fun j hj => by
          obtain rfl : j = 0 := by omega
          rw [HH.out, HG.out]⟩
        case measure => simp [intOf]; omega
      · have hn0 : headN parts i = (parts.headD []).length := if_neg h0
        have HN0 := Lib.hid hn0
        clear hn0
        by_cases he : parts[i].length = (parts.headD []).length
        · have e1 : ((parts[i].length : Int) != (headN parts i : Int)) = false := by
            rw [HN0.out, he]; simp
          have e2 : ((i : Int) == 0) = false := by rw [beq_eq_false_iff_ne]; omega
          have HE := Lib.hid he
          have H0 := Lib.hid h0
          clear he h0
          go_wp2_with fail
          go_round
          case rel => exact ⟨i + 1, by omega, by go_num, by rw [HN0.out, headN, if_neg (by omega)], fun j hj => by
            by_cases hji : j = i
            · rw [hji, HG.out, HE.out]
            · exact HJ.out j (by omega)⟩
          case measure => simp [intOf]; omega
        · have e1 : ((parts[i].length : Int) != (headN parts i : Int)) = true := by
            rw [HN0.out, bne_iff_ne]; omega
          have e2 : ((i : Int) == 0) = false := by rw [beq_eq_false_iff_ne]; omega
          have hno : Gf.combOk coef parts = false := by
            rw [Bool.eq_false_iff]
            intro h
            unfold Gf.combOk at h
            rw [Bool.and_eq_true, List.all_eq_true] at h
            exact he (by simpa using h.2 _ (List.getElem_mem hlp))
          have HO := Lib.hid hno
          clear he h0 hno
          go_wp2_with fail
          go_ret2
          exact ⟨by rw [Gf.combS_no HO.out, Gf.combE_no HO.out]; rfl, HW.out⟩
    · obtain rfl : i = n := by omega
      have hok : Gf.combOk coef parts = true := by
        unfold Gf.combOk
        rw [Bool.and_eq_true, List.all_eq_true]
        refine ⟨by simp [← HN.out.1, ← HN.out.2], fun p hp => ?_⟩
        obtain ⟨j, hj, rfl⟩ := List.getElem_of_mem hp
        have := HJ.out j (by rw [HN.out.2]; exact hj)
        rw [List.getD_eq_getElem?_getD, List.getElem?_eq_getElem hj] at this
        simpa using this
      have hhd : headN parts i = (parts.headD []).length := by
        unfold headN
        split
        · rename_i h
          have := HN.out.2
          rw [h] at this
          cases parts with
          | nil => rfl
          | cons a l => simp at this
        · rfl
      have hle : headN parts i ≤ 140737488351232 := by
        rw [hhd]
        cases parts with
        | nil => simp
        | cons a l => exact HS.out a (by simp)
      have HO := Lib.hid hok
      have HD := Lib.hid hhd
      clear hok hhd
      go_wp2_with fail
      refine (build_any (headN parts i) hle _ _ (fun k => Gf.comb coef parts k coef.length) _ enters50 ?_).mono ?_
      · intro k hk w' hx
        refine comb1_any k _ _ coef parts A B i ca cb w' ((HT.out.ext HW.out).ext hx) HN.out.1 HN.out.2 hl (fun j hj => ?_) (hx.cell (by go_simp)) (hx.cell (by go_simp)) ((HA.out.ext HW.out).ext hx) ((HB.out.ext HW.out).ext hx)
        rw [HJ.out j hj, ← HD.out]
        exact hk
      rintro e w1 ⟨rfl, hx⟩
      go_wp2_with fail
      go_ret2
      refine ⟨?_, HW.out.trans hx⟩
      rw [Gf.combS_ok HO.out, Gf.combE_ok HO.out, Gf.combine, ← HD.out]
      rfl
/-- What Combine returns. -/
theorem combine_any (coef : List UInt8) (parts : List (List UInt8)) (A B : Option Addr) (n m ca cb : Nat) (w : World) (hT : Tab w) (hn : n = coef.length) (hm : m = parts.length)
    (hl : n ≤ 140737488351232) (hs : ∀ p ∈ parts, p.length ≤ 140737488351232) (hA : Rd w A (coef.map bv)) (hB : Rd w B (parts.map fun p => .string (sb p))) :
    Calls Tryd.prog 35 #[.slice A n ca, .slice B m cb] w fun e w' => e = .returned (.tuple #[.string (sb (Gf.combS coef parts)), .int .i64 (Gf.combE coef parts)]) ∧ Ext w w' := by
  by_cases h : n = m
  · subst h
    exact combine_eq coef parts A B n ca cb w hT hn hm hl hs hA hB
  · have h' := Gf.combOk_ne (coef := coef) (parts := parts) (by omega)
    rw [Gf.combS_no h', Gf.combE_no h']
    exact combine_ne A B n m ca cb w h
end Go.Proofs.YtgkohfmgdejkpaaDoor
