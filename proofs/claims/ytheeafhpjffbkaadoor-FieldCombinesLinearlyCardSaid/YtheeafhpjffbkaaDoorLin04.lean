/- THE LAW that Combine is linear: FieldCombinesLinearly. -/
import Derived.Test.YtheeafhpjffbkaaDoorLinR
import Derived.Test.YtheeafhpjffbkaaDoorSaneG
import Derived.Test.YtheeafhpjffbkaaDoorCombL
import Derived.Deep.CutRange
namespace Go.Proofs.YtheeafhpjffbkaaDoor
open Go.RowKit
theorem wp_atEnd' {P : Program} {c : Code} {Q : Exit → Act → World → Prop} {a : Act} {w : World} (h : Code.wp P c (AtEnd fun a w => Q .normal a w) a w) : Code.wp P c Q a w :=
  Code.wp_mono (fun e a w hr => by
    cases e with
    | normal => exact hr
    | _ => exact (hr : False).elim) h
def upto (i : Nat) (f : Nat → Value) : List Value := (List.range i).map f
theorem upto_succ (i : Nat) (f : Nat → Value) : upto i f ++ [f i] = upto (i + 1) f := by unfold upto; rw [List.range_succ]; simp
theorem upto_tabs (n : Nat) (f : Nat → UInt8) : (upto n fun j => bv (f j)) = (Gf.tabs n f).map bv := by unfold upto Gf.tabs; rw [List.map_map]; rfl
theorem upto_sums (n : Nat) (x y : List (List UInt8)) : (upto n fun j => .string (sb (Gf.sum (x.getD j []) (y.getD j [])))) = (Gf.sums n x y).map fun p => .string (sb p) := by unfold upto Gf.sums; rw [List.map_map]; rfl
theorem tabs_len (n : Nat) (f : Nat → UInt8) : n = (Gf.tabs n f).length := by unfold Gf.tabs; simp
theorem sums_len (n : Nat) (x y : List (List UInt8)) : n = (Gf.sums n x y).length := by unfold Gf.sums; simp
theorem combS_len {cf : List UInt8} {p : List (List UInt8)} {k : Nat} (h : (p.headD []).length ≤ k) : (Gf.combS cf p).length ≤ k := by
  cases hb : Gf.combOk cf p with
  | true => rw [Gf.combS_ok hb]; unfold Gf.combine; simpa using h
  | false => rw [Gf.combS_no hb]; exact Nat.zero_le _
theorem getD_get {x : List (List UInt8)} {i : Nat} (h : i < x.length) : x.getD i [] = x[i] := by simp [List.getD_eq_getElem?_getD, h]

set_option maxHeartbeats 4000000 in
set_option maxRecDepth 100000 in
theorem linear_out (A X Y : Option Addr) (n nx ny ca cx cy : Nat) (c : UInt8) (w : World) (hT : Tab w) (hn : n ≤ 9223372036854775807) (hx : nx ≤ 9223372036854775807)
    (hout : 8 < n ∨ nx ≠ n ∨ ny ≠ n) :
    Calls Tryd.prog 3 #[.slice A n ca, .agg #[.slice X nx cx, .slice Y ny cy], bv c] w fun e w' => e = .returned (.bool true) ∧ Ext w w' := by
  have HT := Lib.hid hT
  clear hT
  have three : 8 < n ∨ (¬ 8 < n ∧ nx ≠ n) ∨ (¬ 8 < n ∧ nx = n ∧ ny ≠ n) := by omega
  clear hout
  have hO : ∀ k, Ext w ((w.alloc (.cells #[.slice X nx cx, .slice Y ny cy] 24)).drewN k) := fun k => ((Ext.refl w).alloc _).drewN k
  rcases three with g | ⟨g1, g⟩ | ⟨g1, g2, g⟩
  · have HO := Lib.hid hO
    clear hO
    go_enter Tryd.func3, Tryd.ntmps3
    go_wp2_with fail
    go_quiet (fail)
    go_wp2_with fail
    refine (sanity_any _ (HT.out.ext (HO.out _))).mono ?_
    rintro e w1 ⟨rfl, hx⟩
    have HX := Lib.hid ((HO.out _).trans hx)
    clear hx
    go_wp2_with fail
    go_ret
    exact ⟨rfl, HX.out⟩
  · have HO := Lib.hid hO
    have e1 : ((nx : Int) != (n : Int)) = true := by rw [bne_iff_ne]; omega
    clear hO g
    go_enter Tryd.func3, Tryd.ntmps3
    go_wp2_with fail
    go_quiet (fail)
    go_wp2_with fail
    refine (sanity_any _ (HT.out.ext (HO.out _))).mono ?_
    rintro e w1 ⟨rfl, hx⟩
    have HX := Lib.hid ((HO.out _).trans hx)
    clear hx
    go_wp2_with fail
    go_ret
    exact ⟨rfl, HX.out⟩
  · subst g2
    have HO := Lib.hid hO
    have e1 : ((ny : Int) != (nx : Int)) = true := by rw [bne_iff_ne]; omega
    clear hO g
    go_enter Tryd.func3, Tryd.ntmps3
    go_wp2_with fail
    go_quiet (fail)
    go_wp2_with fail
    refine (sanity_any _ (HT.out.ext (HO.out _))).mono ?_
    rintro e w1 ⟨rfl, hx⟩
    have HX := Lib.hid ((HO.out _).trans hx)
    clear hx
    go_wp2_with fail
    go_ret
    exact ⟨rfl, HX.out⟩

set_option maxHeartbeats 16000000 in
set_option maxRecDepth 100000 in
theorem linear_in (pa pb : Nat → UInt8) (x y : List (List UInt8)) (c : UInt8) (P X Y : Option Addr) (n cp cx cy : Nat) (w : World) (hT : Tab w) (hnx : n = x.length) (hny : n = y.length) (hn : n ≤ 8)
    (hP : ∀ k, k < n → ∃ b o, P = some ⟨b, o, none⟩ ∧ w.cell? ⟨b, o + k * 2, none⟩ = some (bv (pa k)) ∧ w.cell? ⟨b, o + k * 2 + 1, none⟩ = some (bv (pb k)))
    (hX : Rd w X (x.map fun p => .string (sb p))) (hY : Rd w Y (y.map fun p => .string (sb p))) (hxs : ∀ p ∈ x, p.length ≤ maxLen) (hys : ∀ p ∈ y, p.length ≤ maxLen) :
    Calls Tryd.prog 3 #[.slice P n cp, .agg #[.slice X n cx, .slice Y n cy], bv c] w fun e w' => e = .returned (.bool true) ∧ Ext w w' := by
  have HT := Lib.hid hT
  have HX := Lib.hid hX
  have HY := Lib.hid hY
  have HPP := Lib.hid hP
  have HXS := Lib.hid hxs
  have HYS := Lib.hid hys
  have HN := Lib.hid (And.intro hnx hny)
  clear hT hX hY hP hxs hys hnx hny
  go_enter Tryd.func3, Tryd.ntmps3
  go_wp2_with fail
  go_quiet (fail)
  have H0 : Owns w ((w.alloc (.cells #[.slice X n cx, .slice Y n cy] 24)).drewN nq) [⟨.slice none 0 0, 5, 1, 0, upto 0 fun j => bv (pa j)⟩, ⟨.slice none 0 0, 5, 1, 0, upto 0 fun j => bv (pb j)⟩, ⟨.slice none 0 0, 5, 1, 0, upto 0 fun j => bv (pa j ^^^ pb j)⟩, ⟨.slice none 0 0, 5, 1, 0, upto 0 fun j => bv (Gf.mul c (pa j))⟩, ⟨.slice none 0 0, 9, 1, 0, upto 0 fun j => .string (sb (Gf.sum (x.getD j []) (y.getD j [])))⟩, no, no, no, no, no, no] :=
    ((Owns.start w (by simp [no, upto])).alloc _).drewN nq
  have HO := Lib.hid H0
  clear H0
  go_wp2_with fail
  obtain ⟨L0, hL0⟩ : ∃ L0, (x.headD []).length = L0 := ⟨_, rfl⟩
  have HL0 := Lib.hid hL0
  clear hL0
  go_loopw [9, 10, 11, 12, 13, 52] (fun va vb vc vd vs vi wr => ∃ (i : Nat) (A B C D S : Option Addr) (ca cb cc cd cs : Nat), i ≤ n ∧ vi = .int .i64 i ∧ va = .slice A i ca ∧ vb = .slice B i cb ∧ vc = .slice C i cc ∧ vd = .slice D i cd ∧ vs = .slice S i cs ∧
      Hid (Owns w wr [⟨.slice A i ca, 5, 1, i, upto i fun j => bv (pa j)⟩, ⟨.slice B i cb, 5, 1, i, upto i fun j => bv (pb j)⟩, ⟨.slice C i cc, 5, 1, i, upto i fun j => bv (pa j ^^^ pb j)⟩, ⟨.slice D i cd, 5, 1, i, upto i fun j => bv (Gf.mul c (pa j))⟩, ⟨.slice S i cs, 9, 1, i, upto i fun j => .string (sb (Gf.sum (x.getD j []) (y.getD j [])))⟩, no, no, no, no, no, no] ∧ ∀ j, j < i → (x.getD j []).length = L0 ∧ (y.getD j []).length = L0 ∧ L0 ≤ 100)) (fun _ _ _ _ _ vi _ => n - (intOf vi).toNat)
  case atStart => exact ⟨0, none, none, none, none, none, 0, 0, 0, 0, 0, Nat.zero_le _, rfl, rfl, rfl, rfl, rfl, rfl, Lib.hid (And.intro HO.out (fun j hj => absurd hj (Nat.not_lt_zero j)))⟩
  case round =>
    obtain ⟨i, A, B, C, D, S, ca, cb, cc, cd, cs, hi, rfl, rfl, rfl, rfl, rfl, rfl, HR⟩ := hrel
    by_cases hlt : i < n
    · have hx := HR.out.1.ext
      have hlx : i < x.length := by rw [← HN.out.1]; exact hlt
      have hly : i < y.length := by rw [← HN.out.2]; exact hlt
      obtain ⟨bx, rfl, _, hcx⟩ := (HX.out.ext hx).at (k := i) (by simpa using hlx)
      obtain ⟨bY, rfl, _, hcy⟩ := (HY.out.ext hx).at (k := i) (by simpa using hly)
      obtain ⟨b0, o0, rfl, hq1, hq2⟩ := HPP.out i hlt
      rw [List.getElem_map] at hcx hcy
      have hcx0 : wr.cell? bx = some (.string (sb (x.headD []))) := by
        have h := (HX.out.ext hx).all (k := 0) (by simp; omega)
        rw [List.getElem_map] at h
        cases x with
        | nil => simp at hlx
        | cons p l => exact h
      obtain ⟨x0, hx0⟩ : ∃ x0, x.headD [] = x0 := ⟨_, rfl⟩
      obtain ⟨xi, hxi⟩ : ∃ xi, x[i] = xi := ⟨_, rfl⟩
      obtain ⟨yi, hyi⟩ : ∃ yi, y[i] = yi := ⟨_, rfl⟩
      have hp1 := hx.cell hq1
      have hp2 := hx.cell hq2
      have hxl : xi.length ≤ 9223372036854775807 := by have := HXS.out _ (List.getElem_mem hlx); rw [hxi] at this; unfold maxLen at this; exact this
      have hyl : yi.length ≤ 9223372036854775807 := by have := HYS.out _ (List.getElem_mem hly); rw [hyi] at this; unfold maxLen at this; exact this
      rw [hx0] at hcx0
      rw [hxi] at hcx
      rw [hyi] at hcy
      have h00 := HL0.out
      rw [hx0] at h00
      have gx := getD_get hlx
      have gy := getD_get hly
      rw [hxi] at gx
      rw [hyi] at gy
      have H5 : Owns w (wr.alloc (.cells #[bv (pa i), bv (pb i)] 27)) [⟨.slice A i ca, 5, 1, i, upto i fun j => bv (pa j)⟩, ⟨.slice B i cb, 5, 1, i, upto i fun j => bv (pb j)⟩, ⟨.slice C i cc, 5, 1, i, upto i fun j => bv (pa j ^^^ pb j)⟩, ⟨.slice D i cd, 5, 1, i, upto i fun j => bv (Gf.mul c (pa j))⟩, ⟨.slice S i cs, 9, 1, i, upto i fun j => .string (sb (Gf.sum (x.getD j []) (y.getD j [])))⟩, ⟨.slice (some ⟨wr.heap.size, 0, none⟩) 2 2, 27, 1, 2, [bv (pa i), bv (pb i)]⟩, no, no, no, no, no] := HR.out.1.new 5 #[bv (pa i), bv (pb i)] 27 (by simp [maxLen])
      have hE := (Ext.refl wr).alloc (.cells #[bv (pa i), bv (pb i)] 27)
      have hcx' := hE.cell hcx
      have hcy' := hE.cell hcy
      have hcx0' := hE.cell hcx0
      have HO5 := Lib.hid H5
      have HG := Lib.hid (And.intro gx gy)
      have HXX := Lib.hid (HX.out.all (k := i) (by simpa using hlx))
      have HYY := Lib.hid (HY.out.all (k := i) (by simpa using hly))
      have HJ := Lib.hid HR.out.2
      have hlx0 : x0.length ≤ 9223372036854775807 := by
        have := HXS.out (x.headD []) (by cases x with
          | nil => simp at hlx
          | cons p l => simp)
        rw [hx0] at this
        unfold maxLen at this; exact this
      have HV := Lib.hid (And.intro hxi hyi)
      have H00 := Lib.hid (And.intro hx0 h00)
      clear hE H5 hcx hcy hcx0 hx hx0 h00 gx gy hxi hyi hq1 hq2 HR
      by_cases h1 : xi.length = x0.length
      · have e1 : ((xi.length : Int) != (x0.length : Int)) = false := by rw [h1]; simp
        by_cases h2 : yi.length = x0.length
        · have e2 : ((yi.length : Int) != (x0.length : Int)) = false := by rw [h2]; simp
          have H12 := Lib.hid (And.intro h1 h2)
          clear h1 h2
          by_cases h3 : 100 < xi.length
          · have e3 : decide ((100 : Int) < (xi.length : Int)) = true := by simp; omega
            go_wp2_with fail
            go_quiet (fail)
            go_wp2_with fail
            refine (sanity_any _ (HT.out.ext (HO5.out.drewN nq).ext)).mono ?_
            rintro e w1 ⟨rfl, hxs⟩
            have HXS1 := Lib.hid ((HO5.out.drewN nq).ext.trans hxs)
            clear hxs
            go_wp2_with fail
            go_ret
            exact ⟨rfl, HXS1.out⟩
          · have e3 : decide ((100 : Int) < (xi.length : Int)) = false := by simp; omega
            have h100 : xi.length ≤ 100 := by omega
            have H100 := Lib.hid h100
            clear h3 h100
            go_wp2_with fail
            go_quiet (fail)
            go_upto_region 11 with fail
            obtain ⟨W1, hW1⟩ : ∃ W1, (wr.alloc (.cells #[bv (pa i), bv (pb i)] 27)).drewN nq = W1 := ⟨_, rfl⟩
            have hOW : Owns w W1.drew [⟨.slice A i ca, 5, 1, i, upto i fun j => bv (pa j)⟩, ⟨.slice B i cb, 5, 1, i, upto i fun j => bv (pb j)⟩, ⟨.slice C i cc, 5, 1, i, upto i fun j => bv (pa j ^^^ pb j)⟩, ⟨.slice D i cd, 5, 1, i, upto i fun j => bv (Gf.mul c (pa j))⟩, ⟨.slice S i cs, 9, 1, i, upto i fun j => .string (sb (Gf.sum (x.getD j []) (y.getD j [])))⟩, ⟨.slice (some ⟨wr.heap.size, 0, none⟩) 2 2, 27, 1, 2, [bv (pa i), bv (pb i)]⟩, no, no, no, no, no] := by rw [← hW1]; exact (HO5.out.drewN nq).drew
            have HOW := Lib.hid hOW
            clear hOW
            rw [hW1]
            clear hW1
            have hxor : bits .xor .u8 ((pa i).toNat : Int) ((pb i).toNat : Int) = ((pa i ^^^ pb i).toNat : Int) := by
              rw [u8_xor_nat _ _ (Gf.lt8 _) (Gf.lt8 _), UInt8.toNat_xor]
            have HXOR := Lib.hid hxor
            clear hxor
            refine wp_atEnd' (lin_four A B C D ca cb cc cd i wr.heap.size (pa i) (pb i) c _ _ _ _ _ w W1 (by omega) HT HXOR HOW _ _ _ _ _ _ _ _ _ _ _ _ _ _ _ _ _ _ _ _ _ _ _ _ _ _ _ _ _ _ _ _ _ _ _ _ _ _ _ _ _ _ _ _ _ _ _ _ _ _ _ _ _ _ _ _ _ _ _ _ _ _ _ _ _ _ _ _ _ _ _ _ _ _ _ _ _ _ _ _ _ _ _ _ _ _ _ _ _ _ _ _ _ _ _ _ _ _ _ _ _ _ _ _ _ _ _ _ _ _ _ _ _ _ _ _ _ _ _ _ _ _ _ _ _ _ _ _ _ _ _ _ _ _ _ _ _ _ _ _ _ _ _ _ _ _ _ _ _ _ _ _ _ _ _ _ _ _ _ _ _ _ _ _ _ _ _ _ _ _ _ _ _ _ _ _ _ _ _ _ _ _ _ _ _ _ _ _ _ _ _ _ _ _ _ _ _ _ _ _ _ _ ?_)
            intro g4 k4 g9 k9 g17 k17 g24 k24 u88 u89 u90 u91 u92 u93 u94 u95 u96 u97 u98 u99 u100 u101 u102 u103 u104 u105 u106 u107 u108 u109 u110 u111 u112 wx hOw
            rw [upto_succ i fun j => bv (pa j), upto_succ i fun j => bv (pb j), upto_succ i fun j => bv (pa j ^^^ pb j), upto_succ i fun j => bv (Gf.mul c (pa j))] at hOw
            have HOx := Lib.hid hOw.drew
            clear hOw
            go_upto_region 12 with fail
            refine wp_atEnd' (lin_sum bx bY S n cx cy cs i xi yi _ _ _ _ _ w wx (by omega) hlt (by have := H100.out; omega) (by have := H100.out; have := H12.out.1; have := H12.out.2; omega) (Lib.hid (by have := HXX.out; rw [List.getElem_map, HV.out.1] at this; exact this)) (Lib.hid (by have := HYY.out; rw [List.getElem_map, HV.out.2] at this; exact this)) HOx _ _ _ _ _ _ _ _ _ _ _ _ _ _ _ _ _ _ _ _ _ _ _ _ _ _ _ _ _ _ _ _ _ _ _ _ _ _ _ _ _ _ _ _ _ _ _ _ _ _ _ _ _ _ _ _ _ _ _ _ _ _ _ _ _ _ _ _ _ _ _ _ _ _ _ _ _ _ _ _ _ _ _ _ _ _ _ _ _ _ _ _ _ _ _ _ _ _ _ _ _ _ _ _ _ _ _ _ _ _ _ _ _ _ _ _ _ _ _ _ _ _ _ _ _ _ _ _ _ _ _ _ _ _ _ _ _ _ _ _ _ _ _ _ _ _ _ _ _ _ _ _ _ _ _ _ _ _ _ _ _ _ _ _ _ _ _ _ _ _ _ _ _ _ _ _ _ _ _ _ _ _ _ _ _ _ _ _ _ _ _ _ _ _ _ _ _ _ _ _ _ _ _ _ ?_)
            intro g11 k11 u113 u114 u115 u116 u117 u118 u119 u120 u121 u122 u123 u124 wy hOy
            rw [← HG.out.1, ← HG.out.2, upto_succ i fun j => .string (sb (Gf.sum (x.getD j []) (y.getD j [])))] at hOy
            have HOy := Lib.hid hOy
            clear hOy
            go_wp2_with fail
            go_round
            case rel => exact ⟨i + 1, some ⟨g4, 0, none⟩, some ⟨g9, 0, none⟩, some ⟨g17, 0, none⟩, some ⟨g24, 0, none⟩, some ⟨g11, 0, none⟩, k4, k9, k17, k24, k11, by omega, by go_num, rfl, rfl, rfl, rfl, rfl, Lib.hid (And.intro HOy.out fun j hj => by
              by_cases hji : j = i
              · have := H00.out; have := H12.out; have := H100.out
                rw [hji, HG.out.1, HG.out.2]
                omega
              · exact HJ.out j (by omega))⟩
            case measure => simp [intOf]; omega
        · have e2 : ((yi.length : Int) != (x0.length : Int)) = true := by rw [bne_iff_ne]; omega
          clear h1 h2
          go_wp2_with fail
          go_quiet (fail)
          go_wp2_with fail
          refine (sanity_any _ (HT.out.ext (HO5.out.drewN nq).ext)).mono ?_
          rintro e w1 ⟨rfl, hxs⟩
          have HXS1 := Lib.hid ((HO5.out.drewN nq).ext.trans hxs)
          clear hxs
          go_wp2_with fail
          go_ret
          exact ⟨rfl, HXS1.out⟩
      · have e1 : ((xi.length : Int) != (x0.length : Int)) = true := by rw [bne_iff_ne]; omega
        clear h1
        go_wp2_with fail
        go_quiet (fail)
        go_wp2_with fail
        refine (sanity_any _ (HT.out.ext (HO5.out.drewN nq).ext)).mono ?_
        rintro e w1 ⟨rfl, hxs⟩
        have HXS1 := Lib.hid ((HO5.out.drewN nq).ext.trans hxs)
        clear hxs
        go_wp2_with fail
        go_ret
        exact ⟨rfl, HXS1.out⟩
    · obtain rfl : i = n := by omega
      have hR := HR.out.1
      rw [upto_tabs, upto_tabs, upto_tabs, upto_tabs, upto_sums] at hR
      have rA := hR.rd 0 rfl
      have rB := hR.rd 1 rfl
      have rC := hR.rd 2 rfl
      have rD := hR.rd 3 rfl
      have rS := hR.rd 4 rfl
      have rX := HX.out.ext hR.ext
      have rY := HY.out.ext hR.ext
      have hj := HR.out.2
      have hz : i = 0 → L0 = 0 := fun h0 => by
        have h1 := HN.out.1
        have h2 := HL0.out
        cases x with
        | nil => exact h2.symm
        | cons p l => simp at h1; omega
      have hx100 : (x.headD []).length ≤ 100 := by
        by_cases h0 : i = 0
        · rw [HL0.out, hz h0]; exact Nat.zero_le _
        · rw [HL0.out]; exact (hj 0 (by omega)).2.2
      have hy100 : (y.headD []).length ≤ 100 := by
        by_cases h0 : i = 0
        · have h1 := HN.out.2
          cases y with
          | nil => exact Nat.zero_le _
          | cons p l => simp at h1; omega
        · have := hj 0 (by omega)
          cases y with
          | nil => exact Nat.zero_le _
          | cons p l => simp at this ⊢; omega
      have hlin := Gf.linear (n := i) (L0 := L0) (pa := pa) (pb := pb) (x := x) (y := y) c HN.out.1.symm HN.out.2.symm hz (fun j h => ⟨(hj j h).1, (hj j h).2.1⟩)
      have hX9 : ∀ p ∈ x, p.length ≤ 140737488351232 := fun p hp => by
        obtain ⟨j, hjl, rfl⟩ := List.getElem_of_mem hp
        have := hj j (by rw [HN.out.1]; exact hjl)
        rw [getD_get hjl] at this
        omega
      have hY9 : ∀ p ∈ y, p.length ≤ 140737488351232 := fun p hp => by
        obtain ⟨j, hjl, rfl⟩ := List.getElem_of_mem hp
        have := hj j (by rw [HN.out.2]; exact hjl)
        rw [getD_get hjl] at this
        omega
      have hS9 : ∀ p ∈ Gf.sums i x y, p.length ≤ 140737488351232 := fun p hp => by
        unfold Gf.sums at hp
        obtain ⟨j, hjl, rfl⟩ := List.mem_map.1 hp
        have := hj j (List.mem_range.1 hjl)
        rw [Gf.sum_length this.1 this.2.1]
        omega
      have hE := hR.ext
      have hTr := HT.out.ext hE
      have hs1 : (Gf.combS (Gf.tabs i pa) x).length ≤ 100 := combS_len hx100
      have hs2 : (Gf.combS (Gf.tabs i pb) x).length ≤ 100 := combS_len hx100
      have hs4 : (Gf.combS (Gf.tabs i pa) y).length ≤ 100 := combS_len hy100
      obtain ⟨s1, es1⟩ : ∃ s, Gf.combS (Gf.tabs i pa) x = s := ⟨_, rfl⟩
      obtain ⟨s2, es2⟩ : ∃ s, Gf.combS (Gf.tabs i pb) x = s := ⟨_, rfl⟩
      obtain ⟨s3, es3⟩ : ∃ s, Gf.combS (Gf.tabs i fun j => pa j ^^^ pb j) x = s := ⟨_, rfl⟩
      obtain ⟨s4, es4⟩ : ∃ s, Gf.combS (Gf.tabs i pa) y = s := ⟨_, rfl⟩
      obtain ⟨s5, es5⟩ : ∃ s, Gf.combS (Gf.tabs i pa) (Gf.sums i x y) = s := ⟨_, rfl⟩
      obtain ⟨s6, es6⟩ : ∃ s, Gf.combS (Gf.tabs i fun j => Gf.mul c (pa j)) x = s := ⟨_, rfl⟩
      rw [es1] at hs1
      rw [es2] at hs2
      rw [es4] at hs4
      obtain ⟨z1, z2, z3, z4, z5, z6, q1, q2, q3⟩ := hlin
      rw [es1, es2, es3] at q1
      rw [es1, es4, es5] at q2
      rw [es1, es6] at q3
      have C1 : ∀ w1, Ext wr w1 → Calls Tryd.prog 7 #[.slice A i ca, .slice X i cx] w1 fun e w' => e = .returned (.tuple #[.string (sb s1), .int .i64 0]) ∧ Ext w1 w' := fun w1 h => by
        have := combine_any (Gf.tabs i pa) x A X i i ca cx w1 (hTr.ext h) (tabs_len _ _) HN.out.1 (by omega) hX9 (rA.ext h) (rX.ext h)
        rwa [es1, z1] at this
      have C2 : ∀ w1, Ext wr w1 → Calls Tryd.prog 7 #[.slice B i cb, .slice X i cx] w1 fun e w' => e = .returned (.tuple #[.string (sb s2), .int .i64 0]) ∧ Ext w1 w' := fun w1 h => by
        have := combine_any (Gf.tabs i pb) x B X i i cb cx w1 (hTr.ext h) (tabs_len _ _) HN.out.1 (by omega) hX9 (rB.ext h) (rX.ext h)
        rwa [es2, z2] at this
      have C3 : ∀ w1, Ext wr w1 → Calls Tryd.prog 7 #[.slice C i cc, .slice X i cx] w1 fun e w' => e = .returned (.tuple #[.string (sb s3), .int .i64 0]) ∧ Ext w1 w' := fun w1 h => by
        have := combine_any (Gf.tabs i fun j => pa j ^^^ pb j) x C X i i cc cx w1 (hTr.ext h) (tabs_len _ _) HN.out.1 (by omega) hX9 (rC.ext h) (rX.ext h)
        rwa [es3, z3] at this
      have C4 : ∀ w1, Ext wr w1 → Calls Tryd.prog 7 #[.slice A i ca, .slice Y i cy] w1 fun e w' => e = .returned (.tuple #[.string (sb s4), .int .i64 0]) ∧ Ext w1 w' := fun w1 h => by
        have := combine_any (Gf.tabs i pa) y A Y i i ca cy w1 (hTr.ext h) (tabs_len _ _) HN.out.2 (by omega) hY9 (rA.ext h) (rY.ext h)
        rwa [es4, z4] at this
      have C5 : ∀ w1, Ext wr w1 → Calls Tryd.prog 7 #[.slice A i ca, .slice S i cs] w1 fun e w' => e = .returned (.tuple #[.string (sb s5), .int .i64 0]) ∧ Ext w1 w' := fun w1 h => by
        have := combine_any (Gf.tabs i pa) (Gf.sums i x y) A S i i ca cs w1 (hTr.ext h) (tabs_len _ _) (sums_len _ _ _) (by omega) hS9 (rA.ext h) (rS.ext h)
        rwa [es5, z5] at this
      have C6 : ∀ w1, Ext wr w1 → Calls Tryd.prog 7 #[.slice D i cd, .slice X i cx] w1 fun e w' => e = .returned (.tuple #[.string (sb s6), .int .i64 0]) ∧ Ext w1 w' := fun w1 h => by
        have := combine_any (Gf.tabs i fun j => Gf.mul c (pa j)) x D X i i cd cx w1 (hTr.ext h) (tabs_len _ _) HN.out.1 (by omega) hX9 (rD.ext h) (rX.ext h)
        rwa [es6, z6] at this
      have HC := Lib.hid (And.intro C1 (And.intro C2 (And.intro C3 (And.intro C4 (And.intro C5 C6)))))
      have HQ := Lib.hid (And.intro q1 (And.intro q2 q3))
      have HE := Lib.hid hE
      have HTr := Lib.hid hTr
      have HS := Lib.hid (And.intro hs1 (And.intro hs2 hs4))
      clear C1 C2 C3 C4 C5 C6 q1 q2 q3 hE hTr hs1 hs2 hs4 z1 z2 z3 z4 z5 z6 es1 es2 es3 es4 es5 es6 rA rB rC rD rS rX rY hR hX9 hY9 hS9 hj hz hx100 hy100 HR
      go_wp2_with fail
      refine (HC.out.1 _ (Ext.refl _)).mono ?_
      rintro e w1 ⟨rfl, hx1⟩
      have HX1 := Lib.hid hx1
      clear hx1
      go_wp2_with fail
      refine (HC.out.2.1 _ HX1.out).mono ?_
      rintro e w2 ⟨rfl, hx2⟩
      have HX2 := Lib.hid (HX1.out.trans hx2)
      clear hx2
      go_wp2_with fail
      refine (HC.out.2.2.1 _ HX2.out).mono ?_
      rintro e w3 ⟨rfl, hx3⟩
      have HX3 := Lib.hid (HX2.out.trans hx3)
      clear hx3
      go_wp2_with fail
      refine (HC.out.2.2.2.1 _ HX3.out).mono ?_
      rintro e w4 ⟨rfl, hx4⟩
      have HX4 := Lib.hid (HX3.out.trans hx4)
      clear hx4
      go_wp2_with fail
      refine (HC.out.2.2.2.2.1 _ HX4.out).mono ?_
      rintro e w5 ⟨rfl, hx5⟩
      have HX5 := Lib.hid (HX4.out.trans hx5)
      clear hx5
      go_wp2_with fail
      refine (HC.out.2.2.2.2.2 _ HX5.out).mono ?_
      rintro e w6 ⟨rfl, hx6⟩
      have HX6 := Lib.hid (HX5.out.trans hx6)
      clear hx6
      go_wp2_with fail
      refine (sanity_any _ (HTr.out.ext HX6.out)).mono ?_
      rintro e w7 ⟨rfl, hx7⟩
      have HX7 := Lib.hid (HX6.out.trans hx7)
      clear hx7
      go_wp2_with fail
      refine (sum_any (sb s1) (sb s2) _ (by rw [size_sb]; have := HS.out; omega) (by rw [size_sb]; have := HS.out; omega)).mono ?_
      rintro e w8 ⟨rfl, hx8⟩
      have HX8 := Lib.hid (HX7.out.trans hx8)
      clear hx8
      rw [bl_sb, bl_sb, ← HQ.out.1]
      go_wp2_with fail
      refine (sum_any (sb s1) (sb s4) _ (by rw [size_sb]; have := HS.out; omega) (by rw [size_sb]; have := HS.out; omega)).mono ?_
      rintro e w9 ⟨rfl, hx9⟩
      have HX9 := Lib.hid (HX8.out.trans hx9)
      clear hx9
      rw [bl_sb, bl_sb, ← HQ.out.2.1]
      go_wp2_with fail
      refine (scale_any c (sb s1) _ (HTr.out.ext HX9.out) (by rw [size_sb]; have := HS.out; omega)).mono ?_
      rintro e w10 ⟨rfl, hx10⟩
      have HX10 := Lib.hid (HX9.out.trans hx10)
      clear hx10
      rw [bl_sb, ← HQ.out.2.2]
      go_wp2_with fail
      go_ret
      exact ⟨rfl, HE.out.trans HX10.out⟩
end Go.Proofs.YtheeafhpjffbkaaDoor
