/- THE WALK over solve. -/
import Derived.Test.YtgkohfmgdejkpaaDoorColW
namespace Cd
theorem solTo_le {M : Nat} {T Ps : List (List UInt8)} {n : Nat} (h : ∀ q ∈ Ps, q.length ≤ M) : ∀ j i, ((solTo T Ps n j).getD i []).length ≤ M
  | 0, i => by
    have : (List.replicate n ([] : List UInt8)).getD i [] = [] := by
      rw [List.getD_eq_getElem?_getD, List.getElem?_replicate]
      split <;> rfl
    rw [solTo, this]
    simp
  | j + 1, i => by
    have ih := solTo_le (T := T) (n := n) h j
    rw [solTo]
    by_cases hk : Gf.firstNZ (T.getD (T.length - 1 - j) []) < (solTo T Ps n j).length
    · rw [getD_set hk]
      split
      · refine solRow_le ?_ ih _
        rw [List.getD_eq_getElem?_getD]
        cases hp : Ps[T.length - 1 - j]? with
        | none => simp
        | some q => exact h q (List.mem_of_getElem? hp)
      · exact ih i
    · rw [List.set_eq_of_length_le (by omega)]
      exact ih i
theorem solTo_next {T Ps : List (List UInt8)} {n j k : Nat} {r : List UInt8} {a : Nat} {p : List UInt8} (hk : T.length - 1 - j = k) (hr : T.getD k [] = r) (ha : Gf.firstNZ r = a) (hp : Ps.getD k [] = p) :
    solTo T Ps n (j + 1) = (solTo T Ps n j).set a (solRow r a (solTo T Ps n j) p r.length) := by
  rw [solTo, hk, hr, ha, hp]
end Cd
namespace Go.Proofs.YtgkohfmgdejkpaaDoor
open Go.RowKit
/-- Stairs that are read. -/
def StairsRd (w : World) (P : Nat) (T Ps : List (List UInt8)) (n : Nat) : Prop :=
  ∃ (A B : Option Addr) (cA cB : Nat), w.cell? ⟨P, 0, none⟩ = some (.slice A T.length cA) ∧ w.cell? ⟨P, 1, none⟩ = some (.slice B Ps.length cB) ∧ w.cell? ⟨P, 2, none⟩ = some (.int .i64 n) ∧ Rs (Rs RB) w (.slice A T.length cA) T ∧ Rs RS w (.slice B Ps.length cB) Ps
theorem StairsRd.ext {w w' : World} {P n : Nat} {T Ps : List (List UInt8)} (h : StairsRd w P T Ps n) (hx : Ext w w') : StairsRd w' P T Ps n := by
  obtain ⟨A, B, cA, cB, h1, h2, h3, h4, h5⟩ := h
  exact ⟨A, B, cA, cB, hx.cell h1, hx.cell h2, hx.cell h3, Rs.ext (Rs.ext RB.ext) _ _ _ _ hx h4, Rs.ext RS.ext _ _ _ _ hx h5⟩
theorem sv_nil : (Value.string ByteArray.empty) = sv [] := rfl
set_option maxRecDepth 100000 in
set_option maxHeartbeats 8000000 in
theorem cSolve_any (w : World) (P n : Nat) (T Ps : List (List UInt8)) (hT : Tab w) (hS : StairsRd w P T Ps n) (hn : n ≤ 16) (hTri : Cd.Tri n T) (hPl : Ps.length = n) (hM : ∀ q ∈ Ps, q.length ≤ 140737488351232) :
    Calls Tryd.prog 57 #[.pointer (some ⟨P, 0, none⟩)] w fun e w' => ∃ v, e = .returned v ∧ Rs RS w' v (Cd.sol T Ps n) ∧ Ext w w' := by
  obtain ⟨A, B, cA, cB, h0, h1, h2, hA, hB⟩ := hS
  have hlen := hTri.len
  have HT := Lib.hid hT
  have HA := Lib.hid hA
  have HB := Lib.hid hB
  have HTri := Lib.hid hTri
  have HM := Lib.hid hM
  rw [hlen] at h0
  rw [hPl] at h1
  have HC := Lib.hid (And.intro h0 (And.intro h1 h2))
  obtain ⟨i0, hi, hz0, hz1, hz2⟩ := info_parts info_str
  have HZ2 := Lib.hid hz2
  have HL := Lib.hid (And.intro hlen hPl)
  clear hT hA hB hTri hM hz2 hlen hPl
  go_enter Tryd.func57, Tryd.ntmps57
  go_wp2_with (refine wpList_make_full _ rfl (.tmp 12) (.tmp 12) 32 rfl w.heap.size 9 i0 (.string ByteArray.empty) 1 Tryd.underlying32 hi hz0 hz1 _ _ _ _ n rfl rfl rfl rfl (by rw [HZ2.out]; omega) (by unfold maxLen; omega) (Nat.le_refl _) ?_; intro w3 hown hgrow; have hx3 : Ext w w3 := (Ext.refl w).grown hgrow (fun k h => by cases h); have hO3 : Owns w w3 [⟨.slice (some ⟨w.heap.size, 0, none⟩) n n, 9, 1, n, (madeCells (Value.string ByteArray.empty).cells (n * 1)).toList⟩] := ((Owns.start w (L := []) (by simp)).behind hx3 hown); have HO3 := Lib.hid hO3; have h0' : w3.cell? ⟨P, 0, none⟩ = some (.slice A n cA) := hx3.cell HC.out.1; have h1' : w3.cell? ⟨P, 1, none⟩ = some (.slice B n cB) := hx3.cell HC.out.2.1; clear hown hgrow hx3 hO3)
  clear h0 h1 h2 h0' h1'
  have hO4 : Owns w w3 [⟨.slice (some ⟨w.heap.size, 0, none⟩) n n, 9, 1, n, (Cd.solTo T Ps n 0).map sv⟩] := by
    have h := HO3.out
    rw [Nat.mul_one] at h
    have e : (madeCells (Value.string ByteArray.empty).cells n).toList = (Cd.solTo T Ps n 0).map sv := by
      rw [Cd.solTo, List.map_replicate, ← sv_nil]
      exact toList_madeCells_one _ _
    rw [e] at h
    exact h
  have HO4 := Lib.hid hO4
  clear hO4
  go_loopw [4] (fun vk wr => ∃ (j : Nat) (k : Int), j ≤ n ∧ vk = .int .i64 k ∧ k = (n : Int) - 1 - j ∧ Hid (Owns w wr [⟨.slice (some ⟨w.heap.size, 0, none⟩) n n, 9, 1, n, (Cd.solTo T Ps n j).map sv⟩])) (fun vk _ => (intOf vk + 1).toNat)
  case atStart => exact ⟨0, _, Nat.zero_le _, rfl, by omega, HO4.out⟩
  case round =>
    obtain ⟨j, kk, hj, rfl, hkk, HI⟩ := hrel
    by_cases hlt : j < n
    · obtain ⟨k, rfl⟩ : ∃ k : Nat, kk = k := ⟨kk.toNat, by omega⟩
      have hkn : k < n := by omega
      have hkT : T.length - 1 - j = k := by rw [HL.out.1]; omega
      have hx := HI.out.ext
      have c0 : wr.cell? ⟨P, 0, none⟩ = some (.slice A n cA) := hx.cell HC.out.1
      have c1 : wr.cell? ⟨P, 1, none⟩ = some (.slice B n cB) := hx.cell HC.out.2.1
      obtain ⟨ad, u, rfl, hcell, hu⟩ := HA.out.at (i := k) (by rw [HL.out.1]; exact hkn)
      obtain ⟨RB', cRB, rfl, hrb⟩ := hu.form
      obtain ⟨bd, u2, rfl, hcell2, hu2⟩ := HB.out.at (i := k) (by rw [HL.out.2]; exact hkn)
      have hu2' : u2 = sv (Ps[k]'(by rw [HL.out.2]; exact hkn)) := hu2
      subst hu2'
      have hgr : T.getD k [] = T[k]'(by rw [HL.out.1]; exact hkn) := by rw [List.getD_eq_getElem?_getD, List.getElem?_eq_getElem (by rw [HL.out.1]; exact hkn)]; rfl
      have hgp : Ps.getD k [] = Ps[k]'(by rw [HL.out.2]; exact hkn) := by rw [List.getD_eq_getElem?_getD, List.getElem?_eq_getElem (by rw [HL.out.2]; exact hkn)]; rfl
      have hpm := HM.out _ (List.getElem_mem (show k < Ps.length by rw [HL.out.2]; exact hkn))
      have hw := HTri.out.wide k hkn
      have hf := HTri.out.first k hkn
      have hurd := hu.rd
      have hcr := hx.cell hcell
      have hcp := hx.cell hcell2
      rw [hgr] at hw hf
      obtain ⟨r, hr⟩ : ∃ r, T[k]'(by rw [HL.out.1]; exact hkn) = r := ⟨_, rfl⟩
      obtain ⟨p, hp⟩ : ∃ p, Ps[k]'(by rw [HL.out.2]; exact hkn) = p := ⟨_, rfl⟩
      rw [hr] at hw hf hurd hcr hgr
      rw [hp] at hcp hpm hgp
      have hnx := Cd.solTo_next (n := n) hkT hgr hf hgp
      have hle := Cd.solTo_le (T := T) (n := n) HM.out j
      have hsl := Cd.solTo_len T Ps n j
      obtain ⟨out, hout⟩ : ∃ out, Cd.solTo T Ps n j = out := ⟨_, rfl⟩
      rw [hout] at hnx hle hsl
      have hO := HI.out
      rw [hout] at hO
      have HNX := Lib.hid hnx
      have HLE := Lib.hid hle
      have HSL := Lib.hid hsl
      have HU := Lib.hid hurd
      have HO := Lib.hid hO
      have HWF := Lib.hid (And.intro hw hf)
      rw [hw] at hcr
      have HKK := Lib.hid (And.intro hkk hkT)
      have hcall := cFirst_any r RB' cRB wr (hurd.ext hx) (by omega)
      rw [Cd.first_eq, hf, hw] at hcall
      have HCALL := Lib.hid hcall
      clear hcall hw
      clear hnx hle hsl hurd hu hout hO hr hp hgr hgp hcell hcell2 hu2 hrb hx hf hkk hkT
      go_wp2_with fail
      refine HCALL.out.mono ?_
      rintro e w' ⟨rfl, rfl⟩
      go_wp2_with fail
      clear hcr hcp c0 c1
      go_loopw [5, 47] (fun vp vx w2 => ∃ i : Nat, i ≤ n ∧ vx = .int .i64 i ∧ vp = sv (Cd.solRow r k out p i) ∧ Hid (Owns w w2 [⟨.slice (some ⟨w.heap.size, 0, none⟩) n n, 9, 1, n, out.map sv⟩])) (fun _ vx _ => n - (intOf vx).toNat)
      case atStart => exact ⟨0, Nat.zero_le _, rfl, rfl, HO.out⟩
      case round =>
        obtain ⟨i, hi2, rfl, rfl, HJ⟩ := hrel
        by_cases hli : i < n
        · obtain ⟨rd, rfl, _, hrc⟩ := (HU.out.ext HJ.out.ext).at (k := i) (by rw [List.length_map, HWF.out.1]; exact hli)
          rw [List.getElem_map] at hrc
          have hri : r.getD i 0 = r[i]'(by rw [HWF.out.1]; exact hli) := by rw [List.getD_eq_getElem?_getD, List.getElem?_eq_getElem (by rw [HWF.out.1]; exact hli)]; rfl
          obtain ⟨x, hx⟩ : ∃ x, r[i]'(by rw [HWF.out.1]; exact hli) = x := ⟨_, rfl⟩
          rw [hx] at hrc hri
          have hno : ¬ (i ≠ k ∧ x ≠ 0) → Cd.solRow r k out p (i + 1) = Cd.solRow r k out p i := fun h => Cd.solRow_no (by rw [hri]; exact h)
          have hyes : i ≠ k → x ≠ 0 → Cd.solRow r k out p (i + 1) = Gf.sum (Cd.solRow r k out p i) (Gf.scale x (out.getD i [])) := fun h1 h2 => by
            have := Cd.solRow_yes (r := r) (a := k) (out := out) (p := p) (i := i) h1 (by rw [hri]; exact h2)
            rw [hri] at this
            exact this
          have hle1 := Cd.solRow_le (r := r) (a := k) hpm HLE.out i
          have hle2 := HLE.out i
          have hoc : wr.cell? ⟨w.heap.size, i, none⟩ = some (sv (out.getD i [])) := HJ.out.cell 0 rfl i (by rw [List.getElem?_map, List.getD_eq_getElem?_getD, List.getElem?_eq_getElem (by rw [HSL.out]; exact hli)]; rfl)
          have HNO := Lib.hid hno
          have HYES := Lib.hid hyes
          clear hno hyes hri hx
          obtain ⟨S, hS⟩ : ∃ S, Cd.solRow r k out p i = S := ⟨_, rfl⟩
          obtain ⟨o, ho⟩ : ∃ o, out.getD i [] = o := ⟨_, rfl⟩
          rw [hS] at HNO HYES hle1 ⊢
          rw [ho] at HYES hle2 hoc
          clear hS ho
          by_cases hik : i = k
          · have e1 : ((i : Int) != (k : Int)) = false := by rw [hik]; simp
            have hst := HNO.out (fun h => h.1 hik)
            have HST := Lib.hid hst
            clear hst hik
            go_wp2_with fail
            go_roundw
            case rel => exact ⟨i + 1, by omega, by go_num, by rw [HST.out], HJ.out⟩
            case measure => simp [intOf]; omega
          · have e1 : ((i : Int) != (k : Int)) = true := by rw [bne_iff_ne]; omega
            by_cases hx0 : x = 0
            · have hst := HNO.out (fun h => h.2 hx0)
              have HST := Lib.hid hst
              clear hst hik
              subst hx0
              go_wp2_with fail
              go_roundw
              case rel => exact ⟨i + 1, by omega, by go_num, by rw [HST.out], HJ.out⟩
              case measure => simp [intOf]; omega
            · have e2 : ((x.toNat : Int) != 0) = true := by
                rw [bne_iff_ne]
                intro h
                have h2 : x.toNat = 0 := by omega
                exact hx0 (UInt8.toNat_inj.1 h2)
              have hst := HYES.out hik hx0
              have HST := Lib.hid hst
              clear hst hik hx0
              go_wp2_with fail
              refine (scale_any x (sb o) _ (HT.out.ext HJ.out.ext) (by rw [size_sb]; exact hle2)).mono ?_
              rintro e w5 ⟨rfl, hx5⟩
              have HJ5 := Lib.hid (HJ.out.next hx5)
              clear hx5 hoc hrc
              go_wp2_with fail
              refine (sum_any (sb S) (sb (Gf.scale x o)) _ (by rw [size_sb]; exact hle1) (by rw [size_sb, Cd.scale_len]; exact hle2)).mono ?_
              rintro e w6 ⟨rfl, hx6⟩
              have HJ6 := Lib.hid (HJ5.out.next hx6)
              clear hx6
              go_wp2_with fail
              go_roundw
              case rel => exact ⟨i + 1, by omega, by go_num, by rw [HST.out], HJ6.out⟩
              case measure => simp [intOf]; omega
        · obtain rfl : i = n := by omega
          have hf9 : wr.frozen? ⟨w.heap.size, k, none⟩ = false := HJ.out.frozen 0 rfl k
          have hoc : wr.cell? ⟨w.heap.size, k, none⟩ = some (sv (out.getD k [])) := HJ.out.cell 0 rfl k (by rw [List.getElem?_map, List.getD_eq_getElem?_getD, List.getElem?_eq_getElem (by rw [HSL.out]; exact hkn)]; rfl)
          go_wp2_with fail
          go_roundw
          case rel => exact ⟨j + 1, _, by omega, rfl, by have := HKK.out.1; omega, by rw [HNX.out, List.map_set, HWF.out.1]; exact HJ.out.store 0 rfl k _⟩
          case measure => (have := HKK.out.1; simp [intOf]) <;> omega
    · obtain rfl : j = n := by omega
      have hrs : Rs RS wr (.slice (some ⟨w.heap.size, 0, none⟩) j j) (Cd.sol T Ps j) := by
        have h1 := HI.out.rd 0 rfl
        have h2 : (Cd.solTo T Ps j j).length = j := Cd.solTo_len _ _ _ _
        have h3 := Rs.of_rdS (c := j) h1 (by omega)
        rw [h2] at h3
        rw [Cd.sol, HL.out.1]
        exact h3
      have HRS := Lib.hid (And.intro hrs HI.out.ext)
      have hkk2 : kk = -1 := by omega
      subst hkk2
      clear hrs
      go_wp2_with fail
      go_ret
      exact ⟨_, rfl, HRS.out.1, HRS.out.2⟩
end Go.Proofs.YtgkohfmgdejkpaaDoor
