/- THE WALK over sorted. -/
import Derived.Test.YtgkohfmgdejkpaaDoorSortI
namespace Go.Proofs.YtgkohfmgdejkpaaDoor
open Go.RowKit
theorem wp_atEnd' {P : Program} {c : Code} {Q : Exit → Act → World → Prop} {a : Act} {w : World} (h : Code.wp P c (AtEnd fun a w => Q .normal a w) a w) : Code.wp P c Q a w :=
  Code.wp_mono (fun e a w hr => by
    cases e with
    | normal => exact hr
    | _ => exact (hr : False).elim) h
set_option maxRecDepth 100000 in
set_option maxHeartbeats 8000000 in
theorem cSorted_any (w : World) (P n : Nat) (S Ps : List (List UInt8)) (hT : Tab w) (hS : StairsRd w P S Ps n) (hn : n ≤ 16) (hst : Gf.Stairs n S) (hl : S.length = n) (hPl : Ps.length = n) (hM : ∀ q ∈ Ps, q.length ≤ 140737488351232) (hTri : Cd.Tri n (Cd.byOrd S (Cd.ordTo S n))) :
    Calls Tryd.prog 40 #[.pointer (some ⟨P, 0, none⟩)] w fun e w' => ∃ v, e = .returned v ∧ Rs RS w' v (Cd.sol (Cd.byOrd S (Cd.ordTo S n)) (Cd.byOrd Ps (Cd.ordTo S n)) n) ∧ Ext w w' := by
  obtain ⟨A, B, cA, cB, h0, h1, h2, hA, hB⟩ := hS
  have HT := Lib.hid hT
  have HA := Lib.hid hA
  have HB := Lib.hid hB
  have HST := Lib.hid hst
  have HM := Lib.hid hM
  have HTri := Lib.hid hTri
  rw [hl] at h0
  rw [hPl] at h1
  have HC := Lib.hid (And.intro h0 (And.intro h1 h2))
  have HL := Lib.hid (And.intro hl hPl)
  have HS0 := Lib.hid (SortOut.start (w := w) (n := n) (S := S) (Ps := Ps))
  have h2' : (w.alloc (.cells #[.slice none 0 0, .slice none 0 0, .int .i64 n] 82)).cell? ⟨P, 2, none⟩ = some (.int .i64 n) := ((Ext.refl w).alloc _).cell h2
  clear hT hA hB hM hTri hl hPl hst
  go_enter Tryd.func40, Tryd.ntmps40
  go_wp2_with fail
  clear h0 h1 h2 h2'
  go_loopw [17] (fun va wr => ∃ a : Nat, a ≤ n ∧ va = .int .i64 a ∧ Hid (SortOut w wr w.heap.size S Ps (Cd.ordTo S a) n)) (fun va _ => n - (intOf va).toNat)
  case atStart => exact ⟨0, Nat.zero_le _, rfl, HS0.out⟩
  case round =>
    obtain ⟨a, ha, rfl, HI⟩ := hrel
    by_cases hlt : a < n
    · have c0 : wr.cell? ⟨P, 0, none⟩ = some (.slice A n cA) := HI.out.ext.cell HC.out.1
      go_wp2_with fail
      clear c0
      go_loopw [25] (fun vk wr => ∃ k : Nat, k ≤ n ∧ vk = .int .i64 k ∧ Hid (SortOut w wr w.heap.size S Ps (Cd.ordTo S a ++ Cd.atTo S a k) n)) (fun vk _ => n - (intOf vk).toNat)
      case atStart => exact ⟨0, Nat.zero_le _, rfl, by rw [Cd.atTo_zero, List.append_nil]; exact HI.out⟩
      case round =>
        obtain ⟨k, hk, rfl, HJ⟩ := hrel
        by_cases hltk : k < n
        · obtain ⟨o, ho⟩ : ∃ o, Cd.ordTo S a ++ Cd.atTo S a k = o := ⟨_, rfl⟩
          have hJ := HJ.out
          have hol : o.length ≤ 32 := by
            have q1 := (Cd.ordTo_spec HST.out HL.out.1 a (by omega)).1
            have q2 : (Cd.atTo S a k).length ≤ k := by
              have := List.length_filter_le (fun i => Gf.firstNZ (S.getD i []) == a) (List.range k)
              rw [List.length_range] at this
              exact this
            rw [← ho, List.length_append]
            omega
          rw [ho] at hJ
          have hx := hJ.ext
          obtain ⟨ad, u, rfl, hcell, hu⟩ := HA.out.at (i := k) (by rw [HL.out.1]; exact hltk)
          obtain ⟨RB', cRB, rfl, hrb⟩ := hu.form
          have hgr : S.getD k [] = S[k]'(by rw [HL.out.1]; exact hltk) := by rw [List.getD_eq_getElem?_getD, List.getElem?_eq_getElem (by rw [HL.out.1]; exact hltk)]; rfl
          have hw := HST.out.len _ (List.getElem_mem (show k < S.length by rw [HL.out.1]; exact hltk))
          have hcr := hx.cell hcell
          have hurd := hu.rd
          obtain ⟨r, hr⟩ : ∃ r, S[k]'(by rw [HL.out.1]; exact hltk) = r := ⟨_, rfl⟩
          rw [hr] at hw hcr hgr hurd hu
          have hcall := cFirst_any r RB' cRB wr (hurd.ext hx) (by omega)
          rw [Cd.first_eq, hw] at hcall
          rw [hw] at hcr hu
          have hyes := fun h => Cd.atTo_yes (S := S) (a := a) (k := k) h
          have hno := fun h => Cd.atTo_no (S := S) (a := a) (k := k) h
          rw [hgr] at hyes hno
          obtain ⟨f, hf⟩ : ∃ f, Gf.firstNZ r = f := ⟨_, rfl⟩
          rw [hf] at hcall hyes hno
          have HCALL := Lib.hid hcall
          have HY := Lib.hid hyes
          have HN := Lib.hid hno
          have HU := Lib.hid hu
          have HGR := Lib.hid hgr
          have HJ2 := Lib.hid hJ
          have HO := Lib.hid ho
          clear hcall hyes hno hu hgr hJ hw hurd hr hf hrb hcell ho
          by_cases hfa : f = a
          · have e1 : ((f : Int) == (a : Int)) = true := by rw [hfa]; simp
            have hst := HY.out hfa
            have HST2 := Lib.hid hst
            obtain ⟨X, Y, cX, cY, vs, hvl, hv, hOO⟩ := HJ2.out
            obtain ⟨bd, u2, rfl, hcell2, hu2⟩ := HB.out.at (i := k) (by rw [HL.out.2]; exact hltk)
            have hu2' : u2 = sv (Ps[k]'(by rw [HL.out.2]; exact hltk)) := hu2
            subst hu2'
            have hgp : Ps.getD k [] = Ps[k]'(by rw [HL.out.2]; exact hltk) := by rw [List.getD_eq_getElem?_getD, List.getElem?_eq_getElem (by rw [HL.out.2]; exact hltk)]; rfl
            have hcp := hx.cell hcell2
            obtain ⟨p, hp⟩ : ∃ p, Ps[k]'(by rw [HL.out.2]; exact hltk) = p := ⟨_, rfl⟩
            rw [hp] at hcp hgp hcell2
            have HPC := Lib.hid hcell2
            have c1 : wr.cell? ⟨P, 1, none⟩ = some (.slice (some bd) n cB) := hx.cell HC.out.2.1
            have t0 : wr.cell? ⟨w.heap.size, 0, none⟩ = some (.slice X o.length cX) := hOO.cell 0 rfl 0 rfl
            have t1 : wr.cell? ⟨w.heap.size, 1, none⟩ = some (.slice Y o.length cY) := hOO.cell 0 rfl 1 rfl
            have HOO := Lib.hid hOO.wider.wider.drew
            have HVL := Lib.hid (And.intro hvl hv)
            have HGP := Lib.hid hgp
            have HX := Lib.hid hx
            clear hst hfa hvl hv hOO hcell2 hu2 hgp hp hx
            go_wp2_with fail
            refine HCALL.out.mono ?_
            rintro e w' ⟨rfl, rfl⟩
            clear hcr
            go_wp2_with fail
            have HCC := Lib.hid (And.intro HC.out.2.1 HPC.out)
            refine wp_atEnd' (sorted_region w wr P n k cRB cX cY cB RB' X Y bd p S Ps o vs HCC HOO hol hltk HVL (Lib.hid (by rw [HGR.out]; exact HU.out)) HGP _ _ _ _ _ _ _ _ _ _ _ _ _ _ _ _ _ _ _ _ _ _ _ _ _ _ _ _ _ _ _ _ _ _ _ _ _ _ _ _ _ _ _ _ _ _ _ _ _ _ _ _ _ _ _ _ _ _ _ _ _ _ ?_)
            intro u34 u35 u36 u37 u38 u39 u40 u41 u42 u43 u44 u45 u46 u47 u48 u49 u50 u51 u52 u53 u54 u55 u56 u57 u58 u59 wx hS9
            dsimp only
            clear t0 t1 c1 hcp
            go_wp2_with fail
            go_roundw
            case rel => exact ⟨k + 1, by omega, by go_num, by rw [HST2.out, ← List.append_assoc, HO.out]; exact hS9⟩
            case measure => simp [intOf]; omega
          · have e1 : ((f : Int) == (a : Int)) = false := by rw [beq_eq_false_iff_ne]; omega
            have hst := HN.out hfa
            have HST2 := Lib.hid hst
            clear hst hfa hx
            go_wp2_with fail
            refine HCALL.out.mono ?_
            rintro e w' ⟨rfl, rfl⟩
            clear hcr
            go_wp2_with fail
            go_roundw
            case rel => exact ⟨k + 1, by omega, by go_num, by rw [HST2.out, HO.out]; exact HJ2.out⟩
            case measure => simp [intOf]; omega
        · obtain rfl : k = n := by omega
          have hj := HJ.out
          have e9 : Cd.ordTo S a ++ Cd.atTo S a k = Cd.ordTo S (a + 1) := by rw [Cd.ordTo_succ, HL.out.1]
          rw [e9] at hj
          have HJ3 := Lib.hid hj
          clear hj e9
          go_wp2_with fail
          go_roundw
          case rel => exact ⟨a + 1, by omega, by go_num, HJ3.out⟩
          case measure => simp [intOf]; omega
    · obtain rfl : a = n := by omega
      have hlook := HI.out.look
      have hol := Cd.byOrd_len Ps (Cd.ordTo S a)
      have ho1 := (Cd.ordTo_spec HST.out HL.out.1 a (Nat.le_refl _)).1
      have hcall := cSolve_any wr w.heap.size a _ _ (HT.out.ext HI.out.ext) hlook hn HTri.out (by rw [hol, ho1]) (fun q hq => by
        obtain ⟨j, hj, rfl⟩ := List.mem_map.1 hq
        rw [List.getD_eq_getElem?_getD]
        cases hp : Ps[j]? with
        | none => simp
        | some q => exact HM.out q (List.mem_of_getElem? hp))
      have HCALL := Lib.hid hcall
      have HX := Lib.hid HI.out.ext
      clear hlook hol ho1 hcall
      go_wp2_with fail
      refine HCALL.out.mono ?_
      rintro e w2 ⟨v, rfl, hv, hx⟩
      have HV := Lib.hid (And.intro hv (HX.out.trans hx))
      clear hv hx
      go_wp2_with fail
      go_ret
      exact ⟨v, rfl, HV.out.1, HV.out.2⟩
end Go.Proofs.YtgkohfmgdejkpaaDoor
