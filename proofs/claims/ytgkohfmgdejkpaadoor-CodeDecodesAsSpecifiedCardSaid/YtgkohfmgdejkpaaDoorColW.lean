/- THE WALK over collect, with pieces. -/
import Derived.Test.YtgkohfmgdejkpaaDoorEncX
import Derived.RegionTactic
import Derived.BigRegion
namespace Go.Proofs.YtgkohfmgdejkpaaDoor
open Go.RowKit
/-- What collect returns: stairs, if they are as wide as the rows. -/
def ColOut (n : Nat) (rows : List (List UInt8)) (m : Nat) (pieces : List (List UInt8)) (w : World) (e : Ending) (w' : World) : Prop :=
  ∃ P, e = .returned (.pointer (if (Cd.col n rows m pieces).1.length = n then some ⟨P, 0, none⟩ else none)) ∧ StairsOut w w' P (Cd.col n rows m pieces).1 (Cd.col n rows m pieces).2 n
set_option maxRecDepth 100000 in
set_option maxHeartbeats 4000000 in
/-- `collect` of pieces, in a good case: some rows, and a set of them. -/
theorem cCollect_pieces (d m : Nat) (rows pieces : List (List UInt8)) (V : Value) (PA : Option Addr) (cp : Nat) (w : World) (hT : Tab w) (hR : Rs (Rs RB) w V rows) (hl : ∀ r ∈ rows, r.length = d) (hd : 0 < d) (hd2 : d ≤ 16) (hn : 0 < rows.length) (hn2 : rows.length ≤ 24) (hm : m < 2 ^ rows.length) (hP : Rs RS w (.slice PA pieces.length cp) pieces) (hpl : pieces.length = rows.length) (hpm : ∀ p ∈ pieces, p.length ≤ 140737488351232) :
    Calls Tryd.prog 39 #[V, .int .i64 m, .slice PA pieces.length cp] w fun e w' => ColOut d rows m pieces w e w' := by
  have HT := Lib.hid hT
  have HR := Lib.hid hR
  have HL := Lib.hid hl
  have HP := Lib.hid hP
  have HPM := Lib.hid hpm
  obtain ⟨pd, _, rfl, _, _⟩ := hP.at (i := 0) (by omega)
  obtain ⟨A, c, rfl, hl63⟩ := hR.form
  obtain ⟨ad0, u0, rfl, hcell0, hu0⟩ := hR.at hn
  obtain ⟨B0, c0, rfl, _⟩ := hu0.form
  have hd0 := hl _ (List.getElem_mem hn)
  rw [hd0] at hcell0
  have hm24 : m < 16777216 := Nat.lt_of_lt_of_le hm (Nat.pow_le_pow_right (by omega) hn2)
  have hcell0' : w.cell? ad0 = some (.slice B0 d c0) := by rw [← hcell0]; simp [Addr.add]
  have e1 : ((rows.length : Int) == 0) = false := by rw [beq_eq_false_iff_ne]; omega
  have e2 : (wrap64 (2 ^ rows.length) ≤ (m : Int)) = False := by
    rw [wrap_pow _ (by omega)]
    exact eq_false (by omega)
  have e3 : ¬ rows = [] := by intro h; rw [h] at hn; simp at hn
  have hS0 := Lib.hid (StairsOut.start (w := w) (n := d))
  clear hT hR hl hu0 hd0 hcell0 hP hpm
  go_enter Tryd.func39, Tryd.ntmps39
  go_wp2_with fail
  clear hcell0'
  go_loopw [36] (fun vi wr => ∃ k : Nat, k ≤ rows.length ∧ vi = .int .i64 k ∧ Hid (StairsOut w wr w.heap.size (Cd.colTo d rows m pieces k).1 (Cd.colTo d rows m pieces k).2 d ∧ ∀ q ∈ (Cd.colTo d rows m pieces k).2, q.length ≤ 140737488351232)) (fun vi _ => rows.length - (intOf vi).toNat)
  case atStart => exact ⟨0, Nat.zero_le _, rfl, hS0.out, fun q hq => by cases hq⟩
  case round =>
    obtain ⟨k, hk, rfl, HI⟩ := hrel
    by_cases hlt : k < rows.length
    · have hx := HI.out.1.ext
      obtain ⟨ad, u, ead, hcell, hu⟩ := HR.out.at hlt
      injection ead with ead
      subst ead
      have hrl := HL.out _ (List.getElem_mem hlt)
      obtain ⟨B, cB, rfl, hlB⟩ := hu.form
      have hbd := hu.rd
      rw [hrl] at hcell
      have hcr := Cd.colTo_rows (n := d) (rows := rows) m pieces k (by omega)
      have hgood := Cd.stairs_good (n := d) (L := Cd.pickTo rows m k) (fun r hr => HL.out r (Cd.pickTo_mem hr))
      rw [← hcr] at hgood
      have hcell' := hx.cell hcell
      have hmm : bits .and .i64 ((m : Int) / 2 ^ k) 1 = ((Cd.bitAt m k : Nat) : Int) := by
        have hle : m / 2 ^ k ≤ m := Nat.div_le_self _ _
        have := odd64 (m / 2 ^ k) (by omega)
        rw [Cd.bitAt, ← this]
        simp
      have hyes := fun h1 h2 => Cd.colTo_yes (n := d) (rows := rows) (m := m) (pieces := pieces) (k := k) h1 h2
      have hno := fun h => Cd.colTo_no (n := d) (rows := rows) (m := m) (pieces := pieces) (k := k) h
      have hgr : rows.getD k [] = rows[k] := by rw [List.getD_eq_getElem?_getD, List.getElem?_eq_getElem hlt]; rfl
      have hgp : pieces.getD k [] = pieces[k]'(by omega) := by rw [List.getD_eq_getElem?_getD, List.getElem?_eq_getElem (by omega)]; rfl
      obtain ⟨pd', up, epd, hpc, hup⟩ := HP.out.at (i := k) (by omega)
      injection epd with epd
      subst epd
      have hup' : up = sv (pieces[k]'(by omega)) := hup
      subst hup'
      have hpc2 := hx.cell hpc
      have hpk := HPM.out _ (List.getElem_mem (show k < pieces.length by omega))
      rw [hgr, hgp] at hyes
      obtain ⟨pc, hpce⟩ : ∃ pc, pieces[k]'(by omega) = pc := ⟨_, rfl⟩
      rw [hpce] at hyes hpc2 hpk
      obtain ⟨r, hr⟩ : ∃ r, rows[k] = r := ⟨_, rfl⟩
      rw [hr] at hyes hrl hbd
      obtain ⟨S, hS⟩ : ∃ S, (Cd.colTo d rows m pieces k).1 = S := ⟨_, rfl⟩
      obtain ⟨Ps, hPs⟩ : ∃ Ps, (Cd.colTo d rows m pieces k).2 = Ps := ⟨_, rfl⟩
      have hO := HI.out.1
      have hPl := HI.out.2
      rw [hS, hPs] at hO hyes
      rw [hS] at hgood hno
      rw [hPs] at hPl
      have HCE := Lib.hid (And.intro hS hPs)
      have HPL := Lib.hid hPl
      have HNO := Lib.hid hno
      obtain ⟨X, Y, cX, cY, b0, b1, b2, _, _, _⟩ := hO.look
      have HO := Lib.hid hO
      have HGG := Lib.hid hgood
      have hsl : S.length ≤ d := hgood.2
      have HY := Lib.hid hyes
      have HB := Lib.hid hbd
      clear hgood hO hyes hcell hu hbd hr hS hPs hPl hno hgr hgp hpc hpce hcr hup HP
      by_cases hb : Cd.bitAt m k = 1
      · rw [hb] at hmm
        by_cases hlS : S.length < d
        · go_wp2_with fail
          go_quiet (fail)
          go_wp2_with fail
          obtain ⟨bd, rfl, _, _⟩ := HB.out.at (k := 0) (by simp; omega)
          rw [← hrl]
          refine (cAdd_any w _ w.heap.size S Ps r pc bd cB HT.out (HB.out.ext (HO.out.ext.drewN nq)) (by omega) (by omega) (by rw [hrl]; exact HO.out.next ((Ext.refl wr).drewN nq)) (by rw [hrl]; exact HGG.out.1) (by omega) HPL.out hpk).mono ?_
          rintro e w2 ⟨rfl, ho⟩
          rw [hrl]
          have hnx := HY.out hb hlS
          rw [hrl, ← hnx] at ho
          have hev := addTo_parts (S := S) (r := r) (M := 140737488351232) HPL.out hpk
          rw [← hnx] at hev
          have HEV := Lib.hid hev
          clear hnx hev
          have HO2 := Lib.hid ho
          clear ho
          go_wp2_with fail
          go_roundw
          case rel => exact ⟨k + 1, by omega, by go_num, HO2.out, HEV.out⟩
          case measure => simp [intOf]; omega
        · have hst := HNO.out (fun h => hlS h.2)
          have HST := Lib.hid hst
          clear hst
          go_wp2_with fail
          go_quiet (fail)
          go_wp2_with fail
          go_roundw
          case rel => exact ⟨k + 1, by omega, by go_num, by rw [HST.out]; exact ⟨HI.out.1.next ((Ext.refl wr).drewN nq), HI.out.2⟩⟩
          case measure => simp [intOf]; omega
      · have hst := HNO.out (fun h => hb h.1)
        have HST := Lib.hid hst
        have eb : (((Cd.bitAt m k : Nat) : Int) == 1) = false := by rw [beq_eq_false_iff_ne]; omega
        clear hst
        go_wp2_with fail
        go_quiet (fail)
        go_wp2_with fail
        go_roundw
        case rel => exact ⟨k + 1, by omega, by go_num, by rw [HST.out]; exact ⟨HI.out.1.next ((Ext.refl wr).drewN nq), HI.out.2⟩⟩
        case measure => simp [intOf]; omega
    · obtain rfl : k = rows.length := by omega
      have hO := HI.out.1
      have hpk : Cd.colTo d rows m pieces rows.length = Cd.col d rows m pieces := rfl
      rw [hpk] at hO
      have hcr := Cd.colTo_rows (n := d) (rows := rows) m pieces rows.length (Nat.le_refl _)
      rw [hpk] at hcr
      have hgood := Cd.stairs_good (n := d) (L := Cd.pick rows m) (fun r hr => HL.out r (Cd.pickTo_mem hr))
      rw [show Gf.stairs d (Cd.pick rows m) = (Cd.col d rows m pieces).1 from hcr.symm] at hgood
      obtain ⟨S, hS⟩ : ∃ S, (Cd.col d rows m pieces).1 = S := ⟨_, rfl⟩
      rw [hS] at hO hgood
      have hsl : S.length ≤ d := hgood.2
      obtain ⟨X, Y, cX, cY, b0, b1, b2, _, _, _⟩ := hO.look
      have HO := Lib.hid hO
      have HS := Lib.hid hS
      clear hO hS hgood hpk hcr
      by_cases hlS : S.length < d
      · go_wp2_with fail
        go_quiet (fail)
        go_wp2_with fail
        go_ret
        refine ⟨w.heap.size, ?_, ?_⟩
        · rw [HS.out, if_neg (by omega)]; rfl
        · rw [HS.out]; exact HO.out.next ((Ext.refl wr).drewN nq)
      · go_wp2_with fail
        go_quiet (fail)
        go_wp2_with fail
        go_ret
        refine ⟨w.heap.size, ?_, ?_⟩
        · rw [HS.out, if_pos (by omega)]; rfl
        · rw [HS.out]; exact HO.out.next ((Ext.refl wr).drewN nq)
end Go.Proofs.YtgkohfmgdejkpaaDoor
