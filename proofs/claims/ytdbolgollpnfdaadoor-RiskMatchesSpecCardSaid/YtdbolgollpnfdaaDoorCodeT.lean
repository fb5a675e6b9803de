/- THE WALKS over collect (without pieces) and Recoverable. -/
import Derived.Test.YtdbolgollpnfdaaDoorCodeS
import Derived.RegionTactic
import Derived.BigRegion
namespace Cd
/-- The first k rows that are in a set. -/
def pickTo (rows : List (List UInt8)) (m k : Nat) : List (List UInt8) := (List.range k).filterMap fun i => if bitAt m i = 1 then rows[i]? else none
def pick (rows : List (List UInt8)) (m : Nat) : List (List UInt8) := pickTo rows m rows.length
theorem pickTo_zero (rows : List (List UInt8)) (m : Nat) : pickTo rows m 0 = [] := rfl
theorem pickTo_yes {rows : List (List UInt8)} {m k : Nat} (hk : k < rows.length) (h : bitAt m k = 1) : pickTo rows m (k + 1) = pickTo rows m k ++ [rows[k]] := by
  simp [pickTo, List.range_succ, List.filterMap_append, h, List.getElem?_eq_getElem hk]
theorem pickTo_no {rows : List (List UInt8)} {m k : Nat} (h : bitAt m k ≠ 1) : pickTo rows m (k + 1) = pickTo rows m k := by
  simp [pickTo, List.range_succ, List.filterMap_append, h]
theorem stairs_snoc (n : Nat) (L : List (List UInt8)) (r : List UInt8) : Gf.stairs n (L ++ [r]) = Gf.step n (Gf.stairs n L) r := by
  simp [Gf.stairs, List.foldl_append]
theorem pickTo_mem {rows : List (List UInt8)} {m k : Nat} {r : List UInt8} (h : r ∈ pickTo rows m k) : r ∈ rows := by
  simp only [pickTo, List.mem_filterMap] at h
  obtain ⟨i, _, h⟩ := h
  split at h
  · exact List.mem_of_getElem? h
  · cases h
theorem stairs_good {n : Nat} {L : List (List UInt8)} (hl : ∀ r ∈ L, r.length = n) : Gf.Stairs n (Gf.stairs n L) ∧ (Gf.stairs n L).length ≤ n := by
  have := Gf.stairs_inv L [] [] (by simpa using hl) ⟨by simp, by simp, by simp, by simp⟩ (by simp) (by simp) (fun _ r hr => by cases hr)
  exact ⟨this.1, this.2.1⟩
/-- Can a chunk be made again from a set of pieces? -/
def can (d gl : Int) (gs : List (List Int)) (m : Int) : Bool :=
  decide (check d gs gl = 0 ∧ 0 ≤ m ∧ m < 2 ^ (rowsOf d gs gl).length ∧ (Gf.stairs d.toNat (pick (rowsOf d gs gl) m.toNat)).length = d.toNat)
end Cd
namespace Go.Proofs.YtdbolgollpnfdaaDoor
open Go.RowKit
theorem addTo_step {n : Nat} {S Ps : List (List UInt8)} {r p : List UInt8} (h : S.length < n) : (addTo S Ps r p).1 = Gf.step n S r := by
  unfold Gf.step
  rw [if_pos h]
  cases ha : Gf.addRow S r with
  | none => rw [addTo_none ha]
  | some t => rw [addTo_some ha]
theorem addTo_parts {S Ps : List (List UInt8)} {r p : List UInt8} {M : Nat} (hq : ∀ q ∈ Ps, q.length ≤ M) (hp : p.length ≤ M) : ∀ q ∈ (addTo S Ps r p).2, q.length ≤ M := by
  cases ha : Gf.addRow S r with
  | none => rw [addTo_none ha]; exact hq
  | some t =>
    rw [addTo_some ha]
    intro q h
    rcases List.mem_append.1 h with h | h
    · exact hq q h
    · simp only [List.mem_singleton] at h
      subst h
      have := redTo_part_le S Ps r p M hq hp S.length
      unfold newPart Gf.scale
      rw [List.length_map]
      exact this
/-- A block of three cells, as one element of three cells. -/
theorem Owns.one3 {w0 w : World} {g e : Nat} {xs : List Value} {L : List LRow} (h : Owns w0 w (⟨.slice (some ⟨g, 0, none⟩) 3 3, e, 1, 3, xs⟩ :: L)) : Owns w0 w (⟨.slice (some ⟨g, 0, none⟩) 1 1, e, 3, 1, xs⟩ :: L) where
  ext := h.ext
  ok i r hr := by
    cases i with
    | zero =>
      simp at hr
      subst hr
      have h0 := h.ok 0 _ rfl
      refine ⟨h0.1, ?_⟩
      rcases h0.2 with ⟨h2, h3⟩ | ⟨g', cap, cur, hv, hB, hh, h1, h2, h3, h4⟩
      · cases h2
      · injection hv with e1 e2 e3
        injection e1 with e1
        injection e1 with e1
        subst e1 e3
        exact .inr ⟨g, 1, cur, rfl, hB, hh, Nat.le_refl 1, by unfold maxLen; omega, by simpa using h3, by simpa using h4⟩
    | succ i => exact h.ok (i + 1) r hr
  far i j a b hij ha hb := by
    cases i with
    | zero =>
      cases j with
      | zero => exact absurd rfl hij
      | succ j =>
        simp at ha
        subst ha
        exact h.far 0 (j + 1) ⟨.slice (some ⟨g, 0, none⟩) 3 3, e, 1, 3, xs⟩ b (by omega) rfl hb
    | succ i =>
      cases j with
      | zero =>
        simp at hb
        subst hb
        exact h.far (i + 1) 0 a ⟨.slice (some ⟨g, 0, none⟩) 3 3, e, 1, 3, xs⟩ (by omega) ha rfl
      | succ j => exact h.far (i + 1) (j + 1) a b hij ha hb
theorem StairsOut.start {w : World} {n : Nat} : StairsOut w (w.alloc (.cells #[.slice none 0 0, .slice none 0 0, .int .i64 n] 76)) w.heap.size [] [] n := by
  refine ⟨none, none, 0, 0, [], rfl, rfl, ?_⟩
  have h1 := (Owns.start w (L := [no, nilRow 63, nilRow 9]) (by intro r hr; simp [no, nilRow] at hr; rcases hr with rfl | rfl | rfl <;> simp)).new 0 #[.slice none 0 0, .slice none 0 0, .int .i64 n] 76 (by simp [maxLen])
  exact h1.one3
theorem enters_add : ∀ args w, (callFunc 53 args).run Tryd.prog w = .ok (.enter 53 args) w := enters_of Tryd.func53 (by kernel_rfl) rfl
/-- `collect` without pieces, in a good case: some rows, and a set of them. -/
theorem cCollect_in (d m : Nat) (rows : List (List UInt8)) (V : Value) (w : World) (hT : Tab w) (hR : Rs (Rs RB) w V rows) (hl : ∀ r ∈ rows, r.length = d) (hd : 0 < d) (hd2 : d ≤ 16) (hn : 0 < rows.length) (hn2 : rows.length ≤ 24) (hm : m < 2 ^ rows.length) :
    Calls Tryd.prog 44 #[V, .int .i64 m, .slice none 0 0] w fun e w' => ∃ p, e = .returned (.pointer p) ∧ (p = none ↔ (Gf.stairs d (Cd.pick rows m)).length ≠ d) ∧ Ext w w' := by
  have HT := Lib.hid hT
  have HR := Lib.hid hR
  have HL := Lib.hid hl
  obtain ⟨A, c, rfl, hl63⟩ := hR.form
  obtain ⟨ad0, u0, rfl, hcell0, hu0⟩ := hR.at hn
  obtain ⟨B0, c0, rfl, _⟩ := hu0.form
  have hd0 := hl _ (List.getElem_mem hn)
  rw [hd0] at hcell0
  have hm24 : m < 16777216 := Nat.lt_of_lt_of_le hm (Nat.pow_le_pow_right (by omega) hn2)
  have hcell0' : w.cell? ad0 = some (.slice B0 d c0) := by rw [← hcell0]; simp [Addr.add]
  have e1 : ((rows.length : Int) == 0) = false := by rw [beq_eq_false_iff_ne]; omega
  have e2 : (wrap64 (2 ^ rows.length) ≤ (m : Int)) = False := by
    rw [wrap_pow _ (by omega)]
    exact eq_false (by omega)
  have e3 : ¬ rows = [] := by intro h; rw [h] at hn; simp at hn
  have hS0 := Lib.hid (StairsOut.start (w := w) (n := d))
  clear hT hR hl hu0 hd0 hcell0
  go_enter Tryd.func44, Tryd.ntmps44
  go_wp2_with fail
  clear hcell0'
  go_loopw [36] (fun vi wr => ∃ (k : Nat) (Ps : List (List UInt8)), k ≤ rows.length ∧ vi = .int .i64 k ∧ Hid (StairsOut w wr w.heap.size (Gf.stairs d (Cd.pickTo rows m k)) Ps d ∧ ∀ q ∈ Ps, q.length ≤ 0)) (fun vi _ => rows.length - (intOf vi).toNat)
  case atStart => exact ⟨0, [], Nat.zero_le _, rfl, hS0.out, by simp⟩
  case round =>
    obtain ⟨k, Ps, hk, rfl, HI⟩ := hrel
    by_cases hlt : k < rows.length
    · have hx := HI.out.1.ext
      obtain ⟨ad, u, ead, hcell, hu⟩ := HR.out.at hlt
      injection ead with ead
      subst ead
      have hrl := HL.out _ (List.getElem_mem hlt)
      obtain ⟨B, cB, rfl, hlB⟩ := hu.form
      have hbd := hu.rd
      rw [hrl] at hcell
      have hgood := Cd.stairs_good (n := d) (L := Cd.pickTo rows m k) (fun r hr => HL.out r (Cd.pickTo_mem hr))
      have hcell' := hx.cell hcell
      have hmm : bits .and .i64 ((m : Int) / 2 ^ k) 1 = ((Cd.bitAt m k : Nat) : Int) := by
        have hle : m / 2 ^ k ≤ m := Nat.div_le_self _ _
        have := odd64 (m / 2 ^ k) (by omega)
        rw [Cd.bitAt, ← this]
        simp
      have hyes := Cd.pickTo_yes (m := m) hlt
      obtain ⟨r, hr⟩ : ∃ r, rows[k] = r := ⟨_, rfl⟩
      rw [hr] at hyes hrl hbd
      obtain ⟨S, hS⟩ : ∃ S, Gf.stairs d (Cd.pickTo rows m k) = S := ⟨_, rfl⟩
      have HSS := Lib.hid hS
      have hO := HI.out.1
      rw [hS] at hO hgood
      obtain ⟨X, Y, cX, cY, b0, b1, b2, _, _, _⟩ := hO.look
      have HO := Lib.hid hO
      have HGG := Lib.hid hgood
      have hsl : S.length ≤ d := hgood.2
      have HY := Lib.hid hyes
      have HB := Lib.hid hbd
      clear hgood hO hyes hcell hu hbd hr hS
      by_cases hb : Cd.bitAt m k = 1
      · rw [hb] at hmm
        by_cases hlS : S.length < d
        · go_wp2_with fail
          go_quiet (fail)
          go_wp2_with fail
          obtain ⟨bd, rfl, _, _⟩ := HB.out.at (k := 0) (by simp; omega)
          rw [← hrl]
          refine (cAdd_any w _ w.heap.size S Ps r [] bd cB HT.out (HB.out.ext (HO.out.ext.drewN nq)) (by omega) (by omega) (by rw [hrl]; exact HO.out.next ((Ext.refl wr).drewN nq)) (by rw [hrl]; exact HGG.out.1) (by omega) (fun q hq => Nat.le_trans (HI.out.2 q hq) (by omega)) (by simp)).mono ?_
          rintro e w2 ⟨rfl, ho⟩
          rw [hrl]
          rw [hrl, addTo_step hlS, ← HSS.out, ← Cd.stairs_snoc, ← HY.out hb] at ho
          have HO2 := Lib.hid ho
          clear ho
          go_wp2_with fail
          go_roundw
          case rel => exact ⟨k + 1, _, by omega, by go_num, HO2.out, addTo_parts HI.out.2 (by simp)⟩
          case measure => simp [intOf]; omega
        · have hst : Gf.stairs d (Cd.pickTo rows m (k + 1)) = S := by
            rw [HY.out hb, Cd.stairs_snoc, HSS.out, Gf.step, if_neg hlS]
          have HST := Lib.hid hst
          clear hst
          go_wp2_with fail
          go_quiet (fail)
          go_wp2_with fail
          go_roundw
          case rel => exact ⟨k + 1, Ps, by omega, by go_num, by rw [HST.out]; exact HO.out.next ((Ext.refl wr).drewN nq), HI.out.2⟩
          case measure => simp [intOf]; omega
      · have hst : Gf.stairs d (Cd.pickTo rows m (k + 1)) = S := by
          rw [Cd.pickTo_no hb, HSS.out]
        have HST := Lib.hid hst
        have eb : (((Cd.bitAt m k : Nat) : Int) == 1) = false := by rw [beq_eq_false_iff_ne]; omega
        clear hst
        go_wp2_with fail
        go_quiet (fail)
        go_wp2_with fail
        go_roundw
        case rel => exact ⟨k + 1, Ps, by omega, by go_num, by rw [HST.out]; exact HO.out.next ((Ext.refl wr).drewN nq), HI.out.2⟩
        case measure => simp [intOf]; omega
    · obtain rfl : k = rows.length := by omega
      have hO := HI.out.1
      have hpk : Cd.pickTo rows m rows.length = Cd.pick rows m := rfl
      rw [hpk] at hO
      obtain ⟨S, hS⟩ : ∃ S, Gf.stairs d (Cd.pick rows m) = S := ⟨_, rfl⟩
      rw [hS] at hO
      have hgood := Cd.stairs_good (n := d) (L := Cd.pick rows m) (fun r hr => HL.out r (Cd.pickTo_mem hr))
      rw [hS] at hgood
      have hsl : S.length ≤ d := hgood.2
      obtain ⟨X, Y, cX, cY, b0, b1, b2, _, _, _⟩ := hO.look
      have HO := Lib.hid hO
      have HS := Lib.hid hS
      clear hO hS hgood hpk
      by_cases hlS : S.length < d
      · go_wp2_with fail
        go_quiet (fail)
        go_wp2_with fail
        go_ret
        exact ⟨none, rfl, by rw [HS.out]; simp; omega, HO.out.ext.drewN nq⟩
      · go_wp2_with fail
        go_quiet (fail)
        go_wp2_with fail
        go_ret
        exact ⟨_, rfl, by rw [HS.out]; simp; omega, HO.out.ext.drewN nq⟩
/-- No rows: nothing can be made again. -/
theorem cCollect_no (m : Int) (w : World) (B : Option Addr) (c : Nat) : Calls Tryd.prog 44 #[.slice B 0 c, .int .i64 m, .slice none 0 0] w fun e w' => e = .returned (.pointer none) ∧ Ext w w' := by
  go_enter Tryd.func44, Tryd.ntmps44
  go_wp2_with fail
  go_ret
  exact ⟨rfl, Ext.refl _⟩
theorem cCollect_neg (m : Int) (n : Nat) (w : World) (B : Option Addr) (c : Nat) (hn : 0 < n) (hm : m < 0) : Calls Tryd.prog 44 #[.slice B n c, .int .i64 m, .slice none 0 0] w fun e w' => e = .returned (.pointer none) ∧ Ext w w' := by
  have e1 : ((n : Int) == 0) = false := by rw [beq_eq_false_iff_ne]; omega
  go_enter Tryd.func44, Tryd.ntmps44
  go_wp2_with fail
  go_ret
  exact ⟨rfl, Ext.refl _⟩
theorem cCollect_big (m : Int) (n : Nat) (w : World) (B : Option Addr) (c : Nat) (hn : 0 < n) (hn2 : n < 62) (h0 : 0 ≤ m) (hm : ((2 ^ n : Nat) : Int) ≤ m) : Calls Tryd.prog 44 #[.slice B n c, .int .i64 m, .slice none 0 0] w fun e w' => e = .returned (.pointer none) ∧ Ext w w' := by
  have e1 : ((n : Int) == 0) = false := by rw [beq_eq_false_iff_ne]; omega
  have e2 : (wrap64 (2 ^ n) ≤ m) = True := by
    rw [wrap_pow _ hn2]
    exact eq_true hm
  clear hm
  go_enter Tryd.func44, Tryd.ntmps44
  go_wp2_with fail
  go_ret
  exact ⟨rfl, Ext.refl _⟩
/-- `Recoverable`: true exactly if the rows of the set make stairs as wide as the code has data pieces. -/
theorem cRec_any (d gl m : Int) (gs : List (List Int)) (G : Value) (w : World) (hT : Tab w) (hG : Rs (Rs RI) w G gs) :
    Calls Tryd.prog 34 #[.agg #[.int .i64 d, G, .int .i64 gl], .int .i64 m] w fun e w' => e = .returned (.bool (Cd.can d gl gs m)) ∧ Ext w w' := by
  have hx0 := (Ext.refl w).alloc (.cells #[.int .i64 d, G, .int .i64 gl] 24)
  have HX := Lib.hid (And.intro hx0 (Rs.ext (Rs.ext RI.ext) _ _ _ _ hx0 hG))
  have HT := Lib.hid (hT.ext hx0)
  obtain ⟨A, c, rfl, hl⟩ := hG.form
  clear hG hx0 hT
  go_enter Tryd.func34, Tryd.ntmps34
  go_wp2_with fail
  refine (cRows_any d gl gs _ _ HT.out HX.out.2).mono ?_
  rintro e w1 ⟨v, rfl, hv, hx1⟩
  have HX1 := Lib.hid (HX.out.1.trans hx1)
  have HT1 := Lib.hid (HT.out.ext hx1)
  have HV := Lib.hid hv
  obtain ⟨B, cB, rfl, _⟩ := hv.form
  clear hx1 hv
  go_wp2_with fail
  by_cases h0 : Cd.check d gs gl = 0
  · have hk := Cd.check_ok h0
    have hr := Cd.rowsOf_ok h0
    have hlen := Cd.rows_len d.toNat gs gl.toNat
    have hwd : ∀ r ∈ Cd.rowsOf d gs gl, r.length = d.toNat := fun r h => Cd.rows_width (by rw [← hr]; exact h)
    rw [← hr] at hlen
    clear hr
    obtain ⟨R, hR⟩ : ∃ R, Cd.rowsOf d gs gl = R := ⟨_, rfl⟩
    have hcan : Cd.can d gl gs m = decide (0 ≤ m ∧ m < 2 ^ R.length ∧ (Gf.stairs d.toNat (Cd.pick R m.toNat)).length = d.toNat) := by
      unfold Cd.can
      rw [hR]
      simp only [h0, true_and]
    have HC := Lib.hid hcan
    rw [hR] at hlen hwd
    rw [hR]
    have hv := HV.out
    rw [hR] at hv
    have HV2 := Lib.hid hv
    have HWD := Lib.hid hwd
    clear hcan hwd hv
    by_cases hm0 : m < 0
    · refine (cCollect_neg m _ _ _ _ (by omega) hm0).mono ?_
      rintro e w2 ⟨rfl, hx2⟩
      go_wp2_with fail
      go_ret
      exact ⟨ret_bool (by rw [HC.out]; simp; omega), HX1.out.trans hx2⟩
    · obtain ⟨k, rfl⟩ : ∃ k : Nat, m = k := ⟨m.toNat, by omega⟩
      by_cases hm : k < 2 ^ R.length
      · refine (cCollect_in d.toNat k R _ _ HT1.out HV2.out HWD.out (by omega) (by omega) (by omega) (by omega) hm).mono ?_
        rintro e w2 ⟨p, rfl, hp, hx2⟩
        have hpb : Cd.can d gl gs (k : Int) = p.isSome := by
          rw [HC.out, Int.toNat_natCast]
          have hk2 : (k : Int) < 2 ^ R.length := by rw [nat_pow_cast]; omega
          cases p with
          | none =>
            have h1 := hp.1 rfl
            simp only [Option.isSome_none, decide_eq_false_iff_not]
            rintro ⟨_, _, h2⟩
            exact h1 h2
          | some q =>
            have h1 : (Gf.stairs d.toNat (Cd.pick R k)).length = d.toNat := Classical.byContradiction fun h => by cases hp.2 h
            simp only [Option.isSome_some, decide_eq_true_eq]
            exact ⟨by omega, hk2, h1⟩
        have HPB := Lib.hid hpb
        clear hpb hp
        go_wp2_with fail
        go_ret
        refine ⟨ret_bool ?_, HX1.out.trans hx2⟩
        rw [HPB.out]
        try (cases p <;> rfl)
      · refine (cCollect_big (k : Int) _ _ _ _ (by omega) (by omega) (by omega) (by omega)).mono ?_
        rintro e w2 ⟨rfl, hx2⟩
        go_wp2_with fail
        go_ret
        refine ⟨ret_bool ?_, HX1.out.trans hx2⟩
        rw [HC.out, nat_pow_cast]
        symm
        rw [decide_eq_false_iff_not]
        try omega
  · have hr := Cd.rowsOf_no h0
    rw [hr]
    have hcan : Cd.can d gl gs m = false := by
      unfold Cd.can
      simp [h0]
    have HC := Lib.hid hcan
    clear hcan hr h0
    refine (cCollect_no m _ _ _).mono ?_
    rintro e w2 ⟨rfl, hx2⟩
    go_wp2_with fail
    go_ret
    exact ⟨ret_bool HC.out.symm, HX1.out.trans hx2⟩
end Go.Proofs.YtdbolgollpnfdaaDoor
