/- What the program's functions do, step by step: part D of the texts for this claim; no condition beyond what each theorem states. -/
import Derived.Deep.Cut
import Derived.Deep.DeepCutAuto
import Derived.RangeFuncBound
import Derived.RangeFuncCalls
import Derived.RangeFuncLeaves
import Derived.Shelf.Abstract
import Derived.Shelf.RegionOpen
import Derived.Lib.AppendStr
import Derived.Deep.RegionHeld3
import Derived.Test.YtggfkpalkdkbdaaDoorLoAFBunA
import Derived.Test.YtggfkpalkdkbdaaDoorLoAFBunB
import Derived.Test.YtggfkpalkdkbdaaDoorLoAFBunC
/- THE WALK over agree (package locate). -/
namespace Lo
open Gf Cd
theorem fnz_at {l : List UInt8} {i : Nat} (h : i < l.length) (h1 : l.getD i 0 ≠ 0) (h2 : ∀ j, j < i → l.getD j 0 = 0) : firstNZ l = i := by
  rcases Nat.lt_trichotomy (firstNZ l) i with h3 | h3 | h3
  · exact absurd (h2 _ h3) (firstNZ_at l (by omega))
  · exact h3
  · exact absurd (firstNZ_before l i h3) h1
theorem fnz_none {l : List UInt8} (h : ¬ ∃ x ∈ l, (x != 0) = true) : firstNZ l = l.length := by
  have h1 := firstNZ_le l
  by_cases h2 : firstNZ l = l.length
  · exact h2
  · have h3 : firstNZ l < l.length := by omega
    have h4 := firstNZ_at l h3
    rw [List.getD_eq_getElem?_getD, List.getElem?_eq_getElem h3] at h4
    exact absurd ⟨_, List.getElem_mem h3, by rw [bne_iff_ne]; exact h4⟩ h
theorem zeroL_has (l : List UInt8) : zeroL l = !decide (∃ x ∈ l, (x != 0) = true) := by
  by_cases h : ∃ x ∈ l, (x != 0) = true
  · rw [decide_eq_true h]
    obtain ⟨x, hx, h1⟩ := h
    unfold zeroL
    rw [Bool.not_true, List.all_eq_false]
    exact ⟨x, hx, by simpa using h1⟩
  · rw [decide_eq_false h]
    unfold zeroL
    rw [Bool.not_false, List.all_eq_true]
    intro x hx
    by_cases h1 : x = 0
    · simp [h1]
    · exact absurd ⟨x, hx, by rw [bne_iff_ne]; exact h1⟩ h
/-- Rows of which k from the place s on are turned. -/
def turned (p : Row) (a : Nat) (l : List Row) (s k : Nat) : List Row := l.mapIdx fun i r => if s ≤ i ∧ i < s + k then lessP p r a else r
theorem turned_at (p : Row) (a : Nat) (l : List Row) (s k i : Nat) : (turned p a l s k)[i]? = l[i]?.map fun r => if s ≤ i ∧ i < s + k then lessP p r a else r := by
  unfold turned; rw [List.getElem?_mapIdx]
theorem turned_zero (p : Row) (a : Nat) (l : List Row) (s : Nat) : turned p a l s 0 = l := by
  apply List.ext_getElem?
  intro i
  rw [turned_at]
  cases l[i]? with
  | none => rfl
  | some r => simp only [Option.map_some]; rw [if_neg (by omega)]
theorem turned_len (p : Row) (a : Nat) (l : List Row) (s k : Nat) : (turned p a l s k).length = l.length := by unfold turned; simp
theorem turned_get {p : Row} {a : Nat} {l : List Row} {s k : Nat} (h : s + k < l.length) : (turned p a l s k)[s + k]? = some l[s + k] := by
  rw [turned_at, List.getElem?_eq_getElem h]
  simp only [Option.map_some]
  rw [if_neg (by omega)]
theorem turned_set {p : Row} {a : Nat} {l : List Row} {s k : Nat} (h : s + k < l.length) : (turned p a l s k).set (s + k) (lessP p l[s + k] a) = turned p a l s (k + 1) := by
  apply List.ext_getElem?
  intro i
  rw [List.getElem?_set, turned_at, turned_at, turned_len]
  by_cases hi : s + k = i
  · subst hi
    rw [if_pos rfl, if_pos h, List.getElem?_eq_getElem h]
    simp only [Option.map_some]
    rw [if_pos (by omega)]
  · rw [if_neg hi]
    cases l[i]? with
    | none => rfl
    | some r =>
      simp only [Option.map_some]
      by_cases h1 : s ≤ i ∧ i < s + k
      · rw [if_pos h1, if_pos (by omega)]
      · rw [if_neg h1, if_neg (by omega)]
theorem turned_drop {p : Row} {a : Nat} {l : List Row} {s k : Nat} (h : s + k = l.length) : (turned p a l s k).drop s = (l.drop s).map fun r => lessP p r a := by
  apply List.ext_getElem?
  intro i
  rw [List.getElem?_drop, turned_at, List.getElem?_map, List.getElem?_drop]
  cases hl : l[s + i]? with
  | none => rfl
  | some r =>
    have := (List.getElem?_eq_some_iff.1 hl).1
    simp only [Option.map_some]
    rw [if_pos (by omega)]
theorem agreeF_step {xs : List Row} {m j : Nat} {pc ps : List UInt8} (hm : 0 < m) (hy : xs[j]? = some (pc, ps)) : agreeF m (xs.drop j) = if firstNZ pc = pc.length then zeroL ps && agreeF (m - 1) (xs.drop (j + 1)) else agreeF (m - 1) ((xs.drop (j + 1)).map fun r => lessP (pc, ps) r (firstNZ pc)) := by
  obtain ⟨m', rfl⟩ : ∃ m', m = m' + 1 := ⟨m - 1, by omega⟩
  obtain ⟨h1, h2⟩ := List.getElem?_eq_some_iff.1 hy
  rw [List.drop_eq_getElem_cons h1, h2]
  rfl
theorem less_lens {p r : Row} {a d L : Nat} (h : r.1.length = d ∧ r.2.length = L) (h2 : p.2.length = L) : (lessP p r a).1.length = d ∧ (lessP p r a).2.length = L := by
  unfold lessP lessR sum scale
  simp [h.1, h.2, h2]
theorem turned_wide {p : Row} {a d L : Nat} {l : List Row} {s k : Nat} (h : Wide d L l) (hp : p.2.length = L) : Wide d L (turned p a l s k) := fun r hr => by
  obtain ⟨i, hi⟩ := List.getElem?_of_mem hr
  rw [turned_at] at hi
  obtain ⟨x, hx, rfl⟩ := Option.map_eq_some_iff.1 hi
  have h1 := h x (List.mem_of_getElem? hx)
  by_cases h2 : s ≤ i ∧ i < s + k
  · rw [if_pos h2]; exact less_lens h1 hp
  · rw [if_neg h2]; exact h1
end Lo
namespace Go.Proofs.YtggfkpalkdkbdaaDoor
open Go.RowKit
theorem rsb_keep {w w' : World} {g : Nat} {v : Value} {xs : List UInt8} (h : Rs RB w v xs) (hf : v.ownBlock ≠ some g) (hk : ∀ (ad : Addr) (u : Value), ad.block ≠ g → w.cell? ad = some u → w'.cell? ad = some u) : Rs RB w' v xs := by
  obtain ⟨A, c, rfl, hl, h⟩ := h
  refine ⟨A, c, rfl, hl, fun i x hi => ?_⟩
  obtain ⟨ad, u, rfl, h2, h3⟩ := h i x hi
  exact ⟨ad, u, rfl, hk _ _ (by rw [block_add]; exact fun e => hf (congrArg some e)) h2, h3⟩
def lenOfV : Value → Nat
  | .slice _ n _ => n
  | _ => 0
theorem AgAt.cap {w0 W : World} {g n c : Nat} {xs : List LV} (h : AgAt w0 W g n c xs) : n ≤ c := by
  have h1 := h.owns.row 0 rfl
  rcases h1.2 with ⟨e, _⟩ | ⟨g1, cap, cur, e, _, _, h3, _⟩
  · cases e
  · injection e with e1 e2 e3
    subst e3
    exact h3
/-- What agree has left: m rows from the place j on. -/
structure LeftAt (w W : World) (g n c d L o m : Nat) (B : Bool) : Prop where
  has : ∃ (xs : List LV) (j : Nat), AgAt w W g n c xs ∧ (0 < m → o = j * 2) ∧ j + m = n ∧ Lo.agreeF m ((xs.map (·.1)).drop j) = B ∧ Lo.Wide d L (xs.map (·.1))
set_option maxHeartbeats 8000000 in
set_option maxRecDepth 100000 in
theorem lAgree_some (l : List Lo.Row) (d L g n c : Nat) (w : World) (hT : Tab w) (h : RRo w (.slice (some ⟨g, 0, none⟩) n c) l) (hl : l.length = n) (hn : 0 < n) (hn2 : n ≤ 1000000) (hw : Lo.Wide d L l) (hd : 0 < d) (hd2 : d ≤ 1000) (hL : L ≤ 1000000) :
    Calls Tryd.prog 40 #[.slice (some ⟨g, 0, none⟩) n c] w fun e w' => e = .returned (.bool (Lo.agree l)) ∧ Ext w w' := by
  have hcl := lClone_any l g n c w h hl hn hn2 (fun r hr => by rw [(hw r hr).1]; exact hd)
  obtain ⟨B, hB⟩ : ∃ B, Lo.agree l = B := ⟨_, rfl⟩
  rw [hB]
  have HCL := Lib.hid hcl
  have HT := Lib.hid hT
  have HW := Lib.hid hw
  have HB := Lib.hid hB
  have HLN := Lib.hid hl
  clear hcl h hT hw hB hl
  go_enter Tryd.func40, Tryd.ntmps40
  go_upto_region 2 with fail
  refine HCL.out.mono ?_
  rintro e w1 ⟨g1, c1, xs, rfl, hxl, hA⟩
  have HL1 : Hid (LeftAt w w1 g1 n c1 d L 0 n B) := Lib.hid ⟨xs, 0, hA, fun _ => rfl, by omega, by rw [List.drop_zero, hxl, ← HLN.out]; exact HB.out, by rw [hxl]; exact HW.out⟩
  have hcap := hA.cap
  clear hxl hA HCL
  go_wp2_with fail
  go_loopw [0] (fun vl wr => ∃ (o m mc : Nat), vl = .slice (some ⟨g1, o, none⟩) m mc ∧ m ≤ n ∧ m ≤ mc ∧ Hid (LeftAt w wr g1 n c1 d L o m B)) (fun vl _ => lenOfV vl)
  case atStart => exact ⟨0, n, c1, rfl, Nat.le_refl _, hcap, HL1.out⟩
  case round =>
    obtain ⟨o, m, mc, rfl, hmn, hmc, HI⟩ := hrel
    by_cases hm : 0 < m
    · obtain ⟨xs, j, hA, ho, hj, hag, hwd⟩ := HI.out.has
      have hjn : j < xs.length := by rw [hA.len]; omega
      obtain ⟨⟨⟨pc, ps⟩, PV⟩, hy⟩ : ∃ y, xs[j] = y := ⟨_, rfl⟩
      have hy2 : xs[j]? = some ((pc, ps), PV) := by rw [List.getElem?_eq_getElem hjn, hy]
      have hok := hA.ok _ (List.mem_of_getElem? hy2)
      clear hy
      obtain ⟨PA, pk, hPV, _⟩ := hok.1.form
      simp only at hPV
      subst hPV
      have b0 : wr.cell? ⟨g1, o, none⟩ = some (.slice PA pc.length pk) := by rw [ho hm]; exact hA.owns.cell 0 rfl _ (lcells_at xs j _ hy2).1
      have b1 : wr.cell? ⟨g1, o + 1, none⟩ = some (.string (sb ps)) := by rw [ho hm]; exact hA.owns.cell 0 rfl _ (lcells_at xs j _ hy2).2
      have u1 : (0 : Int) < (m : Int) := by omega
      have HA := Lib.hid hA
      have HJ := Lib.hid (And.intro ho (And.intro hj (And.intro hag (And.intro hwd hy2))))
      have HOK := Lib.hid hok
      clear hA ho hj hag hwd hy2 hok
      have hok := HOK.out
      have hxw : wr.heap.size = wr.heap.size := rfl
      have hal := (Ext.refl wr).alloc (.cells #[.slice PA pc.length pk, .string (sb ps)] 105)
      have hg1 : g1 < wr.heap.size := lt_of_cell b0
      have hbox : (wr.alloc (.cells #[.slice PA pc.length pk, .string (sb ps)] 105)).cell? ⟨wr.heap.size, 0, none⟩ = some (.slice PA pc.length pk) ∧ (wr.alloc (.cells #[.slice PA pc.length pk, .string (sb ps)] 105)).cell? ⟨wr.heap.size, 1, none⟩ = some (.string (sb ps)) := ⟨by go_simp, by go_simp⟩
      obtain ⟨o2, ho2, ho3⟩ : ∃ o2, (if mc = 1 then some ⟨g1, o, none⟩ else some ⟨g1, o + 2, none⟩ : Option Addr) = some ⟨g1, o2, none⟩ ∧ (1 < m → o2 = o + 2) := by
        by_cases h : mc = 1
        · exact ⟨o, by rw [if_pos h], fun _ => by omega⟩
        · exact ⟨o + 2, by rw [if_neg h], fun _ => rfl⟩
      have HO2 := Lib.hid ho2
      have HO3 := Lib.hid ho3
      clear hok hxw ho2 ho3
      go_upto_region 6 with fail
      rw [HO2.out]
      obtain ⟨E, hE⟩ : ∃ E, wr.heap.size = E := ⟨_, rfl⟩
      obtain ⟨wa, hwa⟩ : ∃ x, wr.alloc (.cells #[.slice PA pc.length pk, .string (sb ps)] 105) = x := ⟨_, rfl⟩
      rw [hwa] at hal hbox ⊢
      rw [hE] at hg1 hbox ⊢
      have HX := Lib.hid hal
      have HE := Lib.hid (And.intro hbox hg1)
      have hix := sIndexFunc8_any pc (· != 0) PA pc.length pk 72 #[] wa (Rs.ext RB.ext _ _ _ _ hal HOK.out.1) entLo2 (fun x => lNz2 x wa)
      have HIX := Lib.hid hix
      have e0 := hbox.1
      have e1 := hbox.2
      clear hwa hE hal hbox hg1 hix b0 b1
      go_upto_region 7 with fail
      refine HIX.out.mono ?_
      rintro e w' ⟨z, rfl, hz, hz2, rfl⟩
      have HZ := Lib.hid (And.intro hz hz2)
      have HSTEP := Lib.hid (Lo.agreeF_step (xs := xs.map (·.1)) (j := j) (pc := pc) (ps := ps) hm (by rw [List.getElem?_map, HJ.out.2.2.2.2]; rfl))
      have hwp := HJ.out.2.2.2.1 (pc, ps) (List.mem_map.2 ⟨_, List.mem_of_getElem? HJ.out.2.2.2.2, rfl⟩)
      simp only at hwp
      have HWP := Lib.hid hwp
      clear hz hz2 HIX hwp
      by_cases hz0 : z < 0
      · have hfn : Gf.firstNZ pc = pc.length := Lo.fnz_none fun h => by have := HZ.out.1.2 h; omega
        obtain ⟨tc, wt, hconv, hrt, hxt⟩ := text_bytes ps wa (by rw [HWP.out.2]; exact hL)
        have hcf := sContainsFunc8_any ps (· != 0) _ ps.length tc 74 #[] wt hrt entLo3 (fun x => lNz3 x wt)
        have hzl := Lo.zeroL_has ps
        obtain ⟨bb, hbb⟩ : ∃ bb, decide (∃ x ∈ ps, (x != 0) = true) = bb := ⟨_, rfl⟩
        rw [hbb] at hcf hzl
        have hst := HSTEP.out
        rw [if_pos hfn, hzl, HJ.out.2.2.1] at hst
        have HCF := Lib.hid hcf
        have HST := Lib.hid hst
        have HXT := Lib.hid (HX.out.trans hxt)
        clear hfn hrt hxt hcf hzl hbb hst e0
        go_wp2_with fail
        refine HCF.out.mono ?_
        rintro e w' ⟨rfl, rfl⟩
        clear hconv e1
        cases bb with
        | true =>
          go_wp2_with fail
          go_ret
          refine ⟨?_, HA.out.owns.ext.trans HXT.out⟩
          rw [HST.out]
          rfl
        | false =>
          go_wp2_with fail
          go_roundw
          case rel => exact ⟨o2, m - 1, mc - 1, rfl, by omega, by omega, Lib.hid ⟨xs, j + 1, HA.out.next HXT.out, fun h => by rw [HO3.out (by omega), HJ.out.1 hm]; omega, by have := HJ.out.2.1; omega, by rw [HST.out]; simp, HJ.out.2.2.2.1⟩⟩
          case measure => simp [lenOfV]; omega
      · obtain ⟨i, rfl, hi1, hi2, hi3⟩ := HZ.out.2 (by omega)
        have hfi : Gf.firstNZ pc = i := Lo.fnz_at hi1 (by simpa using hi2) (fun j hj => by simpa using hi3 j hj)
        have hst := HSTEP.out
        rw [if_neg (by rw [hfi]; omega), HJ.out.2.2.1, hfi] at hst
        have HST := Lib.hid hst
        obtain ⟨pa, u0, rfl, hc0, hu0⟩ := (Rs.ext RB.ext _ _ _ _ HX.out HOK.out.1).at (i := i) hi1
        have hu' : u0 = bv pc[i] := hu0
        subst hu'
        have hgd := getD_of_at hi1
        obtain ⟨x0, hx0⟩ : ∃ x, pc[i] = x := ⟨_, rfl⟩
        rw [hx0] at hc0 hgd
        obtain ⟨pn, hpn⟩ : ∃ n, pc.length = n := ⟨_, rfl⟩
        rw [hpn] at e0 hi1 ⊢
        obtain ⟨iv, hiv⟩ : ∃ iv, Gf.inv x0 = iv := ⟨_, rfl⟩
        have hin := inv_u8 x0 wa (HT.out.ext (HA.out.owns.ext.trans HX.out))
        rw [hiv] at hin
        have HIN := Lib.hid hin
        have HIV := Lib.hid (And.intro hgd (And.intro hiv hpn))
        have v1 : (0 : Int) ≤ (i : Int) := by omega
        have v2 : (i : Int) < (pn : Int) := by omega
        have hnz : ((i : Int) < 0) = False := eq_false (by omega)
        have hid : i < d := by have := HWP.out.1; rw [hpn] at this; omega
        clear hi2 hi3 hfi hst hu0 hgd hx0 hiv hin hz0 hpn
        go_upto_region 11 with fail
        refine HIN.out.mono ?_
        rintro e w' ⟨rfl, rfl⟩
        clear e0 e1 hc0 HIN hnz
        go_wp2_with fail
        go_loopw [39] (fun vk wk => ∃ k : Nat, k ≤ m - 1 ∧ vk = .int .i64 (k : Nat) ∧ Hid (∃ ys : List LV, AgAt w wk g1 n c1 ys ∧ ys.map (·.1) = Lo.turned (pc, ps) i (xs.map (·.1)) (j + 1) k ∧ wk.cell? ⟨E, 0, none⟩ = some (.slice (some pa) pn pk) ∧ wk.cell? ⟨E, 1, none⟩ = some (.string (sb ps)) ∧ Rs RB wk (.slice (some pa) pn pk) pc)) (fun vk _ => (m - 1) - (intOf vk).toNat)
        case atStart => exact ⟨0, Nat.zero_le _, rfl, Lib.hid ⟨xs, HA.out.next HX.out, (Lo.turned_zero _ _ _ _).symm, by rw [← HIV.out.2.2]; exact HE.out.1.1, HE.out.1.2, by rw [← HIV.out.2.2]; exact Rs.ext RB.ext _ _ _ _ HX.out HOK.out.1⟩⟩
        case round =>
          obtain ⟨k, hk2, rfl, HK⟩ := hrel
          by_cases hlt : k < m - 1
          · obtain ⟨ys, hAY, hyt, hb0, hb1, hpr⟩ := HK.out
            have hxl : (xs.map (·.1)).length = n := by rw [List.length_map]; exact HA.out.len
            have hjk : j + 1 + k < (xs.map (·.1)).length := by have := HJ.out.2.1; omega
            obtain ⟨⟨yr, yb⟩, hyq⟩ : ∃ r, (xs.map (·.1))[j + 1 + k] = r := ⟨_, rfl⟩
            have hty := Lo.turned_get (p := (pc, ps)) (a := i) hjk
            have hts := Lo.turned_set (p := (pc, ps)) (a := i) hjk
            rw [← hyt, hyq] at hty hts
            rw [List.getElem?_map] at hty
            obtain ⟨⟨yr', YV⟩, hyy, hyr⟩ := Option.map_eq_some_iff.1 hty
            simp only at hyr
            subst hyr
            have hyok := hAY.ok _ (List.mem_of_getElem? hyy)
            obtain ⟨YA, yc, hYV, _⟩ := hyok.1.form
            simp only at hYV
            subst hYV
            have hyw := HJ.out.2.2.2.1 (yr, yb) (by rw [← hyq]; exact List.getElem_mem hjk)
            simp only at hyw
            have hcall : ∀ w1 : World, Ext wr w1 → Calls Tryd.prog 67 #[.agg #[.slice YA yr.length yc, .string (sb yb)], .agg #[.slice (some pa) pn pk, .string (sb ps)], .int .i64 (i : Nat), bv iv] w1 fun e w' => ∃ V, e = .returned (.agg #[V, .string (sb (Lo.lessP (pc, ps) (yr, yb) i).2)]) ∧ Rs RB w' V (Lo.lessP (pc, ps) (yr, yb) i).1 ∧ V.ownBlock ≠ some g1 ∧ Ext w1 w' := fun w1 hx1 => by
              have h := lLess_any (yr, yb) (pc, ps) i d _ _ w1 (HT.out.ext (hAY.owns.ext.trans hx1)) (Rs.ext RB.ext _ _ _ _ hx1 hyok.1) (Rs.ext RB.ext _ _ _ _ hx1 hpr) hyw.1 HWP.out.1 hid hd2 (by show yb.length ≤ _; rw [hyw.2]; exact hL) (by show ps.length ≤ _; rw [HWP.out.2]; exact hL)
              simp only at h
              rw [HIV.out.1, HIV.out.2.1] at h
              refine h.mono ?_
              rintro e w' ⟨V, rfl, h1, h2, h3⟩
              refine ⟨V, rfl, h1, fun e => ?_, h3⟩
              have h4 := h2 _ e
              have h5 := (((hAY.owns.next hx1).row 0 rfl).lt g1 rfl).2
              omega
            have HC := Lib.hid hcall
            have HSS : Hid (o2 + k * 2 = (j + 1 + k) * 2) := Lib.hid (by rw [HO3.out (by omega), HJ.out.1 hm]; omega)
            have HY := Lib.hid hyy
            have HAT := Lib.hid hAY
            have HEB := Lib.hid (And.intro hb0 hb1)
            have HPR := Lib.hid hpr
            have HTS := Lib.hid hts
            have hg1 := HE.out.2
            have hpo := HOK.out.2
            have HPO := Lib.hid hpo
            obtain ⟨q, hq⟩ : ∃ q, Lo.lessP (pc, ps) (yr, yb) i = q := ⟨_, rfl⟩
            rw [hq] at HC HTS
            clear hAY hyt hb0 hb1 hpr hxl hjk hyq hty hts hyy hyok hyw hcall hq hpo
            go_upto_region 14 with fail
            refine wp_atEnd' (ag14 w wr g1 n c1 o2 (m - 1) (mc - 1) k (j + 1 + k) E i yr.length yc pn pk YA (some pa) ys yr yb ps q iv HSS HY hlt HAT HEB HC _ _ _ _ _ _ _ _ _ _ _ _ _ _ _ _ _ _ _ _ _ _ _ _ _ _ _ _ _ _ _ _ _ _ _ _ _ _ _ _ _ _ _ _ _ _ _ _ _ _ _ ?_)
            rintro V u42 u43 u44 u45 u46 u47 u48 u49 u50 u51 u52 u53 wx ⟨hAX, hfar⟩
            have HNX : Hid (∃ ys : List LV, AgAt w wx g1 n c1 ys ∧ ys.map (·.1) = Lo.turned (pc, ps) i (xs.map (·.1)) (j + 1) (k + 1) ∧ wx.cell? ⟨E, 0, none⟩ = some (.slice (some pa) pn pk) ∧ wx.cell? ⟨E, 1, none⟩ = some (.string (sb ps)) ∧ Rs RB wx (.slice (some pa) pn pk) pc) := Lib.hid ⟨_, hAX, by rw [List.map_set, ← HTS.out], hfar _ _ (fun e => by have e : E = g1 := e; omega) HEB.out.1, hfar _ _ (fun e => by have e : E = g1 := e; omega) HEB.out.2, rsb_keep HPR.out HPO.out hfar⟩
            clear hAX hfar
            go_wp2_with fail
            go_roundw
            case rel => exact ⟨k + 1, by omega, by go_num, HNX⟩
            case measure => simp [intOf]; omega
          · obtain rfl : k = m - 1 := by omega
            obtain ⟨ys, hAY, hyt, hb0, hb1, hpr⟩ := HK.out
            have HNL : Hid (LeftAt w wr g1 n c1 d L o2 (m - 1) B) := Lib.hid ⟨ys, j + 1, hAY, fun h => by rw [HO3.out (by omega), HJ.out.1 hm]; omega, by have := HJ.out.2.1; omega, by rw [hyt, Lo.turned_drop (by rw [List.length_map, HA.out.len]; have := HJ.out.2.1; omega)]; exact HST.out.symm, by rw [hyt]; exact Lo.turned_wide HJ.out.2.2.2.1 HWP.out.2⟩
            clear hAY hyt hb0 hb1 hpr
            go_wp2_with fail
            go_roundw
            case rel => exact ⟨o2, m - 1, mc - 1, rfl, by omega, by omega, HNL⟩
            case measure => simp [lenOfV]; omega
    · obtain rfl : m = 0 := by omega
      obtain ⟨xs, j, hA, ho, hj, hag, hwd⟩ := HI.out.has
      have HX := Lib.hid (And.intro hag hA.owns.ext)
      clear hA ho hj hag hwd
      go_wp2_with fail
      go_ret
      refine ⟨?_, HX.out.2⟩
      rw [← HX.out.1]
      rfl
end Go.Proofs.YtggfkpalkdkbdaaDoor

/- THE WALK over agree whatever is given, and over Fits (package locate). -/
namespace Lo
open Gf Cd
def fitB (d gl : Int) (gs : List (List Int)) (n m : Int) (pieces : List (List UInt8)) : Bool := if givE d gl gs n m pieces = 0 then agree (some_ (rowsOf d gs gl) pieces m.toNat) else false
theorem fitB_bad {d gl n m : Int} {gs : List (List Int)} {pieces : List (List UInt8)} (h : givE d gl gs n m pieces ≠ 0) : fitB d gl gs n m pieces = false := if_neg h
theorem fitB_ok {d gl n m : Int} {gs : List (List Int)} {pieces : List (List UInt8)} (h : givE d gl gs n m pieces = 0) : fitB d gl gs n m pieces = agree (some_ (rowsOf d gs gl) pieces m.toNat) := if_pos h
/-- What given says when all is well, in terms of a set. -/
structure Well (d gl : Int) (gs : List (List Int)) (n M : Nat) (pieces : List (List UInt8)) : Prop where
  chk : check d gs gl = 0
  n4 : n ≤ 4096
  set : M < 2 ^ (rowsOf d gs gl).length
  len : pieces.length = (rowsOf d gs gl).length
  r24 : (rowsOf d gs gl).length ≤ 24
  siz : ∀ k, k < pieces.length → bitAt M k = 1 → (pieces.getD k []).length = sizeN d.toNat n
theorem well {d gl n m : Int} {gs : List (List Int)} {pieces : List (List UInt8)} (h : givE d gl gs n m pieces = 0) : ∃ N M : Nat, n = N ∧ m = M ∧ Well d gl gs N M pieces := by
  obtain ⟨h1, h2, h3, h4, h5⟩ := givE_ok h
  obtain ⟨c1, c2, c3⟩ := chkE_ok h1
  obtain ⟨N, rfl⟩ : ∃ N : Nat, n = N := ⟨n.toNat, by omega⟩
  obtain ⟨M, rfl⟩ : ∃ M : Nat, m = M := ⟨m.toNat, by omega⟩
  refine ⟨N, M, rfl, rfl, c1, by omega, by omega, h4, ?_, fun k hk hb => ?_⟩
  · have h6 := Cd.rowsOf_len c1; have h7 := Cd.check_ok c1; omega
  · have h6 : ¬ badLen (sizeN d.toNat (N : Int).toNat) (M : Int).toNat pieces = true := by rw [h5]; simp
    rw [badLen_iff, Int.toNat_natCast, Int.toNat_natCast] at h6
    by_cases h7 : (pieces.getD k []).length = sizeN d.toNat N
    · exact h7
    · exact absurd ⟨k, hk, hb, h7⟩ h6
theorem Well.wide {d gl : Int} {gs : List (List Int)} {n M : Nat} {pieces : List (List UInt8)} (h : Well d gl gs n M pieces) {S : Nat} (hs : Sub S M) : Wide d.toNat (sizeN d.toNat n) (some_ (rowsOf d gs gl) pieces S) := some_wide h.chk fun k hk hb => h.siz k (by rw [h.len]; exact hk) (hs k hb)
theorem some_len (R pieces : List (List UInt8)) (m : Nat) : (some_ R pieces m).length ≤ R.length := by
  unfold some_
  rw [List.length_map]
  exact els_le _ _
theorem Sub.refl (m : Nat) : Sub m m := fun _ h => h
end Lo
namespace Go.Proofs.YtggfkpalkdkbdaaDoor
open Go.RowKit
set_option maxRecDepth 100000 in
theorem lClone_nil (w : World) : Calls Tryd.prog 66 #[.slice none 0 0] w fun e w' => e = .returned (.slice none 0 0) ∧ w = w' := by
  have he : ∀ w : World, (binOp .eql 80 (.slice none 0 0) (.slice none 0 0)).run Tryd.prog w = .ok (.bool true) w := fun _ => rfl
  go_enter Tryd.func66, Tryd.ntmps66
  go_wp2_with fail
  go_ret
  exact ⟨rfl, rfl⟩
set_option maxRecDepth 100000 in
theorem lAgree_nil (w : World) : Calls Tryd.prog 40 #[.slice none 0 0] w fun e w' => e = .returned (.bool (Lo.agree [])) ∧ Ext w w' := by
  go_enter Tryd.func40, Tryd.ntmps40
  go_upto_region 2 with fail
  refine (lClone_nil w).mono ?_
  rintro e w1 ⟨rfl, rfl⟩
  go_wp2_with fail
  go_loopw [0] (fun vl wr => vl = .slice none 0 0 ∧ wr = w) (fun vl _ => lenOfV vl)
  case atStart => exact ⟨rfl, rfl⟩
  case round =>
    obtain ⟨rfl, rfl⟩ := hrel
    go_wp2_with fail
    go_ret
    exact ⟨rfl, Ext.refl _⟩
theorem lAgree_any (l : List Lo.Row) (d L : Nat) (v : Value) (w : World) (hT : Tab w) (h : RRo w v l) (h0 : l = [] → v = .slice none 0 0) (hn2 : l.length ≤ 1000000) (hw : Lo.Wide d L l) (hd : 0 < d) (hd2 : d ≤ 1000) (hL : L ≤ 1000000) :
    Calls Tryd.prog 40 #[v] w fun e w' => e = .returned (.bool (Lo.agree l)) ∧ Ext w w' := by
  by_cases hl : l = []
  · rw [h0 hl, hl]; exact lAgree_nil w
  · have hp := List.length_pos_iff.2 hl
    obtain ⟨A, c, rfl, _⟩ := h.form
    obtain ⟨g, F, rfl, _⟩ := h.at (i := 0) hp
    exact lAgree_some l d L g _ c w hT h rfl hp hn2 hw hd hd2 hL
set_option maxHeartbeats 8000000 in
set_option maxRecDepth 100000 in
theorem lFits_any (d gl n m : Int) (gs : List (List Int)) (pieces : List (List UInt8)) (G : Value) (PA : Option Addr) (cp : Nat) (w : World) (hT : Tab w) (hG : Rs (Rs RI) w G gs) (hP : Rs RS w (.slice PA pieces.length cp) pieces) :
    Calls Tryd.prog 17 #[.agg #[.int .i64 d, G, .int .i64 gl], .int .i64 n, .int .i64 m, .slice PA pieces.length cp] w fun e w' => e = .returned (.tuple #[.bool (Lo.fitB d gl gs n m pieces), .int .i64 (Lo.givE d gl gs n m pieces)]) ∧ Ext w w' := by
  obtain ⟨GA, Gc, rfl, _⟩ := hG.form
  obtain ⟨ng, hng⟩ : ∃ ng, gs.length = ng := ⟨_, rfl⟩
  rw [hng] at hG ⊢
  have hB : Owns w (w.alloc (.cells #[.int .i64 d, .slice GA ng Gc, .int .i64 gl] 24)) [⟨.slice (some ⟨w.heap.size, 0, none⟩) 3 3, 24, 1, 3, [.int .i64 d, .slice GA ng Gc, .int .i64 gl]⟩] := (Owns.start w (L := [no]) (by intro r hr; simp at hr; subst hr; exact ⟨rfl, rfl, rfl⟩)).new 0 #[.int .i64 d, .slice GA ng Gc, .int .i64 gl] 24 (by simp [maxLen])
  have HG := Lib.hid hG
  have HB := Lib.hid hB
  clear hG hB hng
  have HP := Lib.hid (Rs.ext RS.ext _ _ _ _ HB.out.ext hP)
  have HT := Lib.hid (hT.ext HB.out.ext)
  clear hP hT
  go_enter Tryd.func17, Tryd.ntmps17
  go_upto_region 1 with fail
  obtain ⟨C, hC⟩ : ∃ C, w.heap.size = C := ⟨_, rfl⟩
  rw [hC] at HB ⊢
  obtain ⟨w1, hw1⟩ : ∃ x, w.alloc (.cells #[.int .i64 d, .slice GA ng Gc, .int .i64 gl] 24) = x := ⟨_, rfl⟩
  rw [hw1] at HB HT HP ⊢
  clear hw1 hC
  have b0 : w1.cell? ⟨C, 0, none⟩ = some (.int .i64 d) := HB.out.cell 0 rfl 0 rfl
  have b1 : w1.cell? ⟨C, 1, none⟩ = some (.slice GA ng Gc) := HB.out.cell 0 rfl 1 rfl
  have b2 : w1.cell? ⟨C, 2, none⟩ = some (.int .i64 gl) := HB.out.cell 0 rfl 2 rfl
  have hgv := lGiven_any d gl n m gs pieces _ PA cp w1 (Rs.ext (Rs.ext RI.ext) _ _ _ _ HB.out.ext HG.out) HP.out
  obtain ⟨pl, hpl⟩ : ∃ pl, pieces.length = pl := ⟨_, rfl⟩
  rw [hpl] at HP hgv ⊢
  have HPL := Lib.hid hpl
  have HGV := Lib.hid hgv
  clear hpl hgv
  go_wp2_with fail
  refine HGV.out.mono ?_
  clear HGV
  rintro e w2 ⟨rfl, hx2⟩
  have HB2 := Lib.hid (HB.out.next hx2)
  have HT2 := Lib.hid (HT.out.ext hx2)
  have HP2 := Lib.hid (Rs.ext RS.ext _ _ _ _ hx2 HP.out)
  clear hx2 b0 b1 b2 HT HP
  obtain ⟨er, her⟩ : ∃ er, Lo.givE d gl gs n m pieces = er := ⟨_, rfl⟩
  rw [her]
  have HER := Lib.hid her
  clear her
  by_cases h0 : er = 0
  case neg =>
    have hne : (er == 0) = false := by rw [beq_eq_false_iff_ne]; exact h0
    have hne2 : (er != 0) = true := by rw [bne_iff_ne]; exact h0
    have HR := Lib.hid (Lo.fitB_bad (show Lo.givE d gl gs n m pieces ≠ 0 by rw [HER.out]; exact h0))
    clear h0
    go_wp2_with fail
    go_ret2
    rw [HR.out, HER.out]
    exact ⟨rfl, HB2.out.ext⟩
  case pos =>
    subst h0
    have HR := Lib.hid (Lo.fitB_ok HER.out)
    obtain ⟨N, M, rfl, rfl, hwl⟩ := Lo.well HER.out
    rw [Int.toNat_natCast] at HR
    have hck := Cd.check_ok hwl.chk
    have HRW := Lib.hid (cRows_any d gl gs _ w2 HT2.out (Rs.ext (Rs.ext RI.ext) _ _ _ _ HB2.out.ext HG.out))
    have HW := Lib.hid (And.intro hwl hck)
    have b0 : w2.cell? ⟨C, 0, none⟩ = some (.int .i64 d) := HB2.out.cell 0 rfl 0 rfl
    have b1 : w2.cell? ⟨C, 1, none⟩ = some (.slice GA ng Gc) := HB2.out.cell 0 rfl 1 rfl
    have b2 : w2.cell? ⟨C, 2, none⟩ = some (.int .i64 gl) := HB2.out.cell 0 rfl 2 rfl
    clear hwl hck
    go_upto_region 5 with fail
    refine HRW.out.mono ?_
    clear HRW
    rintro e w3 ⟨v, rfl, hv, hx3⟩
    obtain ⟨RA, rc, rfl, _⟩ := hv.form
    have HX3 := Lib.hid (HB2.out.ext.trans hx3)
    have HT3 := Lib.hid (HT2.out.ext hx3)
    have hle : (Cd.rowsOf d gs gl).length ≤ pl := by rw [← HPL.out, HW.out.1.len]; exact Nat.le_refl _
    have hM24 : M < 16777216 := Nat.lt_of_lt_of_le HW.out.1.set (Nat.pow_le_pow_right (by decide) HW.out.1.r24)
    have hso := lSome_any (Cd.rowsOf d gs gl) pieces M RA PA _ rc pl cp w3 hv rfl (Rs.ext RS.ext _ _ _ _ hx3 HP2.out) HPL.out hle hM24 HW.out.1.r24
    have HSO := Lib.hid hso
    clear hx3 b0 b1 b2 hv hso hle hM24
    go_wp2_with fail
    refine HSO.out.mono ?_
    clear HSO
    rintro e w4 ⟨v, rfl, hv, hv0, hx4⟩
    have hag := lAgree_any _ d.toNat (Cd.sizeN d.toNat N) v w4 (HT3.out.ext hx4) hv hv0 (Nat.le_trans (Lo.some_len _ _ _) (by have := HW.out.1.r24; omega)) (HW.out.1.wide (Lo.Sub.refl M)) (by have := HW.out.2; omega) (by have := HW.out.2; omega) (by have h5 := Cd.size_le (d := d.toNat) (by have := HW.out.2; omega) N; have := HW.out.1.n4; omega)
    rw [← HR.out] at hag
    have HAG := Lib.hid hag
    have HX4 := Lib.hid (HX3.out.trans hx4)
    clear hv hv0 hx4 hag
    go_wp2_with fail
    refine HAG.out.mono ?_
    rintro e w5 ⟨rfl, hx5⟩
    have HX5 := Lib.hid (HX4.out.trans hx5)
    obtain ⟨bb, hbb⟩ : ∃ bb, Lo.fitB d gl gs (N : Int) (M : Int) pieces = bb := ⟨_, rfl⟩
    rw [hbb]
    have HBB := Lib.hid hbb
    clear hx5 hbb
    go_wp2_with fail
    go_ret2
    rw [HER.out, HBB.out]
    exact ⟨rfl, HX5.out⟩
end Go.Proofs.YtggfkpalkdkbdaaDoor

/- THE DRAWN REGION of Clash (package locate). -/
namespace Go.Proofs.YtggfkpalkdkbdaaDoor
open Go.RowKit Go.Shelf
theorem ent_some : ∀ args w, (callFunc 41 args).run Tryd.prog w = .ok (.enter 41 args) w := enters_of Tryd.func41 (by kernel_rfl) rfl
theorem ent_agree : ∀ args w, (callFunc 40 args).run Tryd.prog w = .ok (.enter 40 args) w := enters_of Tryd.func40 (by kernel_rfl) rfl
noncomputable def cl_yes_code : Code := ((Tryd.f19.body.bind (regionOf 14)).getD .skip)
def cl_yes_dsts : List (Option Nat) := [some 46, some 47, some 48, some 49, some 50, some 51, some 52, some 53, some 54, some 55, some 56, some 57, some 58]
theorem cl_yes_apart : apartD cl_yes_dsts = true := by decide +kernel
set_option maxRecDepth 1000000 in
set_option maxHeartbeats 16000000 in
theorem cl_yes (G : Value → World → Prop) (RB PB rn rc pl cp : Nat) (RA PA : Option Addr) (bb : Bool) (m l SB tt ct sz : Nat) (wr : World) (htt : tt < 16384) (HC : Hid (Ones.cnt tt = ct)) (HQ : Hid ((((ct : Int)) == ((sz : Int))) = true)) (hSB : wr.cell? ⟨SB, 0, none⟩ = some (.int .i64 (sz : Nat))) (hRB : wr.cell? ⟨RB, 0, none⟩ = some (.slice RA rn rc)) (hPB : wr.cell? ⟨PB, 0, none⟩ = some (.slice PA pl cp)) (HSO : Hid (∀ w1, Ext wr w1 → Calls Tryd.prog 41 #[.slice RA rn rc, .slice PA pl cp, .int .i64 (tt : Nat)] w1 fun e w' => ∃ v, e = .returned v ∧ G v w' ∧ Ext w1 w')) (HAG : Hid (∀ v w1, Ext wr w1 → G v w1 → Calls Tryd.prog 40 #[v] w1 fun e w' => ∃ u, e = .returned u ∧ u = .bool bb ∧ Ext w1 w')) (c0 c1 c2 c3 c4 c5 c6 c8 c9 c10 c11 c13 c14 c16 c18 c19 c20 c21 c22 c23 c24 c25 c26 c27 c28 c29 c30 c31 c32 c33 c34 c35 c36 c37 c38 c39 c40 c41 c42 c43 c44 c45 c46 c47 c48 c49 c50 c51 c52 c53 c54 c55 c56 c57 c58 c59 c60 c61 c62 c63 : Value) (df : List Deferred) (K : Act → World → Prop)
    (hK : ∀  (u46 u47 u48 u49 u50 u51 u52 u53 u54 u55 u56 u57 : Value) (wx : World), Ext wr wx → K ⟨#[c0, c1, c2, c3, c4, c5, c6, .pointer (some ⟨PB, 0, none⟩), c8, c9, c10, c11, .pointer (some ⟨RB, 0, none⟩), c13, c14, .pointer (some ⟨SB, 0, none⟩), c16, .int .i64 (tt : Nat), c18, c19, c20, c21, c22, c23, c24, c25, c26, c27, c28, c29, c30, c31, c32, c33, c34, c35, c36, c37, c38, c39, c40, c41, c42, c43, c44, c45, u46, u47, u48, u49, u50, u51, u52, u53, u54, u55, u56, u57, .bool (!bb), c59, c60, c61, c62, c63], df⟩ wx) :
    Code.wpIn (Fence.wide.inRound l) m Tryd.prog cl_yes_code (AtEnd K) ⟨#[c0, c1, c2, c3, c4, c5, c6, .pointer (some ⟨PB, 0, none⟩), c8, c9, c10, c11, .pointer (some ⟨RB, 0, none⟩), c13, c14, .pointer (some ⟨SB, 0, none⟩), c16, .int .i64 (tt : Nat), c18, c19, c20, c21, c22, c23, c24, c25, c26, c27, c28, c29, c30, c31, c32, c33, c34, c35, c36, c37, c38, c39, c40, c41, c42, c43, c44, c45, c46, c47, c48, c49, c50, c51, c52, c53, c54, c55, c56, c57, c58, c59, c60, c61, c62, c63], df⟩ wr := by
  conv => arg 4; whnf
  refine region_invIn (by kernel_rfl) [[], [0], [1], [], [2, 3], [4, 2], [5], [5], [5], [6, 7, 8, 5, 5], [9, 9, 5], [10, 5], [5, 11]] (by kernel_rfl) [0, 1, 2, 3, 4, 5, 6, 7, 8, 9, 10, 11, 12] (by decide +kernel) (by decide +kernel) (by decide +kernel) (fun L a wc => ∃ (v : Value), Inv cl_yes_dsts [.int .i64 (tt : Nat), .int .u64 (tt : Nat), .int .i64 (ct : Nat), .int .i64 (sz : Nat), .bool true, .bool true, .slice RA rn rc, .slice PA pl cp, .int .i64 (tt : Nat), v, .bool bb, .bool (!bb), .bool (!bb)] ⟨#[c0, c1, c2, c3, c4, c5, c6, .pointer (some ⟨PB, 0, none⟩), c8, c9, c10, c11, .pointer (some ⟨RB, 0, none⟩), c13, c14, .pointer (some ⟨SB, 0, none⟩), c16, .int .i64 (tt : Nat), c18, c19, c20, c21, c22, c23, c24, c25, c26, c27, c28, c29, c30, c31, c32, c33, c34, c35, c36, c37, c38, c39, c40, c41, c42, c43, c44, c45, c46, c47, c48, c49, c50, c51, c52, c53, c54, c55, c56, c57, c58, c59, c60, c61, c62, c63], df⟩ L a ∧ Hid (Ext wr wc ∧ (L 9 = true → L 10 = false → G v wc))) ⟨undef, Inv.start, Lib.hid ⟨(Ext.refl wr).drew, fun h => by cases h⟩⟩ ?_ ?_
  · refine ⟨?_, ?_, ?_, ?_, ?_, ?_, ?_, ?_, ?_, ?_, ?_, ?_, ?_, trivial⟩
    ·
      rintro L a wc ⟨v, hv, HO⟩ hL hc hd
      exact wpOpIn_val (fun _ => trivial) rfl rfl (by intro c h; cases h) (ex_move rfl ((hv.fixed 17 (by decide)).trans rfl)) ⟨v, hv.put cl_yes_apart 0 rfl (lb rfl) (lb rfl) rfl, HO⟩
    ·
      rintro L a wc ⟨v, hv, HO⟩ hL hc hd
      have hw : IntKind.u64.wrap (tt : Int) = (tt : Int) := by rw [IntKind.wrap_u64]; omega
      exact wpOpIn_val (fun _ => trivial) rfl rfl (by intro c h; cases h) (ex_convert rfl (hv.get 0 rfl rfl (hd 0 (by decide))) (by go_simp)) ⟨v, hv.put cl_yes_apart 1 rfl (lb rfl) (lb rfl) rfl, HO⟩
    ·
      rintro L a wc ⟨v, hv, HO⟩ hL hc hd
      refine wpOpIn_call (R := fun v w1 => v = .int .i64 (ct : Nat) ∧ wc = w1) (fun _ => trivial) rfl rfl rfl (by intro c h; cases h) (ex_call rfl rfl (map1c (hv.get 1 rfl rfl (hd 1 (by decide)))) (ent_ones _ _)) (CallsIn.inRound l (callsIn_wide.2 ((ones_any tt wc htt).mono fun e w' h => ⟨_, h.1, by rw [HC.out], h.2⟩))) ?_
      rintro v w' ⟨rfl, rfl⟩
      exact ⟨v, hv.put cl_yes_apart 2 rfl (lb rfl) (lb rfl) rfl, HO⟩
    ·
      rintro L a wc ⟨v, hv, HO⟩ hL hc hd
      have e0 : wc.cell? ⟨SB, 0, none⟩ = some (.int .i64 (sz : Nat)) := HO.out.1.cell hSB
      exact wpOpIn_val (fun _ => trivial) rfl rfl (by intro c h; cases h) (ex_load rfl ((hv.fixed 15 (by decide)).trans rfl) (by go_simp)) ⟨v, hv.put cl_yes_apart 3 rfl (lb rfl) (lb rfl) rfl, HO⟩
    ·
      rintro L a wc ⟨v, hv, HO⟩ hL hc hd
      have hq := HQ.out
      exact wpOpIn_val (fun _ => trivial) rfl rfl (by intro c h; cases h) (ex_bin rfl (hv.get 2 rfl rfl (hd 2 (by decide))) (hv.get 3 rfl rfl (hd 3 (by decide))) (by go_simp)) ⟨v, hv.put cl_yes_apart 4 rfl (lb rfl) (lb rfl) rfl, HO⟩
    ·
      rintro L a wc ⟨v, hv, HO⟩ hL hc hd
      exact wpOpIn_val (fun _ => trivial) rfl rfl (by intro c h; cases h) (ex_move rfl (hv.get 4 rfl rfl (hd 4 (by decide)))) ⟨v, hv.put cl_yes_apart 5 rfl (lb rfl) (lb rfl) rfl, HO⟩
    ·
      rintro L a wc ⟨v, hv, HO⟩ hL hc hd
      have e0 : wc.cell? ⟨RB, 0, none⟩ = some (.slice RA rn rc) := HO.out.1.cell hRB
      exact wpOpIn_val (fun _ => trivial) rfl ((wanted_at rfl rfl (hv.get 5 rfl rfl (hd 5 (by decide)))).trans rfl) (by intro c h; cases h) (ex_load rfl ((hv.fixed 12 (by decide)).trans rfl) (by go_simp)) ⟨v, hv.put cl_yes_apart 6 rfl (lb rfl) (lb rfl) rfl, HO⟩
    ·
      rintro L a wc ⟨v, hv, HO⟩ hL hc hd
      have e0 : wc.cell? ⟨PB, 0, none⟩ = some (.slice PA pl cp) := HO.out.1.cell hPB
      exact wpOpIn_val (fun _ => trivial) rfl ((wanted_at rfl rfl (hv.get 5 rfl rfl (hd 5 (by decide)))).trans rfl) (by intro c h; cases h) (ex_load rfl ((hv.fixed 7 (by decide)).trans rfl) (by go_simp)) ⟨v, hv.put cl_yes_apart 7 rfl (lb rfl) (lb rfl) rfl, HO⟩
    ·
      rintro L a wc ⟨v, hv, HO⟩ hL hc hd
      exact wpOpIn_val (fun _ => trivial) rfl ((wanted_at rfl rfl (hv.get 5 rfl rfl (hd 5 (by decide)))).trans rfl) (by intro c h; cases h) (ex_move rfl ((hv.fixed 17 (by decide)).trans rfl)) ⟨v, hv.put cl_yes_apart 8 rfl (lb rfl) (lb rfl) rfl, HO⟩
    ·
      rintro L a wc ⟨v, hv, HO⟩ hL hc hd
      have n10 : L 10 = false := Bool.eq_false_iff.2 fun h => Bool.false_ne_true (hL.symm.trans (hc 10 h 9 (by decide)))
      refine wpOpIn_callw (fun _ => trivial) rfl rfl ((wanted_at rfl rfl (hv.get 5 rfl rfl (hd 5 (by decide)))).trans rfl) (by intro c h; cases h) (ex_call rfl rfl (map3c (hv.get 6 rfl rfl (hd 6 (by decide))) (hv.get 7 rfl rfl (hd 7 (by decide))) (hv.get 8 rfl rfl (hd 8 (by decide)))) (ent_some _ _)) (CallsIn.inRound l (callsIn_wide.2 (HSO.out wc HO.out.1))) ?_
      rintro u w' ⟨hG, hx⟩
      have hv := hv
      exact ⟨u, hv.put cl_yes_apart 9 rfl (lb rfl) (lb rfl) rfl, Lib.hid ⟨HO.out.1.trans hx, fun _ _ => hG⟩⟩
    ·
      rintro L a wc ⟨v, hv, HO⟩ hL hc hd
      have hG := HO.out.2 (hd 9 (by decide)) hL
      refine wpOpIn_callw (fun _ => trivial) rfl rfl ((wanted_at rfl rfl (hv.get 5 rfl rfl (hd 5 (by decide)))).trans rfl) (by intro c h; cases h) (ex_call rfl rfl (map1c (hv.get 9 rfl rfl (hd 9 (by decide)))) (ent_agree _ _)) (CallsIn.inRound l (callsIn_wide.2 (HAG.out v wc HO.out.1 hG))) ?_
      rintro u w' ⟨rfl, hx⟩
      exact ⟨v, hv.put cl_yes_apart 10 rfl (lb rfl) (lb rfl) rfl, Lib.hid ⟨HO.out.1.trans hx, fun _ h => absurd h (by simp [upd])⟩⟩
    ·
      rintro L a wc ⟨v, hv, HO⟩ hL hc hd
      exact wpOpIn_val (fun _ => trivial) rfl ((wanted_at rfl rfl (hv.get 5 rfl rfl (hd 5 (by decide)))).trans rfl) (by intro c h; cases h) (ex_un rfl (hv.get 10 rfl rfl (hd 10 (by decide))) (by go_simp)) ⟨v, hv.put cl_yes_apart 11 rfl (lb rfl) (lb rfl) rfl, HO⟩
    ·
      rintro L a wc ⟨v, hv, HO⟩ hL hc hd
      exact wpOpIn_val (fun _ => trivial) rfl rfl (by intro c h; cases h) (ex_pick rfl (hv.get 5 rfl rfl (hd 5 (by decide))) ((if_pos rfl).trans (hv.get 11 rfl rfl (hd 11 (by decide))))) ⟨v, hv.put cl_yes_apart 12 rfl (lb rfl) (lb rfl) rfl, HO⟩
  · rintro L a wc ⟨v, hv, HO⟩ hall
    show K a wc
    have ha := act_n rl64 hv.size hv.defers rfl
    simp +decide only [hv.fixed, hv.get 12 (d := 58) rfl rfl (hall 12 (by decide))] at ha
    rw [ha]
    exact hK _ _ _ _ _ _ _ _ _ _ _ _ wc HO.out.1
noncomputable def cl_no_code : Code := ((Tryd.f19.body.bind (regionOf 14)).getD .skip)
def cl_no_dsts : List (Option Nat) := [some 46, some 47, some 48, some 49, some 50, some 51, some 52, some 53, some 54, some 55, some 56, some 57, some 58]
theorem cl_no_apart : apartD cl_no_dsts = true := by decide +kernel
set_option maxRecDepth 1000000 in
set_option maxHeartbeats 16000000 in
theorem cl_no (m l SB tt ct sz : Nat) (wr : World) (htt : tt < 16384) (HC : Hid (Ones.cnt tt = ct)) (HQ : Hid ((((ct : Int)) == ((sz : Int))) = false)) (hSB : wr.cell? ⟨SB, 0, none⟩ = some (.int .i64 (sz : Nat))) (c0 c1 c2 c3 c4 c5 c6 c7 c8 c9 c10 c11 c12 c13 c14 c16 c18 c19 c20 c21 c22 c23 c24 c25 c26 c27 c28 c29 c30 c31 c32 c33 c34 c35 c36 c37 c38 c39 c40 c41 c42 c43 c44 c45 c46 c47 c48 c49 c50 c51 c52 c53 c54 c55 c56 c57 c58 c59 c60 c61 c62 c63 : Value) (df : List Deferred) (K : Act → World → Prop)
    (hK : ∀  (u46 u47 u48 u49 u50 u51 u52 u53 u54 u55 u56 u57 : Value) (wx : World), Ext wr wx → K ⟨#[c0, c1, c2, c3, c4, c5, c6, c7, c8, c9, c10, c11, c12, c13, c14, .pointer (some ⟨SB, 0, none⟩), c16, .int .i64 (tt : Nat), c18, c19, c20, c21, c22, c23, c24, c25, c26, c27, c28, c29, c30, c31, c32, c33, c34, c35, c36, c37, c38, c39, c40, c41, c42, c43, c44, c45, u46, u47, u48, u49, u50, u51, u52, u53, u54, u55, u56, u57, .bool false, c59, c60, c61, c62, c63], df⟩ wx) :
    Code.wpIn (Fence.wide.inRound l) m Tryd.prog cl_no_code (AtEnd K) ⟨#[c0, c1, c2, c3, c4, c5, c6, c7, c8, c9, c10, c11, c12, c13, c14, .pointer (some ⟨SB, 0, none⟩), c16, .int .i64 (tt : Nat), c18, c19, c20, c21, c22, c23, c24, c25, c26, c27, c28, c29, c30, c31, c32, c33, c34, c35, c36, c37, c38, c39, c40, c41, c42, c43, c44, c45, c46, c47, c48, c49, c50, c51, c52, c53, c54, c55, c56, c57, c58, c59, c60, c61, c62, c63], df⟩ wr := by
  conv => arg 4; whnf
  refine region_invIn (by kernel_rfl) [[], [0], [1], [], [2, 3], [4, 2], [5], [5], [5], [6, 7, 8, 5, 5], [9, 9, 5], [10, 5], [5, 11]] (by kernel_rfl) [0, 1, 2, 3, 4, 5, 6, 7, 8, 9, 10, 11, 12] (by decide +kernel) (by decide +kernel) (by decide +kernel) (fun L a wc => Inv cl_no_dsts [.int .i64 (tt : Nat), .int .u64 (tt : Nat), .int .i64 (ct : Nat), .int .i64 (sz : Nat), .bool false, .bool false, undef, undef, undef, undef, undef, undef, .bool false] ⟨#[c0, c1, c2, c3, c4, c5, c6, c7, c8, c9, c10, c11, c12, c13, c14, .pointer (some ⟨SB, 0, none⟩), c16, .int .i64 (tt : Nat), c18, c19, c20, c21, c22, c23, c24, c25, c26, c27, c28, c29, c30, c31, c32, c33, c34, c35, c36, c37, c38, c39, c40, c41, c42, c43, c44, c45, c46, c47, c48, c49, c50, c51, c52, c53, c54, c55, c56, c57, c58, c59, c60, c61, c62, c63], df⟩ L a ∧ Hid (Ext wr wc)) ⟨Inv.start, Lib.hid ((Ext.refl wr).drew)⟩ ?_ ?_
  · refine ⟨?_, ?_, ?_, ?_, ?_, ?_, ?_, ?_, ?_, ?_, ?_, ?_, ?_, trivial⟩
    ·
      rintro L a wc ⟨hv, HO⟩ hL hc hd
      exact wpOpIn_val (fun _ => trivial) rfl rfl (by intro c h; cases h) (ex_move rfl ((hv.fixed 17 (by decide)).trans rfl)) ⟨hv.put cl_no_apart 0 rfl (lb rfl) (lb rfl) rfl, HO⟩
    ·
      rintro L a wc ⟨hv, HO⟩ hL hc hd
      have hw : IntKind.u64.wrap (tt : Int) = (tt : Int) := by rw [IntKind.wrap_u64]; omega
      exact wpOpIn_val (fun _ => trivial) rfl rfl (by intro c h; cases h) (ex_convert rfl (hv.get 0 rfl rfl (hd 0 (by decide))) (by go_simp)) ⟨hv.put cl_no_apart 1 rfl (lb rfl) (lb rfl) rfl, HO⟩
    ·
      rintro L a wc ⟨hv, HO⟩ hL hc hd
      refine wpOpIn_call (R := fun v w1 => v = .int .i64 (ct : Nat) ∧ wc = w1) (fun _ => trivial) rfl rfl rfl (by intro c h; cases h) (ex_call rfl rfl (map1c (hv.get 1 rfl rfl (hd 1 (by decide)))) (ent_ones _ _)) (CallsIn.inRound l (callsIn_wide.2 ((ones_any tt wc htt).mono fun e w' h => ⟨_, h.1, by rw [HC.out], h.2⟩))) ?_
      rintro v w' ⟨rfl, rfl⟩
      exact ⟨hv.put cl_no_apart 2 rfl (lb rfl) (lb rfl) rfl, HO⟩
    ·
      rintro L a wc ⟨hv, HO⟩ hL hc hd
      have e0 : wc.cell? ⟨SB, 0, none⟩ = some (.int .i64 (sz : Nat)) := HO.out.cell hSB
      exact wpOpIn_val (fun _ => trivial) rfl rfl (by intro c h; cases h) (ex_load rfl ((hv.fixed 15 (by decide)).trans rfl) (by go_simp)) ⟨hv.put cl_no_apart 3 rfl (lb rfl) (lb rfl) rfl, HO⟩
    ·
      rintro L a wc ⟨hv, HO⟩ hL hc hd
      have hq := HQ.out
      exact wpOpIn_val (fun _ => trivial) rfl rfl (by intro c h; cases h) (ex_bin rfl (hv.get 2 rfl rfl (hd 2 (by decide))) (hv.get 3 rfl rfl (hd 3 (by decide))) (by go_simp)) ⟨hv.put cl_no_apart 4 rfl (lb rfl) (lb rfl) rfl, HO⟩
    ·
      rintro L a wc ⟨hv, HO⟩ hL hc hd
      exact wpOpIn_val (fun _ => trivial) rfl rfl (by intro c h; cases h) (ex_move rfl (hv.get 4 rfl rfl (hd 4 (by decide)))) ⟨hv.put cl_no_apart 5 rfl (lb rfl) (lb rfl) rfl, HO⟩
    ·
      rintro L a wc ⟨hv, HO⟩ hL hc hd
      exact wpOpIn_off (fun _ => trivial) rfl ((wanted_at rfl rfl (hv.get 5 rfl rfl (hd 5 (by decide)))).trans rfl) ⟨hv.put cl_no_apart 6 rfl (lb rfl) (lb rfl) rfl, HO⟩
    ·
      rintro L a wc ⟨hv, HO⟩ hL hc hd
      exact wpOpIn_off (fun _ => trivial) rfl ((wanted_at rfl rfl (hv.get 5 rfl rfl (hd 5 (by decide)))).trans rfl) ⟨hv.put cl_no_apart 7 rfl (lb rfl) (lb rfl) rfl, HO⟩
    ·
      rintro L a wc ⟨hv, HO⟩ hL hc hd
      exact wpOpIn_off (fun _ => trivial) rfl ((wanted_at rfl rfl (hv.get 5 rfl rfl (hd 5 (by decide)))).trans rfl) ⟨hv.put cl_no_apart 8 rfl (lb rfl) (lb rfl) rfl, HO⟩
    ·
      rintro L a wc ⟨hv, HO⟩ hL hc hd
      exact wpOpIn_off (fun _ => trivial) rfl ((wanted_at rfl rfl (hv.get 5 rfl rfl (hd 5 (by decide)))).trans rfl) ⟨hv.put cl_no_apart 9 rfl (lb rfl) (lb rfl) rfl, HO⟩
    ·
      rintro L a wc ⟨hv, HO⟩ hL hc hd
      exact wpOpIn_off (fun _ => trivial) rfl ((wanted_at rfl rfl (hv.get 5 rfl rfl (hd 5 (by decide)))).trans rfl) ⟨hv.put cl_no_apart 10 rfl (lb rfl) (lb rfl) rfl, HO⟩
    ·
      rintro L a wc ⟨hv, HO⟩ hL hc hd
      exact wpOpIn_off (fun _ => trivial) rfl ((wanted_at rfl rfl (hv.get 5 rfl rfl (hd 5 (by decide)))).trans rfl) ⟨hv.put cl_no_apart 11 rfl (lb rfl) (lb rfl) rfl, HO⟩
    ·
      rintro L a wc ⟨hv, HO⟩ hL hc hd
      exact wpOpIn_val (fun _ => trivial) rfl rfl (by intro c h; cases h) (ex_pick rfl (hv.get 5 rfl rfl (hd 5 (by decide))) rfl) ⟨hv.put cl_no_apart 12 rfl (lb rfl) (lb rfl) rfl, HO⟩
  · rintro L a wc ⟨hv, HO⟩ hall
    show K a wc
    have ha := act_n rl64 hv.size hv.defers rfl
    simp +decide only [hv.fixed, hv.get 12 (d := 58) rfl rfl (hall 12 (by decide))] at ha
    rw [ha]
    exact hK _ _ _ _ _ _ _ _ _ _ _ _ wc HO.out
end Go.Proofs.YtggfkpalkdkbdaaDoor

/- WHAT THE LAWS OF LOCATE SAY, in plain terms. No program in sight. -/
namespace Lo
open Gf Cd
variable {d gl : Int} {gs : List (List Int)} {n m : Nat} {pieces : List (List UInt8)}
/-- Pieces of a chunk of which some were replaced. -/
structure Spoilt (d gl : Int) (gs : List (List Int)) (data : List UInt8) (m : Nat) (pieces : List (List UInt8)) (c : Nat) : Prop where
  ok : check d gs gl = 0
  few : data.length ≤ 4096
  lt : m < 2 ^ (rowsOf d gs gl).length
  len : pieces.length = (rowsOf d gs gl).length
  size : ∀ k, k < (rowsOf d gs gl).length → (pieces.getD k []).length = sizeN d.toNat data.length
  bit : ∀ k, k < (rowsOf d gs gl).length → (bitAt c k = 1 ↔ bitAt m k = 1 ∧ pieces.getD k [] ≠ (encode d gl gs data).getD k [])
  sub : Sub c m
section
variable {data : List UInt8} {c : Nat}
theorem Spoilt.own (h : Spoilt d gl gs data m pieces c) {k : Nat} (hk : k < (rowsOf d gs gl).length) (hm : bitAt m k = 1) (hc : bitAt c k ≠ 1) : pieces.getD k [] = (encode d gl gs data).getD k [] := by
  by_cases e : pieces.getD k [] = (encode d gl gs data).getD k []
  · exact e
  · exact absurd ((h.bit k hk).mpr ⟨hm, e⟩) hc
end
section
variable {L : Nat}
/-- Does a set not fit? -/
def badSet (d gl : Int) (gs : List (List Int)) (pieces : List (List UInt8)) (t : Nat) : Bool := !agree (some_ (rowsOf d gs gl) pieces t)
end
end Lo

/- THE WALK over Clash (package locate). -/
namespace Lo
open Gf Cd
/-- What Clash returns. -/
def ClashOut (d gl : Int) (gs : List (List Int)) (n m : Int) (pieces : List (List UInt8)) (x E : Int) : Prop :=
  (givE d gl gs n m pieces ≠ 0 ∧ x = 0 ∧ E = givE d gl gs n m pieces) ∨ (givE d gl gs n m pieces = 0 ∧ 12 < num m.toNat ∧ x = 0 ∧ E = 2) ∨
  (givE d gl gs n m pieces = 0 ∧ num m.toNat ≤ 12 ∧ ((x = 0 ∧ E = 8 ∧ ∀ z, z ≠ 0 → Sub z m.toNat → badSet d gl gs pieces z = false) ∨ (∃ X : Nat, x = X ∧ E = 0 ∧ Least (badSet d gl gs pieces) m.toNat X)))
end Lo
namespace Go.Proofs.YtggfkpalkdkbdaaDoor
open Go.RowKit Go.Shelf
attribute [local go_sem] Oper.semAt_some
/-- The int in a box. -/
def boxNat (v : Value) (w : World) : Nat :=
  match v with
  | .pointer (some ad) => match w.cell? ad with | some u => (intOf u).toNat | none => 0
  | _ => 0
/-- The round's relation of the search of Clash. -/
def ClR (d gl : Int) (gs : List (List Int)) (pieces : List (List UInt8)) (GA PA RA : Option Addr) (ng Gc pl cp rn rc N M C PB QB FB cn lo : Nat) (w5 : World) (a : Act) (w' : World) : Prop :=
  ∃ (s hi SB : Nat) (u16 u17 u36 u37 u38 u39 u40 u41 u42 u43 u44 u45 u46 u47 u48 u49 u50 u51 u52 u53 u54 u55 u56 u57 u58 u59 u60 : Value) (ds : List Deferred), 1 ≤ s ∧ s ≤ cn + 1 ∧ lo ≤ hi ∧ hi ≤ w'.heap.size ∧ a = ⟨#[.agg #[.int .i64 d, .slice GA ng Gc, .int .i64 gl], .int .i64 (N : Nat), .int .i64 (M : Nat), .slice PA pl cp, .pointer (some ⟨C, 0, none⟩), undef, undef, .pointer (some ⟨PB, 0, none⟩), .int .i64 0, .int .i64 0, .int .i64 0, .int .i64 (cn : Nat), .pointer (some ⟨QB, 0, none⟩), .int .i64 0, .pointer (some ⟨FB, 0, none⟩), .pointer (some ⟨SB, 0, none⟩), u16, u17, .agg #[.int .i64 d, .slice GA ng Gc, .int .i64 gl], .int .i64 (N : Nat), .int .i64 (M : Nat), .slice PA pl cp, .int .i64 0, .int .i64 0, .bool false, undef, .int .i64 (M : Nat), .int .u64 (M : Nat), .int .i64 (cn : Nat), .int .i64 (cn : Nat), .bool false, .tuple #[.slice RA rn rc, .int .i64 0], .agg #[.int .i64 d, .slice GA ng Gc, .int .i64 gl], .tuple #[.slice RA rn rc, .int .i64 0], .slice RA rn rc, .int .i64 0, u36, u37, u38, u39, u40, u41, u42, u43, u44, u45, u46, u47, u48, u49, u50, u51, u52, u53, u54, u55, u56, u57, u58, u59, u60, undef, undef, undef], ds⟩ ∧ Hid (Owns w5 w' [⟨.slice (some ⟨FB, 0, none⟩) 1 1, 3, 1, 1, [.int .i64 0]⟩, ⟨.slice (some ⟨SB, 0, none⟩) 1 1, 3, 1, 1, [.int .i64 (s : Nat)]⟩] ∧ (∀ z, Lo.Sub z M → z ≠ 0 → Lo.num z < s → Lo.badSet d gl gs pieces z = false) ∧ MarksOk lo hi w' ds)
set_option maxHeartbeats 16000000 in
set_option maxRecDepth 100000 in
theorem lClash_any (d gl n m : Int) (gs : List (List Int)) (pieces : List (List UInt8)) (G : Value) (PA : Option Addr) (cp : Nat) (w : World) (hT : Tab w) (hG : Rs (Rs RI) w G gs) (hP : Rs RS w (.slice PA pieces.length cp) pieces) (hN : Cd.check d gs gl = 0 → (Cd.rowsOf d gs gl).length ≤ 14) :
    Calls Tryd.prog 19 #[.agg #[.int .i64 d, G, .int .i64 gl], .int .i64 n, .int .i64 m, .slice PA pieces.length cp] w fun e w' => ∃ x E, e = .returned (.tuple #[.int .i64 x, .int .i64 E]) ∧ Lo.ClashOut d gl gs n m pieces x E ∧ Ext w w' := by
  obtain ⟨GA, Gc, rfl, _⟩ := hG.form
  obtain ⟨ng, hng⟩ : ∃ ng, gs.length = ng := ⟨_, rfl⟩
  rw [hng] at hG ⊢
  obtain ⟨pl, hpl⟩ : ∃ pl, pieces.length = pl := ⟨_, rfl⟩
  rw [hpl] at hP ⊢
  have hB : Owns w ((w.alloc (.cells #[.int .i64 d, .slice GA ng Gc, .int .i64 gl] 24)).alloc (.cells #[.slice PA pl cp] 34)) [⟨.slice (some ⟨w.heap.size, 0, none⟩) 3 3, 24, 1, 3, [.int .i64 d, .slice GA ng Gc, .int .i64 gl]⟩, ⟨.slice (some ⟨(w.alloc (.cells #[.int .i64 d, .slice GA ng Gc, .int .i64 gl] 24)).heap.size, 0, none⟩) 1 1, 34, 1, 1, [.slice PA pl cp]⟩] := ((Owns.start w (L := [no, no]) (by intro r hr; simp at hr; subst hr; exact ⟨rfl, rfl, rfl⟩)).new 0 #[.int .i64 d, .slice GA ng Gc, .int .i64 gl] 24 (by simp [maxLen])).new 1 #[.slice PA pl cp] 34 (by simp [maxLen])
  rw [World.size_alloc] at hB
  have hgv := lGiven_any d gl n m gs pieces _ PA cp _ (Rs.ext (Rs.ext RI.ext) _ _ _ _ hB.ext hG) (by rw [hpl]; exact Rs.ext RS.ext _ _ _ _ hB.ext hP)
  rw [hpl] at hgv
  have HGV := Lib.hid hgv
  have HG := Lib.hid hG
  have HP := Lib.hid (And.intro hP hpl)
  have HT := Lib.hid hT
  have HB := Lib.hid hB
  have HN := Lib.hid hN
  clear hG hP hT hB hN hng hpl hgv
  refine (callsIn_wide (n := 40)).1 ?_
  refine callsIn_of_wp_marks Tryd.func19 rfl trivial ?_ rfl
  simp only [Tryd.ntmps19, List.size_toArray, List.length_cons, List.length_nil, Nat.reduceAdd, Nat.reduceSub, Array.replicate_succ, Array.replicate_zero, List.push_toArray, List.append_toArray, List.nil_append, List.cons_append]
  gi_wp2_with fail
  refine wpIn_wide.2 (wp_scope_straight (wpIn_wide (n := 40).1 ?_))
  obtain ⟨C, hC⟩ : ∃ C, w.heap.size = C := ⟨_, rfl⟩
  obtain ⟨PB, hPB⟩ : ∃ P, C + 1 = P := ⟨_, rfl⟩
  rw [hC, hPB] at HB
  rw [hC]
  try rw [hPB]
  obtain ⟨w1, hw1⟩ : ∃ x, (w.alloc (.cells #[.int .i64 d, .slice GA ng Gc, .int .i64 gl] 24)).alloc (.cells #[.slice PA pl cp] 34) = x := ⟨_, rfl⟩
  rw [hw1] at HB HGV ⊢
  have HCS := Lib.hid (And.intro hC hPB)
  clear hw1 hC hPB
  have b0 : w1.cell? ⟨C, 0, none⟩ = some (.int .i64 d) := HB.out.cell 0 rfl 0 rfl
  have b1 : w1.cell? ⟨C, 1, none⟩ = some (.slice GA ng Gc) := HB.out.cell 0 rfl 1 rfl
  have b2 : w1.cell? ⟨C, 2, none⟩ = some (.int .i64 gl) := HB.out.cell 0 rfl 2 rfl
  have b3 : w1.cell? ⟨PB, 0, none⟩ = some (.slice PA pl cp) := HB.out.cell 1 rfl 0 rfl
  gi_wp2_with fail
  refine ⟨trivial, (callsIn_wide.2 HGV.out).mono ?_⟩
  clear HGV
  rintro e w2 ⟨rfl, hx2⟩
  have HB2 := Lib.hid (HB.out.next hx2)
  clear hx2 b0 b1 b2 b3 HB
  obtain ⟨er, her⟩ : ∃ er, Lo.givE d gl gs n m pieces = er := ⟨_, rfl⟩
  rw [her]
  have HER := Lib.hid her
  clear her
  by_cases h0 : er = 0
  case neg =>
    have hne : (er == 0) = false := by rw [beq_eq_false_iff_ne]; exact h0
    have hne2 : (er != 0) = true := by rw [bne_iff_ne]; exact h0
    have HCO : Hid (Lo.ClashOut d gl gs n m pieces 0 er) := Lib.hid (.inl ⟨by rw [HER.out]; exact h0, rfl, HER.out.symm⟩)
    clear h0
    gi_wp2_with fail
    try rw [Exit.noGoto_ret]
    exact ⟨_, by simp [results, Tryd.f19, go_sem], 0, er, rfl, HCO.out, HB2.out.ext⟩
  case pos =>
    subst h0
    obtain ⟨N, M, rfl, rfl, hwl⟩ := Lo.well HER.out
    have hck := Cd.check_ok hwl.chk
    have hR14 := HN.out hwl.chk
    have hM14 : M < 16384 := Nat.lt_of_lt_of_le hwl.set (show 2 ^ _ ≤ 2 ^ 14 from Nat.pow_le_pow_right (by decide) hR14)
    have HW := Lib.hid (And.intro hwl (And.intro hck hR14))
    obtain ⟨cn, hcn⟩ : ∃ cn, Ones.cnt M = cn := ⟨_, rfl⟩
    have HCN := Lib.hid (And.intro hcn ((cnt_num M).symm.trans hcn))
    have hon := ones_any M w2 hM14
    rw [hcn] at hon
    have HON := Lib.hid hon
    clear hwl hck hR14 hcn hon
    gi_wp2_with fail
    refine ⟨trivial, (callsIn_wide.2 HON.out).mono ?_⟩
    clear HON
    rintro e w' ⟨rfl, rfl⟩
    by_cases h12 : 12 < cn
    · have h12i : (12 : Int) < (cn : Int) := by omega
      have HCO : Hid (Lo.ClashOut d gl gs (N : Int) (M : Int) pieces 0 2) := Lib.hid (.inr (.inl ⟨HER.out, by rw [Int.toNat_natCast, HCN.out.2]; exact h12, rfl, rfl⟩))
      gi_wp2_with fail
      try rw [Exit.noGoto_ret]
      exact ⟨_, by simp [results, Tryd.f19, go_sem], 0, 2, rfl, HCO.out, HB2.out.ext⟩
    · have h12i : ¬ (12 : Int) < (cn : Int) := by omega
      have HRW := Lib.hid (cRows_any d gl gs _ w2 (HT.out.ext HB2.out.ext) (Rs.ext (Rs.ext RI.ext) _ _ _ _ HB2.out.ext HG.out))
      have b0 : w2.cell? ⟨C, 0, none⟩ = some (.int .i64 d) := HB2.out.cell 0 rfl 0 rfl
      have b1 : w2.cell? ⟨C, 1, none⟩ = some (.slice GA ng Gc) := HB2.out.cell 0 rfl 1 rfl
      have b2 : w2.cell? ⟨C, 2, none⟩ = some (.int .i64 gl) := HB2.out.cell 0 rfl 2 rfl
      gi_wp2_with fail
      refine ⟨trivial, (callsIn_wide.2 HRW.out).mono ?_⟩
      clear HRW
      rintro e w4 ⟨v, rfl, hv, hx4⟩
      obtain ⟨RA, rc, rfl, _⟩ := hv.form
      obtain ⟨rn, hrn⟩ : ∃ rn, (Cd.rowsOf d gs gl).length = rn := ⟨_, rfl⟩
      rw [hrn] at hv ⊢
      have HV := Lib.hid (And.intro hv hrn)
      have HB4 := Lib.hid (HB2.out.next hx4)
      rw [HW.out.1.chk]
      have hdec : decide ((12 : Int) < (cn : Int)) = false := decide_eq_false (by omega)
      try rw [hdec]
      clear hx4 b0 b1 b2 hv hrn
      gi_wp2_with fail
      refine wpIn_label ?_
      gi_wp2_with fail
      obtain ⟨w5, hw5⟩ : ∃ x, w4.alloc (.cells #[.slice RA rn rc] 76) = x := ⟨_, rfl⟩
      have hx45 : Ext w4 w5 := by rw [← hw5]; exact (Ext.refl w4).alloc _
      have hs5 : w5.heap.size = w4.heap.size + 1 := by rw [← hw5]; simp
      have hrb : w5.cell? ⟨w4.heap.size, 0, none⟩ = some (.slice RA rn rc) := by rw [← hw5]; exact cell_of_row _ _ 0 _ _ (0, 0) (heap_new _ _)
      rw [hw5]
      have hO7 : Owns w5 ((w5.alloc (.cells #[.int .i64 0] 3)).alloc (.cells #[.int .i64 1] 3)) [⟨.slice (some ⟨w5.heap.size, 0, none⟩) 1 1, 3, 1, 1, [.int .i64 0]⟩, ⟨.slice (some ⟨(w5.alloc (.cells #[.int .i64 0] 3)).heap.size, 0, none⟩) 1 1, 3, 1, 1, [.int .i64 (1 : Nat)]⟩] := ((Owns.start w5 (L := [no, no]) (by intro r hr; simp at hr; subst hr; exact ⟨rfl, rfl, rfl⟩)).new 0 #[.int .i64 0] 3 (by simp [maxLen])).new 1 #[.int .i64 1] 3 (by simp [maxLen])
      obtain ⟨QB, hRB⟩ : ∃ B, w4.heap.size = B := ⟨_, rfl⟩
      obtain ⟨FB, hFB⟩ : ∃ B, QB + 1 = B := ⟨_, rfl⟩
      obtain ⟨SB, hSB⟩ : ∃ B, FB + 1 = B := ⟨_, rfl⟩
      rw [World.size_alloc, hs5, hRB, hFB, hSB] at hO7
      rw [hRB] at hrb
      obtain ⟨w7, hw7⟩ : ∃ x, (w5.alloc (.cells #[.int .i64 0] 3)).alloc (.cells #[.int .i64 1] 3) = x := ⟨_, rfl⟩
      rw [hw7] at hO7 ⊢
      rw [hRB, hFB, hSB]
      have HO7 := Lib.hid hO7
      have HX45 := Lib.hid (And.intro hx45 hrb)
      clear hw5 hx45 hs5 hrb hO7 hRB hFB hSB hw7
      refine wpIn_loop (ClR d gl gs pieces GA PA RA ng Gc pl cp rn rc N M C PB QB FB cn w7.heap.size w5) (fun a w' => cn + 1 - boxNat (a.tmps.getD 15 undef) w') ?_ ?_
      · exact ⟨1, w7.heap.size, SB, _, _, _, _, _, _, _, _, _, _, _, _, _, _, _, _, _, _, _, _, _, _, _, _, _, _, _, [], Nat.le_refl _, by omega, Nat.le_refl _, Nat.le_refl _, rfl, Lib.hid ⟨HO7.out, fun z h1 h2 h3 => by
          have h4 : Lo.num z = 0 := by omega
          have h5 : z = 0 := (Lo.num_eq (a := 0) (b := z) (Nat.lt_of_le_of_lt (Lo.sub_le h1) (Nat.lt_of_lt_of_le hM14 (by decide))) (fun i hi => by rw [show Cd.bitAt 0 i = 0 by simp [Cd.bitAt]] at hi; cases hi) (by omega)).symm
          exact absurd h5 h2, trivial⟩⟩
      · rintro a wr ⟨s, hi, SB, u16, u17, u36, u37, u38, u39, u40, u41, u42, u43, u44, u45, u46, u47, u48, u49, u50, u51, u52, u53, u54, u55, u56, u57, u58, u59, u60, ds, hs1, hs2, hlo, hhi, rfl, HI⟩
        have k0 := HI.out.1.cell 0 rfl 0 rfl
        have k1 := HI.out.1.cell 1 rfl 0 rfl
        have hx57 := HI.out.1.ext
        have k2 := hx57.cell HX45.out.2
        by_cases hle : s ≤ cn
        · have hlei : (s : Int) ≤ (cn : Int) := by omega
          have hMk := HI.out.2.2
          gi_wp2_with fail
          refine ⟨trivial, (callsIn_wide.2 (without_any (M : Int) (cn : Int) wr)).mono ?_⟩
          rintro e w8 ⟨rfl, rfl⟩
          gi_wp2_with fail
          obtain ⟨W2, hW2⟩ : ∃ W2, (wr.alloc (.cells #[.int .i64 (M : Nat)] 3)).alloc (.cells #[.int .i64 (cn : Nat)] 3) = W2 := ⟨_, rfl⟩
          have hx2 : Ext wr W2 := by subst hW2; exact ((Ext.refl wr).alloc _).alloc _
          have hs2' : W2.heap.size = wr.heap.size + 2 := by subst hW2; simp
          have q1 : W2.cell? ⟨wr.heap.size, 0, none⟩ = some (.int .i64 (M : Nat)) := by subst hW2; go_simp
          have q2 : W2.cell? ⟨wr.heap.size + 1, 0, none⟩ = some (.int .i64 (cn : Nat)) := by subst hW2; go_simp
          rw [hW2]
          have hO2 := HI.out.1.next hx2
          have HX2 := Lib.hid (And.intro hx2 hO2)
          have hMrn : M < 2 ^ rn := by have := HW.out.1.set; rw [HV.out.2] at this; exact this
          have hrn14 : rn ≤ 14 := by rw [← HV.out.2]; exact HW.out.2.2
          have hseq := without1_seq 39 wr.heap.size (wr.heap.size + 1) M rn cn W2 hMrn hrn14 q1 q2
          have HMR := Lib.hid (And.intro hMrn hrn14)
          have hs5r := hO2.ext.size
          have hMk2 := hMk.ext hx2
          clear hW2 hx2 q1 q2 k0 k1 k2 hx57 hMrn
          refine wpIn_rangeV rfl (by decide) (gf := 55) (lb := #[.pointer (some ⟨wr.heap.size, 0, none⟩), .pointer (some ⟨wr.heap.size + 1, 0, none⟩)]) rfl trivial (enters_of Tryd.func55 (by kernel_rfl) rfl) hseq K2.trans (fun W l o o' hl ho hc => ⟨by simp [World.putObj], fun a v e => cell_kept e (grownBy_putObj' W l o') (fun r er => by cases er; exact ⟨_, ho, hc⟩)⟩) (fun x W l o o' hl hv ho hc => hv) (fun _ => rfl)
            (fun pre W => (∀ x ∈ pre, ¬ (Lo.num x.2 = s ∧ Lo.badSet d gl gs pieces x.2 = true)) ∧ Below W2.heap.size W2 W ∧ MarksOk w7.heap.size hi W ds)
            (fun c pre W => ∃ y : Nat × Nat, (c = .exit 0 ∧ (∃ pre', pre = pre' ++ [y] ∧ ∀ x ∈ pre', ¬ (Lo.num x.2 = s ∧ Lo.badSet d gl gs pieces x.2 = true)) ∧ Lo.Sub y.2 M ∧ Lo.num y.2 = s ∧ Lo.badSet d gl gs pieces y.2 = true) ∧ W.cell? ⟨FB, 0, none⟩ = some (.int .i64 (y.2 : Nat)) ∧ Below w5.heap.size w5 W ∧ MarksOk w7.heap.size hi W ds)
            (fun _ _ _ => trivial)
            (OwnFrom.and (ownFrom_pure _ _) (OwnFrom.and (ownFrom_below (Nat.le_refl _) (Nat.le_refl _)) (ownFrom_marks (by omega))))
            (fun c s W W' row hs hg hr => by
              obtain ⟨y, h1, h2, h3, h4⟩ := hs
              exact ⟨y, h1, cell_kept h2 hg (fun r e => (hr r e).2), h3.grown hg h3.size (fun k e => Nat.le_trans hs5r (hr k e).1), ownFrom_marks (β := List (Nat × Nat)) (B := W2.heap.size) (by omega) s W W' row h4 hg hr⟩)
            ⟨by simp, Below.refl _ _, hMk2⟩
            (fun x => { tmps := #[.agg #[.int .i64 d, .slice GA ng Gc, .int .i64 gl], .int .i64 (N : Nat), .int .i64 (M : Nat), .slice PA pl cp, .pointer (some ⟨C, 0, none⟩), undef, undef, .pointer (some ⟨PB, 0, none⟩), .int .i64 0, .int .i64 0, .int .i64 0, .int .i64 (cn : Nat), .pointer (some ⟨QB, 0, none⟩), .int .i64 0, .pointer (some ⟨FB, 0, none⟩), .pointer (some ⟨SB, 0, none⟩), u16, .int .i64 (x.2 : Nat), .agg #[.int .i64 d, .slice GA ng Gc, .int .i64 gl], .int .i64 (N : Nat), .int .i64 (M : Nat), .slice PA pl cp, .int .i64 0, .int .i64 0, .bool false, undef, .int .i64 (M : Nat), .int .u64 (M : Nat), .int .i64 (cn : Nat), .int .i64 (cn : Nat), .bool false, .tuple #[.slice RA rn rc, .int .i64 0], .agg #[.int .i64 d, .slice GA ng Gc, .int .i64 gl], .tuple #[.slice RA rn rc, .int .i64 0], .slice RA rn rc, .int .i64 0, .int .i64 (s : Nat), .int .i64 (cn : Nat), .bool true, u39, u40, .int .i64 (M : Nat), .int .i64 (cn : Nat), .func (.func 55) #[] #[.pointer (some ⟨wr.heap.size, 0, none⟩), .pointer (some ⟨wr.heap.size + 1, 0, none⟩)], .int .i64 (x.1 : Nat), .int .i64 (x.2 : Nat), u46, u47, u48, u49, u50, u51, u52, u53, u54, u55, u56, u57, u58, u59, u60, undef, undef, undef], defers := [] }) ?assign ?body ?done ?stop
          case assign =>
            intro l x W K hK
            unfold encP
            gi_wp2
            exact hK
          case body =>
            rintro l pre ⟨x1, tt⟩ W ⟨hpre, hB, hMkW⟩ hV _
            have hsub : Lo.Sub tt M := hV.1
            have hX : Ext wr W := HX2.out.1.trans hB
            have hOW := HI.out.1.next hX
            have k1 := hOW.cell 1 rfl 0 rfl
            have k2 := hOW.ext.cell HX45.out.2
            have hx4W := HX45.out.1.trans hOW.ext
            have k3 := hx4W.cell (HB4.out.cell 1 rfl 0 rfl)
            have hxW := HB4.out.ext.trans hx4W
            have htt : tt < 16384 := Nat.lt_of_le_of_lt (Lo.sub_le hsub) hM14
            have HI0 := Lib.hid (And.intro hpre (And.intro hB hMkW))
            have HSU := Lib.hid hsub
            have HOW := Lib.hid (And.intro hOW hX)
            have HXW := Lib.hid (And.intro hxW hx4W)
            clear hpre hB hMkW hV hX hOW hx4W hxW hsub
            by_cases hnum : Ones.cnt tt = s
            · have HC := Lib.hid hnum
              have HQ : Hid ((((s : Nat) : Int) == ((s : Nat) : Int)) = true) := Lib.hid (by simp)
              obtain ⟨bb, hbb⟩ : ∃ bb, Lo.agree (Lo.some_ (Cd.rowsOf d gs gl) pieces tt) = bb := ⟨_, rfl⟩
              have HBB := Lib.hid (And.intro hbb ((cnt_num tt).symm.trans hnum))
              have HSO : Hid (∀ w1, Ext W w1 → Calls Tryd.prog 41 #[.slice RA rn rc, .slice PA pl cp, .int .i64 (tt : Nat)] w1 fun e w' => ∃ v, e = .returned v ∧ (RRo w' v (Lo.some_ (Cd.rowsOf d gs gl) pieces tt) ∧ (Lo.some_ (Cd.rowsOf d gs gl) pieces tt = [] → v = .slice none 0 0)) ∧ Ext w1 w') := Lib.hid fun w1 hx => by
                have h := lSome_any (Cd.rowsOf d gs gl) pieces tt RA PA rn rc pl cp w1 (Rs.ext (Rs.ext RB.ext) _ _ _ _ (HXW.out.2.trans hx) HV.out.1) HV.out.2 (Rs.ext RS.ext _ _ _ _ (HXW.out.1.trans hx) HP.out.1) HP.out.2 (by have := HW.out.1.len; rw [HP.out.2, HV.out.2] at this; omega) (by omega) (by have := HMR.out.2; omega)
                refine h.mono ?_
                rintro e w' ⟨v, rfl, h1, h2, h3⟩
                exact ⟨v, rfl, ⟨h1, h2⟩, h3⟩
              have HAG : Hid (∀ v w1, Ext W w1 → (RRo w1 v (Lo.some_ (Cd.rowsOf d gs gl) pieces tt) ∧ (Lo.some_ (Cd.rowsOf d gs gl) pieces tt = [] → v = .slice none 0 0)) → Calls Tryd.prog 40 #[v] w1 fun e w' => ∃ u, e = .returned u ∧ u = .bool bb ∧ Ext w1 w') := Lib.hid fun v w1 hx hG => by
                have h := lAgree_any _ d.toNat (Cd.sizeN d.toNat N) v w1 (HT.out.ext (HXW.out.1.trans hx)) hG.1 hG.2 (Nat.le_trans (Lo.some_len _ _ _) (by have := HW.out.1.r24; omega)) (HW.out.1.wide HSU.out) (by have := HW.out.2; omega) (by have := HW.out.2; omega) (by have h5 := Cd.size_le (d := d.toNat) (by have := HW.out.2; omega) N; have := HW.out.1.n4; omega)
                rw [HBB.out.1] at h
                refine h.mono ?_
                rintro e w' ⟨rfl, h3⟩
                exact ⟨_, rfl, rfl, h3⟩
              clear hbb hnum
              gi_wp2_with fail
              refine wpIn_atEnd' (cl_yes (fun v w' => RRo w' v (Lo.some_ (Cd.rowsOf d gs gl) pieces tt) ∧ (Lo.some_ (Cd.rowsOf d gs gl) pieces tt = [] → v = .slice none 0 0)) QB PB rn rc pl cp RA PA bb _ l SB tt s s W htt HC HQ k1 k2 k3 HSO HAG _ _ _ _ _ _ _ _ _ _ _ _ _ _ _ _ _ _ _ _ _ _ _ _ _ _ _ _ _ _ _ _ _ _ _ _ _ _ _ _ _ _ _ _ _ _ _ _ _ _ _ _ _ _ _ _ _ _ _ _ _ _ ?_)
              rintro u46 u47 u48 u49 u50 u51 u52 u53 u54 u55 u56 u57 wx hx
              have HX := Lib.hid hx
              clear k1 k2 k3
              cases bb with
              | true =>
                clear hx
                gi_wp2_with fail
                refine ⟨HX.out.keepsOthers, K2.of_ext HX.out, fun y hy => ?_, HI0.out.2.1.trans (Below.mono HX.out HI0.out.2.1.size), HI0.out.2.2.ext HX.out⟩
                rcases List.mem_append.1 hy with hy | hy
                · exact HI0.out.1 y hy
                · rw [List.mem_singleton.1 hy]
                  rintro ⟨_, h⟩
                  unfold Lo.badSet at h
                  simp only at h
                  rw [HBB.out.1] at h
                  cases h
              | false =>
                have hOx := HOW.out.1.next hx
                have k0 := hOx.cell 0 rfl 0 rfl
                have f0 : wx.frozen? ⟨FB, 0, none⟩ = false := hOx.frozen 0 rfl 0
                have HS := Lib.hid (hOx.store 0 rfl 0 (.int .i64 (tt : Nat)))
                clear hx hOx
                gi_wp2_with fail
                refine ⟨HX.out.keepsOthers.trans (KeepsOthers.setCell _ _ _), (x1, tt), ⟨rfl, ⟨pre, rfl, HI0.out.1⟩, HSU.out, HBB.out.2, ?_⟩, HS.out.cell 0 rfl 0 rfl, HS.out.ext, ?_⟩
                · unfold Lo.badSet
                  simp only
                  rw [HBB.out.1]
                  rfl
                · exact (HI0.out.2.2.ext HX.out).kept (Nat.le_refl _) (fun D _ _ h => (KeepsOthers.setCell _ _ _).same D _ h rfl)
            · obtain ⟨ct, hct⟩ : ∃ ct, Ones.cnt tt = ct := ⟨_, rfl⟩
              rw [hct] at hnum
              have HC := Lib.hid hct
              have HQ : Hid ((((ct : Nat) : Int) == ((s : Nat) : Int)) = false) := Lib.hid (by rw [beq_eq_false_iff_ne]; omega)
              have HNN := Lib.hid hnum
              clear hnum hct
              gi_wp2_with fail
              refine wpIn_atEnd' (cl_no _ l SB tt ct s W htt HC HQ k1 _ _ _ _ _ _ _ _ _ _ _ _ _ _ _ _ _ _ _ _ _ _ _ _ _ _ _ _ _ _ _ _ _ _ _ _ _ _ _ _ _ _ _ _ _ _ _ _ _ _ _ _ _ _ _ _ _ _ _ _ _ _ _ _ ?_)
              rintro u46 u47 u48 u49 u50 u51 u52 u53 u54 u55 u56 u57 wx hx
              have HX := Lib.hid hx
              clear k1 k2 k3 hx
              gi_wp2_with fail
              refine ⟨HX.out.keepsOthers, K2.of_ext HX.out, fun y hy => ?_, HI0.out.2.1.trans (Below.mono HX.out HI0.out.2.1.size), HI0.out.2.2.ext HX.out⟩
              rcases List.mem_append.1 hy with hy | hy
              · exact HI0.out.1 y hy
              · rw [List.mem_singleton.1 hy]
                rintro ⟨h, _⟩
                exact HNN.out (HC.out.symm.trans ((cnt_num tt).trans h))
          case done =>
            rintro D xs W hD rfl ⟨hall, hB, hMkW⟩ hK
            have hX : Ext wr W := HX2.out.1.trans hB
            have hOW := HI.out.1.next hX
            have k1 := hOW.cell 1 rfl 0 rfl
            have hnew := hOW.new 1 #[.int .i64 ((s : Int) + 1)] 3 (by simp [maxLen])
            have hnx := Lo.clash_next (bad := Lo.badSet d gl gs pieces) (m := M) (N := rn) (s := s) HMR.out.1 (by have := HMR.out.2; omega) HI.out.2.1 (fun z hz => hall (M - z, z) (List.mem_map.2 ⟨z, by rw [HCN.out.2] at hz; exact hz, rfl⟩))
            have hDl := (Array.getElem?_eq_some_iff.1 hK).1
            have HDO := Lib.hid (And.intro hnew (And.intro hnx (And.intro hMkW hK)))
            have hwr : IntKind.i64.wrap ((s : Int) + 1) = (s : Int) + 1 := by rw [IntKind.wrap_i64]; omega
            have hcs : ((s + 1 : Nat) : Int) = (s : Int) + 1 := rfl
            have hk1r := HI.out.1.cell 1 rfl 0 rfl
            clear hall hB hMkW hK hX hOW hnew hnx
            gi_wp2_with fail
            have hko : KeepsOthers W (W.alloc (.cells #[.int .i64 ((s : Int) + 1)] 3)) := ((Ext.refl W).alloc _).keepsOthers
            refine ⟨⟨s + 1, D + 1, W.heap.size, _, _, _, _, _, _, _, _, _, _, _, _, _, _, _, _, _, _, _, _, _, _, _, _, _, _, _, _, by omega, by omega, by omega, ?_, rfl, Lib.hid ⟨HDO.out.1, HDO.out.2.1, HDO.out.2.2.1.push (fun D2 _ _ h => hko.same D2 _ h rfl) (by omega) (by omega) (hko.same D _ HDO.out.2.2.2 rfl)⟩⟩, ?_⟩
            · simp; omega
            · have hn1 := HDO.out.1.cell 1 rfl 0 rfl
              have e1 : boxNat (.pointer (some ⟨W.heap.size, 0, none⟩)) (W.alloc (.cells #[.int .i64 ((s : Int) + 1)] 3)) = s + 1 := by
                unfold boxNat
                simp only [hn1]
                show ((s : Int) + 1).toNat = s + 1
                omega
              have e2 : boxNat (.pointer (some ⟨SB, 0, none⟩)) wr = s := by
                unfold boxNat
                simp only [hk1r]
                show ((s : Nat) : Int).toNat = s
                omega
              show cn + 1 - boxNat (.pointer (some ⟨W.heap.size, 0, none⟩)) _ < cn + 1 - boxNat (.pointer (some ⟨SB, 0, none⟩)) wr
              rw [e1, e2]
              omega
          case stop =>
            rintro D c' pre W hD hS ⟨y, ⟨rfl, ⟨pre', hpp, hpre⟩, hsub, hns, hbad⟩, hcell, hBw, hMkW⟩ hK
            have hne0 : y.2 ≠ 0 := fun e => by rw [e, Lo.num_zero] at hns; omega
            have hlt := Lo.clash_hit (bad := Lo.badSet d gl gs pieces) (m := M) (N := rn) (s := s) (t := y.2) (pre := pre'.map (·.2)) HMR.out.1 (by have := HMR.out.2; omega) (by
              have h := hS.map (·.2)
              rw [hpp, List.map_append] at h
              unfold Lo.pairs at h
              rw [List.map_map] at h
              rw [HCN.out.2]
              have e : (fun x : Nat × Nat => x.2) ∘ (fun t => (M - t, t)) = id := rfl
              rw [e, List.map_id] at h
              exact h) HI.out.2.1 (fun z hz => by
              obtain ⟨q, hq, rfl⟩ := List.mem_map.1 hz
              exact hpre q hq) hns hbad (by omega)
            have HCO : Hid (Lo.ClashOut d gl gs (N : Int) (M : Int) pieces (y.2 : Nat) 0) := Lib.hid (.inr (.inr ⟨HER.out, by rw [Int.toNat_natCast, HCN.out.2]; omega, .inr ⟨y.2, rfl, rfl, by rw [Int.toNat_natCast]; exact hlt⟩⟩))
            have hne : (((y.2 : Nat) : Int) == 0) = false := by rw [beq_eq_false_iff_ne]; omega
            have HEND := Lib.hid (And.intro hBw (And.intro hMkW hK))
            have hDl := (Array.getElem?_eq_some_iff.1 hK).1
            clear hS hpp hpre hsub hns hbad hBw hMkW hK hlt hne0
            gi_wp2_with fail
            try rw [Exit.noGoto_ret]
            refine leaves_marks (HEND.out.2.1.push (fun _ _ _ h => h) (by omega) (by omega) HEND.out.2.2) fun w' hw' => ?_
            exact ⟨.tuple #[.int .i64 (y.2 : Nat), .int .i64 0], by simp [results, Tryd.f19, go_sem], (y.2 : Nat), 0, rfl, HCO.out, HB4.out.ext.trans (HX45.out.1.trans (show Ext w5 w' from Below.trans HEND.out.1 (Below.mono hw' HO7.out.ext.size)))⟩
        · have hlei : ¬ (s : Int) ≤ (cn : Int) := by omega
          have HCO : Hid (Lo.ClashOut d gl gs (N : Int) (M : Int) pieces 0 8) := Lib.hid (.inr (.inr ⟨HER.out, by rw [Int.toNat_natCast, HCN.out.2]; omega, .inl ⟨rfl, rfl, fun z h1 h2 => HI.out.2.1 z (by rw [Int.toNat_natCast] at h2; exact h2) h1 (by rw [Int.toNat_natCast] at h2; have := Lo.num_sub h2; rw [HCN.out.2] at this; omega)⟩⟩))
          gi_wp2_with fail
          try rw [Exit.noGoto_ret]
          refine leaves_marks HI.out.2.2 fun w' hw' => ?_
          exact ⟨.tuple #[.int .i64 0, .int .i64 8], by simp [results, Tryd.f19, go_sem], 0, 8, rfl, HCO.out, HB4.out.ext.trans (HX45.out.1.trans (show Ext w5 w' from Below.trans hx57 (Below.mono hw' HO7.out.ext.size)))⟩
end Go.Proofs.YtggfkpalkdkbdaaDoor

/- THE WALK over Decode. -/
namespace Go.Proofs.YtggfkpalkdkbdaaDoor
open Go.RowKit
theorem StairsOut.toRd {w0 w : World} {P n : Nat} {rs ps : List (List UInt8)} (h : StairsOut w0 w P rs ps n) (hw : ∀ r ∈ rs, r.length ≤ 9223372036854775807) (hl : rs.length ≤ 9223372036854775807) : StairsRd w P rs ps n := by
  obtain ⟨A, B, cA, cB, b0, b1, b2, hpl, h1, h2⟩ := h.look
  refine ⟨A, B, cA, cB, b0, by rw [hpl]; exact b1, b2, ⟨A, cA, rfl, hl, fun i x hx => ?_⟩, ⟨B, cB, rfl, by omega, fun i x hx => ?_⟩⟩
  · obtain ⟨hi, rfl⟩ := List.getElem?_eq_some_iff.1 hx
    obtain ⟨ad, g, cg, e1, e2, e3⟩ := h1 i hi
    exact ⟨ad, _, e1, e2, Rs.of_rd e3 (hw _ (List.getElem_mem hi))⟩
  · obtain ⟨hi, rfl⟩ := List.getElem?_eq_some_iff.1 hx
    obtain ⟨bd, e1, e2⟩ := h2 i hi
    exact ⟨bd, _, e1, e2, rfl⟩
theorem strCells_sb (p : List UInt8) : Lib.strCells (sb p) = p.map bv := rfl
/-- What Decode is given, with its first error. -/
theorem cDecode_no (d gl n m : Int) (gs : List (List Int)) (pieces : List (List UInt8)) (G : Value) (PA : Option Addr) (cp : Nat) (w : World) (hT : Tab w) (hG : Rs (Rs RI) w G gs) (h0 : Cd.check d gs gl ≠ 0) :
    Calls Tryd.prog 23 #[.agg #[.int .i64 d, G, .int .i64 gl], .int .i64 n, .int .i64 m, .slice PA pieces.length cp] w fun e w' => e = .returned (.tuple #[.string (sb []), .int .i64 (Cd.check d gs gl)]) ∧ Ext w w' := by
  have hx0 := (Ext.refl w).alloc (.cells #[.int .i64 d, G, .int .i64 gl] 24)
  have HX := Lib.hid (And.intro hx0 (Rs.ext (Rs.ext RI.ext) _ _ _ _ hx0 hG))
  have HT := Lib.hid (hT.ext hx0)
  obtain ⟨A, c, rfl, hl⟩ := hG.form
  have e1 : (Cd.check d gs gl != 0) = true := by rw [bne_iff_ne]; exact h0
  clear hG hx0 hT h0
  go_enter Tryd.func23, Tryd.ntmps23
  go_wp2_with fail
  refine (cRows_any d gl gs _ _ HT.out HX.out.2).mono ?_
  rintro e w1 ⟨v, rfl, hv, hx1⟩
  have HX1 := Lib.hid (HX.out.1.trans hx1)
  clear hx1 hv
  go_wp2_with fail
  go_ret2
  exact ⟨rfl, HX1.out⟩
theorem toList_sb (l : List UInt8) : (sb l).toList = l := by rw [ByteArray.toList_eq]; rfl
theorem sb_same {e p : List UInt8} (h : e = p) : (!(sb e).toList == (sb p).toList) = false := by subst h; simp
theorem sb_other {e p : List UInt8} (h : e ≠ p) : (!(sb e).toList == (sb p).toList) = true := by rw [toList_sb, toList_sb]; simp [h]
set_option maxRecDepth 100000 in
set_option maxHeartbeats 4000000 in
theorem cDecode_arg (d gl n m : Int) (gs : List (List Int)) (pieces : List (List UInt8)) (G : Value) (PA : Option Addr) (cp : Nat) (w : World) (hT : Tab w) (hG : Rs (Rs RI) w G gs) (h0 : Cd.check d gs gl = 0) (hb : Cd.badArgs d gl gs n m pieces = true) :
    Calls Tryd.prog 23 #[.agg #[.int .i64 d, G, .int .i64 gl], .int .i64 n, .int .i64 m, .slice PA pieces.length cp] w fun e w' => e = .returned (.tuple #[.string (sb []), .int .i64 1]) ∧ Ext w w' := by
  have hx0 := (Ext.refl w).alloc (.cells #[.int .i64 d, G, .int .i64 gl] 24)
  have HX := Lib.hid (And.intro hx0 (Rs.ext (Rs.ext RI.ext) _ _ _ _ hx0 hG))
  have HT := Lib.hid (hT.ext hx0)
  obtain ⟨A, c, rfl, hl⟩ := hG.form
  have e1 : (Cd.check d gs gl != 0) = false := by rw [h0]; rfl
  have hk := Cd.check_ok h0
  have hrl := Cd.rowsOf_len h0
  unfold Cd.badArgs at hb
  rw [decide_eq_true_eq] at hb
  obtain ⟨L, hL⟩ : ∃ L, (Cd.rowsOf d gs gl).length = L := ⟨_, rfl⟩
  rw [hL] at hb hrl
  have hw2 := wrap_pow L (by omega)
  obtain ⟨M, hM⟩ : ∃ M, 2 ^ L = M := ⟨_, rfl⟩
  rw [hM] at hb hw2
  obtain ⟨N, hN⟩ : ∃ N, pieces.length = N := ⟨_, rfl⟩
  rw [hN] at hb ⊢
  have five : n < 0 ∨ (¬ n < 0 ∧ 4096 < n) ∨ (¬ n < 0 ∧ ¬ 4096 < n ∧ m < 0) ∨ (¬ n < 0 ∧ ¬ 4096 < n ∧ ¬ m < 0 ∧ (M : Int) ≤ m) ∨ (¬ n < 0 ∧ ¬ 4096 < n ∧ ¬ m < 0 ∧ ¬ (M : Int) ≤ m ∧ N ≠ L) := by omega
  have HLL := Lib.hid hL
  have hL24 : L ≤ 24 := by omega
  clear hG hx0 hT h0 hb hM hL hN hrl
  rcases five with g | ⟨g1, g⟩ | ⟨g1, g2, g⟩ | ⟨g1, g2, g3, g⟩ | ⟨g1, g2, g3, g4, g⟩
  all_goals
    go_enter Tryd.func23, Tryd.ntmps23
    go_wp2_with fail
    refine (cRows_any d gl gs _ _ HT.out HX.out.2).mono ?_
    rintro e w1 ⟨v, rfl, hv, hx1⟩
    have HX1 := Lib.hid (HX.out.1.trans hx1)
    obtain ⟨RA, cR, rfl, _⟩ := hv.form
    rw [HLL.out]
    clear hx1 hv
  · go_wp2_with fail
    go_ret2
    exact ⟨rfl, HX1.out⟩
  · go_wp2_with fail
    go_ret2
    exact ⟨rfl, HX1.out⟩
  · go_wp2_with fail
    go_ret2
    exact ⟨rfl, HX1.out⟩
  · have e2 : (wrap64 (2 ^ L) ≤ m) = True := by rw [hw2]; exact eq_true (by omega)
    clear hw2 g
    go_wp2_with fail
    go_ret2
    exact ⟨rfl, HX1.out⟩
  · have e2 : (wrap64 (2 ^ L) ≤ m) = False := by rw [hw2]; exact eq_false (by omega)
    have e3 : ((N : Int) != (L : Int)) = true := by rw [bne_iff_ne]; omega
    clear hw2 g4 g
    go_wp2_with fail
    go_ret2
    exact ⟨rfl, HX1.out⟩
theorem dec_facts {d gl : Int} {n m : Nat} {gs : List (List Int)} {pieces : List (List UInt8)} (h : Cd.badArgs d gl gs (n : Int) (m : Int) pieces = false) : n ≤ 4096 ∧ m < 2 ^ (Cd.rowsOf d gs gl).length ∧ pieces.length = (Cd.rowsOf d gs gl).length := by
  unfold Cd.badArgs at h
  rw [decide_eq_false_iff_not] at h
  obtain ⟨M, hM⟩ : ∃ M, 2 ^ (Cd.rowsOf d gs gl).length = M := ⟨_, rfl⟩
  rw [hM] at h ⊢
  omega
theorem pow_le_false {m L : Nat} (h : m < 2 ^ L) (hL : L ≤ 24) : (wrap64 (2 ^ L) ≤ (m : Int)) = False := by
  rw [wrap_pow L (by omega)]
  obtain ⟨M, hM⟩ : ∃ M, 2 ^ L = M := ⟨_, rfl⟩
  rw [hM] at h ⊢
  exact eq_false (by omega)
set_option maxRecDepth 100000 in
set_option maxHeartbeats 8000000 in
theorem cDecode_in (d gl n m : Nat) (gs : List (List Int)) (pieces : List (List UInt8)) (G : Value) (PA : Option Addr) (cp : Nat) (w : World) (hT : Tab w) (hG : Rs (Rs RI) w G gs) (h0 : Cd.check d gs gl = 0) (hb : Cd.badArgs d gl gs n m pieces = false)
    (hP : Rs RS w (.slice PA pieces.length cp) pieces) (hpm : ∀ p ∈ pieces, p.length ≤ 140737488351232) :
    Calls Tryd.prog 23 #[.agg #[.int .i64 d, G, .int .i64 gl], .int .i64 n, .int .i64 m, .slice PA pieces.length cp] w fun e w' => e = .returned (.tuple #[.string (sb (Cd.decS d gl gs n m pieces)), .int .i64 (Cd.decE d gl gs n m pieces)]) ∧ Ext w w' := by
  have hx0 := (Ext.refl w).alloc (.cells #[.int .i64 d, G, .int .i64 gl] 24)
  have HX := Lib.hid (And.intro hx0 (Rs.ext (Rs.ext RI.ext) _ _ _ _ hx0 hG))
  have HT := Lib.hid (hT.ext hx0)
  have HP := Lib.hid (Rs.ext RS.ext _ _ _ _ hx0 hP)
  have HPM := Lib.hid hpm
  obtain ⟨A, c, rfl, hl⟩ := hG.form
  have e1 : (Cd.check (d : Int) gs (gl : Int) != 0) = false := by rw [h0]; rfl
  have hk := Cd.check_ok h0
  have hrl := Cd.rowsOf_len h0
  obtain ⟨L, hL⟩ : ∃ L, (Cd.rowsOf (d : Int) gs (gl : Int)).length = L := ⟨_, rfl⟩
  rw [hL] at hrl
  have hL24 : L ≤ 24 := by omega
  have hL0 : 0 < L := by omega
  have hfacts := dec_facts hb
  rw [hL] at hfacts
  obtain ⟨hn4, hmL, hpl⟩ := hfacts
  have hm24 : m < 16777216 := Nat.lt_of_lt_of_le hmL (Nat.pow_le_pow_right (by decide) hL24)
  have e2 : (wrap64 (2 ^ L) ≤ (m : Int)) = False := pow_le_false hmL hL24
  have hso := Cd.sizeOf_nat (d := d) (gl := gl) (gs := gs) hn4 h0
  have hszle := Cd.size_le (d := d) (by omega) n
  obtain ⟨sz, hsz⟩ : ∃ sz, Cd.sizeN d n = sz := ⟨_, rfl⟩
  rw [hsz] at hso hszle
  have HF := Lib.hid (And.intro h0 (And.intro hb (And.intro hL (And.intro hpl hsz))))
  have HSO := Lib.hid hso
  have HML := Lib.hid hmL
  have hd1 : 1 ≤ d := by omega
  have hd16 : d ≤ 16 := by omega
  rw [hpl]
  clear hG hx0 hT h0 hP hpm hb hrl hL hmL hpl hso hsz
  go_enter Tryd.func23, Tryd.ntmps23
  go_wp2_with fail
  refine (cRows_any d gl gs _ _ HT.out HX.out.2).mono ?_
  rintro e w1 ⟨v, rfl, hv, hx1⟩
  obtain ⟨RA, cR, rfl, _⟩ := hv.form
  have hc0 : w1.cell? ⟨w.heap.size, 0, none⟩ = some (.int .i64 d) := hx1.cell (by go_simp)
  have hc1 : w1.cell? ⟨w.heap.size, 1, none⟩ = some (.slice A gs.length c) := hx1.cell (by go_simp)
  have hc2 : w1.cell? ⟨w.heap.size, 2, none⟩ = some (.int .i64 gl) := hx1.cell (by go_simp)
  have HC1 := Lib.hid (And.intro hc0 (And.intro hc1 hc2))
  have HX1 := Lib.hid (HX.out.1.trans hx1)
  have HT1 := Lib.hid (HT.out.ext hx1)
  have HG1 := Lib.hid (Rs.ext (Rs.ext RI.ext) _ _ _ _ hx1 HX.out.2)
  have HP1 := Lib.hid (Rs.ext RS.ext _ _ _ _ hx1 HP.out)
  have HV := Lib.hid hv
  rw [HF.out.2.2.1]
  clear hx1 hv
  go_wp2_with fail
  clear hc0 hc1 hc2
  refine (cSize_any d gl n gs _ _ HG1.out).mono ?_
  rintro e w2 ⟨rfl, hx2⟩
  rw [HSO.out]
  have HX2 := Lib.hid (HX1.out.trans hx2)
  have HX12 := Lib.hid hx2
  have HT2 := Lib.hid (HT1.out.ext hx2)
  have HP2 := Lib.hid (Rs.ext RS.ext _ _ _ _ hx2 HP1.out)
  have HV2 := Lib.hid (Rs.ext (Rs.ext RB.ext) _ _ _ _ hx2 HV.out)
  clear hx2
  go_wp2_with fail
  go_loop [60] (fun vk => ∃ k : Nat, k ≤ L ∧ vk = .int .i64 k ∧ Hid (∀ j, j < k → Cd.bitAt m j = 1 → (pieces.getD j []).length = sz)) (fun vk => L - (intOf vk).toNat)
  case atStart => exact ⟨0, Nat.zero_le _, rfl, fun j hj => absurd hj (by omega)⟩
  case round =>
    obtain ⟨k, hk2, rfl, HI⟩ := hrel
    by_cases hlt : k < L
    · obtain ⟨pd, u, rfl, hpc, hu⟩ := HP2.out.at (i := k) (by rw [HF.out.2.2.2.1]; exact hlt)
      have hu' : u = sv (pieces[k]'(by rw [HF.out.2.2.2.1]; exact hlt)) := hu
      subst hu'
      have hgp : pieces.getD k [] = pieces[k]'(by rw [HF.out.2.2.2.1]; exact hlt) := by rw [List.getD_eq_getElem?_getD, List.getElem?_eq_getElem (by rw [HF.out.2.2.2.1]; exact hlt)]; rfl
      have hpk := HPM.out _ (List.getElem_mem (show k < pieces.length by rw [HF.out.2.2.2.1]; exact hlt))
      have hmm : bits .and .i64 ((m : Int) / 2 ^ k) 1 = ((Cd.bitAt m k : Nat) : Int) := by
        have hle : m / 2 ^ k ≤ m := Nat.div_le_self _ _
        have := odd64 (m / 2 ^ k) (by omega)
        rw [Cd.bitAt, ← this]
        simp
      obtain ⟨p, hp⟩ : ∃ p, pieces[k]'(by rw [HF.out.2.2.2.1]; exact hlt) = p := ⟨_, rfl⟩
      rw [hp] at hpc hgp hpk
      have HGP := Lib.hid hgp
      clear hgp hp hu
      by_cases hb : Cd.bitAt m k = 1
      · have HB := Lib.hid hb
        rw [hb] at hmm
        by_cases hps : p.length = sz
        · have e5 : ((p.length : Int) != (sz : Int)) = false := by rw [hps]; simp
          have HPS := Lib.hid hps
          clear hb hps
          go_wp2_with fail
          go_round
          case rel => exact ⟨k + 1, by omega, by go_num, fun j hj hbj => by
            by_cases hjk : j = k
            · rw [hjk, HGP.out, HPS.out]
            · exact HI.out j (by omega) hbj⟩
          case measure => simp [intOf]; omega
        · have e5 : ((p.length : Int) != (sz : Int)) = true := by rw [bne_iff_ne]; omega
          have hbl : Cd.badLen (Cd.sizeN ((d : Int)).toNat ((n : Int)).toNat) ((m : Int)).toNat pieces = true := by
            rw [Int.toNat_natCast, Int.toNat_natCast, Int.toNat_natCast, Cd.badLen_iff]
            exact ⟨k, by rw [HF.out.2.2.2.1]; exact hlt, hb, by rw [HGP.out, HF.out.2.2.2.2]; exact hps⟩
          have he := Cd.decE_len HF.out.1 HF.out.2.1 hbl
          have hs := Cd.decS_no (d := (d : Int)) (gl := (gl : Int)) (gs := gs) (n := (n : Int)) (m := (m : Int)) (pieces := pieces) (by rw [he]; decide)
          have HE := Lib.hid (And.intro hs he)
          clear hb hps hbl he hs
          go_wp2_with fail
          go_ret2
          exact ⟨by rw [HE.out.1, HE.out.2]; rfl, HX2.out⟩
      · have eb : (((Cd.bitAt m k : Nat) : Int) == 1) = false := by rw [beq_eq_false_iff_ne]; omega
        have HB := Lib.hid hb
        clear hb
        go_wp2_with fail
        go_round
        case rel => exact ⟨k + 1, by omega, by go_num, fun j hj hbj => by
          by_cases hjk : j = k
          · rw [hjk] at hbj; exact absurd hbj HB.out
          · exact HI.out j (by omega) hbj⟩
        case measure => simp [intOf]; omega
    · obtain rfl : k = L := by omega
      have hbl : Cd.badLen (Cd.sizeN ((d : Int)).toNat ((n : Int)).toNat) ((m : Int)).toNat pieces = false := by
        rw [Int.toNat_natCast, Int.toNat_natCast, Int.toNat_natCast, ← Bool.not_eq_true, Cd.badLen_iff]
        rintro ⟨j, h1, h2, h3⟩
        rw [HF.out.2.2.2.2] at h3
        exact h3 (HI.out j (by rw [← HF.out.2.2.2.1]; exact h1) h2)
      have hcol := cCollect_pieces d m (Cd.rowsOf (d : Int) gs (gl : Int)) pieces _ PA cp w2 HT2.out HV2.out (fun r hr => Cd.rowsOf_width HF.out.1 hr) hd1 hd16 (by rw [HF.out.2.2.1]; exact hL0) (by rw [HF.out.2.2.1]; exact hL24) (by rw [HF.out.2.2.1]; exact HML.out) HP2.out (by rw [HF.out.2.2.1]; exact HF.out.2.2.2.1) HPM.out
      rw [HF.out.2.2.1, HF.out.2.2.2.1] at hcol
      have HCOL := Lib.hid hcol
      have HBL := Lib.hid hbl
      clear hcol hbl
      go_wp2_with fail
      refine HCOL.out.mono ?_
      rintro e w3 ⟨P, rfl, hS⟩
      have hgood := Cd.col_good HF.out.1 m pieces
      have hcd := Cd.can_def (d := (d : Int)) (gl := (gl : Int)) (gs := gs) (m := m)
      rw [Int.toNat_natCast] at hgood hcd
      have HX3 := Lib.hid (HX2.out.trans hS.ext)
      by_cases hc : Cd.can (d : Int) (gl : Int) gs (m : Int) = true
      · have hlen : (Cd.col d (Cd.rowsOf (d : Int) gs (gl : Int)) m pieces).1.length = d := by rw [hgood.2]; exact (hcd.1 hc).2.2
        rw [if_pos hlen]
        have hst : Gf.Stairs d (Cd.col d (Cd.rowsOf (d : Int) gs (gl : Int)) m pieces).1 := hgood.1
        have htri := Cd.col_tri HF.out.1 hc pieces
        rw [Int.toNat_natCast] at htri
        have hcl : (Cd.col d (Cd.rowsOf (d : Int) gs (gl : Int)) m pieces).2.length = d := by
          have h1 : (Cd.col d (Cd.rowsOf (d : Int) gs (gl : Int)) m pieces).2.length = (Cd.col d (Cd.rowsOf (d : Int) gs (gl : Int)) m pieces).1.length := Cd.colTo_len _ _ _
          rw [h1, hlen]
        have hev : Cd.Even sz (Cd.col d (Cd.rowsOf (d : Int) gs (gl : Int)) m pieces).2 := Cd.colTo_even m pieces (fun j hj hbj => HI.out j (by rw [← HF.out.2.2.1]; exact hj) hbj) _ (Nat.le_refl _)
        have hsv := fun j hj => Cd.solved_even (L := sz) HF.out.1 hc (pieces := pieces) (fun j hj hbj => HI.out j (by rw [← HF.out.2.2.1]; exact hj) hbj) (i := j) hj
        have hsl := Cd.solved_len (d : Int) (gl : Int) gs m pieces
        rw [Int.toNat_natCast] at hsv hsl
        have hsd : Cd.solved (d : Int) (gl : Int) gs m pieces = Cd.sol (Cd.byOrd (Cd.col d (Cd.rowsOf (d : Int) gs (gl : Int)) m pieces).1 (Cd.ordTo (Cd.col d (Cd.rowsOf (d : Int) gs (gl : Int)) m pieces).1 d)) (Cd.byOrd (Cd.col d (Cd.rowsOf (d : Int) gs (gl : Int)) m pieces).2 (Cd.ordTo (Cd.col d (Cd.rowsOf (d : Int) gs (gl : Int)) m pieces).1 d)) d := by
          rw [Cd.solved, Int.toNat_natCast]
        have hsorted := cSorted_any w3 P d _ _ (HT2.out.ext hS.ext) (hS.toRd (fun r hr => by rw [hst.len r hr]; omega) (by rw [hlen]; omega)) hd16 hst hlen hcl (fun q hq => by rw [hev q hq]; omega) htri
        rw [← hsd] at hsorted
        have HSORT := Lib.hid hsorted
        have HCAN := Lib.hid hc
        have HSV := Lib.hid (And.intro hsv hsl)
        have HS3 := Lib.hid hS.ext
        clear hgood hcd hc hlen hst htri hcl hev hsv hsl hsd hsorted hS
        go_wp2_with fail
        refine HSORT.out.mono ?_
        rintro e w4 ⟨sv4, rfl, hv4, hx4⟩
        obtain ⟨SA, cS, rfl, _⟩ := hv4.form
        rw [HSV.out.2]
        have HV4 := Lib.hid hv4
        have HX4 := Lib.hid (HX3.out.trans hx4)
        have HS4 := Lib.hid (HS3.out.trans hx4)
        clear hv4 hx4
        go_wp2_with fail
        obtain ⟨Z, hZ⟩ : ∃ Z, Cd.solved (d : Int) (gl : Int) gs m pieces = Z := ⟨_, rfl⟩
        have hsv := HSV.out
        rw [hZ] at hsv
        have hv5 := HV4.out
        rw [hZ] at hv5
        have HZ := Lib.hid hZ
        have HSZ := Lib.hid hsv
        have HV5 := Lib.hid hv5
        clear hsv hv5 hZ
        obtain ⟨i0, hi, hz0, hz1, hz2⟩ := info_parts info_u8
        have hszd : d * sz ≤ 65536 := by
          have := Nat.mul_le_mul hd16 (show sz ≤ 4096 by omega)
          omega
        go_loopw [16, 86] (fun vf vx wr => ∃ (i : Nat) (v : Value), i ≤ d ∧ vx = .int .i64 i ∧ vf = v ∧ Hid (wr.ownsRow w4.heap.size 5 1 v (i * sz) (((Z.take i).flatten).map bv) ∧ Ext w4 wr)) (fun _ vx _ => d - (intOf vx).toNat)
        case atStart => exact ⟨0, _, Nat.zero_le _, rfl, rfl, by rw [Nat.zero_mul]; exact ⟨World.ownsRow_nil _ _ _ _, Ext.refl _⟩⟩
        case round =>
          obtain ⟨i, v, hi2, rfl, rfl, HJ⟩ := hrel
          by_cases hli : i < d
          · obtain ⟨zd, u, rfl, hzc, hu⟩ := HV5.out.at (i := i) (by rw [HSZ.out.2]; exact hli)
            have hu' : u = sv (Z[i]'(by rw [HSZ.out.2]; exact hli)) := hu
            subst hu'
            have hzl := HSZ.out.1 i hli
            have hgz : Z.getD i [] = Z[i]'(by rw [HSZ.out.2]; exact hli) := by rw [List.getD_eq_getElem?_getD, List.getElem?_eq_getElem (by rw [HSZ.out.2]; exact hli)]; rfl
            rw [hgz] at hzl
            have hfl : ((Z.take (i + 1)).flatten).map bv = ((Z.take i).flatten).map bv ++ Lib.strCells (sb (Z[i]'(by rw [HSZ.out.2]; exact hli))) := by
              rw [List.take_succ_eq_append_getElem (by rw [HSZ.out.2]; exact hli), List.flatten_append, List.map_append, strCells_sb]
              simp
            have hzc2 := HJ.out.2.cell hzc
            obtain ⟨z, hz⟩ : ∃ z, Z[i]'(by rw [HSZ.out.2]; exact hli) = z := ⟨_, rfl⟩
            rw [hz] at hzl hfl hzc2
            have hss : (sb z).size = sz := by rw [size_sb, hzl]
            have him : (i + 1) * sz ≤ d * sz := Nat.mul_le_mul_right sz hli
            rw [Nat.succ_mul] at him
            have HFL := Lib.hid (And.intro hfl hss)
            clear hfl hss hgz hz hzc hu hzl
            go_wp2_with (refine Lib.wpList_append_own_string _ rfl (.tmp 90) (.tmp 91) 48 9 rfl w4.heap.size 5 i0 Tryd.underlying48 Tryd.underlying9 hi hz0 hz1 hz2 _ (i * sz) _ rfl HJ.out.1 (sb z) rfl (by rw [HFL.out.2]; unfold maxLen; omega) (by rw [HFL.out.2]; omega) HJ.out.2.size ?_; intro v' w' ho hg _)
            go_roundw
            case rel => exact ⟨i + 1, v', by omega, by go_num, rfl, by have h9 := ho; rw [HFL.out.2] at h9; rw [HFL.out.1, Nat.succ_mul]; exact ⟨h9, HJ.out.2.grown hg (fun k hk => own_ge HJ.out.1 k hk)⟩⟩
            case measure => simp [intOf]; omega
          · obtain rfl : i = d := by omega
            have hfull : (Z.take i).flatten = Z.flatten := by rw [← HSZ.out.2, List.take_length]
            have hown := HJ.out.1
            rw [hfull] at hown
            obtain ⟨FA, cF, rfl⟩ := own_form hown
            have hge := Cd.size_ge (d := i) (by omega) n
            rw [HF.out.2.2.2.2] at hge
            obtain ⟨N, hN⟩ : ∃ N, i * sz = N := ⟨_, rfl⟩
            rw [hN] at hown hge hszd
            rw [hN]
            have hNc : N ≤ cF := by
              rcases hown.2 with ⟨h1, h2⟩ | ⟨g, cap, cur, h1, _, _, h2, _⟩
              · injection h1 with _ h3 h4
                omega
              · injection h1 with _ _ h4
                omega
            have HOW := Lib.hid hown
            have HFU := Lib.hid hfull
            have HX5 := Lib.hid (HX4.out.trans HJ.out.2)
            clear hown hfull hN
            have hc0 : wr.cell? ⟨w.heap.size, 0, none⟩ = some (.int .i64 i) := HJ.out.2.cell (HS4.out.cell (HX12.out.cell HC1.out.1))
            have hc1 : wr.cell? ⟨w.heap.size, 1, none⟩ = some (.slice A gs.length c) := HJ.out.2.cell (HS4.out.cell (HX12.out.cell HC1.out.2.1))
            have hc2 : wr.cell? ⟨w.heap.size, 2, none⟩ = some (.int .i64 gl) := HJ.out.2.cell (HS4.out.cell (HX12.out.cell HC1.out.2.2))
            go_wp2_with fail
            have q1 : (n : Int) ≤ (cF : Int) := by omega
            have q2 : n ≤ cF := by omega
            have htk : (Z.flatten).length = N := by have h := HOW.out.1; rw [List.length_map, Nat.mul_one] at h; exact h
            have hcv := fun (A : Option Addr) (hA : A = FA) => str_u8 (w := wr.drew) (A := A) (c := cF) (n := n) (l := Z.flatten.take n) (by rw [List.length_take, htk]; omega) (by
              subst hA
              have h1 := (own_rd HOW.out).ext (Ext.refl wr).drew
              intro k x hx
              rw [List.map_take] at hx
              exact h1 k x (by rw [List.getElem?_take] at hx; split at hx; exact hx; cases hx))
            have hcv2 := hcv FA rfl
            have HTK := Lib.hid htk
            have HGW := Lib.hid (Rs.ext (Rs.ext RI.ext) _ _ _ _ (HX12.out.trans (HS4.out.trans HJ.out.2)) HG1.out)
            have HTW := Lib.hid (HT2.out.ext (HS4.out.trans HJ.out.2))
            clear hcv htk
            go_region_law (go_simp; refine (cEncode_any (i : Int) (gl : Int) gs (Z.flatten.take n) _ _ (HTW.out.ext (Ext.refl wr).drew) (Rs.ext (Rs.ext RI.ext) _ _ _ _ (Ext.refl wr).drew HGW.out) (by rw [List.length_take]; omega)).mono ?_; rintro e w6 ⟨v6, rfl, hv6, hx6⟩; dsimp only; have HV6 := Lib.hid hv6; have HX6 := Lib.hid hx6; clear hv6 hx6)
            all_goals
              obtain ⟨EA, cE, rfl, _⟩ := HV6.out.form
              have hE : Cd.encL (i : Int) (gl : Int) gs (Z.flatten.take n) = Cd.encode (i : Int) (gl : Int) gs (Z.flatten.take n) := Cd.encL_ok HF.out.1 (by rw [List.length_take]; omega)
              have hEl : (Cd.encode (i : Int) (gl : Int) gs (Z.flatten.take n)).length = k := by rw [Cd.encode_len]; exact HF.out.2.2.1
              have hv6 := HV6.out
              rw [hE] at hv6 ⊢
              obtain ⟨E, hEE⟩ : ∃ E, Cd.encode (i : Int) (gl : Int) gs (Z.flatten.take n) = E := ⟨_, rfl⟩
              rw [hEE] at hv6 hEl ⊢
              rw [hEl] at hv6 ⊢
              have HE6 := Lib.hid (And.intro hv6 (And.intro hEl hEE))
              have HX26 := Lib.hid (HS4.out.trans (HJ.out.2.drew.trans HX6.out))
              have HP6 := Lib.hid (Rs.ext RS.ext _ _ _ _ HX26.out HP2.out)
              clear hE hEl hv6 hEE hc0 hc1 hc2 hcv2 HV6
              go_wp2_with fail
              go_loop [105] (fun vk => ∃ j : Nat, j ≤ k ∧ vk = .int .i64 j ∧ Hid (∀ x, x < j → Cd.bitAt m x = 1 → E.getD x [] = pieces.getD x [])) (fun vk => k - (intOf vk).toNat)
              case atStart => exact ⟨0, Nat.zero_le _, rfl, fun j hj => absurd hj (by omega)⟩
              case round =>
                obtain ⟨j, hj2, rfl, HY⟩ := hrel
                by_cases hltj : j < k
                · obtain ⟨pd, u, rfl, hpc, hu⟩ := HP6.out.at (i := j) (by rw [HF.out.2.2.2.1]; exact hltj)
                  have hu' : u = sv (pieces[j]'(by rw [HF.out.2.2.2.1]; exact hltj)) := hu
                  subst hu'
                  have hgp : pieces.getD j [] = pieces[j]'(by rw [HF.out.2.2.2.1]; exact hltj) := by rw [List.getD_eq_getElem?_getD, List.getElem?_eq_getElem (by rw [HF.out.2.2.2.1]; exact hltj)]; rfl
                  obtain ⟨ed, u2, rfl, hec, hu2⟩ := HE6.out.1.at (i := j) (by rw [HE6.out.2.1]; exact hltj)
                  have hu2' : u2 = sv (E[j]'(by rw [HE6.out.2.1]; exact hltj)) := hu2
                  subst hu2'
                  have hge2 : E.getD j [] = E[j]'(by rw [HE6.out.2.1]; exact hltj) := by rw [List.getD_eq_getElem?_getD, List.getElem?_eq_getElem (by rw [HE6.out.2.1]; exact hltj)]; rfl
                  have hmm : bits .and .i64 ((m : Int) / 2 ^ j) 1 = ((Cd.bitAt m j : Nat) : Int) := by
                    have hle : m / 2 ^ j ≤ m := Nat.div_le_self _ _
                    have := odd64 (m / 2 ^ j) (by omega)
                    rw [Cd.bitAt, ← this]
                    simp
                  obtain ⟨p, hp⟩ : ∃ p, pieces[j]'(by rw [HF.out.2.2.2.1]; exact hltj) = p := ⟨_, rfl⟩
                  obtain ⟨e, he⟩ : ∃ e, E[j]'(by rw [HE6.out.2.1]; exact hltj) = e := ⟨_, rfl⟩
                  rw [hp] at hpc hgp
                  rw [he] at hec hge2
                  have HGP := Lib.hid (And.intro hgp hge2)
                  clear hgp hp hu he hge2 hu2
                  by_cases hb : Cd.bitAt m j = 1
                  · have HB := Lib.hid hb
                    rw [hb] at hmm
                    by_cases hep : e = p
                    · have HEP := Lib.hid hep
                      have hs := sb_same hep
                      clear hb hep
                      go_wp2_with fail
                      go_round
                      case rel => exact ⟨j + 1, by omega, by go_num, fun x hx hbx => by
                        by_cases hxj : x = j
                        · rw [hxj, HGP.out.1, HGP.out.2, HEP.out]
                        · exact HY.out x (by omega) hbx⟩
                      case measure => simp [intOf]; omega
                    · have hs := sb_other hep
                      have hbo : Cd.badOne ((m : Int)).toNat (Cd.encode (i : Int) (gl : Int) gs (Cd.chunkOf (i : Int) (gl : Int) gs ((n : Int)).toNat ((m : Int)).toNat pieces)) pieces = true := by
                        rw [Int.toNat_natCast, Int.toNat_natCast, Cd.chunkOf, HZ.out, HE6.out.2.2, Cd.badOne_iff]
                        exact ⟨j, by rw [HF.out.2.2.2.1]; exact hltj, hb, by rw [HGP.out.1, HGP.out.2]; exact hep⟩
                      have he := Cd.decE_bad HF.out.1 HF.out.2.1 HBL.out HCAN.out hbo
                      have hs2 := Cd.decS_no (d := (i : Int)) (gl := (gl : Int)) (gs := gs) (n := (n : Int)) (m := (m : Int)) (pieces := pieces) (by rw [he]; decide)
                      have HE := Lib.hid (And.intro hs2 he)
                      clear hb hep hbo he hs2
                      go_wp2_with fail
                      go_ret2
                      exact ⟨by rw [HE.out.1, HE.out.2]; rfl, HX5.out.drew.trans HX6.out⟩
                  · have eb : (((Cd.bitAt m j : Nat) : Int) == 1) = false := by rw [beq_eq_false_iff_ne]; omega
                    have HB := Lib.hid hb
                    clear hb
                    go_wp2_with fail
                    go_round
                    case rel => exact ⟨j + 1, by omega, by go_num, fun x hx hbx => by
                      by_cases hxj : x = j
                      · rw [hxj] at hbx; exact absurd hbx HB.out
                      · exact HY.out x (by omega) hbx⟩
                    case measure => simp [intOf]; omega
                · obtain rfl : j = k := by omega
                  have hbo : Cd.badOne ((m : Int)).toNat (Cd.encode (i : Int) (gl : Int) gs (Cd.chunkOf (i : Int) (gl : Int) gs ((n : Int)).toNat ((m : Int)).toNat pieces)) pieces = false := by
                    rw [Int.toNat_natCast, Int.toNat_natCast, Cd.chunkOf, HZ.out, HE6.out.2.2, ← Bool.not_eq_true, Cd.badOne_iff]
                    rintro ⟨x, h1, h2, h3⟩
                    exact h3 (HY.out x (by rw [← HF.out.2.2.2.1]; exact h1) h2)
                  have he := Cd.decE_ok HF.out.1 HF.out.2.1 HBL.out HCAN.out hbo
                  have hs2 := Cd.decS_ok he
                  rw [Int.toNat_natCast, Int.toNat_natCast, Cd.chunkOf, HZ.out] at hs2
                  have HE := Lib.hid (And.intro hs2 he)
                  have hcv6 := str_u8 (w := w6) (A := FA) (c := cF) (n := n) (l := Z.flatten.take n) (by rw [List.length_take, HTK.out]; omega) (by
                    have h1 := (own_rd HOW.out).ext ((Ext.refl wr).drew.trans HX6.out)
                    intro k x hx
                    rw [List.map_take] at hx
                    exact h1 k x (by rw [List.getElem?_take] at hx; split at hx; exact hx; cases hx))
                  clear hbo he hs2
                  go_wp2_with fail
                  go_ret2
                  exact ⟨by rw [HE.out.1, HE.out.2]; rfl, HX5.out.drew.trans HX6.out⟩
      · have hlen : ¬ (Cd.col d (Cd.rowsOf (d : Int) gs (gl : Int)) m pieces).1.length = d := fun h => hc (hcd.2 ⟨HF.out.1, by rw [HF.out.2.2.1]; exact HML.out, by rw [← hgood.2]; exact h⟩)
        rw [if_neg hlen]
        have hc2 : Cd.can (d : Int) (gl : Int) gs (m : Int) = false := by simpa using hc
        have he := Cd.decE_lost HF.out.1 HF.out.2.1 HBL.out hc2
        have hs := Cd.decS_no (d := (d : Int)) (gl := (gl : Int)) (gs := gs) (n := (n : Int)) (m := (m : Int)) (pieces := pieces) (by rw [he]; decide)
        have HE := Lib.hid (And.intro hs he)
        clear hS hgood hcd hc hlen hc2 he hs
        go_wp2_with fail
        go_ret2
        exact ⟨by rw [HE.out.1, HE.out.2]; rfl, HX3.out⟩
end Go.Proofs.YtggfkpalkdkbdaaDoor

/- `Decode`, whatever is given. -/
namespace Go.Proofs.YtggfkpalkdkbdaaDoor
open Go.RowKit
/-- `Decode`, whatever is given. -/
theorem cDecode_any (d gl n m : Int) (gs : List (List Int)) (pieces : List (List UInt8)) (G : Value) (PA : Option Addr) (cp : Nat) (w : World) (hT : Tab w) (hG : Rs (Rs RI) w G gs)
    (hP : Rs RS w (.slice PA pieces.length cp) pieces) (hpm : ∀ p ∈ pieces, p.length ≤ 140737488351232) :
    Calls Tryd.prog 23 #[.agg #[.int .i64 d, G, .int .i64 gl], .int .i64 n, .int .i64 m, .slice PA pieces.length cp] w fun e w' => e = .returned (.tuple #[.string (sb (Cd.decS d gl gs n m pieces)), .int .i64 (Cd.decE d gl gs n m pieces)]) ∧ Ext w w' := by
  by_cases h0 : Cd.check d gs gl = 0
  · cases hb : Cd.badArgs d gl gs n m pieces with
    | true =>
      have he := Cd.decE_arg h0 hb
      rw [Cd.decS_no (by rw [he]; decide), he]
      exact cDecode_arg d gl n m gs pieces G PA cp w hT hG h0 hb
    | false =>
      have hk := Cd.check_ok h0
      have hb2 := hb
      unfold Cd.badArgs at hb2
      rw [decide_eq_false_iff_not] at hb2
      obtain ⟨d', rfl⟩ : ∃ k : Nat, d = k := ⟨d.toNat, by omega⟩
      obtain ⟨gl', rfl⟩ : ∃ k : Nat, gl = k := ⟨gl.toNat, by omega⟩
      obtain ⟨n', rfl⟩ : ∃ k : Nat, n = k := ⟨n.toNat, by omega⟩
      obtain ⟨m', rfl⟩ : ∃ k : Nat, m = k := ⟨m.toNat, by omega⟩
      exact cDecode_in d' gl' n' m' gs pieces G PA cp w hT hG h0 hb hP hpm
  · have he := Cd.decE_no (n := n) (m := m) (pieces := pieces) h0
    rw [Cd.decS_no (by rw [he]; exact h0), he]
    exact cDecode_no d gl n m gs pieces G PA cp w hT hG h0
end Go.Proofs.YtggfkpalkdkbdaaDoor

/- THE WALK over Locate (package locate). -/
namespace Lo
open Gf Cd
/-- What Locate returns. -/
def locR (d gl : Int) (gs : List (List Int)) (n m : Int) (pieces : List (List UInt8)) (wrong : Int) : List UInt8 × Int × Int :=
  if givE d gl gs n m pieces ≠ 0 then ([], 0, givE d gl gs n m pieces)
  else if corE d gl gs m wrong ≠ 0 then ([], 0, corE d gl gs m wrong)
  else if corB d gl gs m wrong = false then ([], 0, 4)
  else match locP (decO d gl gs n.toNat pieces) m.toNat (rowsOf d gs gl).length wrong.toNat with
    | some (s, t) => (s, ((t : Nat) : Int), 0)
    | none => ([], 0, 17)
section
variable {d gl n m wrong : Int} {gs : List (List Int)} {pieces : List (List UInt8)}
theorem locR_bad (h : givE d gl gs n m pieces ≠ 0) : locR d gl gs n m pieces wrong = ([], 0, givE d gl gs n m pieces) := if_pos h
theorem locR_cor (h : givE d gl gs n m pieces = 0) (h2 : corE d gl gs m wrong ≠ 0) : locR d gl gs n m pieces wrong = ([], 0, corE d gl gs m wrong) := by unfold locR; rw [if_neg (by rw [h]; simp), if_pos h2]
theorem locR_state (h : givE d gl gs n m pieces = 0) (h2 : corE d gl gs m wrong = 0) (h3 : corB d gl gs m wrong = false) : locR d gl gs n m pieces wrong = ([], 0, 4) := by unfold locR; rw [if_neg (by rw [h]; simp), if_neg (by rw [h2]; simp), if_pos h3]
theorem locR_some (h : givE d gl gs n m pieces = 0) (h2 : corE d gl gs m wrong = 0) (h3 : corB d gl gs m wrong = true) {s : List UInt8} {t : Nat} (h4 : locP (decO d gl gs n.toNat pieces) m.toNat (rowsOf d gs gl).length wrong.toNat = some (s, t)) : locR d gl gs n m pieces wrong = (s, ((t : Nat) : Int), 0) := by
  unfold locR; rw [if_neg (by rw [h]; simp), if_neg (by rw [h2]; simp), if_neg (by rw [h3]; simp), h4]
theorem locR_none (h : givE d gl gs n m pieces = 0) (h2 : corE d gl gs m wrong = 0) (h3 : corB d gl gs m wrong = true) (h4 : locP (decO d gl gs n.toNat pieces) m.toNat (rowsOf d gs gl).length wrong.toNat = none) : locR d gl gs n m pieces wrong = ([], 0, 17) := by
  unfold locR; rw [if_neg (by rw [h]; simp), if_neg (by rw [h2]; simp), if_neg (by rw [h3]; simp), h4]
theorem locP_miss {α : Type} {dec : Nat → Option α} {m N w : Nat} (h : ∀ z ∈ parts m N w, dec (m - z) = none) : locP dec m N w = none := by
  unfold locP
  rw [List.findSome?_eq_none_iff]
  intro z hz
  rw [h z hz]; rfl
theorem locP_hit {α : Type} {dec : Nat → Option α} {m N w : Nat} {pre : List Nat} {t : Nat} {s : α} (hp : pre ++ [t] <+: parts m N w) (h : ∀ z ∈ pre, dec (m - z) = none) (h2 : dec (m - t) = some s) : locP dec m N w = some (s, t) := by
  unfold locP
  obtain ⟨r, hr⟩ := hp
  rw [← hr, List.findSome?_append, List.findSome?_append]
  have h1 : pre.findSome? (fun t => (dec (m - t)).map fun s => (s, t)) = none := by
    rw [List.findSome?_eq_none_iff]
    intro z hz
    rw [h z hz]; rfl
  rw [h1]
  simp [h2]
/-- A number of errors that Corrects lets by. -/
theorem cor_fine (h : corE d gl gs m wrong = 0) : ∃ k : Nat, wrong = k ∧ k ≤ 2 := by
  by_cases h1 : chkE d gl gs m = 0
  · by_cases h2 : wrong < 0 ∨ 2 < wrong
    · have := (cor_range h1 h2).2; omega
    · exact ⟨wrong.toNat, by omega, by omega⟩
  · have := (cor_bad (wrong := wrong) h1).2; omega
end
end Lo
namespace Go.Proofs.YtggfkpalkdkbdaaDoor
open Go.RowKit Go.Shelf
attribute [local go_sem] Oper.semAt_some
theorem results_cells3L {P : Program} {fn : Func} {a b c : Tmp} {t1 t2 t3 : TypeId} (h : fn.results = #[.cell a t1, .cell b t2, .cell c t3]) {tmps : Array Value} {p1 p2 p3 : Addr} {v1 v2 v3 : Value} {w : World} (ha : tmps.getD a undef = .pointer (some p1)) (hb : tmps.getD b undef = .pointer (some p2)) (hc : tmps.getD c undef = .pointer (some p3))
    (h1 : (loadVar t1 p1).run P w = .ok v1 w) (h2 : (loadVar t2 p2).run P w = .ok v2 w) (h3 : (loadVar t3 p3).run P w = .ok v3 w) : (results fn tmps).run P w = .ok (.tuple #[v1, v2, v3]) w := by
  rw [Array.getD_eq_getD_getElem?] at ha hb hc
  simp [results, h, asAddr, ha, hb, hc, h1, h2, h3]
set_option maxHeartbeats 16000000 in
set_option maxRecDepth 100000 in
theorem lLocate_any (d gl n m wrong : Int) (gs : List (List Int)) (pieces : List (List UInt8)) (G : Value) (PA : Option Addr) (cp : Nat) (w : World) (hT : Tab w) (hG : Rs (Rs RI) w G gs) (hP : Rs RS w (.slice PA pieces.length cp) pieces) (hpm : ∀ p ∈ pieces, p.length ≤ 140737488351232) (hN : Cd.check d gs gl = 0 → (Cd.rowsOf d gs gl).length ≤ 14) :
    Calls Tryd.prog 15 #[.agg #[.int .i64 d, G, .int .i64 gl], .int .i64 n, .int .i64 m, .slice PA pieces.length cp, .int .i64 wrong] w fun e w' => e = .returned (.tuple #[.string (sb (Lo.locR d gl gs n m pieces wrong).1), .int .i64 (Lo.locR d gl gs n m pieces wrong).2.1, .int .i64 (Lo.locR d gl gs n m pieces wrong).2.2]) ∧ Ext w w' := by
  obtain ⟨GA, Gc, rfl, _⟩ := hG.form
  obtain ⟨ng, hng⟩ : ∃ ng, gs.length = ng := ⟨_, rfl⟩
  rw [hng] at hG ⊢
  obtain ⟨pl, hpl⟩ : ∃ pl, pieces.length = pl := ⟨_, rfl⟩
  rw [hpl] at hP ⊢
  have hB : Owns w ((((((w.alloc (.cells #[.int .i64 d, .slice GA ng Gc, .int .i64 gl] 24)).alloc (.cells #[.int .i64 n] 3)).alloc (.cells #[.slice PA pl cp] 34)).alloc (.cells #[.string ⟨#[]⟩] 9)).alloc (.cells #[.int .i64 0] 3)).alloc (.cells #[.int .i64 0] 27)) [⟨.slice (some ⟨w.heap.size, 0, none⟩) 3 3, 24, 1, 3, [.int .i64 d, .slice GA ng Gc, .int .i64 gl]⟩, ⟨.slice (some ⟨(w.alloc (.cells #[.int .i64 d, .slice GA ng Gc, .int .i64 gl] 24)).heap.size, 0, none⟩) 1 1, 3, 1, 1, [.int .i64 n]⟩, ⟨.slice (some ⟨((w.alloc (.cells #[.int .i64 d, .slice GA ng Gc, .int .i64 gl] 24)).alloc (.cells #[.int .i64 n] 3)).heap.size, 0, none⟩) 1 1, 34, 1, 1, [.slice PA pl cp]⟩, ⟨.slice (some ⟨(((w.alloc (.cells #[.int .i64 d, .slice GA ng Gc, .int .i64 gl] 24)).alloc (.cells #[.int .i64 n] 3)).alloc (.cells #[.slice PA pl cp] 34)).heap.size, 0, none⟩) 1 1, 9, 1, 1, [.string ⟨#[]⟩]⟩, ⟨.slice (some ⟨((((w.alloc (.cells #[.int .i64 d, .slice GA ng Gc, .int .i64 gl] 24)).alloc (.cells #[.int .i64 n] 3)).alloc (.cells #[.slice PA pl cp] 34)).alloc (.cells #[.string ⟨#[]⟩] 9)).heap.size, 0, none⟩) 1 1, 3, 1, 1, [.int .i64 0]⟩, ⟨.slice (some ⟨(((((w.alloc (.cells #[.int .i64 d, .slice GA ng Gc, .int .i64 gl] 24)).alloc (.cells #[.int .i64 n] 3)).alloc (.cells #[.slice PA pl cp] 34)).alloc (.cells #[.string ⟨#[]⟩] 9)).alloc (.cells #[.int .i64 0] 3)).heap.size, 0, none⟩) 1 1, 27, 1, 1, [.int .i64 0]⟩] := (((((((Owns.start w (L := [no, no, no, no, no, no]) (by intro r hr; simp at hr; subst hr; exact ⟨rfl, rfl, rfl⟩)).new 0 #[.int .i64 d, .slice GA ng Gc, .int .i64 gl] 24 (by simp [maxLen])).new 1 #[.int .i64 n] 3 (by simp [maxLen])).new 2 #[.slice PA pl cp] 34 (by simp [maxLen])).new 3 #[.string ⟨#[]⟩] 9 (by simp [maxLen])).new 4 #[.int .i64 0] 3 (by simp [maxLen])).new 5 #[.int .i64 0] 27 (by simp [maxLen]))
  simp only [World.size_alloc] at hB
  have hgv := lGiven_any d gl n m gs pieces _ PA cp _ (Rs.ext (Rs.ext RI.ext) _ _ _ _ hB.ext hG) (by rw [hpl]; exact Rs.ext RS.ext _ _ _ _ hB.ext hP)
  rw [hpl] at hgv
  have HGV := Lib.hid hgv
  have HG := Lib.hid hG
  have HP := Lib.hid (And.intro hP (And.intro hpl hpm))
  have HT := Lib.hid hT
  have HB := Lib.hid hB
  have HN := Lib.hid hN
  clear hG hP hT hB hN hng hpl hgv hpm
  refine (callsIn_wide (n := 40)).1 ?_
  refine callsIn_of_wp_marks Tryd.func15 rfl trivial ?_ rfl
  simp only [Tryd.ntmps15, List.size_toArray, List.length_cons, List.length_nil, Nat.reduceAdd, Nat.reduceSub, Array.replicate_succ, Array.replicate_zero, List.push_toArray, List.append_toArray, List.nil_append, List.cons_append]
  gi_wp2_with fail
  refine ⟨trivial, (callsIn_wide.2 HGV.out).mono ?_⟩
  clear HGV
  rintro e w2 ⟨rfl, hx2⟩
  obtain ⟨C, hC⟩ : ∃ C, w.heap.size = C := ⟨_, rfl⟩
  obtain ⟨NB, hNB⟩ : ∃ B, C + 1 = B := ⟨_, rfl⟩
  obtain ⟨PB, hPB⟩ : ∃ B, NB + 1 = B := ⟨_, rfl⟩
  obtain ⟨SR, hSR⟩ : ∃ B, PB + 1 = B := ⟨_, rfl⟩
  obtain ⟨BR, hBR⟩ : ∃ B, SR + 1 = B := ⟨_, rfl⟩
  obtain ⟨ER, hER⟩ : ∃ B, BR + 1 = B := ⟨_, rfl⟩
  rw [hC, hNB, hPB, hSR, hBR, hER] at HB
  rw [hC, hNB, hPB, hSR, hBR, hER]
  have HSZ := Lib.hid (And.intro hC (And.intro hNB (And.intro hPB (And.intro hSR (And.intro hBR hER)))))
  have hHBS := HB.out.ext.size
  have HB2 := Lib.hid (HB.out.next hx2)
  have hw1 := Nat.lt_of_lt_of_le ((HB.out.row 5 rfl).lt ER rfl).2 hx2.size
  have HER2 := Lib.hid hw1
  clear hx2 HB hC hNB hPB hSR hBR hER hHBS hw1
  obtain ⟨er, her⟩ : ∃ er, Lo.givE d gl gs n m pieces = er := ⟨_, rfl⟩
  rw [her]
  have HGE := Lib.hid her
  clear her
  by_cases h0 : er = 0
  case neg =>
    have hne : (er == 0) = false := by rw [beq_eq_false_iff_ne]; exact h0
    have hne2 : (er != 0) = true := by rw [bne_iff_ne]; exact h0
    have HR : Hid (Lo.locR d gl gs n m pieces wrong = ([], 0, er)) := Lib.hid (by rw [Lo.locR_bad (by rw [HGE.out]; exact h0), HGE.out])
    clear h0
    have hS := (((HB2.out.store 3 rfl 0 (.string ⟨#[]⟩)).store 4 rfl 0 (.int .i64 0)).store 5 rfl 0 (.int .i64 er))
    have b30 : w2.cell? ⟨SR, 0, none⟩ = some (.string ⟨#[]⟩) := HB2.out.cell 3 rfl 0 rfl
    have b40 : w2.cell? ⟨BR, 0, none⟩ = some (.int .i64 0) := HB2.out.cell 4 rfl 0 rfl
    have b50 : w2.cell? ⟨ER, 0, none⟩ = some (.int .i64 0) := HB2.out.cell 5 rfl 0 rfl
    have f3 : w2.frozen? ⟨SR, 0, none⟩ = false := HB2.out.frozen 3 rfl 0
    have f4 : w2.frozen? ⟨BR, 0, none⟩ = false := HB2.out.frozen 4 rfl 0
    have f5 : w2.frozen? ⟨ER, 0, none⟩ = false := HB2.out.frozen 5 rfl 0
    have nSRBR : SR ≠ BR := by have := HSZ.out; omega
    have nSRER : SR ≠ ER := by have := HSZ.out; omega
    have nBRSR : BR ≠ SR := by have := HSZ.out; omega
    have nBRER : BR ≠ ER := by have := HSZ.out; omega
    have nERSR : ER ≠ SR := by have := HSZ.out; omega
    have nERBR : ER ≠ BR := by have := HSZ.out; omega
    have HS := Lib.hid hS
    clear hS
    gi_wp2_with fail
    try rw [Exit.noGoto_ret]
    have r3 := HS.out.cell 3 rfl 0 rfl
    have r4 := HS.out.cell 4 rfl 0 rfl
    have r5 := HS.out.cell 5 rfl 0 rfl
    refine ⟨_, results_cells3L (v1 := .string ⟨#[]⟩) (v2 := .int .i64 0) (v3 := .int .i64 er) rfl rfl rfl rfl ?_ ?_ ?_, ?_⟩
    · go_simp
    · go_simp
    · go_simp
    exact ⟨by rw [HR.out]; rfl, HS.out.ext⟩
  case pos =>
    subst h0
    have HCR := Lib.hid (lCorrects_any d gl gs m wrong _ w2 (HT.out.ext HB2.out.ext) (Rs.ext (Rs.ext RI.ext) _ _ _ _ HB2.out.ext HG.out) HN.out)
    have b00 : w2.cell? ⟨C, 0, none⟩ = some (.int .i64 d) := HB2.out.cell 0 rfl 0 rfl
    have b01 : w2.cell? ⟨C, 1, none⟩ = some (.slice GA ng Gc) := HB2.out.cell 0 rfl 1 rfl
    have b02 : w2.cell? ⟨C, 2, none⟩ = some (.int .i64 gl) := HB2.out.cell 0 rfl 2 rfl
    gi_wp2_with fail
    refine ⟨trivial, (callsIn_wide.2 HCR.out).mono ?_⟩
    clear HCR
    rintro e w3 ⟨rfl, hx3⟩
    have HER3 := Lib.hid (Nat.lt_of_lt_of_le HER2.out hx3.size)
    replace HB2 := Lib.hid (HB2.out.next hx3)
    clear b00 b01 b02 hx3
    obtain ⟨ce, hce⟩ : ∃ ce, Lo.corE d gl gs m wrong = ce := ⟨_, rfl⟩
    obtain ⟨cb, hcb⟩ : ∃ cb, Lo.corB d gl gs m wrong = cb := ⟨_, rfl⟩
    rw [hce, hcb]
    have HCE := Lib.hid (And.intro hce hcb)
    clear hce hcb
    by_cases h1 : ce = 0
    case neg =>
      have hne : (ce == 0) = false := by rw [beq_eq_false_iff_ne]; exact h1
      have hne2 : (ce != 0) = true := by rw [bne_iff_ne]; exact h1
      have HR : Hid (Lo.locR d gl gs n m pieces wrong = ([], 0, ce)) := Lib.hid (by rw [Lo.locR_cor HGE.out (by rw [HCE.out.1]; exact h1), HCE.out.1])
      clear h1
      have hS := (((HB2.out.store 3 rfl 0 (.string ⟨#[]⟩)).store 4 rfl 0 (.int .i64 0)).store 5 rfl 0 (.int .i64 ce))
      have b30 : w3.cell? ⟨SR, 0, none⟩ = some (.string ⟨#[]⟩) := HB2.out.cell 3 rfl 0 rfl
      have b40 : w3.cell? ⟨BR, 0, none⟩ = some (.int .i64 0) := HB2.out.cell 4 rfl 0 rfl
      have b50 : w3.cell? ⟨ER, 0, none⟩ = some (.int .i64 0) := HB2.out.cell 5 rfl 0 rfl
      have f3 : w3.frozen? ⟨SR, 0, none⟩ = false := HB2.out.frozen 3 rfl 0
      have f4 : w3.frozen? ⟨BR, 0, none⟩ = false := HB2.out.frozen 4 rfl 0
      have f5 : w3.frozen? ⟨ER, 0, none⟩ = false := HB2.out.frozen 5 rfl 0
      have nSRBR : SR ≠ BR := by have := HSZ.out; omega
      have nSRER : SR ≠ ER := by have := HSZ.out; omega
      have nBRSR : BR ≠ SR := by have := HSZ.out; omega
      have nBRER : BR ≠ ER := by have := HSZ.out; omega
      have nERSR : ER ≠ SR := by have := HSZ.out; omega
      have nERBR : ER ≠ BR := by have := HSZ.out; omega
      have HS := Lib.hid hS
      clear hS
      gi_wp2_with fail
      try rw [Exit.noGoto_ret]
      have r3 := HS.out.cell 3 rfl 0 rfl
      have r4 := HS.out.cell 4 rfl 0 rfl
      have r5 := HS.out.cell 5 rfl 0 rfl
      refine ⟨_, results_cells3L (v1 := .string ⟨#[]⟩) (v2 := .int .i64 0) (v3 := .int .i64 ce) rfl rfl rfl rfl ?_ ?_ ?_, ?_⟩
      · go_simp
      · go_simp
      · go_simp
      exact ⟨by rw [HR.out]; rfl, HS.out.ext⟩
    case pos =>
      subst h1
      cases cb with
      | false =>
        have HR : Hid (Lo.locR d gl gs n m pieces wrong = ([], 0, 4)) := Lib.hid (Lo.locR_state HGE.out HCE.out.1 HCE.out.2)
        have hS := (((HB2.out.store 3 rfl 0 (.string ⟨#[]⟩)).store 4 rfl 0 (.int .i64 0)).store 5 rfl 0 (.int .i64 4))
        have b30 : w3.cell? ⟨SR, 0, none⟩ = some (.string ⟨#[]⟩) := HB2.out.cell 3 rfl 0 rfl
        have b40 : w3.cell? ⟨BR, 0, none⟩ = some (.int .i64 0) := HB2.out.cell 4 rfl 0 rfl
        have b50 : w3.cell? ⟨ER, 0, none⟩ = some (.int .i64 0) := HB2.out.cell 5 rfl 0 rfl
        have f3 : w3.frozen? ⟨SR, 0, none⟩ = false := HB2.out.frozen 3 rfl 0
        have f4 : w3.frozen? ⟨BR, 0, none⟩ = false := HB2.out.frozen 4 rfl 0
        have f5 : w3.frozen? ⟨ER, 0, none⟩ = false := HB2.out.frozen 5 rfl 0
        have nSRBR : SR ≠ BR := by have := HSZ.out; omega
        have nSRER : SR ≠ ER := by have := HSZ.out; omega
        have nBRSR : BR ≠ SR := by have := HSZ.out; omega
        have nBRER : BR ≠ ER := by have := HSZ.out; omega
        have nERSR : ER ≠ SR := by have := HSZ.out; omega
        have nERBR : ER ≠ BR := by have := HSZ.out; omega
        have HS := Lib.hid hS
        clear hS
        gi_wp2_with fail
        try rw [Exit.noGoto_ret]
        have r3 := HS.out.cell 3 rfl 0 rfl
        have r4 := HS.out.cell 4 rfl 0 rfl
        have r5 := HS.out.cell 5 rfl 0 rfl
        refine ⟨_, results_cells3L (v1 := .string ⟨#[]⟩) (v2 := .int .i64 0) (v3 := .int .i64 4) rfl rfl rfl rfl ?_ ?_ ?_, ?_⟩
        · go_simp
        · go_simp
        · go_simp
        exact ⟨by rw [HR.out]; rfl, HS.out.ext⟩
      | true =>
        obtain ⟨K, rfl, hK2⟩ := Lo.cor_fine HCE.out.1
        obtain ⟨N, M, rfl, rfl, hwl⟩ := Lo.well HGE.out
        have hck := Cd.check_ok hwl.chk
        have hR14 := HN.out hwl.chk
        obtain ⟨rn, hrn⟩ : ∃ rn, (Cd.rowsOf d gs gl).length = rn := ⟨_, rfl⟩
        have hMrn := hwl.set
        rw [hrn] at hR14 hMrn
        have HW := Lib.hid (And.intro hwl (And.intro hck (And.intro hrn (And.intro hMrn hR14))))
        clear hwl hck hR14 hrn hMrn
        gi_wp2_with fail
        refine ⟨trivial, (callsIn_wide.2 (without_any (M : Int) (K : Int) w3)).mono ?_⟩
        rintro e w8 ⟨rfl, rfl⟩
        gi_wp2_with fail
        obtain ⟨W2, hW2⟩ : ∃ W2, (w3.alloc (.cells #[.int .i64 (M : Nat)] 3)).alloc (.cells #[.int .i64 (K : Nat)] 3) = W2 := ⟨_, rfl⟩
        have hx2 : Ext w3 W2 := by subst hW2; exact ((Ext.refl w3).alloc _).alloc _
        have hs2 : W2.heap.size = w3.heap.size + 2 := by subst hW2; simp
        have q1 : W2.cell? ⟨w3.heap.size, 0, none⟩ = some (.int .i64 (M : Nat)) := by subst hW2; go_simp
        have q2 : W2.cell? ⟨w3.heap.size + 1, 0, none⟩ = some (.int .i64 (K : Nat)) := by subst hW2; go_simp
        rw [hW2]
        have HX2 := Lib.hid hx2
        have hseq := without1_seq 39 w3.heap.size (w3.heap.size + 1) M rn K W2 HW.out.2.2.2.1 HW.out.2.2.2.2 q1 q2
        have hwz := HB2.out.ext.size
        have hsr : SR < w3.heap.size ∧ BR < w3.heap.size ∧ ER < w3.heap.size := by have := HSZ.out; have := HER3.out; omega
        clear hW2 hx2 q1 q2
        refine wpIn_rangeV rfl (by decide) (gf := 55) (lb := #[.pointer (some ⟨w3.heap.size, 0, none⟩), .pointer (some ⟨w3.heap.size + 1, 0, none⟩)]) rfl trivial (enters_of Tryd.func55 (by kernel_rfl) rfl) hseq K2.trans (fun W l o o' hl ho hc => ⟨by simp [World.putObj], fun a v e => cell_kept e (grownBy_putObj' W l o') (fun r er => by cases er; exact ⟨_, ho, hc⟩)⟩) (fun x W l o o' hl hv ho hc => hv) (fun _ => rfl)
          (fun pre W => (∀ x ∈ pre, Lo.decO d gl gs N pieces x.1 = none) ∧ Below W2.heap.size W2 W)
          (fun c pre W => ∃ (y : Nat × Nat) (s : List UInt8), (c = .ret ∧ (∃ pre', pre = pre' ++ [y] ∧ ∀ x ∈ pre', Lo.decO d gl gs N pieces x.1 = none) ∧ Lo.decO d gl gs N pieces y.1 = some s) ∧ W.cell? ⟨SR, 0, none⟩ = some (.string (sb s)) ∧ W.cell? ⟨BR, 0, none⟩ = some (.int .i64 (y.2 : Nat)) ∧ W.cell? ⟨ER, 0, none⟩ = some (.int .i64 0) ∧ Below w.heap.size w W)
          (fun _ _ _ => trivial)
          (OwnFrom.and (ownFrom_pure _ _) (ownFrom_below (Nat.le_refl _) (Nat.le_refl _)))
          (fun c s W W' row hs hg hr => by
            obtain ⟨y, s1, h1, h2, h3, h4, h5⟩ := hs
            exact ⟨y, s1, h1, cell_kept h2 hg (fun r e => (hr r e).2), cell_kept h3 hg (fun r e => (hr r e).2), cell_kept h4 hg (fun r e => (hr r e).2), h5.grown hg h5.size (fun k e => Nat.le_trans (by omega) (hr k e).1)⟩)
          ⟨by simp, Below.refl _ _⟩
          (fun x => { tmps := #[.agg #[.int .i64 d, .slice GA ng Gc, .int .i64 gl], .int .i64 (N : Nat), .int .i64 (M : Nat), .slice PA pl cp, .int .i64 (K : Nat), .pointer (some ⟨C, 0, none⟩), .pointer (some ⟨NB, 0, none⟩), undef, .pointer (some ⟨PB, 0, none⟩), undef, .pointer (some ⟨SR, 0, none⟩), .pointer (some ⟨BR, 0, none⟩), .pointer (some ⟨ER, 0, none⟩), .int .i64 0, .bool true, .int .i64 0, .int .i64 (x.1 : Nat), .int .i64 (x.2 : Nat), undef, undef, .agg #[.int .i64 d, .slice GA ng Gc, .int .i64 gl], .int .i64 (N : Nat), .int .i64 (M : Nat), .slice PA pl cp, .int .i64 0, .int .i64 0, .bool false, undef, .tuple #[.bool true, .int .i64 0], .agg #[.int .i64 d, .slice GA ng Gc, .int .i64 gl], .int .i64 (M : Nat), .int .i64 (K : Nat), .tuple #[.bool true, .int .i64 0], .bool true, .int .i64 0, .int .i64 0, .bool false, .bool false, .bool true, .bool false, .bool false, undef, undef, undef, .int .i64 (M : Nat), .int .i64 (K : Nat), .func (.func 55) #[] #[.pointer (some ⟨w3.heap.size, 0, none⟩), .pointer (some ⟨w3.heap.size + 1, 0, none⟩)], .int .i64 (x.1 : Nat), .int .i64 (x.2 : Nat), undef, undef, undef, undef, undef, undef, undef, undef, undef, undef, undef, undef], defers := [] }) ?assign ?body ?done ?stop
        case assign =>
          intro l x W K hK
          unfold encP
          gi_wp2
          exact hK
        case body =>
          rintro l pre ⟨x1, tt⟩ W ⟨hpre, hB⟩ hV _
          have hX : Ext w3 W := HX2.out.trans hB
          have hOW := HB2.out.next hX
          have hdc := cDecode_any d gl (N : Int) (x1 : Int) gs pieces _ PA cp W (HT.out.ext hOW.ext) (Rs.ext (Rs.ext RI.ext) _ _ _ _ hOW.ext HG.out) (Rs.ext RS.ext _ _ _ _ hOW.ext (by rw [HP.out.2.1]; exact HP.out.1)) HP.out.2.2
          rw [HP.out.2.1] at hdc
          have HDC := Lib.hid hdc
          have b00 : W.cell? ⟨C, 0, none⟩ = some (.int .i64 d) := hOW.cell 0 rfl 0 rfl
          have b01 : W.cell? ⟨C, 1, none⟩ = some (.slice GA ng Gc) := hOW.cell 0 rfl 1 rfl
          have b02 : W.cell? ⟨C, 2, none⟩ = some (.int .i64 gl) := hOW.cell 0 rfl 2 rfl
          have b10 : W.cell? ⟨NB, 0, none⟩ = some (.int .i64 N) := hOW.cell 1 rfl 0 rfl
          have b20 : W.cell? ⟨PB, 0, none⟩ = some (.slice PA pl cp) := hOW.cell 2 rfl 0 rfl
          have HI := Lib.hid (And.intro hpre (And.intro hB hOW))
          clear hpre hB hV hX hOW hdc
          gi_wp2_with fail
          refine ⟨trivial, (CallsIn.inRound l (callsIn_wide.2 HDC.out)).mono ?_⟩
          rintro e w9 ⟨rfl, hx9⟩
          have HX9 := Lib.hid hx9
          obtain ⟨de, hde⟩ : ∃ de, Cd.decE d gl gs (N : Int) (x1 : Int) pieces = de := ⟨_, rfl⟩
          obtain ⟨ds, hds⟩ : ∃ ds, Cd.decS d gl gs (N : Int) (x1 : Int) pieces = ds := ⟨_, rfl⟩
          rw [hde, hds]
          have HD := Lib.hid (And.intro hde hds)
          clear b00 b01 b02 b10 b20 hde hds HDC
          by_cases hd0 : de = 0
          · have hdo : Lo.decO d gl gs N pieces x1 = some ds := by unfold Lo.decO; rw [HD.out.1, HD.out.2, if_pos hd0]
            subst hd0
            have hO9 := HI.out.2.2.next hx9
            have hS := (((hO9.store 3 rfl 0 (.string (sb ds))).store 4 rfl 0 (.int .i64 (tt : Nat))).store 5 rfl 0 (.int .i64 0))
            have HS := Lib.hid (And.intro hS hdo)
            have hz : ((0 : Int) == 0) = true := rfl
            have b30 : w9.cell? ⟨SR, 0, none⟩ = some (.string ⟨#[]⟩) := hO9.cell 3 rfl 0 rfl
            have b40 : w9.cell? ⟨BR, 0, none⟩ = some (.int .i64 0) := hO9.cell 4 rfl 0 rfl
            have b50 : w9.cell? ⟨ER, 0, none⟩ = some (.int .i64 0) := hO9.cell 5 rfl 0 rfl
            have f3 : w9.frozen? ⟨SR, 0, none⟩ = false := hO9.frozen 3 rfl 0
            have f4 : w9.frozen? ⟨BR, 0, none⟩ = false := hO9.frozen 4 rfl 0
            have f5 : w9.frozen? ⟨ER, 0, none⟩ = false := hO9.frozen 5 rfl 0
            have nSRBR : SR ≠ BR := by have := HSZ.out; omega
            have nSRER : SR ≠ ER := by have := HSZ.out; omega
            have nBRSR : BR ≠ SR := by have := HSZ.out; omega
            have nBRER : BR ≠ ER := by have := HSZ.out; omega
            have nERSR : ER ≠ SR := by have := HSZ.out; omega
            have nERBR : ER ≠ BR := by have := HSZ.out; omega
            clear hx9 hO9 hS hdo
            gi_wp2_with fail
            exact ⟨HX9.out.keepsOthers.trans (((KeepsOthers.setCell _ _ _).trans (KeepsOthers.setCell _ _ _)).trans (KeepsOthers.setCell _ _ _)), (x1, tt), ds, ⟨rfl, ⟨pre, rfl, HI.out.1⟩, HS.out.2⟩, HS.out.1.cell 3 rfl 0 rfl, HS.out.1.cell 4 rfl 0 rfl, HS.out.1.cell 5 rfl 0 rfl, HS.out.1.ext⟩
          · have hdo : Lo.decO d gl gs N pieces x1 = none := by unfold Lo.decO; rw [HD.out.1, if_neg hd0]
            have HN0 := Lib.hid hdo
            have hz : (de == 0) = false := by rw [beq_eq_false_iff_ne]; exact hd0
            clear hx9 hdo hd0
            gi_wp2_with fail
            exact ⟨HX9.out.keepsOthers, K2.of_ext HX9.out, fun y hy => by
              rcases List.mem_append.1 hy with hy | hy
              · exact HI.out.1 y hy
              · rw [List.mem_singleton.1 hy]; exact HN0.out, HI.out.2.1.trans (Below.mono HX9.out HI.out.2.1.size)⟩
        case done =>
          rintro D xs W hD rfl ⟨hall, hB⟩ hK
          have hOW := HB2.out.next (HX2.out.trans hB)
          have HR : Hid (Lo.locR d gl gs (N : Int) (M : Int) pieces (K : Int) = ([], 0, 17)) := Lib.hid (Lo.locR_none HGE.out HCE.out.1 HCE.out.2 (by
            rw [Int.toNat_natCast, Int.toNat_natCast, Int.toNat_natCast, HW.out.2.2.1]
            exact Lo.locP_miss fun z hz => hall (M - z, z) (List.mem_map.2 ⟨z, hz, rfl⟩)))
          have HS := Lib.hid (((hOW.store 3 rfl 0 (.string ⟨#[]⟩)).store 4 rfl 0 (.int .i64 0)).store 5 rfl 0 (.int .i64 17))
          have HKK := Lib.hid hK
          have hDl := (Array.getElem?_eq_some_iff.1 hK).1
          have b30 : W.cell? ⟨SR, 0, none⟩ = some (.string ⟨#[]⟩) := hOW.cell 3 rfl 0 rfl
          have b40 : W.cell? ⟨BR, 0, none⟩ = some (.int .i64 0) := hOW.cell 4 rfl 0 rfl
          have b50 : W.cell? ⟨ER, 0, none⟩ = some (.int .i64 0) := hOW.cell 5 rfl 0 rfl
          have f3 : W.frozen? ⟨SR, 0, none⟩ = false := hOW.frozen 3 rfl 0
          have f4 : W.frozen? ⟨BR, 0, none⟩ = false := hOW.frozen 4 rfl 0
          have f5 : W.frozen? ⟨ER, 0, none⟩ = false := hOW.frozen 5 rfl 0
          have nSRBR : SR ≠ BR := by have := HSZ.out; omega
          have nSRER : SR ≠ ER := by have := HSZ.out; omega
          have nBRSR : BR ≠ SR := by have := HSZ.out; omega
          have nBRER : BR ≠ ER := by have := HSZ.out; omega
          have nERSR : ER ≠ SR := by have := HSZ.out; omega
          have nERBR : ER ≠ BR := by have := HSZ.out; omega
          clear hOW hB hall hK
          gi_wp2_with fail
          try rw [Exit.noGoto_ret]
          have hko : KeepsOthers W (((W.setCell ⟨SR, 0, none⟩ (.string ⟨#[]⟩)).setCell ⟨BR, 0, none⟩ (.int .i64 0)).setCell ⟨ER, 0, none⟩ (.int .i64 17)) := ((KeepsOthers.setCell _ _ _).trans (KeepsOthers.setCell _ _ _)).trans (KeepsOthers.setCell _ _ _)
          have hMk : MarksOk w3.heap.size (D + 1) (((W.setCell ⟨SR, 0, none⟩ (.string ⟨#[]⟩)).setCell ⟨BR, 0, none⟩ (.int .i64 0)).setCell ⟨ER, 0, none⟩ (.int .i64 17)) [{ target := .collected D, args := #[] }] := ⟨⟨D, rfl, by omega, Nat.lt_succ_self _, hko.same D _ HKK.out rfl, fun d' hd' => by cases hd'⟩, trivial⟩
          refine leaves_marks hMk fun w' hw' => ?_
          have r3 := (Below.cell hw' (p := ⟨SR, 0, none⟩) hsr.1).trans (HS.out.cell 3 rfl 0 rfl)
          have r4 := (Below.cell hw' (p := ⟨BR, 0, none⟩) hsr.2.1).trans (HS.out.cell 4 rfl 0 rfl)
          have r5 := (Below.cell hw' (p := ⟨ER, 0, none⟩) hsr.2.2).trans (HS.out.cell 5 rfl 0 rfl)
          refine ⟨_, results_cells3L (v1 := .string ⟨#[]⟩) (v2 := .int .i64 0) (v3 := .int .i64 17) rfl rfl rfl rfl ?_ ?_ ?_, ?_⟩
          · go_simp
          · go_simp
          · go_simp
          exact ⟨by rw [HR.out]; rfl, HS.out.ext.below.trans (Below.mono hw' hwz)⟩
        case stop =>
          rintro D c pre W hD hS ⟨y, s, ⟨rfl, ⟨pre', hpp, hpre⟩, hdy⟩, h3, h4, h5, hBw⟩ hK
          have hpx : pre'.map (·.2) ++ [y.2] <+: Lo.parts M rn K ∧ (∀ x ∈ pre' ++ [y], x.1 = M - x.2) := by
            have h := hS.map (·.2)
            rw [hpp, List.map_append] at h
            unfold Lo.pairs at h
            rw [List.map_map] at h
            have e : (fun x : Nat × Nat => x.2) ∘ (fun t => (M - t, t)) = id := rfl
            rw [e, List.map_id] at h
            refine ⟨h, fun x hx => ?_⟩
            rw [← hpp] at hx
            obtain ⟨t, _, rfl⟩ := List.mem_map.1 (hS.subset hx)
            rfl
          have HR : Hid (Lo.locR d gl gs (N : Int) (M : Int) pieces (K : Int) = (s, ((y.2 : Nat) : Int), 0)) := Lib.hid (Lo.locR_some HGE.out HCE.out.1 HCE.out.2 (by
            rw [Int.toNat_natCast, Int.toNat_natCast, Int.toNat_natCast, HW.out.2.2.1]
            exact Lo.locP_hit hpx.1 (fun z hz => by
              obtain ⟨q, hq, rfl⟩ := List.mem_map.1 hz
              rw [← hpx.2 q (List.mem_append_left _ hq)]
              exact hpre q hq) (by rw [← hpx.2 y (by simp)]; exact hdy)))
          have HE := Lib.hid (And.intro h3 (And.intro h4 (And.intro h5 (And.intro hBw hK))))
          have hDl := (Array.getElem?_eq_some_iff.1 hK).1
          clear hS hpp hpre hdy h3 h4 h5 hBw hK hpx
          gi_wp2_with fail
          try rw [Exit.noGoto_ret]
          have hMk : MarksOk w3.heap.size (D + 1) W [{ target := .collected D, args := #[] }] := ⟨⟨D, rfl, by omega, Nat.lt_succ_self _, HE.out.2.2.2.2, fun d' hd' => by cases hd'⟩, trivial⟩
          refine leaves_marks hMk fun w' hw' => ?_
          have r3 := (Below.cell hw' (p := ⟨SR, 0, none⟩) hsr.1).trans HE.out.1
          have r4 := (Below.cell hw' (p := ⟨BR, 0, none⟩) hsr.2.1).trans HE.out.2.1
          have r5 := (Below.cell hw' (p := ⟨ER, 0, none⟩) hsr.2.2).trans HE.out.2.2.1
          refine ⟨_, results_cells3L (v1 := .string (sb s)) (v2 := .int .i64 (y.2 : Nat)) (v3 := .int .i64 0) rfl rfl rfl rfl ?_ ?_ ?_, ?_⟩
          · go_simp
          · go_simp
          · go_simp
          exact ⟨by rw [HR.out], HE.out.2.2.2.1.trans (Below.mono hw' hwz)⟩
end Go.Proofs.YtggfkpalkdkbdaaDoor

/- THE WALKS over Few (quietusref09) and count (quietuslaw09). -/
namespace Lo
/-- What Few lets by. -/
structure FewOk (d gl : Int) (gs : List (List Int)) (most n : Int) (pl : Nat) : Prop where
  groups : gs.length ≤ 30
  pieces : pl ≤ 40
  bytes : n ≤ 60
  data : d ≤ 16
  globals : gl ≤ 8
  rows : Cd.check d gs gl = 0 → ((Cd.rowsOf d gs gl).length : Int) ≤ most
end Lo
namespace Go.Proofs.YtggfkpalkdkbdaaDoor
open Go.RowKit
/-- What Few returns. -/
def FewOut (d gl : Int) (gs : List (List Int)) (most n : Int) (pl : Nat) (w : World) (e : Ending) (w' : World) : Prop := ∃ b, e = .returned (.bool b) ∧ (b = true → Lo.FewOk d gl gs most n pl) ∧ Ext w w'
set_option maxHeartbeats 8000000 in
set_option maxRecDepth 100000 in
theorem lFew_any (d gl most n : Int) (gs : List (List Int)) (G : Value) (PA : Option Addr) (pl cp : Nat) (w : World) (hG : Rs (Rs RI) w G gs) (hgl : gs.length ≤ 4611686018427387904) :
    Calls Tryd.prog 9 #[.agg #[.int .i64 d, G, .int .i64 gl], .int .i64 most, .int .i64 n, .slice PA pl cp] w fun e w' => FewOut d gl gs most n pl w e w' := by
  have HGN := Lib.hid hgl
  clear hgl
  obtain ⟨GA, Gc, rfl, _⟩ := hG.form
  obtain ⟨ng, hng⟩ : ∃ ng, gs.length = ng := ⟨_, rfl⟩
  rw [hng] at hG ⊢
  have hB : Owns w (w.alloc (.cells #[.int .i64 d, .slice GA ng Gc, .int .i64 gl] 24)) [⟨.slice (some ⟨w.heap.size, 0, none⟩) 3 3, 24, 1, 3, [.int .i64 d, .slice GA ng Gc, .int .i64 gl]⟩] := (Owns.start w (L := [no]) (by intro r hr; simp at hr; subst hr; exact ⟨rfl, rfl, rfl⟩)).new 0 #[.int .i64 d, .slice GA ng Gc, .int .i64 gl] 24 (by simp [maxLen])
  have HG := Lib.hid hG
  have HB := Lib.hid hB
  have HNG := Lib.hid hng
  clear hG hB hng
  go_enter Tryd.func9, Tryd.ntmps9
  go_upto_region 1 with fail
  obtain ⟨C, hC⟩ : ∃ C, w.heap.size = C := ⟨_, rfl⟩
  rw [hC] at HB ⊢
  obtain ⟨w1, hw1⟩ : ∃ x, w.alloc (.cells #[.int .i64 d, .slice GA ng Gc, .int .i64 gl] 24) = x := ⟨_, rfl⟩
  rw [hw1] at HB ⊢
  clear hw1 hC
  have b0 : w1.cell? ⟨C, 0, none⟩ = some (.int .i64 d) := HB.out.cell 0 rfl 0 rfl
  have b1 : w1.cell? ⟨C, 1, none⟩ = some (.slice GA ng Gc) := HB.out.cell 0 rfl 1 rfl
  have b2 : w1.cell? ⟨C, 2, none⟩ = some (.int .i64 gl) := HB.out.cell 0 rfl 2 rfl
  obtain ⟨z, hz⟩ : ∃ z, wrap64 (wrap64 (d + (ng : Int)) + gl) = z := ⟨_, rfl⟩
  have HZ := Lib.hid hz
  by_cases h1 : (30 : Int) < (ng : Int)
  · clear hz
    go_wp2_with fail
    go_ret
    exact ⟨false, rfl, fun h => (by cases h), HB.out.ext⟩
  by_cases h2 : (40 : Int) < (pl : Int)
  · clear hz
    go_wp2_with fail
    go_ret
    exact ⟨false, rfl, fun h => (by cases h), HB.out.ext⟩
  by_cases h3 : 60 < n
  · clear hz
    go_wp2_with fail
    go_ret
    exact ⟨false, rfl, fun h => (by cases h), HB.out.ext⟩
  by_cases h4 : 16 < d
  · clear hz
    go_wp2_with fail
    go_ret
    exact ⟨false, rfl, fun h => (by cases h), HB.out.ext⟩
  by_cases h5 : 8 < gl
  · clear hz
    go_wp2_with fail
    go_ret
    exact ⟨false, rfl, fun h => (by cases h), HB.out.ext⟩
  by_cases h6 : most < z
  · go_wp2_with fail
    go_ret
    exact ⟨false, rfl, fun h => (by cases h), HB.out.ext⟩
  have HF : Hid (Lo.FewOk d gl gs most n pl) := Lib.hid ⟨by rw [HNG.out]; omega, by omega, by omega, by omega, by omega, fun h => by
    have h7 := Cd.rowsOf_len h
    have h8 := Cd.check_ok h
    rw [HNG.out] at h7
    have h9 := HZ.out
    unfold wrap64 at h9
    omega⟩
  go_wp2_with fail
  go_loopw [9] (fun vk wr => ∃ k : Nat, k ≤ ng ∧ vk = .int .i64 (k : Nat) ∧ wr = w1) (fun vk _ => ng - (intOf vk).toNat)
  case atStart => exact ⟨0, Nat.zero_le _, rfl, rfl⟩
  case round =>
    obtain ⟨k, hk2, rfl, rfl⟩ := hrel
    by_cases hlt : k < ng
    · obtain ⟨ad, u, rfl, hc, hu⟩ := (Rs.ext (Rs.ext RI.ext) _ _ _ _ HB.out.ext HG.out).at (i := k) (by rw [HNG.out]; exact hlt)
      obtain ⟨ga, gc, rfl, _⟩ := Rs.form hu
      obtain ⟨gn, hgn⟩ : ∃ gn, (gs[k]'(by rw [HNG.out]; exact hlt)).length = gn := ⟨_, rfl⟩
      rw [hgn] at hc
      clear hu hgn
      by_cases hgl2 : (30 : Int) < (gn : Int)
      · go_wp2_with fail
        go_ret
        exact ⟨false, rfl, fun h => (by cases h), HB.out.ext⟩
      · go_wp2_with fail
        go_roundw
        case rel => exact ⟨k + 1, by omega, by go_num, by trivial⟩
        case measure => simp [intOf]; omega
    · obtain rfl : k = ng := by omega
      go_wp2_with fail
      go_ret
      exact ⟨true, rfl, fun _ => HF.out, HB.out.ext⟩
end Go.Proofs.YtggfkpalkdkbdaaDoor

/- THE SPECIFICATION'S CHECK of codes, in plain terms: it is the program's. -/
namespace Cd
/-- Is a number in one of the first g groups? -/
def prevHas (gs : List (List Int)) (g : Nat) (x : Int) : Bool := (List.range g).any fun h => decide (x ∈ gs.getD h [])
def refBad (d : Int) (gs : List (List Int)) (g k : Nat) : Bool :=
  decide ((gs.getD g []).getD k 0 < 0) || decide (d ≤ (gs.getD g []).getD k 0) || (decide (0 < k) && decide ((gs.getD g []).getD k 0 ≤ (gs.getD g []).getD (k - 1) 0)) || prevHas gs g ((gs.getD g []).getD k 0)
/-- The error of one group. -/
def refGroup (d : Int) (gs : List (List Int)) (g : Nat) : Int :=
  if gs.getD g [] = [] then 8 else if (List.range (gs.getD g []).length).any (refBad d gs g) then 1 else 0
theorem prevHas_true {gs : List (List Int)} {g h : Nat} {x : Int} (hh : h < g) (hx : x ∈ gs.getD h []) : prevHas gs g x = true := by
  unfold prevHas
  rw [List.any_eq_true]
  exact ⟨h, List.mem_range.2 hh, by simpa using hx⟩
theorem prevHas_false {gs : List (List Int)} {g : Nat} {x : Int} (h : ∀ j, j < g → x ∉ gs.getD j []) : prevHas gs g x = false := by
  unfold prevHas
  rw [List.any_eq_false]
  intro j hj
  simpa using h j (List.mem_range.1 hj)
theorem prevHas_succ (gs : List (List Int)) (g : Nat) (x : Int) : prevHas gs (g + 1) x = true ↔ prevHas gs g x = true ∨ x ∈ gs.getD g [] := by
  unfold prevHas
  rw [List.range_succ, List.any_append, Bool.or_eq_true]
  simp
theorem refGroup_none {d : Int} {gs : List (List Int)} {g : Nat} (h : gs.getD g [] = []) : refGroup d gs g = 8 := if_pos h
theorem refGroup_bad {d : Int} {gs : List (List Int)} {g k : Nat} (h : gs.getD g [] ≠ []) (hk : k < (gs.getD g []).length) (hb : refBad d gs g k = true) : refGroup d gs g = 1 := by
  unfold refGroup
  rw [if_neg h, if_pos]
  rw [List.any_eq_true]
  exact ⟨k, List.mem_range.2 hk, hb⟩
theorem refGroup_ok {d : Int} {gs : List (List Int)} {g : Nat} (h : gs.getD g [] ≠ []) (hb : ∀ k, k < (gs.getD g []).length → refBad d gs g k = false) : refGroup d gs g = 0 := by
  unfold refGroup
  rw [if_neg h, if_neg]
  rw [Bool.not_eq_true, List.any_eq_false]
  intro k hk
  rw [hb k (List.mem_range.1 hk)]
  simp
theorem refBad_def (d : Int) (gs : List (List Int)) (g k : Nat) : refBad d gs g k = (decide ((gs.getD g []).getD k 0 < 0) || decide (d ≤ (gs.getD g []).getD k 0) || (decide (0 < k) && decide ((gs.getD g []).getD k 0 ≤ (gs.getD g []).getD (k - 1) 0)) || prevHas gs g ((gs.getD g []).getD k 0)) := rfl
/-- A group is bad for the program exactly if it is for the specification. -/
theorem bad_ref {d : Int} {gs : List (List Int)} {g s : Nat} (hs : ∀ x : Nat, bitAt s x = 1 ↔ prevHas gs g x = true) : bad d s (gs.getD g []) = (List.range (gs.getD g []).length).any (refBad d gs g) := by
  have each : ∀ k, badAt d s (gs.getD g []) k = refBad d gs g k := fun k => by
    rw [badAt_def, refBad_def]
    obtain ⟨x, hx⟩ : ∃ x, (gs.getD g []).getD k 0 = x := ⟨_, rfl⟩
    rw [hx]
    by_cases h0 : x < 0
    · simp [h0]
    · have h1 := hs x.toNat
      rw [show ((x.toNat : Nat) : Int) = x from by omega] at h1
      cases hp : prevHas gs g x with
      | true => rw [h1.2 hp]; simp
      | false =>
        have : bitAt s x.toNat ≠ 1 := fun h => by rw [h1.1 h] at hp; cases hp
        rw [show (bitAt s x.toNat == 1) = false from by simpa using this]
  unfold bad
  congr 1
  funext k
  exact each k
theorem checkG_ref {d : Int} {gs : List (List Int)} : ∀ i, i ≤ gs.length → (∀ h, h < i → refGroup d gs h = 0) →
    ∃ s, checkG d 0 gs = checkG d s (gs.drop i) ∧ ∀ x : Nat, bitAt s x = 1 ↔ prevHas gs i x = true
  | 0, _, _ => ⟨0, rfl, fun x => by simp [bitAt, prevHas]⟩
  | i + 1, hi, h => by
    obtain ⟨s, h1, h2⟩ := checkG_ref i (by omega) (fun j hj => h j (by omega))
    have hl : i < gs.length := by omega
    have hg : gs.getD i [] = gs[i] := by rw [List.getD_eq_getElem?_getD, List.getElem?_eq_getElem hl]; rfl
    have hr := h i (by omega)
    have hne : gs.getD i [] ≠ [] := fun he => by rw [refGroup_none he] at hr; cases hr
    have hb := bad_ref (d := d) h2
    have hbf : bad d s (gs.getD i []) = false := by
      rw [hb]
      cases ha : (List.range (gs.getD i []).length).any (refBad d gs i) with
      | false => rfl
      | true =>
        unfold refGroup at hr
        rw [if_neg hne, if_pos ha] at hr
        cases hr
    refine ⟨setOf s gs[i], ?_, fun x => ?_⟩
    · rw [h1, drop_cons hl, checkG_next (by rw [← hg]; exact hne) (by rw [← hg]; exact hbf)]
    · rw [bit_set gs[i] s x (fun j hj => by rw [← hg] at hj; exact (bad_bounds hbf hj).1), h2 x, prevHas_succ, hg]
theorem checkG_err {d : Int} {gs : List (List Int)} {i : Nat} (hi : i < gs.length) (h : ∀ j, j < i → refGroup d gs j = 0) (he : refGroup d gs i ≠ 0) : checkG d 0 gs = refGroup d gs i := by
  obtain ⟨s, h1, h2⟩ := checkG_ref i (by omega) h
  have hg : gs.getD i [] = gs[i] := by rw [List.getD_eq_getElem?_getD, List.getElem?_eq_getElem hi]; rfl
  rw [h1, drop_cons hi, ← hg]
  by_cases hne : gs.getD i [] = []
  · rw [refGroup_none hne, hne, checkG_nil]
  · have hb := bad_ref (d := d) h2
    unfold refGroup at he ⊢
    rw [if_neg hne] at he ⊢
    cases ha : (List.range (gs.getD i []).length).any (refBad d gs i) with
    | false => rw [ha] at he; simp at he
    | true => rw [ha] at hb; rw [checkG_bad hne hb]; rfl
theorem checkR_err {d gl : Int} {gs : List (List Int)} (h1 : ¬ (d < 1 ∨ 16 < d ∨ gl < 0 ∨ 4 < gl)) (h2 : ¬ 24 < d + gs.length + gl) {i : Nat} (hi : i < gs.length) (h : ∀ j, j < i → refGroup d gs j = 0) (he : refGroup d gs i ≠ 0) : check d gs gl = refGroup d gs i := by
  rw [check_groups h1 (by omega), checkG_err hi h he]
theorem checkR_ok {d gl : Int} {gs : List (List Int)} (h1 : ¬ (d < 1 ∨ 16 < d ∨ gl < 0 ∨ 4 < gl)) (h2 : ¬ 24 < d + gs.length + gl) (h : ∀ j, j < gs.length → refGroup d gs j = 0) : check d gs gl = 0 := by
  obtain ⟨s, e, _⟩ := checkG_ref gs.length (Nat.le_refl _) h
  rw [check_groups h1 (by omega), e, List.drop_length, checkG_end]
attribute [irreducible] refGroup refBad prevHas
end Cd

/- THE WALKS over the specification of codes: Has, group, Check, Pieces, Size, Bit, In, IsSet. -/
namespace Go.Proofs.YtggfkpalkdkbdaaDoor
open Go.RowKit
theorem getD_get {α : Type} {l : List α} {x : α} {i : Nat} (h : i < l.length) : l.getD i x = l[i] := by rw [List.getD_eq_getElem?_getD, List.getElem?_eq_getElem h]; rfl
theorem rHas_any (l : List Int) (x : Int) (B : Option Addr) (n c : Nat) (w : World) (hB : Rs RI w (.slice B n c) l) :
    Calls Tryd.prog 101 #[.slice B n c, .int .i64 x] w fun e w' => e = .returned (.bool (decide (x ∈ l))) ∧ w = w' := by
  have hn := hB.len
  obtain ⟨_, _, e0, hl⟩ := hB.form
  have HB := Lib.hid hB
  have HN := Lib.hid hn
  have hl2 : n ≤ 9223372036854775807 := by omega
  clear hB hn e0 hl
  go_enter Tryd.func101, Tryd.ntmps101
  go_wp2_with fail
  go_loop [5] (fun vi => ∃ i : Nat, i ≤ n ∧ vi = .int .i64 i ∧ Hid (∀ j, j < i → l.getD j 0 ≠ x)) (fun vi => n - (intOf vi).toNat)
  case atStart => exact ⟨0, Nat.zero_le _, rfl, Lib.hid fun j hj => absurd hj (Nat.not_lt_zero j)⟩
  case round =>
    obtain ⟨i, hi, rfl, HJ⟩ := hrel
    by_cases hlt : i < n
    · have hll : i < l.length := by rw [← HN.out]; exact hlt
      obtain ⟨ad, u, rfl, hc, hu⟩ := HB.out.at hll
      obtain ⟨rfl, _, _⟩ := hu
      have hgd := getD_get (x := (0 : Int)) hll
      obtain ⟨y, hy⟩ : ∃ y, l[i] = y := ⟨_, rfl⟩
      rw [hy] at hc hgd
      have hm : y ∈ l := by rw [← hy]; exact List.getElem_mem hll
      have HM := Lib.hid (And.intro hgd hm)
      clear hgd hm hy
      by_cases h1 : y = x
      · have e1 : (y == x) = true := by rw [h1]; simp
        have hd : decide (x ∈ l) = true := by rw [decide_eq_true_eq, ← h1]; exact HM.out.2
        have HD := Lib.hid hd
        clear h1 hd
        go_wp2_with fail
        go_ret
        exact ⟨ret_bool HD.out.symm, rfl⟩
      · have e1 : (y == x) = false := by rw [beq_eq_false_iff_ne]; exact h1
        have H1 := Lib.hid h1
        clear h1
        go_wp2_with fail
        go_round
        case rel => exact ⟨i + 1, by omega, by go_num, Lib.hid fun j hj => by
          by_cases hji : j = i
          · rw [hji, HM.out.1]; exact H1.out
          · exact HJ.out j (by omega)⟩
        case measure => simp [intOf]; omega
    · obtain rfl : i = n := by omega
      have hd : decide (x ∈ l) = false := by
        rw [decide_eq_false_iff_not]
        intro hm
        obtain ⟨j, hj, he⟩ := List.getElem_of_mem hm
        have := HJ.out j (by rw [HN.out]; exact hj)
        rw [getD_get hj] at this
        exact this he
      have HD := Lib.hid hd
      clear hd
      go_wp2_with fail
      go_ret
      exact ⟨ret_bool HD.out.symm, rfl⟩

set_option maxHeartbeats 1000000 in
theorem rGroup_any (d gl : Int) (gs : List (List Int)) (g : Nat) (G : Value) (w : World) (hG : Rs (Rs RI) w G gs) (hg : g < gs.length) :
    Calls Tryd.prog 85 #[.agg #[.int .i64 d, G, .int .i64 gl], .int .i64 g] w fun e w' => e = .returned (.int .i64 (Cd.refGroup d gs g)) ∧ Ext w w' := by
  have hx0 := (Ext.refl w).alloc (.cells #[.int .i64 d, G, .int .i64 gl] 24)
  have hG1 := Rs.ext (Rs.ext RI.ext) _ _ _ _ hx0 hG
  obtain ⟨A, c, rfl, hl⟩ := hG.form
  obtain ⟨ad, u, rfl, hcell, hu⟩ := hG1.at hg
  obtain ⟨B, cB, rfl, hlB⟩ := hu.form
  have hgd := getD_get (x := ([] : List Int)) hg
  obtain ⟨p, hp⟩ : ∃ p, gs[g] = p := ⟨_, rfl⟩
  rw [hp] at hu hlB hgd hcell
  have HX := Lib.hid hx0
  have HG := Lib.hid hG1
  have HU := Lib.hid hu
  have HD := Lib.hid hgd
  clear hG hx0 hG1 hu hgd hp
  by_cases h0 : p = []
  · have h8 : Cd.refGroup d gs g = 8 := Cd.refGroup_none (by rw [HD.out]; exact h0)
    have H8 := Lib.hid h8
    have hl0 : p.length = 0 := by rw [h0]; rfl
    clear h8 h0
    go_enter Tryd.func85, Tryd.ntmps85
    go_wp2_with fail
    go_ret
    exact ⟨ret_int H8.out.symm, HX.out⟩
  · have hgl : p.length ≠ 0 := fun h => h0 (List.length_eq_zero_iff.1 h)
    have e0 : ((p.length : Int) == 0) = false := by rw [beq_eq_false_iff_ne]; omega
    have H0 := Lib.hid (show gs.getD g [] ≠ [] by rw [HD.out]; exact h0)
    clear h0 hgl
    go_enter Tryd.func85, Tryd.ntmps85
    go_wp2_with fail
    go_loop [5] (fun vk => ∃ k : Nat, k ≤ p.length ∧ vk = .int .i64 k ∧ Hid (∀ j, j < k → Cd.refBad d gs g j = false)) (fun vk => p.length - (intOf vk).toNat)
    case atStart => exact ⟨0, Nat.zero_le _, rfl, Lib.hid fun j hj => absurd hj (Nat.not_lt_zero j)⟩
    case round =>
      obtain ⟨k, hk, rfl, HB⟩ := hrel
      by_cases hkl : k < p.length
      · obtain ⟨bd, u, rfl, hbc, hu⟩ := HU.out.at hkl
        obtain ⟨rfl, hlo, hhi⟩ := hu
        have hgk := getD_get (x := (0 : Int)) hkl
        have hbd := Cd.refBad_def d gs g k
        rw [HD.out, hgk] at hbd
        obtain ⟨y, hy⟩ : ∃ y, p[k] = y := ⟨_, rfl⟩
        rw [hy] at hbd hbc hlo hhi
        have bad1 : Cd.refBad d gs g k = true → Cd.refGroup d gs g = 1 := fun h => Cd.refGroup_bad H0.out (by rw [HD.out]; exact hkl) h
        have BD := Lib.hid hbd
        have B1 := Lib.hid bad1
        clear hgk hbd bad1 hy
        by_cases c1 : y < 0
        · have H1 := Lib.hid (B1.out (by rw [BD.out]; simp [c1]))
          go_wp2_with fail
          go_ret
          exact ⟨ret_int H1.out.symm, HX.out⟩
        · by_cases c2 : d ≤ y
          · have H1 := Lib.hid (B1.out (by rw [BD.out]; simp [c2]))
            go_wp2_with fail
            go_ret
            exact ⟨ret_int H1.out.symm, HX.out⟩
          · by_cases ck : 0 < k
            · obtain ⟨bd2, u2, e2, hbc2, hu2⟩ := HU.out.at (i := k - 1) (by omega)
              injection e2 with e2
              subst e2
              obtain ⟨rfl, hlo2, hhi2⟩ := hu2
              have hgk2 := getD_get (x := (0 : Int)) (show k - 1 < p.length by omega)
              obtain ⟨z, hz⟩ : ∃ z, p[k - 1] = z := ⟨_, rfl⟩
              rw [hz] at hgk2 hbc2 hlo2 hhi2
              have HK2 := Lib.hid hgk2
              clear hgk2 hz
              by_cases c3 : y ≤ z
              · have H1 := Lib.hid (B1.out (by rw [BD.out, HK2.out]; simp [c3, ck]))
                go_wp2_with fail
                go_ret
                exact ⟨ret_int H1.out.symm, HX.out⟩
              · have hno : Cd.prevHas gs g y = false → Cd.refBad d gs g k = false := fun h => by rw [BD.out, HK2.out, h]; simp [c1, c2, c3]
                have hyes : Cd.prevHas gs g y = true → Cd.refGroup d gs g = 1 := fun h => B1.out (by rw [BD.out, h]; simp)
                have HNO := Lib.hid (And.intro hno hyes)
                clear hno hyes
                go_wp2_with fail
                go_loop [7] (fun vh => ∃ h : Nat, h ≤ g ∧ vh = .int .i64 h ∧ Hid (∀ j, j < h → y ∉ gs.getD j [])) (fun vh => g - (intOf vh).toNat)
                case atStart => exact ⟨0, Nat.zero_le _, rfl, Lib.hid fun j hj => absurd hj (Nat.not_lt_zero j)⟩
                case round =>
                  obtain ⟨h, hh, rfl, HH⟩ := hrel
                  by_cases hhl : h < g
                  · obtain ⟨ad2, v, e3, hvc, hv⟩ := HG.out.at (i := h) (by omega)
                    injection e3 with e3
                    subst e3
                    obtain ⟨B2, c2', rfl, hl2⟩ := hv.form
                    have hgh := getD_get (x := ([] : List Int)) (show h < gs.length by omega)
                    obtain ⟨q, hq⟩ : ∃ q, gs[h] = q := ⟨_, rfl⟩
                    rw [hq] at hv hl2 hgh hvc
                    have HV := Lib.hid hv
                    have HGH := Lib.hid hgh
                    clear hv hgh hq
                    by_cases hin : y ∈ q
                    · have e4 : decide (y ∈ q) = true := by simpa using hin
                      have H1 := Lib.hid (HNO.out.2 (Cd.prevHas_true hhl (by rw [HGH.out]; exact hin)))
                      clear hin
                      go_wp2_with fail
                      refine (rHas_any q y _ _ _ _ HV.out).mono ?_
                      rintro e w1 ⟨rfl, rfl⟩
                      rw [e4]
                      go_wp2_with fail
                      go_ret
                      exact ⟨ret_int H1.out.symm, HX.out⟩
                    · have e4 : decide (y ∈ q) = false := by simpa using hin
                      have HIN := Lib.hid hin
                      clear hin
                      go_wp2_with fail
                      refine (rHas_any q y _ _ _ _ HV.out).mono ?_
                      rintro e w1 ⟨rfl, rfl⟩
                      rw [e4]
                      go_wp2_with fail
                      go_round
                      case rel => exact ⟨h + 1, by omega, by go_num, Lib.hid fun j hj => by
                        by_cases hjh : j = h
                        · rw [hjh, HGH.out]; exact HIN.out
                        · exact HH.out j (by omega)⟩
                      case measure => simp [intOf]; omega
                  · obtain rfl : h = g := by omega
                    have H1 := Lib.hid (HNO.out.1 (Cd.prevHas_false HH.out))
                    go_wp2_with fail
                    go_round
                    case rel => exact ⟨k + 1, by omega, by go_num, Lib.hid fun j hj => by
                      by_cases hjk : j = k
                      · rw [hjk]; exact H1.out
                      · exact HB.out j (by omega)⟩
                    case measure => simp [intOf]; omega
            · have hno : Cd.prevHas gs g y = false → Cd.refBad d gs g k = false := fun h => by rw [BD.out, h]; simp [c1, c2, ck]
              have hyes : Cd.prevHas gs g y = true → Cd.refGroup d gs g = 1 := fun h => B1.out (by rw [BD.out, h]; simp)
              have HNO := Lib.hid (And.intro hno hyes)
              clear hno hyes
              go_wp2_with fail
              go_loop [7] (fun vh => ∃ h : Nat, h ≤ g ∧ vh = .int .i64 h ∧ Hid (∀ j, j < h → y ∉ gs.getD j [])) (fun vh => g - (intOf vh).toNat)
              case atStart => exact ⟨0, Nat.zero_le _, rfl, Lib.hid fun j hj => absurd hj (Nat.not_lt_zero j)⟩
              case round =>
                obtain ⟨h, hh, rfl, HH⟩ := hrel
                by_cases hhl : h < g
                · obtain ⟨ad2, v, e3, hvc, hv⟩ := HG.out.at (i := h) (by omega)
                  injection e3 with e3
                  subst e3
                  obtain ⟨B2, c2', rfl, hl2⟩ := hv.form
                  have hgh := getD_get (x := ([] : List Int)) (show h < gs.length by omega)
                  obtain ⟨q, hq⟩ : ∃ q, gs[h] = q := ⟨_, rfl⟩
                  rw [hq] at hv hl2 hgh hvc
                  have HV := Lib.hid hv
                  have HGH := Lib.hid hgh
                  clear hv hgh hq
                  by_cases hin : y ∈ q
                  · have e4 : decide (y ∈ q) = true := by simpa using hin
                    have H1 := Lib.hid (HNO.out.2 (Cd.prevHas_true hhl (by rw [HGH.out]; exact hin)))
                    clear hin
                    go_wp2_with fail
                    refine (rHas_any q y _ _ _ _ HV.out).mono ?_
                    rintro e w1 ⟨rfl, rfl⟩
                    rw [e4]
                    go_wp2_with fail
                    go_ret
                    exact ⟨ret_int H1.out.symm, HX.out⟩
                  · have e4 : decide (y ∈ q) = false := by simpa using hin
                    have HIN := Lib.hid hin
                    clear hin
                    go_wp2_with fail
                    refine (rHas_any q y _ _ _ _ HV.out).mono ?_
                    rintro e w1 ⟨rfl, rfl⟩
                    rw [e4]
                    go_wp2_with fail
                    go_round
                    case rel => exact ⟨h + 1, by omega, by go_num, Lib.hid fun j hj => by
                      by_cases hjh : j = h
                      · rw [hjh, HGH.out]; exact HIN.out
                      · exact HH.out j (by omega)⟩
                    case measure => simp [intOf]; omega
                · obtain rfl : h = g := by omega
                  have H1 := Lib.hid (HNO.out.1 (Cd.prevHas_false HH.out))
                  go_wp2_with fail
                  go_round
                  case rel => exact ⟨k + 1, by omega, by go_num, Lib.hid fun j hj => by
                    by_cases hjk : j = k
                    · rw [hjk]; exact H1.out
                    · exact HB.out j (by omega)⟩
                  case measure => simp [intOf]; omega
      · obtain rfl : k = p.length := by omega
        have hz : Cd.refGroup d gs g = 0 := Cd.refGroup_ok H0.out (by rw [HD.out]; exact HB.out)
        have HZ := Lib.hid hz
        clear hz
        go_wp2_with fail
        go_ret
        exact ⟨ret_int HZ.out.symm, HX.out⟩
end Go.Proofs.YtggfkpalkdkbdaaDoor

/- THE WALKS over the specification of codes: Check, Pieces, Size, Bit, In, IsSet. -/
namespace Cd
/-- Is a number in a set of small numbers? -/
def inS (m k : Nat) : Bool := decide (bitAt m k = 1)
theorem inS_def (m k : Nat) : inS m k = decide (m / 2 ^ k % 2 = 1) := rfl
/-- Is a number a set of pieces of a code? -/
def isSet (d : Int) (gs : List (List Int)) (gl : Int) (m : Int) : Bool := decide (0 ≤ m ∧ m < ((2 ^ (pieces d gs gl).toNat : Nat) : Int))
theorem pieces_lt (d gl : Int) (gs : List (List Int)) : 0 ≤ pieces d gs gl ∧ pieces d gs gl ≤ 24 := by
  by_cases h : check d gs gl = 0
  · rw [pieces_ok h]; have := check_ok h; omega
  · rw [pieces_no h]; omega
end Cd
namespace Go.Proofs.YtggfkpalkdkbdaaDoor
open Go.RowKit
set_option maxHeartbeats 4000000 in
theorem rCheck_any (d gl : Int) (gs : List (List Int)) (G : Value) (w : World) (hG : Rs (Rs RI) w G gs) (hn : gs.length ≤ 1000000) :
    Calls Tryd.prog 52 #[.agg #[.int .i64 d, G, .int .i64 gl]] w fun e w' => e = .returned (.int .i64 (Cd.check d gs gl)) ∧ Ext w w' := by
  have hx0 := (Ext.refl w).alloc (.cells #[.int .i64 d, G, .int .i64 gl] 24)
  have HX := Lib.hid (And.intro hx0 (Rs.ext (Rs.ext RI.ext) _ _ _ _ hx0 hG))
  by_cases h : d < 1 ∨ 16 < d ∨ gl < 0 ∨ 4 < gl
  · rw [Cd.check_range h]
    have four : d < 1 ∨ (¬ d < 1 ∧ 16 < d) ∨ (¬ d < 1 ∧ ¬ 16 < d ∧ gl < 0) ∨ (¬ d < 1 ∧ ¬ 16 < d ∧ ¬ gl < 0 ∧ 4 < gl) := by omega
    clear h hG hx0
    rcases four with g | ⟨g1, g⟩ | ⟨g1, g2, g⟩ | ⟨g1, g2, g3, g⟩
    all_goals
      go_enter Tryd.func52, Tryd.ntmps52
      go_wp2_with fail
      go_ret
      exact ⟨rfl, HX.out.1⟩
  · have h1 : 1 ≤ d := by omega
    have h2 : d ≤ 16 := by omega
    have h3 : 0 ≤ gl := by omega
    have h4 : gl ≤ 4 := by omega
    obtain ⟨A, c, rfl, hl⟩ := hG.form
    have H := Lib.hid h
    clear hG hx0 h
    by_cases hb : 24 < d + gs.length + gl
    · have hc := Cd.check_limit H.out (.inr hb)
      have HC := Lib.hid hc
      clear hc
      go_enter Tryd.func52, Tryd.ntmps52
      go_wp2_with fail
      go_ret
      exact ⟨ret_int HC.out.symm, HX.out.1⟩
    · have hb2 : d + gs.length + gl ≤ 24 := by omega
      clear hb
      go_enter Tryd.func52, Tryd.ntmps52
      go_wp2_with fail
      go_loopw [3] (fun vi wr => ∃ i : Nat, i ≤ gs.length ∧ vi = .int .i64 i ∧ Hid (Ext (w.alloc (.cells #[.int .i64 d, .slice A gs.length c, .int .i64 gl] 24)) wr ∧ ∀ j, j < i → Cd.refGroup d gs j = 0)) (fun vi _ => gs.length - (intOf vi).toNat)
      case atStart => exact ⟨0, Nat.zero_le _, rfl, Lib.hid (And.intro (Ext.refl _) fun j hj => absurd hj (Nat.not_lt_zero j))⟩
      case round =>
        obtain ⟨i, hi, rfl, HR⟩ := hrel
        have hc0 : wr.cell? ⟨w.heap.size, 0, none⟩ = some (.int .i64 d) := HR.out.1.cell (by go_simp)
        have hc1 : wr.cell? ⟨w.heap.size, 1, none⟩ = some (.slice A gs.length c) := HR.out.1.cell (by go_simp)
        have hc2 : wr.cell? ⟨w.heap.size, 2, none⟩ = some (.int .i64 gl) := HR.out.1.cell (by go_simp)
        by_cases hlt : i < gs.length
        · have hgr := Rs.ext (Rs.ext RI.ext) _ _ _ _ HR.out.1 HX.out.2
          have HG := Lib.hid hgr
          clear hgr
          by_cases he : Cd.refGroup d gs i = 0
          · have e1 : (Cd.refGroup d gs i != 0) = false := by rw [he]; rfl
            have HE := Lib.hid he
            clear he
            go_wp2_with fail
            refine (rGroup_any d gl gs i _ _ HG.out hlt).mono ?_
            rintro e w1 ⟨rfl, hx1⟩
            have HX1 := Lib.hid (HR.out.1.trans hx1)
            clear hx1 hc0 hc1 hc2
            go_wp2_with fail
            go_roundw
            case rel => exact ⟨i + 1, by omega, by go_num, Lib.hid (And.intro HX1.out fun j hj => by
              by_cases hji : j = i
              · rw [hji]; exact HE.out
              · exact HR.out.2 j (by omega))⟩
            case measure => simp [intOf]; omega
          · have e1 : (Cd.refGroup d gs i != 0) = true := by rw [bne_iff_ne]; exact he
            have hc := Cd.checkR_err H.out (by omega) hlt HR.out.2 he
            have HC := Lib.hid hc
            clear he hc
            go_wp2_with fail
            refine (rGroup_any d gl gs i _ _ HG.out hlt).mono ?_
            rintro e w1 ⟨rfl, hx1⟩
            have HX1 := Lib.hid (HR.out.1.trans hx1)
            clear hx1 hc0 hc1 hc2
            go_wp2_with fail
            go_ret
            exact ⟨ret_int HC.out.symm, HX.out.1.trans HX1.out⟩
        · obtain rfl : i = gs.length := by omega
          have hc := Cd.checkR_ok H.out (by omega) HR.out.2
          have HC := Lib.hid hc
          clear hc
          go_wp2_with fail
          go_ret
          exact ⟨ret_int HC.out.symm, HX.out.1.trans HR.out.1⟩
theorem rPieces_any (d gl : Int) (gs : List (List Int)) (G : Value) (w : World) (hG : Rs (Rs RI) w G gs) (hn : gs.length ≤ 1000000) :
    Calls Tryd.prog 57 #[.agg #[.int .i64 d, G, .int .i64 gl]] w fun e w' => e = .returned (.int .i64 (Cd.pieces d gs gl)) ∧ Ext w w' := by
  have hx0 := (Ext.refl w).alloc (.cells #[.int .i64 d, G, .int .i64 gl] 24)
  have HX := Lib.hid (And.intro hx0 (Rs.ext (Rs.ext RI.ext) _ _ _ _ hx0 hG))
  obtain ⟨A, c, rfl, hl⟩ := hG.form
  clear hG hx0
  by_cases h0 : Cd.check d gs gl = 0
  · have hp := Cd.pieces_ok h0
    have hk := Cd.check_ok h0
    have e1 : (Cd.check d gs gl != 0) = false := by rw [h0]; rfl
    have HP := Lib.hid hp
    clear h0 hp
    go_enter Tryd.func57, Tryd.ntmps57
    go_wp2_with fail
    refine (rCheck_any d gl gs _ _ HX.out.2 hn).mono ?_
    rintro e w1 ⟨rfl, hx1⟩
    have hc0 : w1.cell? ⟨w.heap.size, 0, none⟩ = some (.int .i64 d) := hx1.cell (by go_simp)
    have hc1 : w1.cell? ⟨w.heap.size, 1, none⟩ = some (.slice A gs.length c) := hx1.cell (by go_simp)
    have hc2 : w1.cell? ⟨w.heap.size, 2, none⟩ = some (.int .i64 gl) := hx1.cell (by go_simp)
    have HX1 := Lib.hid (HX.out.1.trans hx1)
    clear hx1
    go_wp2_with fail
    go_ret
    exact ⟨ret_int HP.out.symm, HX1.out⟩
  · have hp := Cd.pieces_no h0
    have e1 : (Cd.check d gs gl != 0) = true := by rw [bne_iff_ne]; exact h0
    have HP := Lib.hid hp
    clear h0 hp
    go_enter Tryd.func57, Tryd.ntmps57
    go_wp2_with fail
    refine (rCheck_any d gl gs _ _ HX.out.2 hn).mono ?_
    rintro e w1 ⟨rfl, hx1⟩
    have HX1 := Lib.hid (HX.out.1.trans hx1)
    clear hx1
    go_wp2_with fail
    go_ret
    exact ⟨ret_int HP.out.symm, HX1.out⟩
theorem rSize_any (d gl n : Int) (gs : List (List Int)) (G : Value) (w : World) (hG : Rs (Rs RI) w G gs) (hn : gs.length ≤ 1000000) :
    Calls Tryd.prog 43 #[.agg #[.int .i64 d, G, .int .i64 gl], .int .i64 n] w fun e w' => e = .returned (.int .i64 (Cd.sizeOf d gl gs n)) ∧ Ext w w' := by
  have hx0 := (Ext.refl w).alloc (.cells #[.int .i64 d, G, .int .i64 gl] 24)
  have HX := Lib.hid (And.intro hx0 (Rs.ext (Rs.ext RI.ext) _ _ _ _ hx0 hG))
  obtain ⟨A, c, rfl, hl⟩ := hG.form
  clear hG hx0
  by_cases h0 : Cd.check d gs gl = 0
  · have e1 : (Cd.check d gs gl != 0) = false := by rw [h0]; rfl
    by_cases h1 : n < 0
    · have hz := Cd.sizeOf_no (d := d) (gl := gl) (gs := gs) (.inl h1)
      have HZ := Lib.hid hz
      clear hz h0
      go_enter Tryd.func43, Tryd.ntmps43
      go_wp2_with fail
      refine (rCheck_any d gl gs _ _ HX.out.2 hn).mono ?_
      rintro e w1 ⟨rfl, hx1⟩
      have HX1 := Lib.hid (HX.out.1.trans hx1)
      clear hx1
      go_wp2_with fail
      go_ret
      exact ⟨ret_int HZ.out.symm, HX1.out⟩
    · by_cases h2 : 4096 < n
      · have hz := Cd.sizeOf_no (d := d) (gl := gl) (gs := gs) (.inr (.inl h2))
        have HZ := Lib.hid hz
        clear hz h0
        go_enter Tryd.func43, Tryd.ntmps43
        go_wp2_with fail
        refine (rCheck_any d gl gs _ _ HX.out.2 hn).mono ?_
        rintro e w1 ⟨rfl, hx1⟩
        have HX1 := Lib.hid (HX.out.1.trans hx1)
        clear hx1
        go_wp2_with fail
        go_ret
        exact ⟨ret_int HZ.out.symm, HX1.out⟩
      · have hk := Cd.check_ok h0
        have hz := Cd.sizeOf_ok (d := d) (gl := gl) (gs := gs) (n := n) (by omega) (by omega) h0
        have HZ := Lib.hid hz
        have e3 : d ≠ 0 := by omega
        clear hz h0
        go_enter Tryd.func43, Tryd.ntmps43
        go_wp2_with fail
        refine (rCheck_any d gl gs _ _ HX.out.2 hn).mono ?_
        rintro e w1 ⟨rfl, hx1⟩
        have hc0 : w1.cell? ⟨w.heap.size, 0, none⟩ = some (.int .i64 d) := hx1.cell (by go_simp)
        have HX1 := Lib.hid (HX.out.1.trans hx1)
        clear hx1
        go_wp2_with fail
        go_ret
        exact ⟨ret_int HZ.out.symm, HX1.out⟩
  · have hz := Cd.sizeOf_no (d := d) (gl := gl) (gs := gs) (n := n) (.inr (.inr h0))
    have e1 : (Cd.check d gs gl != 0) = true := by rw [bne_iff_ne]; exact h0
    have HZ := Lib.hid hz
    clear hz h0
    go_enter Tryd.func43, Tryd.ntmps43
    go_wp2_with fail
    refine (rCheck_any d gl gs _ _ HX.out.2 hn).mono ?_
    rintro e w1 ⟨rfl, hx1⟩
    have HX1 := Lib.hid (HX.out.1.trans hx1)
    clear hx1
    go_wp2_with fail
    go_ret
    exact ⟨ret_int HZ.out.symm, HX1.out⟩
theorem rBit_any (k : Nat) (w : World) (hk : k ≤ 24) :
    Calls Tryd.prog 86 #[.int .i64 k] w fun e w' => e = .returned (.int .i64 ((2 ^ k : Nat) : Int)) ∧ w = w' := by
  go_enter Tryd.func86, Tryd.ntmps86
  go_wp2_with fail
  go_loop [3, 4] (fun vn vi => ∃ i n : Nat, i ≤ k ∧ vi = .int .i64 i ∧ vn = .int .i64 n ∧ n ≤ 16777216 ∧ Hid (n = 2 ^ i)) (fun _ vi => k - (intOf vi).toNat)
  case atStart => exact ⟨0, 1, Nat.zero_le _, rfl, rfl, by omega, Lib.hid rfl⟩
  case round =>
    obtain ⟨i, n, hi, rfl, rfl, hb, HN⟩ := hrel
    by_cases hlt : i < k
    · have hn2 : n * 2 = 2 ^ (i + 1) := by rw [HN.out, Nat.pow_succ]
      have hb2 : n * 2 ≤ 16777216 := by
        rw [hn2]
        exact Nat.pow_le_pow_right (by omega) (show i + 1 ≤ 24 by omega)
      have HN2 := Lib.hid hn2
      clear hn2
      go_wp2_with fail
      go_round
      case rel => exact ⟨i + 1, n * 2, by omega, by go_num, by go_num, hb2, Lib.hid HN2.out⟩
      case measure => simp [intOf]; omega
    · obtain rfl : i = k := by omega
      go_wp2_with fail
      go_ret
      exact ⟨ret_int (by rw [HN.out]; simp), rfl⟩
theorem rIn_any (m k : Nat) (w : World) (hm : m ≤ 16777216) (hk : k ≤ 1000) :
    Calls Tryd.prog 58 #[.int .i64 m, .int .i64 k] w fun e w' => e = .returned (.bool (Cd.inS m k)) ∧ w = w' := by
  go_enter Tryd.func58, Tryd.ntmps58
  go_wp2_with fail
  go_loop [0, 5] (fun vn vi => ∃ i n : Nat, i ≤ k ∧ vi = .int .i64 i ∧ vn = .int .i64 n ∧ n ≤ 16777216 ∧ Hid (n = m / 2 ^ i)) (fun _ vi => k - (intOf vi).toNat)
  case atStart => exact ⟨0, m, Nat.zero_le _, rfl, rfl, by omega, Lib.hid (by simp)⟩
  case round =>
    obtain ⟨i, n, hi, rfl, rfl, hb, HN⟩ := hrel
    by_cases hlt : i < k
    · have hn2 : n / 2 = m / 2 ^ (i + 1) := by rw [HN.out, Nat.div_div_eq_div_mul, Nat.pow_succ]
      have HN2 := Lib.hid hn2
      clear hn2
      go_wp2_with fail
      go_round
      case rel => exact ⟨i + 1, n / 2, by omega, by go_num, by go_num, by omega, Lib.hid HN2.out⟩
      case measure => simp [intOf]; omega
    · obtain rfl : i = k := by omega
      have hs : Cd.inS m i = decide (n % 2 = 1) := by rw [Cd.inS_def, HN.out]
      have HS := Lib.hid hs
      clear hs
      rcases Nat.mod_two_eq_zero_or_one n with h | h
      · have h2 : ((n : Int) % 2 == 1) = false := by rw [beq_eq_false_iff_ne]; omega
        have hd : Cd.inS m i = false := by rw [HS.out]; simp [h]
        have HD := Lib.hid hd
        clear hd h
        go_wp2_with fail
        go_ret
        exact ⟨ret_bool (by rw [HD.out]), rfl⟩
      · have h2 : ((n : Int) % 2 == 1) = true := by rw [beq_iff_eq]; omega
        have hd : Cd.inS m i = true := by rw [HS.out]; simp [h]
        have HD := Lib.hid hd
        clear hd h
        go_wp2_with fail
        go_ret
        exact ⟨ret_bool (by rw [HD.out]), rfl⟩
theorem rIsSet_any (d gl : Int) (gs : List (List Int)) (m : Int) (G : Value) (w : World) (hG : Rs (Rs RI) w G gs) (hn : gs.length ≤ 1000000) :
    Calls Tryd.prog 53 #[.agg #[.int .i64 d, G, .int .i64 gl], .int .i64 m] w fun e w' => e = .returned (.bool (Cd.isSet d gs gl m)) ∧ Ext w w' := by
  have hx0 := (Ext.refl w).alloc (.cells #[.int .i64 d, G, .int .i64 gl] 24)
  have HX := Lib.hid (And.intro hx0 (Rs.ext (Rs.ext RI.ext) _ _ _ _ hx0 hG))
  obtain ⟨A, c, rfl, hl⟩ := hG.form
  clear hG hx0
  have hp := Cd.pieces_lt d gl gs
  by_cases h0 : 0 ≤ m
  · obtain ⟨p, hpe⟩ : ∃ p : Nat, Cd.pieces d gs gl = p := ⟨(Cd.pieces d gs gl).toNat, by omega⟩
    have hs : Cd.isSet d gs gl m = decide (m < ((2 ^ p : Nat) : Int)) := by
      unfold Cd.isSet
      rw [hpe, Int.toNat_natCast]
      simp [h0]
    have HS := Lib.hid (And.intro hs hpe)
    have hp24 : p ≤ 24 := by omega
    clear hs hpe hp
    go_enter Tryd.func53, Tryd.ntmps53
    go_wp2_with fail
    refine (rPieces_any d gl gs _ _ HX.out.2 hn).mono ?_
    rintro e w1 ⟨rfl, hx1⟩
    rw [HS.out.2]
    have HX1 := Lib.hid (HX.out.1.trans hx1)
    clear hx1
    go_wp2_with fail
    refine (rBit_any p _ hp24).mono ?_
    rintro e w2 ⟨rfl, rfl⟩
    obtain ⟨q, hq⟩ : ∃ q : Nat, 2 ^ p = q := ⟨_, rfl⟩
    have hs := HS.out.1
    rw [hq] at hs ⊢
    have HS2 := Lib.hid hs
    clear hs hq
    go_wp2_with fail
    go_ret
    exact ⟨ret_bool HS2.out.symm, HX1.out⟩
  · have hs : Cd.isSet d gs gl m = false := by
      unfold Cd.isSet
      simp [h0]
    have HS := Lib.hid hs
    clear hs hp
    go_enter Tryd.func53, Tryd.ntmps53
    go_wp2_with fail
    go_ret
    exact ⟨ret_bool HS.out.symm, HX.out.1⟩
end Go.Proofs.YtggfkpalkdkbdaaDoor

/- THE WALKS over the specification of the field: Mul, Inv, Exp. -/
namespace Go.Proofs.YtggfkpalkdkbdaaDoor
open Go.RowKit
theorem rmul_nat (a b : Nat) (ha : a < 256) (hb : b < 256) (w : World) :
    Calls Tryd.prog 103 #[.int .u8 a, .int .u8 b] w fun e w' => e = .returned (.int .u8 (Gf.mulN a b : Nat)) ∧ w = w' := by
  go_enter Tryd.func103, Tryd.ntmps103
  go_wp2_with fail
  go_loop [5, 6, 7] (fun vx vy vs => ∃ X Y S j : Nat, X < 256 ∧ Y < 256 ∧ Y < 2 ^ j ∧ S < 256 ∧ vx = .int .i64 X ∧ vy = .int .i64 Y ∧ vs = .int .i64 S ∧ Hid (S ^^^ Gf.mulK j X Y = Gf.mulN a b)) (fun _ vy _ => (intOf vy).toNat)
  case atStart => exact ⟨a, b, 0, 8, ha, hb, hb, by omega, rfl, rfl, rfl, by simp [Hid, Gf.mulN_def]⟩
  case round =>
    obtain ⟨X, Y, S, j, hX, hY, hj, hS, rfl, rfl, rfl, HM⟩ := hrel
    by_cases hp : 0 < Y
    · obtain ⟨j, rfl⟩ : ∃ i, j = i + 1 := ⟨j - 1, by
        rcases Nat.eq_zero_or_pos j with rfl | h
        · simp at hj; omega
        · omega⟩
      have hj' : Y / 2 < 2 ^ j := by rw [Nat.pow_succ] at hj; omega
      have HJ := Lib.hid hj'
      have hsx := Gf.xor_lt hS hX
      have hxt := Gf.xt_lt hX
      have e4 : bits .xor .i64 (S : Int) (X : Int) = ((S ^^^ X : Nat) : Int) := xor64 S X (by omega) (by omega)
      have e5 : 255 < 2 * X → bits .xor .i64 (2 * (X : Int)) 285 = ((Gf.xt X : Nat) : Int) := fun h => by
        have := xor64 (2 * X) 285 (by omega) (by omega)
        rw [Gf.xt, show X / 128 = 1 from by omega]
        simpa using this
      have e6 : ¬ 255 < 2 * X → 2 * (X : Int) = ((Gf.xt X : Nat) : Int) := fun h => by
        rw [Gf.xt, show X / 128 = 0 from by omega]
        simp
      have E4 := Lib.hid e4
      have E6 := Lib.hid e6
      clear e4 e6 hj hj'
      have e1 : Y % 2 = 1 → Hid ((S ^^^ X) ^^^ Gf.mulK j (Gf.xt X) (Y / 2) = Gf.mulN a b) := fun h => by
        have := HM.out
        rw [Gf.mulK, h, Nat.one_mul, ← Nat.xor_assoc] at this
        exact this
      have e2 : Y % 2 = 0 → Hid (S ^^^ Gf.mulK j (Gf.xt X) (Y / 2) = Gf.mulN a b) := fun h => by
        have := HM.out
        rw [Gf.mulK, h, Nat.zero_mul, Nat.zero_xor] at this
        exact this
      have E1 := Lib.hid e1
      have E2 := Lib.hid e2
      clear e1 e2
      by_cases hbit : Y % 2 = 1
      · have HB := Lib.hid hbit
        have e0 : (((Y : Int) % 2) == 1) = true := by
          have : ((Y : Int) % 2) = 1 := by omega
          rw [this]; rfl
        clear hbit
        by_cases hbig : 255 < 2 * X
        · have E5 := Lib.hid (e5 hbig)
          clear e5
          go_wp2_with fail
          go_round
          case rel => exact ⟨Gf.xt X, Y / 2, S ^^^ X, j, hxt, by omega, HJ.out, hsx, by rw [E5.out], by go_num, by rw [E4.out], E1.out HB.out⟩
          case measure => simp [intOf]; omega
        · have E5 := Lib.hid (E6.out hbig)
          clear e5
          go_wp2_with fail
          go_round
          case rel => exact ⟨Gf.xt X, Y / 2, S ^^^ X, j, hxt, by omega, HJ.out, hsx, by rw [E5.out], by go_num, by rw [E4.out], E1.out HB.out⟩
          case measure => simp [intOf]; omega
      · have HB := Lib.hid (show Y % 2 = 0 by omega)
        have e0 : (((Y : Int) % 2) == 1) = false := by
          have : ((Y : Int) % 2) = 0 := by omega
          rw [this]; rfl
        clear hbit
        by_cases hbig : 255 < 2 * X
        · have E5 := Lib.hid (e5 hbig)
          clear e5
          go_wp2_with fail
          go_round
          case rel => exact ⟨Gf.xt X, Y / 2, S, j, hxt, by omega, HJ.out, hS, by rw [E5.out], by go_num, rfl, E2.out HB.out⟩
          case measure => simp [intOf]; omega
        · have E5 := Lib.hid (E6.out hbig)
          clear e5
          go_wp2_with fail
          go_round
          case rel => exact ⟨Gf.xt X, Y / 2, S, j, hxt, by omega, HJ.out, hS, by rw [E5.out], by go_num, rfl, E2.out HB.out⟩
          case measure => simp [intOf]; omega
    · obtain rfl : Y = 0 := by omega
      have hz : ∀ j X, Gf.mulK j X 0 = 0 := by
        intro j
        induction j with
        | zero => intro X; rfl
        | succ j ih => intro X; rw [Gf.mulK, show 0 / 2 = 0 from rfl, ih]; simp
      have hfin : S = Gf.mulN a b := by have := HM.out; rw [hz, Nat.xor_zero] at this; exact this
      have HF := Lib.hid hfin
      clear hfin hz hj
      go_wp2_with fail
      go_ret
      exact ⟨ret_int (by rw [← HF.out]), rfl⟩
theorem rmul_any (a b : Int) (w : World) (ha : 0 ≤ a) (ha' : a < 256) (hb : 0 ≤ b) (hb' : b < 256) :
    Calls Tryd.prog 103 #[.int .u8 a, .int .u8 b] w fun e w' => e = .returned (.int .u8 (Gf.mulI a b)) ∧ w = w' := by
  obtain ⟨a, rfl⟩ := Int.eq_ofNat_of_zero_le ha
  obtain ⟨b, rfl⟩ := Int.eq_ofNat_of_zero_le hb
  rw [Gf.mulI_nat]
  exact rmul_nat a b (by omega) (by omega) w
theorem rexponent (n : Int) (w : World) (h1 : -9223372036854775808 ≤ n) (h2 : n ≤ 9223372036854775807) :
    Calls Tryd.prog 107 #[.int .i64 n] w fun e w' => e = .returned (.int .i64 (n % 255)) ∧ w = w' := by
  have e : (n.tmod 255 + 255) % 255 = n % 255 ∧ -255 < n.tmod 255 ∧ n.tmod 255 < 255 := by
    by_cases h0 : 0 ≤ n
    · rw [Int.tmod_eq_emod_of_nonneg h0]; omega
    · have h := Int.neg_tmod (-n) 255
      rw [Int.neg_neg, Int.tmod_eq_emod_of_nonneg (a := -n) (by omega)] at h
      rw [h]; omega
  have h3 := e.2.1
  have h4 := e.2.2
  have E := Lib.hid e.1
  clear e
  go_enter Tryd.func107, Tryd.ntmps107
  go_wp2_with fail
  go_ret
  exact ⟨ret_int E.out, rfl⟩
set_option maxRecDepth 100000 in
theorem rinv_nat (a : Nat) (ha : a < 256) (w : World) (h0 : a ≠ 0) :
    Calls Tryd.prog 104 #[.int .u8 a] w fun e w' => e = .returned (.int .u8 (Gf.invN a : Nat)) ∧ w = w' := by
  have hi := Gf.invN_lt a
  have hm := Gf.mul_invN ha h0
  have hne : Gf.invN a ≠ 0 := fun h => by rw [h, Gf.mulN_zero2] at hm; omega
  have hpos : 1 ≤ Gf.invN a := by omega
  have HM := Lib.hid hm
  have HZ := Lib.hid h0
  clear hm h0 hne
  go_enter Tryd.func104, Tryd.ntmps104
  go_wp2_with fail
  go_loop [3] (fun vb => ∃ b : Nat, 1 ≤ b ∧ b ≤ Gf.invN a ∧ vb = .int .i64 b) (fun vb => (256 - intOf vb).toNat)
  case atStart => exact ⟨1, by omega, hpos, rfl⟩
  case round =>
    obtain ⟨b, hb1, hb2, rfl⟩ := hrel
    by_cases he : b = Gf.invN a
    · have e1 : (Gf.mulI (a : Int) (b : Int) == 1) = true := by
        rw [Gf.mulI_nat]
        rw [he, HM.out]; rfl
      have HE := Lib.hid he
      clear he
      go_wp2_with fail
      refine (rmul_any _ _ _ (by omega) (by omega) (by omega) (by omega)).mono ?_
      rintro e w' ⟨rfl, rfl⟩
      go_wp2_with fail
      go_ret
      exact ⟨ret_int (by rw [← HE.out]), rfl⟩
    · have e1 : (Gf.mulI (a : Int) (b : Int) == 1) = false := by
        rw [Gf.mulI_nat]
        rw [beq_eq_false_iff_ne]
        intro e
        have e' : Gf.mulN a b = 1 := by omega
        apply he
        have h3 := Gf.mulN_assoc (Gf.invN_lt a) ha (c := b) (by omega)
        rw [e', Gf.mulN_comm (Gf.invN_lt a) ha, HM.out, Gf.mulN_one1 (by omega), Gf.mulN_one2 (Gf.invN_lt a)] at h3
        exact h3
      have HE := Lib.hid he
      have hlt : b < Gf.invN a := by omega
      clear he
      go_wp2_with fail
      refine (rmul_any _ _ _ (by omega) (by omega) (by omega) (by omega)).mono ?_
      rintro e w' ⟨rfl, rfl⟩
      go_wp2_with fail
      go_round
      case rel => exact ⟨b + 1, by omega, by omega, by go_num⟩
      case measure => simp [intOf]; omega
theorem rexp (n : Int) (w : World) (h1 : -9223372036854775808 ≤ n) (h2 : n ≤ 9223372036854775807) :
    Calls Tryd.prog 102 #[.int .i64 n] w fun e w' => e = .returned (.int .u8 (Gf.powN 2 (n % 255).toNat : Nat)) ∧ w = w' := by
  obtain ⟨N, hN⟩ : ∃ N : Nat, (N : Int) = n % 255 := ⟨(n % 255).toNat, by omega⟩
  have hN' : N < 255 := by omega
  have HN := Lib.hid hN
  clear hN
  go_enter Tryd.func102, Tryd.ntmps102
  go_wp2_with fail
  go_loop [3, 4] (fun vx vk => ∃ k : Nat, k ≤ N ∧ vk = .int .i64 k ∧ vx = .int .u8 (Gf.powN 2 k : Nat)) (fun _ vk => N - (intOf vk).toNat)
  case atStart => exact ⟨0, by omega, rfl, by rw [Gf.powN_nil]; rfl⟩
  case round =>
    obtain ⟨k, hk, rfl, rfl⟩ := hrel
    have HP := Lib.hid (Gf.powN_lt (a := 2) k)
    by_cases hlt : k < N
    · go_wp2_with fail
      refine (rexponent n _ h1 h2).mono ?_
      rw [← HN.out]
      rintro e w' ⟨rfl, rfl⟩
      go_wp2_with fail
      refine (rmul_any _ _ _ (by omega) (by have := HP.out; omega) (by omega) (by omega)).mono ?_
      rintro e w' ⟨rfl, rfl⟩
      go_wp2_with fail
      go_round
      case rel => exact ⟨k + 1, by omega, by go_num, by first | rw [Gf.powN_step2] | rw [Gf.powN_step]⟩
      case measure => simp [intOf]; omega
    · obtain rfl : k = N := by omega
      go_wp2_with fail
      refine (rexponent n _ h1 h2).mono ?_
      rw [← HN.out]
      rintro e w' ⟨rfl, rfl⟩
      go_wp2_with fail
      go_ret
      exact ⟨ret_int (by rw [← HN.out]; rfl), rfl⟩
end Go.Proofs.YtggfkpalkdkbdaaDoor

/- THE WALKS over the strings of the field's specification. -/
namespace Go.Proofs.YtggfkpalkdkbdaaDoor
open Go.RowKit

theorem rat_any (s : ByteArray) (k : Nat) (w : World) :
    Calls Tryd.prog 108 #[.string s, .int .i64 k] w fun e w' => e = .returned (bv ((bl s).getD k 0)) ∧ w = w' := by
  by_cases hlt : k < s.size
  · rw [getD_bl s k hlt]
    go_enter Tryd.func108, Tryd.ntmps108
    go_wp2_with fail
    go_ret
    exact ⟨rfl, rfl⟩
  · rw [getD_bl_out s k (by omega)]
    go_enter Tryd.func108, Tryd.ntmps108
    go_wp2_with fail
    go_ret
    exact ⟨rfl, rfl⟩

theorem rmul_u8 (a b : UInt8) (w : World) : Calls Tryd.prog 103 #[bv a, bv b] w fun e w' => e = .returned (bv (Gf.mul a b)) ∧ w = w' := by
  refine (rmul_any _ _ w (by omega) (by have := Gf.lt8 a; omega) (by omega) (by have := Gf.lt8 b; omega)).mono ?_
  rintro e w' ⟨rfl, rfl⟩
  exact ⟨by rw [Gf.mulI_toNat], rfl⟩

theorem map_range_succ (g : Nat → UInt8) (k : Nat) : ((List.range k).map g).map bv ++ [bv (g k)] = ((List.range (k + 1)).map g).map bv := by
  rw [List.range_succ]; simp

theorem rscale_any (c : UInt8) (s : ByteArray) (w : World) (hs : s.size ≤ 1000000) :
    Calls Tryd.prog 106 #[bv c, .string s] w fun e w' => e = .returned (.string (sb (Gf.scale c (bl s)))) ∧ Ext w w' := by
  have hr : (List.range s.size).map (fun k => Gf.mul c ((bl s).getD k 0)) = Gf.scale c (bl s) := by
    unfold Gf.scale
    apply List.ext_getElem
    · simp [size_bl]
    · intro k h1 h2
      simp
      congr 1
      simp at h2
      rw [List.getElem?_eq_getElem h2]; rfl
  have HR := Lib.hid hr
  clear hr
  go_enter Tryd.func106, Tryd.ntmps106
  go_wp2_with fail
  go_loopw [5, 6] (fun vo vk wr => ∃ (k : Nat) (A : Option Addr) (cp : Nat), k ≤ s.size ∧ vk = .int .i64 k ∧ vo = .slice A k cp ∧ Hid (Ext w wr ∧ wr.ownsRow w.heap.size 5 1 (.slice A k cp) k (((List.range k).map fun k => Gf.mul c ((bl s).getD k 0)).map bv))) (fun _ vk _ => s.size - (intOf vk).toNat)
  case atStart => exact ⟨0, none, 0, Nat.zero_le _, rfl, rfl, Ext.refl _, World.ownsRow_nil _ _ _ _⟩
  case round =>
    obtain ⟨k, A, cp, hk, rfl, rfl, HR2⟩ := hrel
    by_cases hlt : k < s.size
    · have hg := getD_bl s k hlt
      have HG := Lib.hid hg
      clear hg
      go_wp2_with fail
      refine (rmul_u8 _ _ _).mono ?_
      rw [← HG.out]
      rintro e w' ⟨rfl, rfl⟩
      go_wp2_with (at_builtin; refine wpl_append_new w 48 5 rfl _ _ rfl Tryd.underlying48 info_u8 rfl rfl HR2.out.2 HR2.out.1 rfl rfl (by omega) (by omega) ?_; intro A' c' w2 ho hx _)
      have ho := (map_range_succ (fun k => Gf.mul c ((bl s).getD k 0)) k) ▸ ho
      have HO := Lib.hid (And.intro hx ho)
      clear hx ho
      go_wp2_with fail
      go_roundw
      case rel => exact ⟨k + 1, A', c', by omega, by go_num, rfl, HO.out⟩
      case measure => simp [intOf]; omega
    · obtain rfl : k = s.size := by omega
      have hrun := str_u8 (n := s.size) (c := cp) (A := A) (w := wr) (l := (List.range s.size).map fun k => Gf.mul c ((bl s).getD k 0)) (by simp) (own_rd HR2.out.2)
      go_wp2_with fail
      go_ret
      exact ⟨by rw [← HR.out]; rfl, HR2.out.1⟩

theorem rsum_any (a b : ByteArray) (w : World) (ha : a.size ≤ 1000000) (hb : b.size ≤ 1000000) :
    Calls Tryd.prog 105 #[.string a, .string b] w fun e w' => e = .returned (.string (sb (Gf.sum (bl a) (bl b)))) ∧ Ext w w' := by
  obtain ⟨n, hn⟩ : ∃ n, n = max a.size b.size := ⟨_, rfl⟩
  have hr : (List.range n).map (fun k => (bl a).getD k 0 ^^^ (bl b).getD k 0) = Gf.sum (bl a) (bl b) := by
    unfold Gf.sum
    rw [← size_bl, ← size_bl, ← hn]
  have hn1 : n ≤ 1000000 := by omega
  have hmax : (if a.size < b.size then (b.size : Int) else (a.size : Int)) = (n : Int) := by split <;> omega
  have HR := Lib.hid hr
  have HN := Lib.hid hn
  clear hr hn
  go_enter Tryd.func105, Tryd.ntmps105
  go_wp2_with fail
  go_loopw [5, 6] (fun vo vk wr => ∃ (k : Nat) (A : Option Addr) (cp : Nat), k ≤ n ∧ vk = .int .i64 k ∧ vo = .slice A k cp ∧ Hid (Ext w wr ∧ wr.ownsRow w.heap.size 5 1 (.slice A k cp) k (((List.range k).map fun k => (bl a).getD k 0 ^^^ (bl b).getD k 0).map bv))) (fun _ vk _ => n - (intOf vk).toNat)
  case atStart => exact ⟨0, none, 0, Nat.zero_le _, rfl, rfl, Ext.refl _, World.ownsRow_nil _ _ _ _⟩
  case round =>
    obtain ⟨k, A, cp, hk, rfl, rfl, HR2⟩ := hrel
    by_cases hlt : k < n
    · have hx : bits .xor .u8 (((bl a).getD k 0).toNat : Int) (((bl b).getD k 0).toNat : Int) = (((bl a).getD k 0 ^^^ (bl b).getD k 0).toNat : Int) := by
        rw [u8_xor_nat _ _ (Gf.lt8 _) (Gf.lt8 _), UInt8.toNat_xor]
      have HX := Lib.hid hx
      clear hx
      go_wp2_with fail
      refine (rat_any _ _ _).mono ?_
      rintro e w' ⟨rfl, rfl⟩
      go_wp2_with fail
      refine (rat_any _ _ _).mono ?_
      rintro e w' ⟨rfl, rfl⟩
      go_wp2_with (at_builtin; refine wpl_append_new w 48 5 rfl _ _ rfl Tryd.underlying48 info_u8 rfl rfl HR2.out.2 HR2.out.1 rfl rfl (by omega) (by omega) ?_; intro A' c' w2 ho hx _)
      have ho' : w2.ownsRow w.heap.size 5 1 (.slice A' (k + 1) c') (k + 1) (((List.range (k + 1)).map fun k => (bl a).getD k 0 ^^^ (bl b).getD k 0).map bv) := by
        rw [← map_range_succ (fun k => (bl a).getD k 0 ^^^ (bl b).getD k 0)]
        have e : Value.int .u8 (bits .xor .u8 (((bl a).getD k 0).toNat : Int) (((bl b).getD k 0).toNat : Int)) = bv ((bl a).getD k 0 ^^^ (bl b).getD k 0) := by rw [HX.out]
        rw [← e]
        exact ho
      have HO := Lib.hid (And.intro hx ho')
      clear hx ho ho'
      go_wp2_with fail
      go_roundw
      case rel => exact ⟨k + 1, A', c', by omega, by go_num, rfl, HO.out⟩
      case measure => simp [intOf]; omega
    · obtain rfl : k = n := by omega
      have hrun := str_u8 (n := k) (c := cp) (A := A) (w := wr) (l := (List.range k).map fun k => (bl a).getD k 0 ^^^ (bl b).getD k 0) (by simp) (own_rd HR2.out.2)
      go_wp2_with fail
      go_ret
      exact ⟨by rw [← HR.out]; rfl, HR2.out.1⟩

/-- The sum of the scaled strings, from the first n of them, as the specification adds them. -/
def rcomb (coef : List UInt8) (parts : List (List UInt8)) : Nat → List UInt8
  | 0 => []
  | n + 1 => Gf.sum (rcomb coef parts n) (Gf.scale (coef.getD n 0) (parts.getD n []))
theorem sum_length (s t : List UInt8) : (Gf.sum s t).length = max s.length t.length := by simp [Gf.sum]
theorem rcomb_at (coef : List UInt8) (parts : List (List UInt8)) (L : Nat) : ∀ i, (∀ j, j < i → (parts.getD j []).length = L) →
    (rcomb coef parts i).length = (if i = 0 then 0 else L) ∧ ∀ k, k < L → (rcomb coef parts i).getD k 0 = Gf.comb coef parts k i
  | 0, _ => ⟨rfl, fun k _ => rfl⟩
  | i + 1, h => by
    obtain ⟨h1, h2⟩ := rcomb_at coef parts L i (fun j hj => h j (by omega))
    have hL := h i (by omega)
    have hlen : (rcomb coef parts (i + 1)).length = L := by
      rw [rcomb, sum_length, h1, Gf.scale, List.length_map, hL]
      split <;> omega
    refine ⟨by rw [hlen, if_neg (by omega)], fun k hk => ?_⟩
    have e1 : (rcomb coef parts (i + 1)).getD k 0 = (rcomb coef parts i).getD k 0 ^^^ (Gf.scale (coef.getD i 0) (parts.getD i [])).getD k 0 := by
      have hk' : k < max (rcomb coef parts i).length (Gf.scale (coef.getD i 0) (parts.getD i [])).length := by rw [Gf.scale, List.length_map, hL]; omega
      rw [rcomb, Gf.sum, List.getD_eq_getElem?_getD, List.getElem?_map, List.getElem?_eq_getElem (by simpa using hk')]
      simp
    have e2 : (Gf.scale (coef.getD i 0) (parts.getD i [])).getD k 0 = Gf.mul (coef.getD i 0) ((parts.getD i []).getD k 0) := by
      rw [Gf.scale, List.getD_eq_getElem?_getD, List.getElem?_map, List.getElem?_eq_getElem (by omega), List.getD_eq_getElem?_getD (l := parts.getD i []), List.getElem?_eq_getElem (by omega)]
      rfl
    rw [e1, e2, h2 k hk, Gf.comb]
theorem rcomb_combine (coef : List UInt8) (parts : List (List UInt8)) (n : Nat) (hn : n = coef.length) (hm : n = parts.length) (h : ∀ j, j < n → (parts.getD j []).length = (parts.headD []).length) :
    rcomb coef parts n = Gf.combine coef parts := by
  obtain ⟨h1, h2⟩ := rcomb_at coef parts _ n h
  by_cases h0 : n = 0
  · subst h0
    rw [if_pos rfl, List.length_eq_zero_iff] at h1
    have : parts = [] := List.length_eq_zero_iff.1 hm.symm
    rw [h1, Gf.combine, this]
    rfl
  · rw [if_neg h0] at h1
    apply List.ext_getElem
    · rw [h1]; simp [Gf.combine]
    · intro k hk hk'
      have := h2 k (by omega)
      rw [List.getD_eq_getElem?_getD, List.getElem?_eq_getElem hk] at this
      simp only [Option.getD_some] at this
      rw [this, hn]
      simp [Gf.combine]

theorem rcombine_any (coef : List UInt8) (parts : List (List UInt8)) (A B : Option Addr) (n m ca cb : Nat) (w : World) (hn : n = coef.length) (hm : m = parts.length)
    (hl : m ≤ 1000000) (hs : ∀ p ∈ parts, p.length ≤ 1000000) (hA : Rd w A (coef.map bv)) (hB : Rd w B (parts.map fun p => .string (sb p))) :
    Calls Tryd.prog 91 #[.slice A n ca, .slice B m cb] w fun e w' => e = .returned (.agg #[.string (sb (Gf.combS coef parts)), .int .i64 (Gf.combE coef parts)]) ∧ Ext w w' := by
  by_cases hne : n = m
  · subst hne
    have HA := Lib.hid hA
    have HB := Lib.hid hB
    have HS := Lib.hid hs
    have HN := Lib.hid (And.intro hn hm)
    have he0 : (w.alloc (.cells #[.string { data := #[] }, .int .i64 0] 130)).heap[w.heap.size]? = some (.cells #[.string { data := #[] }, .int .i64 0] 130 (0, 0)) := heap_new w _
    have HE0 := Lib.hid he0
    obtain ⟨p0, hp0⟩ : ∃ p0, parts.headD [] = p0 := ⟨_, rfl⟩
    have HP := Lib.hid hp0
    clear hA hB hs hn hm he0 hp0
    go_enter Tryd.func91, Tryd.ntmps91
    go_wp2_with fail
    go_loopw [5, 6] (fun vo vi wr => ∃ i : Nat, i ≤ n ∧ vi = .int .i64 i ∧ vo = .string (sb (rcomb coef parts i)) ∧
        Hid (Ext w wr ∧ wr.heap[w.heap.size]? = some (.cells #[.string { data := #[] }, .int .i64 0] 130 (0, 0)) ∧ ∀ j, j < i → (parts.getD j []).length = p0.length)) (fun _ vi _ => n - (intOf vi).toNat)
    case atStart => exact ⟨0, Nat.zero_le _, rfl, rfl, (Ext.refl _).alloc _, HE0.out, fun j hj => absurd hj (by omega)⟩
    case round =>
      obtain ⟨i, hi, rfl, rfl, HJ⟩ := hrel
      have hblk := HJ.out.2.1
      have hc0 : wr.cell? ⟨w.heap.size, 0, none⟩ = some (.string { data := #[] }) := by simp [World.cell?, hblk]
      have hc1 : wr.cell? ⟨w.heap.size, 1, none⟩ = some (.int .i64 0) := by simp [World.cell?, hblk]
      have hf : ∀ k, wr.frozen? ⟨w.heap.size, k, none⟩ = false := by intro k; simp [World.frozen?, hblk]
      have hf0 := hf 0
      have hf1 := hf 1
      clear hf hblk
      by_cases hlt : i < n
      · have hlp : i < parts.length := by rw [← HN.out.2]; exact hlt
        have hlc : i < coef.length := by rw [← HN.out.1]; exact hlt
        obtain ⟨bd, rfl, _, hb⟩ := (HB.out.ext HJ.out.1).at (k := i) (by simpa using hlp)
        obtain ⟨ad, rfl, _, ha⟩ := (HA.out.ext HJ.out.1).at (k := i) (by simpa using hlc)
        rw [List.getElem_map] at hb ha
        have hb0 : wr.cell? bd = some (.string (sb p0)) := by
          have h := (HB.out.ext HJ.out.1).all (k := 0) (by simp; omega)
          rw [List.getElem_map] at h
          rw [← HP.out]
          cases parts with
          | nil => simp at hlp
          | cons p l => exact h
        have hsz : parts[i].length ≤ 1000000 := HS.out _ (List.getElem_mem _)
        have hgd : parts.getD i [] = parts[i] := by rw [List.getD_eq_getElem?_getD, List.getElem?_eq_getElem hlp]; rfl
        have hcd : coef.getD i 0 = coef[i] := by rw [List.getD_eq_getElem?_getD, List.getElem?_eq_getElem hlc]; rfl
        have HG := Lib.hid (And.intro hgd hcd)
        have hpos : 0 < n := by omega
        clear hgd hcd
        by_cases he : parts[i].length = p0.length
        · have e1 : ((parts[i].length : Int) != (p0.length : Int)) = false := by rw [he]; simp
          have hll : (rcomb coef parts i).length ≤ 1000000 := by
            have := (rcomb_at coef parts p0.length i HJ.out.2.2).1
            rw [this]
            split <;> omega
          have HL := Lib.hid hll
          clear hll
          have HE := Lib.hid he
          clear he
          go_wp2_with fail
          go_quiet (fail)
          go_wp2_with fail
          go_region_held3 (fun w' => w'.cell? (ad.add i) = some (bv coef[i]) ∧ w'.cell? (bd.add i) = some (.string (sb parts[i]))) (first | exact ⟨hx1.cell ha, hx1.cell hb⟩ | exact ⟨hx2.cell (hx1.cell ha), hx2.cell (hx1.cell hb)⟩ | go_keep)
            (first
              | (go_at_call 106; refine (rscale_any coef[i] (sb parts[i]) _ (by rw [size_sb]; exact hsz)).mono ?_; rintro e w1 ⟨rfl, hx1⟩)
              | (go_at_call 105; refine (rsum_any (sb (rcomb coef parts i)) (sb (Gf.scale coef[i] (bl (sb parts[i])))) _ (by rw [size_sb]; exact HL.out) (by rw [size_sb, Gf.scale, List.length_map]; exact hsz)).mono ?_; rintro e w2 ⟨rfl, hx2⟩))
          have hx3 : Ext w w2 := (((HJ.out.1.drewN nq).drew).trans hx1).trans hx2
          have hbk := hx2.heap (hx1.heap (g := w.heap.size) (o := .cells #[.string { data := #[] }, .int .i64 0] 130 (0, 0)) HJ.out.2.1)
          have HX := Lib.hid (And.intro hx3 hbk)
          clear hx1 hx2 hx3 hbk
          go_wp2_with fail
          go_roundw
          case rel => exact ⟨i + 1, by omega, by go_num, by rw [rcomb, HG.out.1, HG.out.2], HX.out.1, HX.out.2, fun j hj => by
            by_cases hji : j = i
            · rw [hji, HG.out.1, HE.out]
            · exact HJ.out.2.2 j (by omega)⟩
          case measure => simp [intOf]; omega
        · have e1 : ((parts[i].length : Int) != (p0.length : Int)) = true := by rw [bne_iff_ne]; omega
          have hno : Gf.combOk coef parts = false := by
            rw [Bool.eq_false_iff]
            intro h
            unfold Gf.combOk at h
            rw [Bool.and_eq_true, List.all_eq_true] at h
            exact he (by rw [← HP.out]; simpa using h.2 _ (List.getElem_mem hlp))
          have HO := Lib.hid hno
          clear he hno
          go_wp2_with fail
          go_quiet (fail)
          go_wp2_with fail
          have hx : Ext w (((wr.drewN nq).setCell ⟨w.heap.size, 0, none⟩ (.string { data := #[] })).setCell ⟨w.heap.size, 1, none⟩ (.int .i64 1)) := ((HJ.out.1.drewN nq).setCell (Nat.le_refl _) _).setCell (Nat.le_refl _) _
          exact bodyPost_ret (v := .agg #[.string (sb []), .int .i64 1]) (by simp [results, Tryd.results91, go_sem, hc0, hc1]; rfl) rfl ⟨by rw [Gf.combS_no HO.out, Gf.combE_no HO.out], hx⟩
      · obtain rfl : i = n := by omega
        have hok : Gf.combOk coef parts = true := by
          unfold Gf.combOk
          rw [Bool.and_eq_true, List.all_eq_true]
          refine ⟨by simp [← HN.out.1, ← HN.out.2], fun p hp => ?_⟩
          obtain ⟨j, hj, rfl⟩ := List.getElem_of_mem hp
          have := HJ.out.2.2 j (by rw [HN.out.2]; exact hj)
          rw [List.getD_eq_getElem?_getD, List.getElem?_eq_getElem hj, ← HP.out] at this
          simpa using this
        have hrc := rcomb_combine coef parts i HN.out.1 HN.out.2 (by rw [HP.out]; exact HJ.out.2.2)
        have HO := Lib.hid (And.intro hok hrc)
        clear hok hrc
        go_wp2_with fail
        have hx : Ext w ((wr.setCell ⟨w.heap.size, 0, none⟩ (.string (sb (rcomb coef parts i)))).setCell ⟨w.heap.size, 1, none⟩ (.int .i64 0)) := (HJ.out.1.setCell (Nat.le_refl _) _).setCell (Nat.le_refl _) _
        exact bodyPost_ret (v := .agg #[.string (sb (rcomb coef parts i)), .int .i64 0]) (by simp [results, Tryd.results91, go_sem, hc0, hc1]) rfl ⟨by rw [Gf.combS_ok HO.out.1, Gf.combE_ok HO.out.1, HO.out.2], hx⟩
  · have h1 : ((n : Int) != (m : Int)) = true := by rw [bne_iff_ne]; omega
    have h' := Gf.combOk_ne (coef := coef) (parts := parts) (by omega)
    rw [Gf.combS_no h', Gf.combE_no h']
    clear hne hn hm hs hA hB h'
    go_enter Tryd.func91, Tryd.ntmps91
    go_wp2_with fail
    exact bodyPost_ret (v := .agg #[.string (sb []), .int .i64 1]) (by simp [results, Tryd.results91, go_sem]; rfl) rfl ⟨rfl, (Ext.refl _).alloc _⟩
end Go.Proofs.YtggfkpalkdkbdaaDoor

/- THE WALKS over the specification of codes: row, Rows, part. -/
namespace Cd
open Gf
/-- A coefficient of a piece's row. -/
def rowAt (d : Nat) (gs : List (List Int)) (k i : Nat) : UInt8 := if k < d then unitAt k i else if k < d + gs.length then inAt (setOf 0 (gs.getD (k - d) [])) i else gloAt (k - d - gs.length) i
theorem rowAt_unit {d k : Nat} (gs : List (List Int)) (i : Nat) (h : k < d) : rowAt d gs k i = unitAt k i := if_pos h
theorem rowAt_in {d k : Nat} {gs : List (List Int)} (i : Nat) (h : ¬ k < d) (h2 : k < d + gs.length) : rowAt d gs k i = inAt (setOf 0 (gs.getD (k - d) [])) i := by rw [rowAt, if_neg h, if_pos h2]
theorem rowAt_glo {d k : Nat} {gs : List (List Int)} (i : Nat) (h2 : ¬ k < d + gs.length) : rowAt d gs k i = gloAt (k - d - gs.length) i := by rw [rowAt, if_neg (by omega), if_neg h2]
theorem rows_get {d gl k : Nat} {gs : List (List Int)} (h : k < d + gs.length + gl) : (rows d gs gl).getD k [] = (List.range d).map (rowAt d gs k) := by
  have hr : ∀ g : Nat → UInt8, (∀ i, rowAt d gs k i = g i) → rowOf d g = (List.range d).map (rowAt d gs k) := fun g hg => by
    unfold rowOf
    congr 1
    funext i
    rw [hg i]
  rw [← rows_parts, List.getD_eq_getElem?_getD]
  by_cases h1 : k < d
  · rw [List.getElem?_append_left (by rw [List.length_append, rows1_length]; omega), List.getElem?_append_left (by rw [rows1_length]; exact h1)]
    unfold rows1
    rw [List.getElem?_map, List.getElem?_range h1]
    exact hr _ fun i => rowAt_unit gs i h1
  · by_cases h2 : k < d + gs.length
    · rw [List.getElem?_append_left (by rw [List.length_append, rows1_length, rows2_length]; exact h2), List.getElem?_append_right (by rw [rows1_length]; omega), rows1_length]
      unfold rows2
      rw [List.getElem?_map, List.getElem?_eq_getElem (by omega)]
      refine hr _ fun i => ?_
      rw [rowAt_in i h1 h2, List.getD_eq_getElem?_getD, List.getElem?_eq_getElem (by omega)]
      rfl
    · rw [List.getElem?_append_right (by rw [List.length_append, rows1_length, rows2_length]; omega), List.length_append, rows1_length, rows2_length]
      unfold rows3
      rw [List.getElem?_map, List.getElem?_range (by omega)]
      refine hr _ fun i => ?_
      rw [rowAt_glo i h2]
      show gloAt _ i = gloAt _ i
      rw [show k - d - gs.length = k - (d + gs.length) from by omega]
theorem inAt_set {d : Nat} {g : List Int} (hg : ∀ i ∈ g, 0 ≤ i ∧ i < (d : Int)) (i : Nat) : inAt (setOf 0 g) i = if (i : Int) ∈ g then 1 else 0 := by
  have h := bit_set g 0 i fun j hj => (hg j hj).1
  unfold inAt
  have h0 : ¬ bitAt 0 i = 1 := by simp [bitAt]
  by_cases hm : (i : Int) ∈ g
  · rw [if_pos hm, h.2 (.inr hm)]; rfl
  · rw [if_neg hm]
    have h1 : bitAt (setOf 0 g) i ≠ 1 := fun e => by rcases h.1 e with h2 | h2; exact h0 h2; exact hm h2
    have h2 : bitAt (setOf 0 g) i = 0 := by rcases bit_01 (setOf 0 g) i with h2 | h2; exact h2; exact absurd h2 h1
    rw [h2]; rfl
theorem glo_val {i j : Nat} : (gloAt j i).toNat = powN 2 (i * (j + 1) % 255) := by
  unfold gloAt
  rw [UInt8.toNat_ofNat', Nat.mod_eq_of_lt (powN_lt _)]
attribute [irreducible] rowAt
end Cd
namespace Go.Proofs.YtggfkpalkdkbdaaDoor
open Go.RowKit
theorem own_older {w : World} {B B' e s n : Nat} {v : Value} {xs : List Value} (h : w.ownsRow B' e s v n xs) (hb : B ≤ B') : w.ownsRow B e s v n xs := by
  refine ⟨h.1, ?_⟩
  rcases h.2 with h2 | ⟨g, cap, cur, hv, hB, rest⟩
  · exact .inl h2
  · exact .inr ⟨g, cap, cur, hv, Nat.le_trans hb hB, rest⟩
theorem Rd.range {w : World} {A : Option Addr} {d : Nat} {g : Nat → UInt8} {l : List UInt8} (h : Rd w A (((List.range d).map g).map bv)) (hl : (List.range d).map g = l) : Rd w A (l.map bv) := hl ▸ h

set_option maxHeartbeats 4000000 in
theorem rRow_ok (d gl k : Nat) (gs : List (List Int)) (G : Value) (w : World) (hG : Rs (Rs RI) w G gs) (h0 : Cd.check d gs gl = 0) (hk : k < d + gs.length + gl) :
    Calls Tryd.prog 87 #[.agg #[.int .i64 d, G, .int .i64 gl], .int .i64 k] w fun e w' => ∃ A c, e = .returned (.slice A d c) ∧ Ext w w' ∧ w'.ownsRow w.heap.size 5 1 (.slice A d c) d (((List.range d).map (Cd.rowAt d gs k)).map bv) := by
  have hx0 := (Ext.refl w).alloc (.cells #[.int .i64 d, G, .int .i64 gl] 24)
  have HX := Lib.hid (And.intro hx0 (Rs.ext (Rs.ext RI.ext) _ _ _ _ hx0 hG))
  obtain ⟨GA, Gc, rfl, hgl⟩ := hG.form
  have hck := Cd.check_ok h0
  obtain ⟨k1, k2, k3, k4, k5, k6⟩ := hck
  have HGO := Lib.hid (Cd.check_groups_ok h0)
  clear hG hx0 h0
  go_enter Tryd.func87, Tryd.ntmps87
  go_wp2_with fail
  go_loopw [5, 6] (fun vo vi wr => ∃ (i : Nat) (A : Option Addr) (cp : Nat), i ≤ d ∧ vi = .int .i64 i ∧ vo = .slice A i cp ∧ Hid (Ext (w.alloc (.cells #[.int .i64 d, .slice GA gs.length Gc, .int .i64 gl] 24)) wr ∧ wr.ownsRow (w.alloc (.cells #[.int .i64 d, .slice GA gs.length Gc, .int .i64 gl] 24)).heap.size 5 1 (.slice A i cp) i (((List.range i).map (Cd.rowAt d gs k)).map bv))) (fun _ vi _ => d - (intOf vi).toNat)
  case atStart => exact ⟨0, none, 0, Nat.zero_le _, rfl, rfl, Lib.hid (And.intro (Ext.refl _) (World.ownsRow_nil _ _ _ _))⟩
  case round =>
    obtain ⟨i, A, cp, hi, rfl, rfl, HR⟩ := hrel
    have hc0 : wr.cell? ⟨w.heap.size, 0, none⟩ = some (.int .i64 d) := HR.out.1.cell (by go_simp)
    have hc1 : wr.cell? ⟨w.heap.size, 1, none⟩ = some (.slice GA gs.length Gc) := HR.out.1.cell (by go_simp)
    by_cases hlt : i < d
    · by_cases hkd : k < d
      · by_cases hik : i = k
        · have e1 : ((i : Int) == (k : Int)) = true := by rw [beq_iff_eq]; omega
          have hval : Value.int .u8 1 = bv (Cd.rowAt d gs k i) := by rw [Cd.rowAt_unit gs i hkd, hik, Cd.unitAt_eq]; rfl
          clear hik
          have HVAL := Lib.hid hval
          clear hval
          go_wp2_with (at_builtin; refine wpl_append_new (w.alloc (.cells #[.int .i64 d, .slice GA gs.length Gc, .int .i64 gl] 24)) 48 5 rfl _ _ rfl Tryd.underlying48 info_u8 rfl rfl HR.out.2 HR.out.1 rfl rfl (by omega) (by omega) ?_; intro A' c' w2 ho hx _)
          have ho' : w2.ownsRow (w.alloc (.cells #[.int .i64 d, .slice GA gs.length Gc, .int .i64 gl] 24)).heap.size 5 1 (.slice A' (i + 1) c') (i + 1) (((List.range (i + 1)).map (Cd.rowAt d gs k)).map bv) := by
            rw [← map_range_succ (Cd.rowAt d gs k), ← HVAL.out]
            exact ho
          have HO := Lib.hid (And.intro hx ho')
          clear hx ho ho' hc0 hc1
          go_wp2_with fail
          go_roundw
          case rel => exact ⟨i + 1, A', c', by omega, by go_num, rfl, HO.out⟩
          case measure => simp [intOf]; omega
        · have e1 : ((i : Int) == (k : Int)) = false := by rw [beq_eq_false_iff_ne]; omega
          have hval : Value.int .u8 0 = bv (Cd.rowAt d gs k i) := by rw [Cd.rowAt_unit gs i hkd, Cd.unitAt_ne hik]; rfl
          clear hik
          have HVAL := Lib.hid hval
          clear hval
          go_wp2_with (at_builtin; refine wpl_append_new (w.alloc (.cells #[.int .i64 d, .slice GA gs.length Gc, .int .i64 gl] 24)) 48 5 rfl _ _ rfl Tryd.underlying48 info_u8 rfl rfl HR.out.2 HR.out.1 rfl rfl (by omega) (by omega) ?_; intro A' c' w2 ho hx _)
          have ho' : w2.ownsRow (w.alloc (.cells #[.int .i64 d, .slice GA gs.length Gc, .int .i64 gl] 24)).heap.size 5 1 (.slice A' (i + 1) c') (i + 1) (((List.range (i + 1)).map (Cd.rowAt d gs k)).map bv) := by
            rw [← map_range_succ (Cd.rowAt d gs k), ← HVAL.out]
            exact ho
          have HO := Lib.hid (And.intro hx ho')
          clear hx ho ho' hc0 hc1
          go_wp2_with fail
          go_roundw
          case rel => exact ⟨i + 1, A', c', by omega, by go_num, rfl, HO.out⟩
          case measure => simp [intOf]; omega
      · by_cases hkg : k < d + gs.length
        · have hlk : k - d < gs.length := by omega
          obtain ⟨ad, u, rfl, hcell, hu⟩ := (Rs.ext (Rs.ext RI.ext) _ _ _ _ HR.out.1 HX.out.2).at hlk
          obtain ⟨B, cB, rfl, hlB⟩ := hu.form
          have hgb := HGO.out gs[k - d] (List.getElem_mem hlk)
          have hra := Cd.rowAt_in (gs := gs) i hkd hkg
          rw [getD_get hlk] at hra
          obtain ⟨g, hg⟩ : ∃ g, gs[k - d] = g := ⟨_, rfl⟩
          rw [hg] at hcell hu hlB hgb hra
          rw [Cd.inAt_set (d := d) hgb] at hra
          have HU := Lib.hid hu
          have HRA := Lib.hid hra
          clear hu hgb hra hg
          by_cases hm : (i : Int) ∈ g
          · have e4 : decide ((i : Int) ∈ g) = true := by simpa using hm
            have hval : Value.int .u8 1 = bv (Cd.rowAt d gs k i) := by rw [HRA.out, if_pos hm]; rfl
            clear hm
            have HVAL := Lib.hid hval
            clear hval
            go_wp2_with fail
            refine (rHas_any g i _ _ _ _ HU.out).mono ?_
            rintro e w1 ⟨rfl, rfl⟩
            rw [e4]
            go_wp2_with (at_builtin; refine wpl_append_new (w.alloc (.cells #[.int .i64 d, .slice (some ad) gs.length Gc, .int .i64 gl] 24)) 48 5 rfl _ _ rfl Tryd.underlying48 info_u8 rfl rfl HR.out.2 HR.out.1 rfl rfl (by omega) (by omega) ?_; intro A' c' w2 ho hx _)
            have ho' : w2.ownsRow (w.alloc (.cells #[.int .i64 d, .slice (some ad) gs.length Gc, .int .i64 gl] 24)).heap.size 5 1 (.slice A' (i + 1) c') (i + 1) (((List.range (i + 1)).map (Cd.rowAt d gs k)).map bv) := by
              rw [← map_range_succ (Cd.rowAt d gs k), ← HVAL.out]
              exact ho
            have HO := Lib.hid (And.intro hx ho')
            clear hx ho ho' hc0 hc1
            go_wp2_with fail
            go_roundw
            case rel => exact ⟨i + 1, A', c', by omega, by go_num, rfl, HO.out⟩
            case measure => simp [intOf]; omega
          · have e4 : decide ((i : Int) ∈ g) = false := by simpa using hm
            have hval : Value.int .u8 0 = bv (Cd.rowAt d gs k i) := by rw [HRA.out, if_neg hm]; rfl
            clear hm
            have HVAL := Lib.hid hval
            clear hval
            go_wp2_with fail
            refine (rHas_any g i _ _ _ _ HU.out).mono ?_
            rintro e w1 ⟨rfl, rfl⟩
            rw [e4]
            go_wp2_with (at_builtin; refine wpl_append_new (w.alloc (.cells #[.int .i64 d, .slice (some ad) gs.length Gc, .int .i64 gl] 24)) 48 5 rfl _ _ rfl Tryd.underlying48 info_u8 rfl rfl HR.out.2 HR.out.1 rfl rfl (by omega) (by omega) ?_; intro A' c' w2 ho hx _)
            have ho' : w2.ownsRow (w.alloc (.cells #[.int .i64 d, .slice (some ad) gs.length Gc, .int .i64 gl] 24)).heap.size 5 1 (.slice A' (i + 1) c') (i + 1) (((List.range (i + 1)).map (Cd.rowAt d gs k)).map bv) := by
              rw [← map_range_succ (Cd.rowAt d gs k), ← HVAL.out]
              exact ho
            have HO := Lib.hid (And.intro hx ho')
            clear hx ho ho' hc0 hc1
            go_wp2_with fail
            go_roundw
            case rel => exact ⟨i + 1, A', c', by omega, by go_num, rfl, HO.out⟩
            case measure => simp [intOf]; omega
        · obtain ⟨j, hj⟩ : ∃ j, k - d - gs.length = j := ⟨_, rfl⟩
          obtain ⟨m, hm⟩ : ∃ m, i * (j + 1) = m := ⟨_, rfl⟩
          have hj4 : j < 4 := by omega
          have hi16 : i < 16 := by omega
          have hm64 : m < 64 := by
            have := Nat.mul_le_mul (show i ≤ 15 by omega) (show j + 1 ≤ 4 by omega)
            omega
          have hmul : (i : Int) * ((k : Int) - (d : Int) - (gs.length : Int) + 1) = (m : Int) := by
            rw [← hm, Int.natCast_mul]
            congr 1
            omega
          have hval : Value.int .u8 (Gf.powN 2 m : Nat) = bv (Cd.rowAt d gs k i) := by
            rw [Cd.rowAt_glo i hkg, hj]
            show _ = Value.int .u8 ((Cd.gloAt j i).toNat : Int)
            rw [Cd.glo_val, hm, Nat.mod_eq_of_lt (by omega)]
          have hm2 : ((m : Int) % 255).toNat = m := by omega
          clear hj hm
          have HVAL := Lib.hid hval
          clear hval
          go_wp2_with fail
          refine (rexp (m : Int) _ (by omega) (by omega)).mono ?_
          rintro e w1 ⟨rfl, rfl⟩
          rw [hm2]
          go_wp2_with (at_builtin; refine wpl_append_new (w.alloc (.cells #[.int .i64 d, .slice GA gs.length Gc, .int .i64 gl] 24)) 48 5 rfl _ _ rfl Tryd.underlying48 info_u8 rfl rfl HR.out.2 HR.out.1 rfl rfl (by omega) (by omega) ?_; intro A' c' w2 ho hx _)
          have ho' : w2.ownsRow (w.alloc (.cells #[.int .i64 d, .slice GA gs.length Gc, .int .i64 gl] 24)).heap.size 5 1 (.slice A' (i + 1) c') (i + 1) (((List.range (i + 1)).map (Cd.rowAt d gs k)).map bv) := by
            rw [← map_range_succ (Cd.rowAt d gs k), ← HVAL.out]
            exact ho
          have HO := Lib.hid (And.intro hx ho')
          clear hx ho ho' hc0 hc1
          go_wp2_with fail
          go_roundw
          case rel => exact ⟨i + 1, A', c', by omega, by go_num, rfl, HO.out⟩
          case measure => simp [intOf]; omega
    · obtain rfl : i = d := by omega
      go_wp2_with fail
      go_ret
      exact ⟨A, cp, rfl, HX.out.1.trans HR.out.1, own_older HR.out.2 HX.out.1.size⟩
end Go.Proofs.YtggfkpalkdkbdaaDoor

/- THE WALKS over the specification of codes: Rows, part, Encode, SameRows, SameTexts, Few. -/
namespace Cd
/-- A data piece of a chunk, as the specification cuts it. -/
def partR (data : List UInt8) (i sz : Nat) : List UInt8 := (List.range sz).map fun j => data.getD (i * sz + j) 0
theorem partR_cut {d i : Nat} {data : List UInt8} (hd : 0 < d) (hi : i < d) : partR data i (sizeN d data.length) = (cuts d data).getD i [] := by
  have hl := cuts_even hd data hi
  apply List.ext_getElem
  · rw [hl]; simp [partR]
  · intro x h1 h2
    have hx : x < sizeN d data.length := by simpa [partR] using h1
    have h3 : ((cuts d data).getD i []).getD x 0 = ((cuts d data).getD i [])[x] := Go.Proofs.YtggfkpalkdkbdaaDoor.getD_get h2
    rw [← h3, cuts_get hi, cutAt_get hx]
    have h4 : (partR data i (sizeN d data.length))[x] = data.getD (i * sizeN d data.length + x) 0 := by simp [partR]
    rw [h4]
    unfold fill
    rw [List.getD_eq_getElem?_getD, List.getD_eq_getElem?_getD, List.getElem?_append]
    split
    · rfl
    · rename_i hge
      rw [List.getElem?_eq_none (by omega), List.getElem?_replicate]
      split <;> rfl
end Cd
namespace Go.Proofs.YtggfkpalkdkbdaaDoor
open Go.RowKit
/-- A row of bytes that a call has made. -/
def byteRow (A : Option Addr) (c : Nat) (r : List UInt8) : LRow := ⟨.slice A r.length c, 5, 1, r.length, r.map bv⟩
/-- Rows of bytes that a call has made, and the list of them. -/
def RowsOwn (w0 w : World) (A : Option Addr) (n c : Nat) (rs : List (List UInt8)) : Prop :=
  ∃ L : List LRow, n = rs.length ∧ L.length = rs.length ∧ (∀ (j : Nat) (r : List UInt8), rs[j]? = some r → ∃ A2 c2, L[j]? = some (byteRow A2 c2 r)) ∧ Owns w0 w (⟨.slice A n c, 48, 1, n, L.map (·.v)⟩ :: L)
/-- The same with one row more, that is not in the list yet. -/
def RowsMore (w0 w : World) (A : Option Addr) (n c : Nat) (rs : List (List UInt8)) (A2 : Option Addr) (c2 : Nat) (r : List UInt8) : Prop :=
  ∃ L : List LRow, n = rs.length ∧ L.length = rs.length ∧ (∀ (j : Nat) (r : List UInt8), rs[j]? = some r → ∃ A2 c2, L[j]? = some (byteRow A2 c2 r)) ∧ Owns w0 w ((⟨.slice A n c, 48, 1, n, L.map (·.v)⟩ :: L) ++ [byteRow A2 c2 r])
theorem RowsOwn.nil (w : World) : RowsOwn w w none 0 0 [] := ⟨[], rfl, rfl, fun j r h => by simp at h, Owns.start w (by intro r hr; simp at hr; subst hr; exact ⟨rfl, rfl, rfl⟩)⟩
theorem RowsOwn.next {w0 w w' : World} {A : Option Addr} {n c : Nat} {rs : List (List UInt8)} (h : RowsOwn w0 w A n c rs) (hx : Ext w w') : RowsOwn w0 w' A n c rs := by
  obtain ⟨L, h1, h2, h3, h4⟩ := h
  exact ⟨L, h1, h2, h3, h4.next hx⟩
theorem RowsOwn.ext {w0 w : World} {A : Option Addr} {n c : Nat} {rs : List (List UInt8)} (h : RowsOwn w0 w A n c rs) : Ext w0 w := by
  obtain ⟨L, h1, h2, h3, h4⟩ := h
  exact h4.ext
theorem RowsOwn.older {w wb wr : World} {A : Option Addr} {n c : Nat} {rs : List (List UInt8)} (h : RowsOwn wb wr A n c rs) (hx : Ext w wb) : RowsOwn w wr A n c rs := by
  obtain ⟨L, h1, h2, h3, h4⟩ := h
  exact ⟨L, h1, h2, h3, h4.older hx⟩
theorem RowsOwn.more {w0 w w2 : World} {A A2 : Option Addr} {n c c2 : Nat} {rs : List (List UInt8)} {r : List UInt8} (h : RowsOwn w0 w A n c rs) (hx : Ext w w2) (ho : w2.ownsRow w.heap.size 5 1 (.slice A2 r.length c2) r.length (r.map bv)) : RowsMore w0 w2 A n c rs A2 c2 r := by
  obtain ⟨L, h1, h2, h3, h4⟩ := h
  exact ⟨L, h1, h2, h3, h4.behind hx ho⟩
theorem RowsOwn.rs {w0 w : World} {A : Option Addr} {n c : Nat} {rs : List (List UInt8)} (h : RowsOwn w0 w A n c rs) (hl : rs.length ≤ 9223372036854775807) (hw : ∀ r ∈ rs, r.length ≤ 9223372036854775807) : Rs (Rs RB) w (.slice A n c) rs := by
  obtain ⟨L, rfl, h2, h3, h4⟩ := h
  refine ⟨A, c, rfl, hl, fun i r hi => ?_⟩
  obtain ⟨A2, c2, hL⟩ := h3 i r hi
  have hv : (L.map (·.v))[i]? = some (.slice A2 r.length c2) := by rw [List.getElem?_map, hL]; rfl
  obtain ⟨ad, e1, _, e3⟩ := h4.rd 0 rfl i _ hv
  exact ⟨ad, _, e1, e3, Rs.of_rd (h4.rd (i + 1) (n := r.length) hL) (hw r (List.mem_of_getElem? hi))⟩
/-- 'out = append(out, r)': a row of bytes that is the call's own. -/
theorem wpl_append_row {P : Program} {w0 w : World} {e' : TypeId} {ops : Array Oper} {rest : List Oper} {o : Oper} {a : Act} {Q : Exit → Act → World → Prop} (t : TypeId) (hgd : o.guard = none) (s x : Operand)
    (ho : o.op = .call { callee := .builtin .append, args := #[s, x], argTypes := #[t, t] })
    {z : Value} (ht : P.underlying t = some (.slice 48)) (hi : (P.info? 48).map (fun i => (i.zero, i.size, i.bytes)) = some (some z, 1, 24)) (hz1 : z.cells.size = 1)
    {A A2 : Option Addr} {n c c2 m : Nat} {rs : List (List UInt8)} {r : List UInt8} (h : RowsMore w0 w A n c rs A2 c2 r) (hm : m = r.length) (hs : a.eval s = .slice A n c)
    (hx : a.eval x = .slice (some ⟨w.heap.size, 0, none⟩) 1 1) (hn : n < 1000000000000)
    (hK : ∀ A' c' w', RowsOwn w0 w' A' (n + 1) c' (rs ++ [r]) → wpList P ops Q rest (a.put o.dst (.slice A' (n + 1) c')) w') :
    wpList P ops Q (o :: rest) a (w.alloc (.cells #[.slice A2 m c2] e')) := by
  subst hm
  obtain ⟨L, h1, h2, h3, h4⟩ := h
  refine wpl_append_owns (u := .slice A2 r.length c2) t 48 hgd s x ho ht hi hz1 (h4.push1 (e := e')) 0 rfl hs hx (cell_of_row _ _ 0 #[_] e' (0, 0) (heap_new w _)) rfl hn (by decide) ?_
  intro g cap w' hO _
  refine hK _ _ _ ⟨L ++ [byteRow A2 c2 r], by simp [h1], by simp [h2], fun j q hj => ?_, ?_⟩
  · rw [List.getElem?_append] at hj ⊢
    rw [h2]
    split
    · rename_i hlt
      rw [if_pos hlt] at hj
      exact h3 j q hj
    · rename_i hlt
      rw [if_neg hlt] at hj
      cases hk : j - rs.length with
      | zero =>
        rw [hk] at hj
        simp at hj
        subst hj
        exact ⟨A2, c2, rfl⟩
      | succ k => rw [hk] at hj; simp at hj
  · have h5 := hO.sublist (L' := ⟨.slice (some ⟨g, 0, none⟩) (n + 1) cap, 48, 1, n + 1, L.map (·.v) ++ [.slice A2 r.length c2]⟩ :: (L ++ [byteRow A2 c2 r])) (by simp)
    simpa [byteRow] using h5
theorem rs_nil {α : Type} (R : World → Value → α → Prop) (w : World) : Rs R w (.slice none 0 0) [] := ⟨none, 0, rfl, by simp, fun i x h => by simp at h⟩
def rowsR (d : Nat) (gs : List (List Int)) (k : Nat) : List (List UInt8) := (List.range k).map fun j => (List.range d).map (Cd.rowAt d gs j)
theorem rowsR_succ (d : Nat) (gs : List (List Int)) (k : Nat) : rowsR d gs (k + 1) = rowsR d gs k ++ [(List.range d).map (Cd.rowAt d gs k)] := by simp [rowsR, List.range_succ]
theorem rowsR_all (d gl : Nat) (gs : List (List Int)) : rowsR d gs (d + gs.length + gl) = Cd.rows d gs gl := by
  apply List.ext_getElem
  · rw [Cd.rows_len]; simp [rowsR]
  · intro k h1 h2
    have := Cd.rows_get (d := d) (gl := gl) (gs := gs) (k := k) (by rw [← Cd.rows_len]; exact h2)
    rw [getD_get h2] at this
    rw [this]
    simp [rowsR]
theorem rowsR_len (d : Nat) (gs : List (List Int)) (k : Nat) : (rowsR d gs k).length = k := by simp [rowsR]
set_option maxHeartbeats 4000000 in
theorem rRows_any (d gl : Int) (gs : List (List Int)) (G : Value) (w : World) (hG : Rs (Rs RI) w G gs) (hn : gs.length ≤ 1000000) :
    Calls Tryd.prog 76 #[.agg #[.int .i64 d, G, .int .i64 gl]] w fun e w' => ∃ v, e = .returned v ∧ Rs (Rs RB) w' v (Cd.rowsOf d gs gl) ∧ Ext w w' := by
  have hx0 := (Ext.refl w).alloc (.cells #[.int .i64 d, G, .int .i64 gl] 24)
  have HX := Lib.hid (And.intro hx0 (Rs.ext (Rs.ext RI.ext) _ _ _ _ hx0 hG))
  obtain ⟨GA, Gc, rfl, hgl⟩ := hG.form
  by_cases h0 : Cd.check d gs gl = 0
  · have hck := Cd.check_ok h0
    obtain ⟨dn, rfl⟩ : ∃ n : Nat, d = n := ⟨d.toNat, by omega⟩
    obtain ⟨gn, rfl⟩ : ∃ n : Nat, gl = n := ⟨gl.toNat, by omega⟩
    obtain ⟨p, hp⟩ : ∃ p, dn + gs.length + gn = p := ⟨_, rfl⟩
    have hpc : Cd.pieces dn gs gn = (p : Int) := by rw [Cd.pieces_ok h0]; omega
    have hfin : rowsR dn gs p = Cd.rowsOf dn gs gn := by rw [Cd.rowsOf_ok h0, ← hp, rowsR_all]; rfl
    have hp24 : p ≤ 24 := by omega
    have hd16 : dn ≤ 16 := by omega
    have HP := Lib.hid (And.intro h0 (And.intro hp (And.intro hpc hfin)))
    clear hG hx0 h0 hck hp hpc hfin
    go_enter Tryd.func76, Tryd.ntmps76
    go_wp2_with fail
    go_loopw [3, 4] (fun vo vi wr => ∃ (i : Nat) (A : Option Addr) (cp : Nat), i ≤ p ∧ vi = .int .i64 i ∧ vo = .slice A i cp ∧ Hid (RowsOwn (w.alloc (.cells #[.int .i64 dn, .slice GA gs.length Gc, .int .i64 gn] 24)) wr A i cp (rowsR dn gs i))) (fun _ vi _ => p - (intOf vi).toNat)
    case atStart => exact ⟨0, none, 0, Nat.zero_le _, rfl, rfl, Lib.hid (RowsOwn.nil _)⟩
    case round =>
      obtain ⟨i, A, cp, hi, rfl, rfl, HR0⟩ := hrel
      have HR := Lib.hid (And.intro HR0.out.ext HR0.out)
      clear HR0
      have hc0 : wr.cell? ⟨w.heap.size, 0, none⟩ = some (.int .i64 dn) := HR.out.1.cell (by go_simp)
      have hc1 : wr.cell? ⟨w.heap.size, 1, none⟩ = some (.slice GA gs.length Gc) := HR.out.1.cell (by go_simp)
      have hc2 : wr.cell? ⟨w.heap.size, 2, none⟩ = some (.int .i64 gn) := HR.out.1.cell (by go_simp)
      have HC := Lib.hid (And.intro hc0 (And.intro hc1 hc2))
      go_wp2_with fail
      refine (rPieces_any dn gn gs _ _ (Rs.ext (Rs.ext RI.ext) _ _ _ _ HR.out.1 HX.out.2) hn).mono ?_
      rintro e w1 ⟨rfl, hx1⟩
      rw [HP.out.2.2.1]
      have hd0 : w1.cell? ⟨w.heap.size, 0, none⟩ = some (.int .i64 dn) := hx1.cell HC.out.1
      have hd1 : w1.cell? ⟨w.heap.size, 1, none⟩ = some (.slice GA gs.length Gc) := hx1.cell HC.out.2.1
      have hd2 : w1.cell? ⟨w.heap.size, 2, none⟩ = some (.int .i64 gn) := hx1.cell HC.out.2.2
      have HX1 := Lib.hid hx1
      clear hx1 hc0 hc1 hc2
      by_cases hlt : i < p
      · go_wp2_with fail
        refine (rRow_ok dn gn i gs _ _ (Rs.ext (Rs.ext RI.ext) _ _ _ _ (HR.out.1.trans HX1.out) HX.out.2) HP.out.1 (by rw [HP.out.2.1]; exact hlt)).mono ?_
        rintro e w2 ⟨A2, c2, rfl, hx2, ho2⟩
        have hmo : RowsMore (w.alloc (.cells #[.int .i64 dn, .slice GA gs.length Gc, .int .i64 gn] 24)) w2 A i cp (rowsR dn gs i) A2 c2 ((List.range dn).map (Cd.rowAt dn gs i)) := (HR.out.2.next HX1.out).more hx2 (by simpa using ho2)
        have HMO := Lib.hid hmo
        clear hx2 ho2 hmo hd0 hd1 hd2
        go_wp2_with (at_builtin; refine wpl_append_row 76 rfl _ _ rfl Tryd.underlying76 info_bytes rfl HMO.out (by simp) rfl rfl (by omega) ?_; intro A' c' w3 hO)
        have HO := Lib.hid hO
        clear hO
        go_wp2_with fail
        go_roundw
        case rel => exact ⟨i + 1, A', c', by omega, by go_num, rfl, by rw [rowsR_succ]; exact HO.out⟩
        case measure => simp [intOf]; omega
      · obtain rfl : i = p := by omega
        have HF := Lib.hid ((HR.out.2.next HX1.out).rs (by rw [rowsR_len]; omega) (fun r hr => by
          obtain ⟨j, _, rfl⟩ := List.mem_map.1 hr
          simp; omega))
        clear hd0 hd1 hd2
        go_wp2_with fail
        go_ret
        refine ⟨_, rfl, ?_, HX.out.1.trans (HR.out.1.trans HX1.out)⟩
        rw [← HP.out.2.2.2]
        exact HF.out
  · have hp := Cd.pieces_no h0
    have hr := Cd.rowsOf_no h0
    have HP := Lib.hid (And.intro hp hr)
    clear hG hx0 h0 hp hr
    go_enter Tryd.func76, Tryd.ntmps76
    go_wp2_with fail
    go_loopw [3, 4] (fun vo vi wr => vi = .int .i64 0 ∧ vo = .slice none 0 0 ∧ Hid (Ext (w.alloc (.cells #[.int .i64 d, .slice GA gs.length Gc, .int .i64 gl] 24)) wr)) (fun _ _ _ => 0)
    case atStart => exact ⟨rfl, rfl, Lib.hid (Ext.refl _)⟩
    case round =>
      obtain ⟨rfl, rfl, HR⟩ := hrel
      have hc0 : wr.cell? ⟨w.heap.size, 0, none⟩ = some (.int .i64 d) := HR.out.cell (by go_simp)
      have hc1 : wr.cell? ⟨w.heap.size, 1, none⟩ = some (.slice GA gs.length Gc) := HR.out.cell (by go_simp)
      have hc2 : wr.cell? ⟨w.heap.size, 2, none⟩ = some (.int .i64 gl) := HR.out.cell (by go_simp)
      go_wp2_with fail
      refine (rPieces_any d gl gs _ _ (Rs.ext (Rs.ext RI.ext) _ _ _ _ HR.out HX.out.2) hn).mono ?_
      rintro e w1 ⟨rfl, hx1⟩
      rw [HP.out.1]
      have HX1 := Lib.hid hx1
      clear hx1 hc0 hc1 hc2
      go_wp2_with fail
      go_ret
      refine ⟨_, rfl, ?_, HX.out.1.trans (HR.out.trans HX1.out)⟩
      rw [HP.out.2]
      exact rs_nil _ _
set_option maxRecDepth 100000 in
set_option maxHeartbeats 1000000 in
theorem rPart_any (data : List UInt8) (i sz : Nat) (w : World) (hi : i ≤ 16) (hs : sz ≤ 4096) (hl : data.length ≤ 1000000) :
    Calls Tryd.prog 90 #[.string (sb data), .int .i64 i, .int .i64 sz] w fun e w' => e = .returned (.string (sb (Cd.partR data i sz))) ∧ Ext w w' := by
  obtain ⟨lo, hlo⟩ : ∃ lo, i * sz = lo := ⟨_, rfl⟩
  obtain ⟨hh, hhi⟩ : ∃ hh, (i + 1) * sz = hh := ⟨_, rfl⟩
  have q1 : (i : Int) * (sz : Int) = (lo : Int) := by rw [← hlo, Int.natCast_mul]
  have q2 : ((i : Int) + 1) * (sz : Int) = (hh : Int) := by rw [← hhi, Int.natCast_mul]; rfl
  have q3 : hh = lo + sz := by rw [← hhi, ← hlo, Nat.succ_mul]
  have q4 : lo ≤ 65536 := by
    have := Nat.mul_le_mul hi hs
    rw [hlo] at this
    omega
  have q5 : hh ≤ 69632 := by omega
  have hd : Cd.partR data i sz = (List.range sz).map fun j => data.getD (lo + j) 0 := by unfold Cd.partR; rw [hlo]
  have HD := Lib.hid hd
  have Q3 := Lib.hid q3
  clear hd hlo hhi
  go_enter Tryd.func90, Tryd.ntmps90
  go_wp2_with fail
  go_loopw [7, 8] (fun vo vk wr => ∃ (j k : Nat) (A : Option Addr) (cp : Nat), j ≤ sz ∧ k = lo + j ∧ vk = .int .i64 k ∧ vo = .slice A j cp ∧ Hid (Ext w wr ∧ wr.ownsRow w.heap.size 5 1 (.slice A j cp) j (((List.range j).map fun j => data.getD (lo + j) 0).map bv))) (fun _ vk _ => hh - (intOf vk).toNat)
  case atStart => exact ⟨0, lo, none, 0, Nat.zero_le _, rfl, rfl, rfl, Lib.hid (And.intro (Ext.refl _) (World.ownsRow_nil _ _ _ _))⟩
  case round =>
    obtain ⟨j, k, A, cp, hj, hk, rfl, rfl, HR⟩ := hrel
    by_cases hlt : k < hh
    · by_cases hkl : k < data.length
      · have hkl2 : k < (sb data).size := by rw [size_sb]; exact hkl
        have hv : Value.int .u8 ((sb data)[k].toNat : Int) = bv (data.getD (lo + j) 0) := by
          rw [get_bl (sb data) k hkl2, ← hk, getD_get hkl]; rfl
        have HV := Lib.hid (And.intro hv hk)
        have hj2 : j < sz := by omega
        clear hv hk q3
        go_wp2_with (at_builtin; refine wpl_append_new w 48 5 rfl _ _ rfl Tryd.underlying48 info_u8 rfl rfl HR.out.2 HR.out.1 rfl rfl (by omega) (by omega) ?_; intro A' c' w2 ho hx _)
        have ho' : w2.ownsRow w.heap.size 5 1 (.slice A' (j + 1) c') (j + 1) (((List.range (j + 1)).map fun j => data.getD (lo + j) 0).map bv) := by
          rw [← map_range_succ (fun j => data.getD (lo + j) 0), ← HV.out.1]
          exact ho
        have HO := Lib.hid (And.intro hx ho')
        clear hx ho ho'
        go_wp2_with fail
        go_roundw
        case rel => exact ⟨j + 1, k + 1, A', c', by omega, by have := HV.out.2; omega, by go_num, rfl, HO.out⟩
        case measure => simp [intOf]; omega
      · have hkl2 : ¬ k < (sb data).size := by rw [size_sb]; exact hkl
        have hv : Value.int .u8 0 = bv (data.getD (lo + j) 0) := by
          rw [← hk, List.getD_eq_getElem?_getD, List.getElem?_eq_none (by omega)]; rfl
        have HV := Lib.hid (And.intro hv hk)
        have hj2 : j < sz := by omega
        clear hv hk q3
        go_wp2_with (at_builtin; refine wpl_append_new w 48 5 rfl _ _ rfl Tryd.underlying48 info_u8 rfl rfl HR.out.2 HR.out.1 rfl rfl (by omega) (by omega) ?_; intro A' c' w2 ho hx _)
        have ho' : w2.ownsRow w.heap.size 5 1 (.slice A' (j + 1) c') (j + 1) (((List.range (j + 1)).map fun j => data.getD (lo + j) 0).map bv) := by
          rw [← map_range_succ (fun j => data.getD (lo + j) 0), ← HV.out.1]
          exact ho
        have HO := Lib.hid (And.intro hx ho')
        clear hx ho ho'
        go_wp2_with fail
        go_roundw
        case rel => exact ⟨j + 1, k + 1, A', c', by omega, by have := HV.out.2; omega, by go_num, rfl, HO.out⟩
        case measure => simp [intOf]; omega
    · obtain rfl : j = sz := by omega
      have hrun := str_u8 (n := j) (c := cp) (A := A) (w := wr) (l := (List.range j).map fun j => data.getD (lo + j) 0) (by simp) (own_rd HR.out.2)
      obtain ⟨res, hres⟩ : ∃ res, (List.range j).map (fun j => data.getD (lo + j) 0) = res := ⟨_, rfl⟩
      rw [hres] at hrun
      have HRES := Lib.hid hres
      clear hk hres
      go_wp2_with fail
      go_ret
      exact ⟨by rw [HD.out, HRES.out]; rfl, HR.out.1⟩
end Go.Proofs.YtggfkpalkdkbdaaDoor
