/- What the program's functions do, step by step: part G of the texts for this claim; no condition beyond what each theorem states. -/
import Derived.Deep.Matrix
import Derived.Lib.SmallJoins
import Derived.Deep.Slices
import Derived.SizedLaws
import Derived.Test.YtenafgphaceidaaDoorArriveBunA
import Derived.Test.YtenafgphaceidaaDoorArriveBunB
import Derived.Test.YtenafgphaceidaaDoorArriveBunC
import Derived.Test.YtenafgphaceidaaDoorArriveBunD
import Derived.Test.YtenafgphaceidaaDoorArriveBunE
import Derived.Test.YtenafgphaceidaaDoorArriveBunF
/- THE WALK over the law SumsArrive. -/
namespace Su
theorem carry_fail {f : Nat} {h : Ha} {l : List (Int × Int)} {coef : List UInt8} {ps : List (List UInt8)} (he : (carry f h l coef ps).2.2 ≠ 0) : ∃ x, x ≠ 0 ∧ carry f h l coef ps = ([], [], x) := by
  by_cases hc : check h = 0
  · cases hv : valid h l with
    | false => exact ⟨22, by decide, carry_bad hc hv⟩
    | true =>
      by_cases ha : Gf.combE coef ps ≠ 0 ∨ ps.length ≠ h.src.length
      · exact ⟨1, by decide, carry_arg hv ha⟩
      · rw [carry_ok hv ha] at he
        exact absurd rfl he
  · exact ⟨check h, hc, carry_err hc⟩
theorem carry_zero {f : Nat} {h : Ha} {l : List (Int × Int)} {coef : List UInt8} {ps : List (List UInt8)} (he : (carry f h l coef ps).2.2 = 0) : valid h l = true ∧ Gf.combOk coef ps = true ∧ ps.length = h.src.length := by
  by_cases hc : check h = 0
  · cases hv : valid h l with
    | false => rw [carry_bad hc hv] at he; exact absurd he (by decide)
    | true =>
      by_cases ha : Gf.combE coef ps ≠ 0 ∨ ps.length ≠ h.src.length
      · rw [carry_arg hv ha] at he; exact absurd he (by decide)
      · refine ⟨rfl, ?_, ?_⟩
        · cases h2 : Gf.combOk coef ps with
          | true => rfl
          | false => exact absurd (Or.inl (by rw [Gf.combE_no h2]; decide)) ha
        · exact Decidable.byContradiction fun h3 => ha (Or.inr h3)
  · rw [carry_err hc] at he; exact absurd he hc
end Su
namespace Go.Proofs.YtenafgphaceidaaDoor
open Go.RowKit
set_option maxRecDepth 100000 in
set_option maxHeartbeats 16000000 in
theorem law_arrive (h : Su.Ha) (l : List (Int × Int)) (coef : List UInt8) (ps : List (List UInt8)) (v u : Value) (CA PA : Option Addr) (ca cb : Nat) (w : World) (hT : Tab w) (hv : RH w v h) (hu : RL w u l) (hA : Rd w CA (coef.map bv)) (hB : Rd w PA (ps.map fun p => .string (sb p))) (hc64 : coef.length ≤ 140737488351232) (hp64 : ps.length ≤ 9223372036854775807) (hps : ∀ p ∈ ps, p.length ≤ 140737488351232) :
    Calls Tryd.prog 6 #[v, u, .slice CA coef.length ca, .slice PA ps.length cb] w fun e w' => e = .returned (.bool true) ∧ Ext w w' := by
  have hvv := hv
  obtain ⟨A, SA, c, d, rfl, hG, hS, hl1, hl2, hb1, hb2⟩ := hv.open
  have hx0 := (Ext.refl w).alloc (.cells #[.slice A h.pr.length c, .slice SA h.src.length d, .int .i64 h.tgt] 25)
  have HX0 := Lib.hid hx0
  obtain ⟨LA, e, rfl, hl3⟩ := hu.form
  have HV := Lib.hid (RH.ext _ _ _ _ hx0 hvv)
  have HL := Lib.hid (RL.ext _ _ _ _ hx0 hu)
  have HA := Lib.hid (hA.ext hx0)
  have HB := Lib.hid (hB.ext hx0)
  have HT := Lib.hid (hT.ext hx0)
  have HP := Lib.hid hps
  clear hv hvv hG hS hx0 hu hA hB hT hps
  go_enter Tryd.func6, Tryd.ntmps6
  by_cases q1 : 10 < h.src.length
  · go_wp2_with fail
    refine (sanity_any _ HT.out).mono ?_
    rintro ee w2 ⟨rfl, hx2⟩
    have HE := Lib.hid (HX0.out.trans hx2)
    clear hx2
    go_wp2_with fail
    go_ret
    exact ⟨rfl, HE.out⟩
  by_cases q2 : 10 < ps.length
  · go_wp2_with fail
    refine (sanity_any _ HT.out).mono ?_
    rintro ee w2 ⟨rfl, hx2⟩
    have HE := Lib.hid (HX0.out.trans hx2)
    clear hx2
    go_wp2_with fail
    go_ret
    exact ⟨rfl, HE.out⟩
  go_wp2_with fail
  refine (uCarry_any (h.pr.length + 1) h l coef ps _ _ CA PA ca cb _ HT.out HV.out HL.out HA.out HB.out hc64 HP.out (fun hval _ _ => Su.carry_term (Nat.le_refl _) _ _ _ hval)).mono ?_
  rintro ee w1 ⟨XA, xn, xc, rfl, hxs, hx1⟩
  obtain ⟨R, hR⟩ : ∃ R, Su.carry (h.pr.length + 1) h l coef ps = R := ⟨_, rfl⟩
  rw [hR] at hxs ⊢
  have d0 : w1.cell? ⟨w.heap.size, 0, none⟩ = some (.slice A h.pr.length c) := hx1.cell (by go_simp)
  have d1 : w1.cell? ⟨w.heap.size, 1, none⟩ = some (.slice SA h.src.length d) := hx1.cell (by go_simp)
  have d2 : w1.cell? ⟨w.heap.size, 2, none⟩ = some (.int .i64 h.tgt) := hx1.cell (by go_simp)
  have HD := Lib.hid (And.intro d0 (And.intro d1 d2))
  have HX1 := Lib.hid hx1
  clear hx1 d0 d1 d2
  by_cases her : R.2.2 = 0
  case neg =>
    obtain ⟨x, hx, hRx⟩ := Su.carry_fail (f := h.pr.length + 1) (h := h) (l := l) (coef := coef) (ps := ps) (by rw [hR]; exact her)
    rw [hR] at hRx
    subst hRx
    clear hR her
    have hxn := hxs.len
    simp only [List.length_nil] at hxn hxs ⊢
    subst hxn
    rw [show Value.string (sb []) = .string { data := #[] } from rfl]
    have hne : (x != 0) = true := by rw [bne_iff_ne]; exact hx
    clear hx hxs
    go_wp2_with fail
    refine (sanity_any _ (HT.out.ext HX1.out)).mono ?_
    rintro ee w2 ⟨rfl, hx2⟩
    have HE := Lib.hid ((HX0.out.trans HX1.out).trans hx2)
    clear hx2
    go_wp2_with fail
    go_ret
    exact ⟨rfl, HE.out⟩
  case pos =>
    obtain ⟨hval, hok, hlen⟩ := Su.carry_zero (f := h.pr.length + 1) (h := h) (l := l) (coef := coef) (ps := ps) (by rw [hR]; exact her)
    obtain ⟨xs, hxe, hxl, hxp⟩ := Su.carry_whole hval hok hlen (Nat.le_refl _)
    obtain rfl := hxe.symm.trans hR
    have hcE := Gf.combE_ok hok
    obtain ⟨S, hS⟩ : ∃ S, Gf.combS coef ps = S := ⟨_, rfl⟩
    simp only [hS] at hxs hxp ⊢
    have hxn := hxs.len
    subst hxn
    have HXL := Lib.hid hxl
    have HXP := Lib.hid hxp
    have HXS := Lib.hid hxs
    have HV2 := Lib.hid (And.intro hval (And.intro hok hlen))
    have HS := Lib.hid (And.intro hS hcE)
    clear hxl hxp hxs hval hok hlen hS hcE hxe hR her
    go_wp2_with fail
    refine (combine_any coef ps CA PA _ _ ca cb _ (HT.out.ext HX1.out) rfl rfl hc64 HP.out (HA.out.ext HX1.out) (HB.out.ext HX1.out)).mono ?_
    rintro ee w2 ⟨rfl, hx2⟩
    rw [HS.out.1, HS.out.2]
    have HD2 := Lib.hid (And.intro (hx2.cell HD.out.1) (And.intro (hx2.cell HD.out.2.1) (hx2.cell HD.out.2.2)))
    have HXS2 := Lib.hid (Rs.ext RS.ext _ _ _ _ hx2 HXS.out)
    have HX2 := Lib.hid (HX1.out.trans hx2)
    have hs1 : ((xs.length : Int) != (l.length : Int)) = false := by rw [HXL.out]; simp
    have hxl64 : xs.length ≤ 9223372036854775807 := HXS2.out.form.elim fun _ h => h.elim fun _ h => h.2
    clear hx2
    go_wp2_with fail
    clear hs1
    go_loop [74] (fun vi => ∃ k : Nat, k ≤ xs.length ∧ vi = .int .i64 k) (fun vi => xs.length - (intOf vi).toNat)
    case atStart => exact ⟨0, Nat.zero_le _, rfl⟩
    case round =>
      obtain ⟨k, hk, rfl⟩ := hrel
      by_cases hlt : k < xs.length
      · obtain ⟨ap, y, eB, hcy, hy⟩ := HXS2.out.at hlt
        subst eB
        unfold RS at hy
        subst hy
        obtain ⟨p, hp⟩ : ∃ p, xs[k] = p := ⟨_, rfl⟩
        rw [hp] at hcy
        have hpl : p.length = S.length := by rw [← hp]; exact HXP.out _ (List.getElem_mem hlt)
        have hs2 : ((p.length : Int) != (S.length : Int)) = false := by rw [hpl]; simp
        clear hp hpl
        go_wp2_with fail
        clear hcy hs2
        go_round
        case rel => exact ⟨k + 1, by omega, by go_num⟩
        case measure => simp [intOf]; omega
      · obtain rfl : k = xs.length := by omega
        obtain ⟨d0, d1, d2⟩ := HD2.out
        obtain ⟨f, hf1, hf2, hf3⟩ := Su.tree_is_least (Su.least_le HV2.out.1).1
        have htl := Su.tree_ok (fuel := f) (Su.least_le HV2.out.1).1
        obtain ⟨U, hU⟩ : ∃ U, Su.treeOf h (Su.usedF f h) = U := ⟨_, rfl⟩
        rw [hU] at htl
        rw [htl] at hf2
        have HF := Lib.hid (And.intro hf1 (And.intro htl hf2))
        clear hf1 hf2 hf3 htl hU
        go_wp2_with fail
        clear d0 d1 d2
        refine (uTree_any f h _ _ (RH.ext _ _ _ _ HX2.out HV.out) (fun _ => HF.out.1)).mono ?_
        rintro ee w3 ⟨TA, tn, tc, rfl, hts, hx3⟩
        rw [HF.out.2.1] at hts ⊢
        have d0 := hx3.cell HD2.out.1
        have d1 := hx3.cell HD2.out.2.1
        have d2 := hx3.cell HD2.out.2.2
        obtain ⟨TA', tc', et, htn⟩ := hts.form
        injection et with et1 et2 et3
        subst et1 et2 et3
        have HX3 := Lib.hid (HX2.out.trans hx3)
        have HTS := Lib.hid hts
        clear hx3 hts
        go_wp2_with fail
        clear d0 d1 d2
        refine (uCarry_any (h.pr.length + 1) h U coef ps _ _ CA PA ca cb _ (HT.out.ext HX3.out) (RH.ext _ _ _ _ HX3.out HV.out) HTS.out (HA.out.ext HX3.out) (HB.out.ext HX3.out) hc64 HP.out (fun hval _ _ => Su.carry_term (Nat.le_refl _) _ _ _ hval)).mono ?_
        rintro ee w4 ⟨YA, yn, yc, rfl, hys, hx4⟩
        obtain ⟨ys, hye, hyl, hyp⟩ := Su.carry_whole HF.out.2.2 HV2.out.2.1 HV2.out.2.2 (Nat.le_refl _)
        rw [hye, HS.out.1] at hys ⊢
        simp only at hys ⊢
        have HX4 := Lib.hid (HX3.out.trans hx4)
        clear hx4 hys hye hyl hyp
        go_wp2_with fail
        refine (sanity_any _ (HT.out.ext HX4.out)).mono ?_
        rintro ee w5 ⟨rfl, hx5⟩
        have HE := Lib.hid ((HX0.out.trans HX4.out).trans hx5)
        clear hx5
        go_wp2_with fail
        go_ret
        exact ⟨rfl, HE.out⟩
end Go.Proofs.YtenafgphaceidaaDoor

/- ARGUMENTS that are codes read as such. -/
namespace Go.Proofs.YtenafgphaceidaaDoor
open Go.ChangeShapes Go.WideShapes Go.ChangeAt Go.RowKit Go.ChangeMaps Go.Deep
variable {H : Type} {enc : TypeId × Value → H} {W : World} {base : Nat}
theorem list_getD {l : List Int} {k : Nat} (h : k < l.length) : l.getD k 0 = l[k] := by rw [List.getD_eq_getElem?_getD, List.getElem?_eq_getElem h]; rfl
theorem read_ints {fuel : Nat} {v : Value} {x : DataW H × List MemPlace} (h : DataW.trod enc Tryd.prog W base (fun _ => true) true fuel 23 [v] = some x) : ∃ l, Rs RI W v l := by
  rcases open_ints Tryd.underlying23 Tryd.underlying3 (by kernel_rfl) h with ⟨hcs, _⟩ | ⟨a, len, cap, zs, hcs, _, hl, hm, hz, _, hcell, hwz⟩
  · injection hcs with hcs _
    subst hcs
    exact ⟨[], none, 0, rfl, by simp, fun i x h => by simp at h⟩
  · injection hcs with hcs _
    subst hcs
    rw [if_pos rfl] at hz
    have hll : (zs.take len).length = len := by rw [List.length_take]; omega
    refine ⟨zs.take len, some a, cap, by rw [hll], by rw [hll]; unfold maxLen at hm; omega, fun i y hi => ?_⟩
    have hi1 : i < (zs.take len).length := (List.getElem?_eq_some_iff.1 hi).1
    have hi2 : i < zs.length := by rw [List.length_take] at hi1; omega
    have h1 := hcell i (by omega)
    rw [list_getD hi2] at h1
    have e : y = zs[i] := by
      have := (List.getElem?_eq_some_iff.1 hi).2
      rw [← this, List.getElem_take]
    subst e
    have hb := bounds_i64 (hwz _ (List.getElem_mem hi2))
    exact ⟨a, _, rfl, h1, rfl, by omega, by omega⟩
theorem read_rows {fuel : Nat} {v : Value} {x : DataW H × List MemPlace} (h : DataW.trod enc Tryd.prog W base (fun _ => true) true fuel 22 [v] = some x) : ∃ l, Rs (Rs RI) W v l := by
  rcases open_int_rows Tryd.underlying22 Tryd.underlying23 Tryd.underlying3 (by kernel_rfl) (by kernel_rfl) h with ⟨hcs, _⟩ | ⟨a, len, cap, A, L, C, Z, hcs, _, hl, hm, _, hx⟩
  · injection hcs with hcs _
    subst hcs
    exact ⟨[], none, 0, rfl, by simp, fun i x h => by simp at h⟩
  · injection hcs with hcs _
    subst hcs
    refine ⟨(List.range len).map fun r => (Z r).take (L r), some a, cap, by simp, by simp; unfold maxLen at hm; omega, fun i y hi => ?_⟩
    have hi1 : i < len := by have := (List.getElem?_eq_some_iff.1 hi).1; simpa using this
    have e : y = (Z i).take (L i) := by
      have := (List.getElem?_eq_some_iff.1 hi).2
      rw [← this]; simp
    subst e
    obtain ⟨h1, h2, h3, h4, h5, h6, h7⟩ := hx i (by omega)
    refine ⟨a, _, rfl, h1, A i, C i, ?_, ?_, fun k z hk => ?_⟩
    · rw [List.length_take]; congr 1; omega
    · rw [List.length_take]; unfold maxLen at h3; omega
    · have hk1 : k < ((Z i).take (L i)).length := (List.getElem?_eq_some_iff.1 hk).1
      have hk2 : k < (Z i).length := by rw [List.length_take] at hk1; omega
      have hk3 : k < C i := by omega
      have e : z = (Z i)[k] := by
        have := (List.getElem?_eq_some_iff.1 hk).2
        rw [← this, List.getElem_take]
      subst e
      have hb := bounds_i64 (h5 _ (List.getElem_mem hk2))
      cases hA : A i with
      | none => have := h6 hA; omega
      | some b =>
        have h8 := (h7 b hA).2 k hk3
        rw [list_getD hk2] at h8
        exact ⟨b, _, rfl, h8, rfl, by omega, by omega⟩
theorem cellsCode : Tryd.prog.cellsOf 56 = 3 := by kernel_rfl
theorem cellsInts : Tryd.prog.cellsOf 23 = 1 := by kernel_rfl
theorem cellsRows : Tryd.prog.cellsOf 22 = 1 := by kernel_rfl
theorem cellsInt : Tryd.prog.cellsOf 3 = 1 := by kernel_rfl
theorem array3 {α : Type} {cs : Array α} (h : cs.size = 3) : ∃ c0 c1 c2, cs = #[c0, c1, c2] := by
  obtain ⟨l⟩ := cs
  match l, h with
  | [c0, c1, c2], _ => exact ⟨c0, c1, c2, rfl⟩
set_option maxRecDepth 100000 in
theorem open_code {b0 : Nat} {v : Value} {d : DataW H} {ps : List MemPlace} (hval : Value.okWide Tryd.prog W .any b0 56 v) (hd : DataW.Trod enc Tryd.prog W base (fun _ => true) true 56 v d ps) :
    ∃ (a0 a2 : Int) (G : Value) (gs : List (List Int)), v = .agg #[.int .i64 a0, G, .int .i64 a2] ∧ Rs (Rs RI) W G gs ∧ (-9223372036854775808 ≤ a0 ∧ a0 ≤ 9223372036854775807) ∧ (-9223372036854775808 ≤ a2 ∧ a2 ≤ 9223372036854775807) := by
  obtain ⟨cs, rfl, hsz⟩ := okWide_struct Tryd.underlying56 hval
  obtain ⟨c0, c1, c2, rfl⟩ := array3 (hsz.trans (by kernel_rfl))
  obtain ⟨fuel, hf⟩ := hd
  obtain ⟨zs, m, _, _, _, hlen2, hz⟩ := DataW.trod_struct Tryd.underlying56 hf
  obtain ⟨z0, z1, z2, rfl⟩ : ∃ z0 z1 z2, zs = [z0, z1, z2] := by
    match zs, hlen2 with
    | [z0, z1, z2], _ => exact ⟨z0, z1, z2, rfl⟩
  have g0 : DataW.trod enc Tryd.prog W base (fun _ => true) true m 3 [c0] = some z0 := by
    have := hz 0 _ rfl
    simpa [Value.cells, cellsInt] using this
  have g1 : DataW.trod enc Tryd.prog W base (fun _ => true) true m 22 [c1] = some z1 := by
    have := hz 1 _ rfl
    simpa [Value.cells, cellsRows] using this
  have g2 : DataW.trod enc Tryd.prog W base (fun _ => true) true m 3 [c2] = some z2 := by
    have := hz 2 _ rfl
    simpa [Value.cells, cellsInt] using this
  obtain ⟨gs, h1⟩ := read_rows g1
  obtain ⟨a0, ha0, _, w0⟩ := DataW.trod_int Tryd.underlying3 g0
  obtain ⟨a2, ha2, _, w2⟩ := DataW.trod_int Tryd.underlying3 g2
  injection ha0 with ha0 _
  injection ha2 with ha2 _
  subst ha0 ha2
  have b0 := bounds_i64 w0
  have b2 := bounds_i64 w2
  exact ⟨a0, a2, c1, gs, rfl, h1, by omega, by omega⟩
end Go.Proofs.YtenafgphaceidaaDoor

/- ARGUMENTS of law 19: hauls and hops. -/
namespace Go.Proofs.YtenafgphaceidaaDoor
open Go.ChangeShapes Go.WideShapes Go.ChangeAt Go.RowKit Go.ChangeMaps Go.Deep
variable {H : Type} {enc : TypeId × Value → H} {W : World} {base : Nat}
set_option maxRecDepth 100000 in
theorem open_haul {b0 : Nat} {v : Value} {d : DataW H} {ps : List MemPlace} (hval : Value.okWide Tryd.prog W .any b0 25 v) (hd : DataW.Trod enc Tryd.prog W base (fun _ => true) true 25 v d ps) :
    ∃ h : Su.Ha, RH W v h := by
  obtain ⟨cs, rfl, hsz⟩ := okWide_struct Tryd.underlying25 hval
  obtain ⟨c0, c1, c2, rfl⟩ := array3 (hsz.trans (by kernel_rfl))
  obtain ⟨fuel, hf⟩ := hd
  obtain ⟨zs, m, _, _, _, hlen2, hz⟩ := DataW.trod_struct Tryd.underlying25 hf
  obtain ⟨z0, z1, z2, rfl⟩ : ∃ z0 z1 z2, zs = [z0, z1, z2] := by
    match zs, hlen2 with
    | [z0, z1, z2], _ => exact ⟨z0, z1, z2, rfl⟩
  have g0 : DataW.trod enc Tryd.prog W base (fun _ => true) true m 22 [c0] = some z0 := by
    have := hz 0 _ rfl
    simpa [Value.cells, cellsRows] using this
  have g1 : DataW.trod enc Tryd.prog W base (fun _ => true) true m 23 [c1] = some z1 := by
    have := hz 1 _ rfl
    simpa [Value.cells, cellsInts] using this
  have g2 : DataW.trod enc Tryd.prog W base (fun _ => true) true m 3 [c2] = some z2 := by
    have := hz 2 _ rfl
    simpa [Value.cells, cellsInt] using this
  obtain ⟨gs, h1⟩ := read_rows g0
  obtain ⟨l, h2⟩ := read_ints g1
  obtain ⟨a2, ha2, _, w2⟩ := DataW.trod_int Tryd.underlying3 g2
  injection ha2 with ha2 _
  subst ha2
  have b2 := bounds_i64 w2
  exact ⟨⟨gs, l, a2⟩, c0, c1, rfl, h1, h2, by simp; omega, by simp; omega⟩
theorem spot_free {a : Addr} {v : Value} (h : W.cell? a = some v) : a.spot = none := by
  unfold World.cell? at h
  split at h
  · split at h
    · cases h
    · rename_i hs; simpa using hs
  · cases h
set_option maxRecDepth 100000 in
theorem open_hops {b0 : Nat} {v : Value} {d : DataW H} {ps : List MemPlace} (hval : Value.okWide Tryd.prog W .any b0 26 v) (hd : DataW.Trod enc Tryd.prog W base (fun _ => true) true 26 v d ps) :
    ∃ l : List (Int × Int), RL W v l := by
  obtain ⟨a0, len, cap, rfl⟩ := okWide_slice Tryd.underlying26 hval
  obtain ⟨fuel, hf⟩ := hd
  have ce : Tryd.prog.cellsOf 65 = 2 := by kernel_rfl
  rcases open_slice Tryd.underlying26 hf with ⟨hcs, _⟩ | ⟨a, len', cap', m, n, D, Pl, hcs, _, hl, hm, hmm, _, hx⟩
  · simp [Value.cells] at hcs
    obtain ⟨rfl, rfl, rfl⟩ := hcs
    exact ⟨[], none, 0, rfl, by simp, fun i x hi => by simp at hi⟩
  · simp [Value.cells] at hcs
    obtain ⟨rfl, rfl, rfl⟩ := hcs
    rw [if_pos rfl] at hmm
    have each : ∀ i, i < len → ∃ x : Int × Int, W.cell? (a.add (i * 2)) = some (.int .i64 x.1) ∧ W.cell? ((a.add (i * 2)).add 1) = some (.int .i64 x.2) ∧ r64 x.1 ∧ r64 x.2 := by
      intro i hi
      obtain ⟨cs', h1, h2⟩ := hx i (by omega)
      rw [ce] at h1
      obtain ⟨_, hlen, hcell⟩ := World.cells?_some h1
      obtain ⟨xs, k, _, _, _, hxl, hg⟩ := DataW.trod_struct Tryd.underlying65 h2
      obtain ⟨c0, c1, rfl⟩ : ∃ c0 c1, cs' = [c0, c1] := by
        match cs', hlen with
        | [c0, c1], _ => exact ⟨c0, c1, rfl⟩
      obtain ⟨y0, y1, rfl⟩ : ∃ y0 y1, xs = [y0, y1] := by
        match xs, hxl with
        | [y0, y1], _ => exact ⟨y0, y1, rfl⟩
      have f0 : DataW.trod enc Tryd.prog W base (fun _ => true) true k 3 [c0] = some y0 := by
        have := hg 0 _ rfl
        simpa [cellsInt] using this
      have f1 : DataW.trod enc Tryd.prog W base (fun _ => true) true k 3 [c1] = some y1 := by
        have := hg 1 _ rfl
        simpa [cellsInt] using this
      obtain ⟨z0, e0, _, w0⟩ := DataW.trod_int Tryd.underlying3 f0
      obtain ⟨z1, e1, _, w1⟩ := DataW.trod_int Tryd.underlying3 f1
      injection e0 with e0 _
      injection e1 with e1 _
      subst e0 e1
      have b0 := bounds_i64 w0
      have b1 := bounds_i64 w1
      exact ⟨(z0, z1), hcell 0 (by decide), hcell 1 (by decide), ⟨by simp; omega, by simp; omega⟩, ⟨by simp; omega, by simp; omega⟩⟩
    refine ⟨(List.range len).map fun k => if h : k < len then (each k h).choose else (0, 0), some a, cap, by simp, by simp; unfold maxLen at hm; omega, fun i x hi => ?_⟩
    have hil : i < len := by
      have := (List.getElem?_eq_some_iff.1 hi).1
      simpa using this
    have hxe : x = (each i hil).choose := by
      have := (List.getElem?_eq_some_iff.1 hi).2
      rw [← this]
      simp [hil]
    obtain ⟨h1, h2, h3, h4⟩ := (each i hil).choose_spec
    rw [← hxe] at h1 h2 h3 h4
    refine ⟨a, rfl, h1, ?_, h3.1, h3.2, h4.1, h4.2⟩
    have hs := spot_free h1
    have e : (a.add (i * 2)).add 1 = ⟨(a.add (i * 2)).block, (a.add (i * 2)).off + 1, none⟩ := by
      generalize a.add (i * 2) = p at hs
      obtain ⟨b, o, s⟩ := p
      simp only at hs
      subst hs
      unfold Addr.add
      rfl
    rw [← e]
    exact h2
end Go.Proofs.YtenafgphaceidaaDoor

/- THE FORM's OWN REACH, for slices of bytes and of strings that were opened by open_bytes, open_strs. -/
namespace Go.Proofs.YtenafgphaceidaaDoor
open Go.RowKit Go.ChangeShapes Go.WideShapes Go.ChangeAt
variable {H : Type} {enc : TypeId × Value → H} {P : Program}
theorem sized_part {ts : List TypeId} {ds : List (DataW H)} (h : (DataW.weightsEach P ts ds).all (· ≤ reachBytes) = true) {j : Nat} {t : TypeId} {d : DataW H} (ht : ts[j]? = some t) (hd : ds[j]? = some d) : ∀ n ∈ d.weights P t, n ≤ reachBytes := fun n hn => by
  have := List.all_eq_true.1 h n (DataW.weights_mem_each ht hd n hn)
  simpa using this
theorem sized_bytes {W : World} {j : Nat} {t e : TypeId} {A : Option Addr} {n c : Nat} {d : DataW H} {ps : List MemPlace} (ht : P.underlying t = some (.slice e)) (he : P.underlying e = some (.int .u8)) (hc : P.cellsOf e = 1) (hb : P.bytesOf e = 1)
    (hd : DataW.Trod enc P W j (fun _ => true) true t (.slice A n c) d ps) (hw : ∀ n ∈ d.weights P t, n ≤ reachBytes) : n ≤ 140737488351232 := by
  obtain ⟨fuel, hf⟩ := hd
  rcases open_ints ht he hc hf with ⟨hcs, hx⟩ | ⟨a, len', cap', zs, hcs, _, hl, hm, hz, hx, hcell, hwz⟩
  · simp [Value.cells] at hcs
    omega
  · simp [Value.cells] at hcs
    obtain ⟨rfl, rfl, rfl⟩ := hcs
    rw [if_pos rfl] at hz
    injection hx with hx _
    subst hx
    have := hw ((zs.take n).length + (zs.drop n).length) (by simp only [DataW.weights, ht, hb, Nat.mul_one, lits, List.length_map, List.mem_cons, true_or])
    rw [List.length_take, List.length_drop] at this
    unfold reachBytes at this
    omega
theorem weightsAll_mem {P : Program} {e : TypeId} {d : DataW H} {n : Nat} (hn : n ∈ d.weights P e) : ∀ {ds : List (DataW H)}, d ∈ ds → n ∈ DataW.weightsAll P e ds
  | x :: r, h => by
    rw [DataW.weightsAll, List.mem_append]
    rcases List.mem_cons.1 h with rfl | h
    · exact Or.inl hn
    · exact Or.inr (weightsAll_mem hn h)
theorem sized_strs {W : World} {j : Nat} {t e : TypeId} {A : Option Addr} {c : Nat} {l : List (List UInt8)} {d : DataW H} {ps : List MemPlace} (ht : P.underlying t = some (.slice e)) (he : P.underlying e = some .string) (hc : P.cellsOf e = 1)
    (hd : DataW.Trod enc P W j (fun _ => true) true t (.slice A l.length c) d ps) (hR : Rd W A (l.map fun p => .string (sb p))) (hw : ∀ n ∈ d.weights P t, n ≤ reachBytes) : ∀ p ∈ l, p.length ≤ 140737488351232 := by
  obtain ⟨fuel, hf⟩ := hd
  rcases open_strings ht he hc hf with ⟨hcs, hx⟩ | ⟨a, len', cap', ss, hcs, _, hl, hm, hz, hx, hcell, hwz⟩
  · simp [Value.cells] at hcs
    intro p hp
    rw [hcs.2.1] at hp
    cases hp
  · simp [Value.cells] at hcs
    obtain ⟨rfl, rfl, rfl⟩ := hcs
    rw [if_pos rfl] at hz
    injection hx with hx _
    subst hx
    intro p hp
    obtain ⟨i, hi, rfl⟩ := List.getElem_of_mem hp
    obtain ⟨ad, e1, _, e3⟩ := hR i (.string (sb l[i])) (by rw [List.getElem?_map, List.getElem?_eq_getElem hi]; rfl)
    injection e1 with e1
    subst e1
    have h1 := hcell i (by omega)
    rw [h1] at e3
    injection e3 with e3
    injection e3 with e3
    have hm : ss.getD i ByteArray.empty ∈ ss.take l.length := by
      rw [List.getD_eq_getElem?_getD, List.getElem?_eq_getElem (by omega), Option.getD_some]
      exact List.mem_take_iff_getElem.2 ⟨i, by omega, rfl⟩
    have hlen : l[i].length = (ss.getD i ByteArray.empty).size := by rw [e3, size_sb]
    have := hw (ss.getD i ByteArray.empty).data.toList.length (by
      simp only [DataW.weights, ht]
      refine List.mem_cons_of_mem _ (List.mem_append.2 (Or.inl (weightsAll_mem (d := .lit (.string (ss.getD i ByteArray.empty).data.toList)) (by simp [DataW.weights]) ?_)))
      unfold strs
      exact List.mem_map.2 ⟨_, hm, rfl⟩)
    unfold reachBytes at this
    rw [hlen]
    have h2 : (ss.getD i ByteArray.empty).size = (ss.getD i ByteArray.empty).data.toList.length := rfl
    omega
end Go.Proofs.YtenafgphaceidaaDoor
