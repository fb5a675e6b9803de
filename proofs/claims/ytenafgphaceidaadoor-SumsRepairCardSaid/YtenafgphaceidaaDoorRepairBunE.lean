/- What the program's functions do, step by step: part E of the texts for this claim; no condition beyond what each theorem states. -/
import Derived.WalkMore
import Derived.Deep.LoopGhost
import Derived.RegionTactic
import Derived.BigRegion
import Derived.StillTailTactics
import Derived.Deep.RegionHeld3
import Derived.Deep.RegionWith
import Derived.Deep.RegionLaw
import Derived.Laws.CopyOwn
import Derived.DeepKeys5
import Derived.ArgAppend
import Derived.Test.YtenafgphaceidaaDoorRepairBunA
import Derived.Test.YtenafgphaceidaaDoorRepairBunB
import Derived.Test.YtenafgphaceidaaDoorRepairBunC
import Derived.Test.YtenafgphaceidaaDoorRepairBunD
/- THE WALK over Carry's closure. -/
namespace Go.Proofs.YtenafgphaceidaaDoor
open Go.RowKit
set_option maxHeartbeats 4000000 in
set_option maxRecDepth 100000 in
theorem carry1_any (P12 P4 P6 P7 P5 P14 : Nat) (src : List Int) (l : List (Int × Int)) (coef : List UInt8) (ps : List (List UInt8)) (whole : List UInt8) (hc : src.length = coef.length) (hps : src.length = ps.length) (hM : whole.length ≤ 140737488351232) (hp : ∀ p ∈ ps, p.length ≤ 140737488351232) : ∀ (fuel : Nat) (a : Int) (V : List UInt8) (w : World), Su.sumF src l coef ps whole.length fuel a = some V → CW w P12 P4 P6 P7 P5 P14 src l coef ps whole →
    Calls Tryd.prog 37 #[.int .i64 a, .pointer (some ⟨P12, 0, none⟩), .pointer (some ⟨P4, 0, none⟩), .pointer (some ⟨P6, 0, none⟩), .pointer (some ⟨P7, 0, none⟩), .pointer (some ⟨P5, 0, none⟩), .pointer (some ⟨P14, 0, none⟩)] w fun e w' => e = .returned (.string (sb V)) ∧ Ext w w'
  | 0, a, V, w, hw, _ => by cases hw
  | fuel + 1, a, V, w, hw, hcw => by
    have IH := Lib.hid (carry1_any P12 P4 P6 P7 P5 P14 src l coef ps whole hc hps hM hp fuel)
    rw [Su.sumF_succ] at hw
    have HW := Lib.hid hw
    have HC := Lib.hid hcw
    have hlen := fun x r hx => Su.sumF_len (src := src) (l := l) (coef := coef) (n := whole.length) hM hp fuel x r hx
    have hzl : (List.replicate whole.length (0 : UInt8)).length ≤ 140737488351232 := by simpa using hM
    have hpl := fun k => Su.partTo_len (src := src) (coef := coef) (a := a) hzl hp k
    have HLEN := Lib.hid (And.intro hlen (And.intro hpl hp))
    have p12 := hcw.p12
    have hE := @enters37
    obtain ⟨i0, hi, hz0, hz1, hz2⟩ := info_parts info_u8
    have HZ := Lib.hid hz2
    obtain ⟨n, hn⟩ : ∃ n, whole.length = n := ⟨_, rfl⟩
    have HN := Lib.hid hn
    rw [hn] at HW hM HLEN IH
    have hsz : (sb whole).size = n := by rw [size_sb, hn]
    have hS64 : src.length ≤ 9223372036854775807 := by
      obtain ⟨S, c, _, h2⟩ := hcw.p4
      obtain ⟨_, _, _, h3⟩ := h2.form
      exact h3
    have hL64 : l.length ≤ 9223372036854775807 := by
      obtain ⟨S, c, _, h2⟩ := hcw.p5
      obtain ⟨_, _, _, h3⟩ := h2.form
      exact h3
    have HCP := Lib.hid (And.intro hc hps)
    clear hz2 hw hcw hlen hzl hpl hn hc hps hp
    go_enter Tryd.func37, Tryd.ntmps37
    go_wp2_with (refine wpList_make_full _ rfl (.tmp 15) (.tmp 15) 44 rfl w.heap.size 5 i0 (.int .u8 0) 1 Tryd.underlying44 hi hz0 hz1 _ _ _ _ n rfl rfl rfl rfl (by rw [HZ.out]; omega) (by unfold maxLen; omega) (Nat.le_refl _) ?_; intro w1 hown hgrow; have hx1 : Ext w w1 := (Ext.refl w).grown hgrow (fun k h => by cases h); have hcv := str_u8 (n := n) (c := n) (A := some ⟨w.heap.size, 0, none⟩) (w := w1) (l := List.replicate n 0) (by simp) (by
      have := Rd.of_own (w := w1) (B := w.heap.size) (e := 5) (c := n) (A := some ⟨w.heap.size, 0, none⟩) (xs := (List.replicate n (0 : UInt8)).map bv) (by
        have e : (madeCells (Value.int .u8 0).cells (n * 1)).toList = (List.replicate n (0 : UInt8)).map bv := by
          rw [Nat.mul_one, show (Value.int .u8 0).cells = #[.int .u8 0] from rfl, toList_madeCells_one]
          simp [bv]
        rw [e] at hown
        simpa using hown)
      exact this); have HX1 := Lib.hid hx1; have hc4 := (HC.out.ext hx1).p4; obtain ⟨S, cS, p41, hSr⟩ := hc4; have HS := Lib.hid (And.intro p41 hSr); clear hown hgrow hx1 hSr)
    clear p12 hcv p41
    go_loopw [9, 21] (fun vs vi wr => ∃ k : Nat, k ≤ src.length ∧ vi = .int .i64 k ∧ vs = .string (sb (Su.partTo src coef ps a (List.replicate n 0) k)) ∧ Hid (Ext w wr ∧ Ext w1 wr)) (fun _ vi _ => src.length - (intOf vi).toNat)
    case atStart => exact ⟨0, Nat.zero_le _, rfl, rfl, Lib.hid ⟨HX1.out, Ext.refl _⟩⟩
    case round =>
      obtain ⟨k, hk, rfl, rfl, HI⟩ := hrel
      by_cases hlt : k < src.length
      · obtain ⟨ad, u, rfl, hcell, hu⟩ := HS.out.2.at hlt
        obtain ⟨rfl, hlo, hhi⟩ := hu
        have hgd := getD_get (x := (0 : Int)) hlt
        obtain ⟨y, hy⟩ : ∃ y, src[k] = y := ⟨_, rfl⟩
        rw [hy] at hcell hgd hlo hhi
        have hcell2 := HI.out.2.cell hcell
        have HGD := Lib.hid hgd
        clear hcell hgd hy
        by_cases hya : y = a
        · have e1 : (y == a) = true := by rw [hya]; simp
          have hst := Su.partTo_yes (coef := coef) (ps := ps) (z := List.replicate n 0) (HGD.out.trans hya)
          obtain ⟨Ac, cc, q6, hrc⟩ := (HC.out.ext HI.out.1).p6
          obtain ⟨Ap, cp, q7, hrp⟩ := (HC.out.ext HI.out.1).p7
          have hkc : k < coef.length := by have := HCP.out.1; omega
          have hkp : k < ps.length := by have := HCP.out.2; omega
          obtain ⟨ac, rfl, _, hcx⟩ := hrc.at (k := k) (by simpa using hkc)
          obtain ⟨ap, rfl, _, hcy⟩ := hrp.at (k := k) (by simpa using hkp)
          rw [List.getElem_map] at hcx hcy
          rw [getD_get hkc, getD_get hkp] at hst
          have hyl := HLEN.out.2.2 _ (List.getElem_mem hkp)
          obtain ⟨cx, hcxe⟩ : ∃ x, coef[k] = x := ⟨_, rfl⟩
          obtain ⟨py, hpye⟩ : ∃ x, ps[k] = x := ⟨_, rfl⟩
          rw [hcxe] at hcx hst
          rw [hpye] at hcy hst hyl
          obtain ⟨Z, hZ⟩ : ∃ Z, Su.partTo src coef ps a (List.replicate n 0) k = Z := ⟨_, rfl⟩
          have hZl : Z.length ≤ 140737488351232 := by rw [← hZ]; exact HLEN.out.2.1 k
          rw [hZ] at hst ⊢
          have HST := Lib.hid hst
          have HTB := Lib.hid ((HC.out.ext HI.out.1).tab)
          clear hst hya hcxe hpye hZ hrc hrp
          go_wp2_with fail
          refine wp_atEnd' (carry_part wr P6 P7 coef.length ps.length cc cp k ac ap cx py Z hkc hkp hyl hZl HTB q6 q7 hcx hcy _ _ _ _ _ _ _ _ _ _ _ _ _ _ _ _ _ _ _ _ _ _ _ _ _ _ _ _ _ _ _ _ _ _ _ _ _ _ _ _ _ _ _ _ _ _ _ _ _ _ _ _ _ _ _ _ _ ?_)
          intro u29 u30 u31 u32 u33 u34 u35 u36 u37 u38 u39 wx hx
          have HX := Lib.hid hx
          clear hx
          go_wp2_with fail
          clear q6 q7 hcx hcy hcell2
          go_roundw
          case rel => exact ⟨k + 1, by omega, by go_num, by rw [HST.out], Lib.hid ⟨HI.out.1.trans HX.out, HI.out.2.trans HX.out⟩⟩
          case measure => simp [intOf]; omega
        · have e1 : (y == a) = false := by rw [beq_eq_false_iff_ne]; exact hya
          have hst := Su.partTo_no (coef := coef) (ps := ps) (a := a) (z := List.replicate n 0) (k := k) (src := src) (by rw [HGD.out]; exact hya)
          have HST := Lib.hid hst
          clear hst hya
          go_wp2_with fail
          clear hcell2
          go_roundw
          case rel => exact ⟨k + 1, by omega, by go_num, by rw [HST.out], HI⟩
          case measure => simp [intOf]; omega
      · obtain rfl : k = src.length := by omega
        have HX2 := Lib.hid HI.out.1
        obtain ⟨C5, c5, q5, hr5⟩ := (HC.out.ext HI.out.1).p5
        have HR5 := Lib.hid hr5
        obtain ⟨wo, hwo⟩ : ∃ wo, wo = wr := ⟨_, rfl⟩
        rw [← hwo] at HX2 q5 HR5 ⊢
        clear HI hwo hr5
        go_wp2_with fail
        clear q5
        go_loopw [9, 43] (fun vs vi wr => ∃ (k : Nat) (s : List UInt8), k ≤ l.length ∧ vi = .int .i64 k ∧ vs = .string (sb s) ∧ Hid (Ext wo wr ∧ Su.hopsTo (Su.sumF src l coef ps n fuel) l a (Su.partTo src coef ps a (List.replicate n 0) src.length) k = some s)) (fun _ vi _ => l.length - (intOf vi).toNat)
        case atStart => exact ⟨0, _, Nat.zero_le _, rfl, rfl, Lib.hid ⟨Ext.refl _, rfl⟩⟩
        case round =>
          obtain ⟨k, s, hk, rfl, rfl, HI⟩ := hrel
          by_cases hlt : k < l.length
          · obtain ⟨ad, f, t, rfl, hft, k1, k2, kb, kb2⟩ := HR5.out.at hlt
            have k1' := HI.out.1.cell k1
            have k2' := HI.out.1.cell k2
            obtain ⟨s', hs'⟩ := Su.hopsTo_all _ _ HW.out (k + 1) hlt
            obtain ⟨s0, hs0, hcase⟩ := Su.hopsTo_pre hs'
            have hss : s0 = s := by
              have := hs0.symm.trans HI.out.2
              injection this
            subst hss
            rw [hft] at hcase
            simp only at hcase
            have hsl := Su.hopsTo_len HLEN.out.1 (HLEN.out.2.1 src.length) _ _ hs0
            have HXA := Lib.hid ((Ext.refl wr).alloc (.cells #[.int .i64 f, .int .i64 t] 65))
            have HXB := Lib.hid (HX2.out.trans HI.out.1)
            have q14 := ((HC.out.ext HXB.out).ext HXA.out).p14
            have HS1 := Lib.hid hs'
            clear hft k1 k2 hs0 hs'
            rcases hcase with ⟨rfl, r, hr, hV⟩ | ⟨hne, hV⟩
            · have e1 : (t == t) = true := by simp
              have hrl := HLEN.out.1 _ _ hr
              have HR := Lib.hid (And.intro hr hV)
              clear hr hV
              go_wp2_with fail
              refine (IH.out f r _ HR.out.1 ((HC.out.ext HXB.out).ext HXA.out)).mono ?_
              rintro e w6 ⟨rfl, hx6⟩
              have HX6 := Lib.hid hx6
              clear hx6
              go_wp2_with fail
              refine (sum_any (sb s0) (sb r) _ (by rw [size_sb]; exact hsl) (by rw [size_sb]; exact hrl)).mono ?_
              rintro e w7 ⟨rfl, hx7⟩
              have HX7 := Lib.hid (((HI.out.1.trans HXA.out).trans HX6.out).trans hx7)
              clear hx7
              go_wp2_with fail
              clear k1' k2' q14
              go_roundw
              case rel => exact ⟨k + 1, s', by omega, by go_num, by rw [HR.out.2], Lib.hid ⟨HX7.out, HS1.out⟩⟩
              case measure => simp [intOf]; omega
            · have e1 : (t == a) = false := by rw [beq_eq_false_iff_ne]; exact hne
              subst hV
              clear hne
              go_wp2_with fail
              clear k1' k2' q14
              go_roundw
              case rel => exact ⟨k + 1, _, by omega, by go_num, rfl, Lib.hid ⟨HI.out.1.trans HXA.out, HS1.out⟩⟩
              case measure => simp [intOf]; omega
          · obtain rfl : k = l.length := by omega
            have hsV : s = V := by
              have := HI.out.2.symm.trans HW.out
              injection this
            subst hsV
            go_wp2_with fail
            go_ret
            exact ⟨rfl, HX2.out.trans HI.out.1⟩
end Go.Proofs.YtenafgphaceidaaDoor

/- THE WALK over Carry of package sums. -/
namespace Su
/-- What Carry returns, where f is enough fuel. -/
def carry (f : Nat) (h : Ha) (l : List (Int × Int)) (coef : List UInt8) (ps : List (List UInt8)) : List (List UInt8) × List UInt8 × Int :=
  if check h ≠ 0 then ([], [], check h) else if valid h l = false then ([], [], 22) else if Gf.combE coef ps ≠ 0 ∨ ps.length ≠ h.src.length then ([], [], 1)
  else (l.map fun x => (sumF h.src l coef ps (Gf.combS coef ps).length f x.1).getD [], (sumF h.src l coef ps (Gf.combS coef ps).length f h.tgt).getD [], 0)
theorem carry_err {f : Nat} {h : Ha} {l : List (Int × Int)} {coef : List UInt8} {ps : List (List UInt8)} (hc : check h ≠ 0) : carry f h l coef ps = ([], [], check h) := if_pos hc
theorem carry_bad {f : Nat} {h : Ha} {l : List (Int × Int)} {coef : List UInt8} {ps : List (List UInt8)} (hc : check h = 0) (hv : valid h l = false) : carry f h l coef ps = ([], [], 22) := by rw [carry, if_neg (by simp [hc]), if_pos hv]
theorem carry_arg {f : Nat} {h : Ha} {l : List (Int × Int)} {coef : List UInt8} {ps : List (List UInt8)} (hv : valid h l = true) (ha : Gf.combE coef ps ≠ 0 ∨ ps.length ≠ h.src.length) : carry f h l coef ps = ([], [], 1) := by
  rw [carry, if_neg (by simp [(valid_iff.1 hv).1]), if_neg (by simp [hv]), if_pos ha]
theorem carry_ok {f : Nat} {h : Ha} {l : List (Int × Int)} {coef : List UInt8} {ps : List (List UInt8)} (hv : valid h l = true) (ha : ¬ (Gf.combE coef ps ≠ 0 ∨ ps.length ≠ h.src.length)) :
    carry f h l coef ps = (l.map fun x => (sumF h.src l coef ps (Gf.combS coef ps).length f x.1).getD [], (sumF h.src l coef ps (Gf.combS coef ps).length f h.tgt).getD [], 0) := by
  rw [carry, if_neg (by simp [(valid_iff.1 hv).1]), if_neg (by simp [hv]), if_neg ha]
end Su
namespace Go.Proofs.YtenafgphaceidaaDoor
open Go.RowKit
abbrev sv (p : List UInt8) : Value := .string (sb p)
theorem info_str : (Tryd.prog.info? 9).map (fun i => (i.zero, i.size, i.bytes)) = some (some (.string ByteArray.empty), 1, 16) := by kernel_rfl
theorem Rs.of_rdS {w : World} {A : Option Addr} {n c : Nat} {l : List (List UInt8)} (h : Rd w A (l.map sv)) (hn : n = l.length) (hl : l.length ≤ 9223372036854775807) : Rs RS w (.slice A n c) l := by
  subst hn
  exact ⟨A, c, rfl, hl, fun i x hi => by
    obtain ⟨ad, h1, _, h3⟩ := h i (sv x) (by rw [List.getElem?_map, hi]; rfl)
    exact ⟨ad, _, h1, h3, rfl⟩⟩
/-- What Carry leaves. -/
def CarryOut (res : List (List UInt8) × List UInt8 × Int) (w : World) (e : Ending) (w' : World) : Prop :=
  ∃ A n c, e = .returned (.tuple #[.slice A n c, .string (sb res.2.1), .int .i64 res.2.2]) ∧ Rs RS w' (.slice A n c) res.1 ∧ Ext w w'
theorem carry_nil {w w' : World} {res : List (List UInt8) × List UInt8 × Int} {x : Int} (hr : res = ([], [], x)) (hx : Ext w w') : CarryOut res w (.returned (.tuple #[.slice none 0 0, .string (sb []), .int .i64 x])) w' :=
  ⟨none, 0, 0, by rw [hr], by rw [hr]; exact ⟨none, 0, rfl, by simp, fun i x hi => by simp at hi⟩, hx⟩
theorem combS_le {coef : List UInt8} {ps : List (List UInt8)} {M : Nat} (hp : ∀ p ∈ ps, p.length ≤ M) : (Gf.combS coef ps).length ≤ M := by
  cases h : Gf.combOk coef ps with
  | false => rw [Gf.combS_no h]; exact Nat.zero_le _
  | true =>
    rw [Gf.combS_ok h, Gf.combine, List.length_map, List.length_range]
    cases ps with
    | nil => exact Nat.zero_le _
    | cons p ps => exact hp p List.mem_cons_self
theorem combE_len {coef : List UInt8} {ps : List (List UInt8)} (h : Gf.combE coef ps = 0) : coef.length = ps.length := by
  cases h2 : Gf.combOk coef ps with
  | false => rw [Gf.combE_no h2] at h; cases h
  | true =>
    unfold Gf.combOk at h2
    simp only [Bool.and_eq_true, beq_iff_eq] at h2
    exact h2.1
set_option maxHeartbeats 4000000 in
set_option maxRecDepth 100000 in
theorem uCarry_any (fuel : Nat) (h : Su.Ha) (l : List (Int × Int)) (coef : List UInt8) (ps : List (List UInt8)) (v u : Value) (A B : Option Addr) (ca cb : Nat) (w : World) (hT : Tab w) (hv : RH w v h) (hu : RL w u l) (hA : Rd w A (coef.map bv)) (hB : Rd w B (ps.map fun p => .string (sb p)))
    (hcl : coef.length ≤ 140737488351232) (hp : ∀ p ∈ ps, p.length ≤ 140737488351232)
    (hterm : Su.valid h l = true → Gf.combE coef ps = 0 → ps.length = h.src.length → (∀ x ∈ l, ∃ V, Su.sumF h.src l coef ps (Gf.combS coef ps).length fuel x.1 = some V) ∧ ∃ V, Su.sumF h.src l coef ps (Gf.combS coef ps).length fuel h.tgt = some V) :
    Calls Tryd.prog 18 #[v, u, .slice A coef.length ca, .slice B ps.length cb] w fun e w' => CarryOut (Su.carry fuel h l coef ps) w e w' := by
  have hvv := hv
  obtain ⟨PA, SA, c, d, rfl, hG, hS, hl1, hl2, hb1, hb2⟩ := hv.open
  obtain ⟨LA, cL, rfl, hl3⟩ := hu.form
  have hx0 := ((((Ext.refl w).alloc (.cells #[.slice PA h.pr.length c, .slice SA h.src.length d, .int .i64 h.tgt] 25)).alloc (.cells #[.slice LA l.length cL] 26)).alloc (.cells #[.slice A coef.length ca] 44)).alloc (.cells #[.slice B ps.length cb] 45)
  have HX0 := Lib.hid hx0
  have HV := Lib.hid (RH.ext _ _ _ _ hx0 hvv)
  have HL := Lib.hid (RL.ext _ _ _ _ hx0 hu)
  have HSR := Lib.hid (Rs.ext RI.ext _ _ _ _ hx0 hS)
  have HA := Lib.hid (hA.ext hx0)
  have HB := Lib.hid (hB.ext hx0)
  have HT := Lib.hid (hT.ext hx0)
  have HTERM := Lib.hid hterm
  have HP := Lib.hid hp
  clear hv hvv hu hG hS hx0 hA hB hT hterm hp
  by_cases h0 : Su.check h = 0
  case neg =>
    have e1 : (Su.check h != 0) = true := by rw [bne_iff_ne]; exact h0
    have HC := Lib.hid (Su.carry_err (f := fuel) (l := l) (coef := coef) (ps := ps) h0)
    clear h0
    go_enter Tryd.func18, Tryd.ntmps18
    go_wp2_with fail
    refine (uCheck_any h _ _ HV.out).mono ?_
    rintro ee w1 ⟨rfl, hx1⟩
    have HX1 := Lib.hid (HX0.out.trans hx1)
    clear hx1
    go_wp2_with fail
    go_ret3
    exact carry_nil HC.out HX1.out
  case pos =>
  have e1 : (Su.check h != 0) = false := by rw [h0]; rfl
  cases hval : Su.valid h l with
  | false =>
    have HC := Lib.hid (And.intro (Su.carry_bad (f := fuel) (coef := coef) (ps := ps) h0 hval) hval)
    clear h0 hval
    go_enter Tryd.func18, Tryd.ntmps18
    go_wp2_with fail
    refine (uCheck_any h _ _ HV.out).mono ?_
    rintro ee w1 ⟨rfl, hx1⟩
    have d0 : w1.cell? ⟨w.heap.size, 0, none⟩ = some (.slice PA h.pr.length c) := hx1.cell (by go_simp)
    have d1 : w1.cell? ⟨w.heap.size, 1, none⟩ = some (.slice SA h.src.length d) := hx1.cell (by go_simp)
    have d2 : w1.cell? ⟨w.heap.size, 2, none⟩ = some (.int .i64 h.tgt) := hx1.cell (by go_simp)
    have d3 : w1.cell? ⟨w.heap.size + 1, 0, none⟩ = some (.slice LA l.length cL) := hx1.cell (by go_simp)
    have HX1 := Lib.hid hx1
    clear hx1
    go_wp2_with fail
    clear d0 d1 d2 d3
    refine (uValid_any h l _ _ _ (RH.ext _ _ _ _ HX1.out HV.out) (RL.ext _ _ _ _ HX1.out HL.out)).mono ?_
    rintro ee w2 ⟨rfl, hx2⟩
    rw [HC.out.2]
    have HX2 := Lib.hid ((HX0.out.trans HX1.out).trans hx2)
    clear hx2
    go_wp2_with fail
    go_ret3
    exact carry_nil HC.out.1 HX2.out
  | true =>
    have HVAL := Lib.hid hval
    clear h0 hval
    go_enter Tryd.func18, Tryd.ntmps18
    go_wp2_with fail
    refine (uCheck_any h _ _ HV.out).mono ?_
    rintro ee w1 ⟨rfl, hx1⟩
    have d0 : w1.cell? ⟨w.heap.size, 0, none⟩ = some (.slice PA h.pr.length c) := hx1.cell (by go_simp)
    have d1 : w1.cell? ⟨w.heap.size, 1, none⟩ = some (.slice SA h.src.length d) := hx1.cell (by go_simp)
    have d2 : w1.cell? ⟨w.heap.size, 2, none⟩ = some (.int .i64 h.tgt) := hx1.cell (by go_simp)
    have d3 : w1.cell? ⟨w.heap.size + 1, 0, none⟩ = some (.slice LA l.length cL) := hx1.cell (by go_simp)
    have HX1 := Lib.hid hx1
    clear hx1
    go_wp2_with fail
    clear d0 d1 d2 d3
    refine (uValid_any h l _ _ _ (RH.ext _ _ _ _ HX1.out HV.out) (RL.ext _ _ _ _ HX1.out HL.out)).mono ?_
    rintro ee w2 ⟨rfl, hx2⟩
    rw [HVAL.out]
    have hx2' := HX1.out.trans hx2
    have d4 : w2.cell? ⟨w.heap.size + 2, 0, none⟩ = some (.slice A coef.length ca) := hx2'.cell (by go_simp)
    have d5 : w2.cell? ⟨w.heap.size + 3, 0, none⟩ = some (.slice B ps.length cb) := hx2'.cell (by go_simp)
    have HX2 := Lib.hid hx2'
    clear hx2 hx2'
    go_wp2_with fail
    clear d4 d5
    refine (combine_any coef ps A B _ _ ca cb _ (HT.out.ext HX2.out) rfl rfl hcl HP.out (HA.out.ext HX2.out) (HB.out.ext HX2.out)).mono ?_
    rintro ee w3 ⟨rfl, hx3⟩
    have hx3' := HX2.out.trans hx3
    have q0 : w3.cell? ⟨w.heap.size, 1, none⟩ = some (.slice SA h.src.length d) := hx3'.cell (by go_simp)
    have q1 : w3.cell? ⟨w.heap.size + 3, 0, none⟩ = some (.slice B ps.length cb) := hx3'.cell (by go_simp)
    have HX3 := Lib.hid hx3'
    clear hx3 hx3'
    have q0' := ((Ext.refl w3).alloc (.cells #[.string (sb (Gf.combS coef ps))] 9)).cell q0
    have q1' := ((Ext.refl w3).alloc (.cells #[.string (sb (Gf.combS coef ps))] 9)).cell q1
    obtain ⟨E, hE⟩ : ∃ E, Gf.combE coef ps = E := ⟨_, rfl⟩
    have HE := Lib.hid hE
    rw [hE]
    clear hE
    by_cases hE0 : E = 0
    case neg =>
      have e2 : (E != 0) = true := by rw [bne_iff_ne]; exact hE0
      have HC := Lib.hid (Su.carry_arg (f := fuel) HVAL.out (.inl (by rw [HE.out]; exact hE0)))
      clear hE0
      go_wp2_with fail
      go_ret3
      exact carry_nil HC.out (HX0.out.trans (HX3.out.alloc _))
    case pos =>
    subst hE0
    by_cases hpl : ps.length = h.src.length
    case neg =>
      have e2 : ((ps.length : Int) != (h.src.length : Int)) = true := by rw [bne_iff_ne]; omega
      have HC := Lib.hid (Su.carry_arg (f := fuel) (coef := coef) HVAL.out (.inr hpl))
      clear hpl
      go_wp2_with fail
      go_ret3
      exact carry_nil HC.out (HX0.out.trans (HX3.out.alloc _))
    case pos =>
    have e2 : ((ps.length : Int) != (h.src.length : Int)) = false := by rw [hpl]; simp
    have hcarry := Su.carry_ok (f := fuel) (coef := coef) (ps := ps) HVAL.out (by rintro (z | z); exact z HE.out; exact z hpl)
    obtain ⟨hall, V0, hV0⟩ := HTERM.out HVAL.out HE.out hpl
    have hcl2 : h.src.length = coef.length := by rw [combE_len HE.out, hpl]
    have hWl := combS_le (coef := coef) HP.out
    have hl12 := Su.hops_few (Su.valid_iff.1 HVAL.out).2.1
    have hk12 := (Su.ok_of (Su.valid_iff.1 HVAL.out).1).few
    obtain ⟨WH, hWH⟩ : ∃ WH, Gf.combS coef ps = WH := ⟨_, rfl⟩
    rw [hWH] at hcarry hall hV0 hWl q0' q1' ⊢
    obtain ⟨FN, hFN⟩ : ∃ FN : Value, (Value.func (.func 37) #[] #[.pointer (some ⟨w3.heap.size, 0, none⟩), .pointer (some ⟨w.heap.size, 0, none⟩), .pointer (some ⟨w.heap.size + 2, 0, none⟩), .pointer (some ⟨w.heap.size + 3, 0, none⟩), .pointer (some ⟨w.heap.size + 1, 0, none⟩), .pointer (some ⟨w3.heap.size + 1, 0, none⟩)]) = FN := ⟨_, rfl⟩
    have hx4 : Ext w3 ((w3.alloc (.cells #[.string (sb WH)] 9)).alloc (.cells #[FN] 83)) := ((Ext.refl w3).alloc _).alloc _
    have hx04 := HX3.out.trans hx4
    have hcw : CW ((w3.alloc (.cells #[.string (sb WH)] 9)).alloc (.cells #[FN] 83)) w3.heap.size w.heap.size (w.heap.size + 2) (w.heap.size + 3) (w.heap.size + 1) (w3.heap.size + 1) h.src l coef ps WH := by
      refine ⟨HT.out.ext hx04, by go_simp, ⟨SA, d, hx04.cell (by go_simp), Rs.ext RI.ext _ _ _ _ hx04 HSR.out⟩, ⟨A, ca, hx04.cell (by go_simp), HA.out.ext hx04⟩, ⟨B, cb, hx04.cell (by go_simp), HB.out.ext hx04⟩, ⟨LA, cL, hx04.cell (by go_simp), RL.ext _ _ _ _ hx04 HL.out⟩, ?_⟩
      rw [hFN]
      go_simp
    have HCW := Lib.hid hcw
    have HX4 := Lib.hid hx04
    have HALL := Lib.hid (And.intro hall (And.intro hV0 hcarry))
    have HCL := Lib.hid (And.intro hcl2 (hpl.symm))
    have HWL := Lib.hid hWl
    have HO0 : Hid (Owns ((w3.alloc (.cells #[.string (sb WH)] 9)).alloc (.cells #[FN] 83)) ((w3.alloc (.cells #[.string (sb WH)] 9)).alloc (.cells #[FN] 83)) [⟨.slice none 0 0, 9, 1, 0, []⟩, no]) := Lib.hid (Owns.start _ (by intro r hr; simp [no] at hr; rcases hr with rfl | rfl <;> simp))
    have hE9 := @enters37
    have d3 : ((w3.alloc (.cells #[.string (sb WH)] 9)).alloc (.cells #[FN] 83)).cell? ⟨w.heap.size + 1, 0, none⟩ = some (.slice LA l.length cL) := hx04.cell (by go_simp)
    clear hx4 hx04 hcw hall hV0 hcarry hcl2 hWl hWH q0 q1
    subst hFN
    have hsf : ∀ (w : World) (a : Addr) (f : Fn) (cap : Array Value), (store a (.func f #[] cap)).run Tryd.prog w = stored Tryd.prog w a (.func f #[] cap) .plain := fun w a f cap => run_store _ w a _ _ rfl
    go_wp2_with fail
    clear hsf
    clear d3 q0' q1'
    obtain ⟨w4, hw4⟩ : ∃ w4, ((w3.alloc (.cells #[.string (sb WH)] 9)).alloc (.cells #[.func (.func 37) #[] #[.pointer (some ⟨w3.heap.size, 0, none⟩), .pointer (some ⟨w.heap.size, 0, none⟩), .pointer (some ⟨w.heap.size + 2, 0, none⟩), .pointer (some ⟨w.heap.size + 3, 0, none⟩), .pointer (some ⟨w.heap.size + 1, 0, none⟩), .pointer (some ⟨w3.heap.size + 1, 0, none⟩)]] 83)) = w4 := ⟨_, rfl⟩
    rw [hw4] at HCW HX4 HO0 ⊢
    clear hw4
    go_loopw [15, 46] (fun vo vi wr => ∃ (k : Nat) (A' : Option Addr) (c' : Nat), k ≤ l.length ∧ vi = .int .i64 k ∧ vo = .slice A' k c' ∧ Hid (Owns w4 wr [⟨.slice A' k c', 9, 1, k, ((l.take k).map fun x => (Su.sumF h.src l coef ps WH.length fuel x.1).getD []).map sv⟩, no])) (fun _ vi _ => l.length - (intOf vi).toNat)
    case atStart => exact ⟨0, none, 0, Nat.zero_le _, rfl, rfl, Lib.hid HO0.out⟩
    case round =>
      obtain ⟨k, A', c', hk, rfl, rfl, HI⟩ := hrel
      have hcw := HCW.out.ext HI.out.ext
      by_cases hlt : k < l.length
      · obtain ⟨ad, f, t, hLA, hft, k1, k2, kb, kb2⟩ := (RL.ext _ _ _ _ (HX4.out.trans HI.out.ext) HL.out).at hlt
        subst hLA
        have hmem : l.getD k (0, 0) ∈ l := by rw [getD_get hlt]; exact List.getElem_mem _
        obtain ⟨V, hV⟩ := HALL.out.1 _ hmem
        have htk := Su.take_snoc hlt
        rw [hft] at hV htk
        simp only at hV
        have hxx := (Ext.refl wr).alloc (.cells #[.int .i64 f, .int .i64 t] 65)
        have HCX := Lib.hid (hcw.ext hxx)
        have HXX := Lib.hid hxx
        have HV2 := Lib.hid (And.intro hV htk)
        have q14 := (hcw.ext hxx).p14
        clear hV htk hft hmem hxx hcw
        go_wp2_with fail
        refine (carry1_any _ _ _ _ _ _ h.src l coef ps WH HCL.out.1 HCL.out.2 HWL.out HP.out fuel f V _ HV2.out.1 HCX.out).mono ?_
        rintro ee w6 ⟨rfl, hx6⟩
        have HO6 := Lib.hid (HI.out.next (HXX.out.trans hx6))
        clear hx6 q14
        go_wp2_with (have hB := HO6.out.new 1 #[sv V] 9 (by simp [maxLen]); refine wpl_append_owns (u := sv V) 45 9 rfl (.tmp 50) (.tmp 55) rfl Tryd.underlying45 info_str rfl hB 0 rfl rfl rfl (hB.cell 1 rfl 0 rfl) rfl (by omega) (by decide) ?_; clear hB; intro g8 c8 w8 hO8 _)
        have HO8 := Lib.hid hO8
        clear hO8 k1 k2
        go_roundw
        case rel => exact ⟨k + 1, some ⟨g8, 0, none⟩, c8, by omega, by go_num, rfl, Lib.hid (by
          rw [HV2.out.2, List.map_append, List.map_append, List.map_singleton, List.map_singleton, HV2.out.1]
          exact HO8.out.drop 1)⟩
        case measure => simp [intOf]; omega
      · obtain rfl : k = l.length := by omega
        have q14 := hcw.p14
        have d2 : wr.cell? ⟨w.heap.size, 2, none⟩ = some (.int .i64 h.tgt) := (HX4.out.trans HI.out.ext).cell (by go_simp)
        have HCX := Lib.hid hcw
        clear hcw
        go_wp2_with fail
        refine (carry1_any _ _ _ _ _ _ h.src l coef ps WH HCL.out.1 HCL.out.2 HWL.out HP.out fuel h.tgt V0 _ HALL.out.2.1 HCX.out).mono ?_
        rintro ee w6 ⟨rfl, hx6⟩
        have hO6 := HI.out.next hx6
        rw [List.take_length] at hO6
        have hrs : Rs RS w6 (.slice A' l.length c') (l.map fun x => (Su.sumF h.src l coef ps WH.length fuel x.1).getD []) := Rs.of_rdS (hO6.rd 0 rfl) (by simp) (by rw [List.length_map]; omega)
        have HRS := Lib.hid hrs
        have HX6 := Lib.hid ((HX0.out.trans HX4.out).trans hO6.ext)
        clear hx6 hO6 hrs q14 d2
        go_wp2_with fail
        go_ret3
        refine ⟨A', l.length, c', ?_, ?_, HX6.out⟩
        · rw [HALL.out.2.2, HALL.out.2.1]; rfl
        · rw [HALL.out.2.2]; exact HRS.out
end Go.Proofs.YtenafgphaceidaaDoor

/- What the root words reach of other texts. -/
/- LINEAR ALGEBRA over bytes, in plain terms: sums, spans, and that more vectors than coordinates depend on each other. No program in sight. -/
namespace Gf
/-- The sum of f 0 .. f (k-1). -/
def sm : Nat → (Nat → UInt8) → UInt8
  | 0, _ => 0
  | k + 1, f => sm k f ^^^ f k
theorem sm_congr {f g : Nat → UInt8} : ∀ {k : Nat}, (∀ j, j < k → f j = g j) → sm k f = sm k g
  | 0, _ => rfl
  | k + 1, h => by rw [sm, sm, sm_congr (k := k) fun j hj => h j (by omega), h k (by omega)]
theorem sm_zero : ∀ {k : Nat} {f : Nat → UInt8}, (∀ j, j < k → f j = 0) → sm k f = 0
  | 0, _, _ => rfl
  | k + 1, f, h => by rw [sm, sm_zero (k := k) fun j hj => h j (by omega), h k (by omega)]; rfl
theorem xor4b (a b c d : UInt8) : (a ^^^ b) ^^^ (c ^^^ d) = (a ^^^ c) ^^^ (b ^^^ d) := by
  rw [xor_assoc, xor_assoc, ← xor_assoc b c d, xor_comm b c, xor_assoc c b d]
theorem sm_add (f g : Nat → UInt8) : ∀ k, sm k (fun j => f j ^^^ g j) = sm k f ^^^ sm k g
  | 0 => by simp [sm]
  | k + 1 => by rw [sm, sm, sm, sm_add f g k, xor4b]
theorem sm_mul (c : UInt8) (f : Nat → UInt8) : ∀ k, mul c (sm k f) = sm k (fun j => mul c (f j))
  | 0 => mul_zero c
  | k + 1 => by rw [sm, mul_xor, sm_mul c f k, sm]
theorem sm_one {p : Nat} (f : Nat → UInt8) : ∀ {k : Nat}, p < k → (∀ j, j < k → j ≠ p → f j = 0) → sm k f = f p
  | 0, h, _ => by omega
  | k + 1, h, hz => by
    rw [sm]
    by_cases hp : p = k
    · subst hp
      rw [sm_zero fun j hj => hz j (by omega) (by omega)]
      exact UInt8.zero_xor
    · rw [sm_one f (by omega) fun j hj hne => hz j (by omega) hne, hz k (by omega) (Ne.symm hp)]
      exact UInt8.xor_zero
/-- v is a combination of the m vectors vs, on the first n places. -/
def InSpan (n m : Nat) (vs : Nat → Nat → UInt8) (v : Nat → UInt8) : Prop := ∃ c : Nat → UInt8, ∀ i, i < n → v i = sm m (fun k => mul (c k) (vs k i))
theorem InSpan.zero (n m : Nat) (vs : Nat → Nat → UInt8) {v : Nat → UInt8} (h : ∀ i, i < n → v i = 0) : InSpan n m vs v :=
  ⟨fun _ => 0, fun i hi => by rw [h i hi, sm_zero fun j _ => zero_mul _]⟩
theorem InSpan.add {n m : Nat} {vs : Nat → Nat → UInt8} {u v : Nat → UInt8} (hu : InSpan n m vs u) (hv : InSpan n m vs v) : InSpan n m vs fun i => u i ^^^ v i := by
  obtain ⟨c, hc⟩ := hu
  obtain ⟨d, hd⟩ := hv
  exact ⟨fun k => c k ^^^ d k, fun i hi => by show u i ^^^ v i = _; rw [hc i hi, hd i hi, ← sm_add]; exact sm_congr fun j _ => by rw [xor_mul]⟩
theorem InSpan.smul {n m : Nat} {vs : Nat → Nat → UInt8} {v : Nat → UInt8} (a : UInt8) (hv : InSpan n m vs v) : InSpan n m vs fun i => mul a (v i) := by
  obtain ⟨d, hd⟩ := hv
  exact ⟨fun k => mul a (d k), fun i hi => by show mul a (v i) = _; rw [hd i hi, sm_mul]; exact sm_congr fun j _ => by rw [mul_assoc]⟩
theorem InSpan.mem {n m : Nat} {vs : Nat → Nat → UInt8} {k : Nat} (hk : k < m) : InSpan n m vs (vs k) :=
  ⟨fun j => if j = k then 1 else 0, fun i _ => by rw [sm_one (p := k) _ hk fun j _ hne => by simp [hne, zero_mul]]; simp [one_mul]⟩
theorem InSpan.congr {n m : Nat} {vs : Nat → Nat → UInt8} {u v : Nat → UInt8} (h : InSpan n m vs u) (he : ∀ i, i < n → v i = u i) : InSpan n m vs v := by
  obtain ⟨c, hc⟩ := h
  exact ⟨c, fun i hi => by rw [he i hi, hc i hi]⟩
theorem InSpan.sum {n m : Nat} {vs : Nat → Nat → UInt8} (c : Nat → UInt8) (us : Nat → Nat → UInt8) : ∀ k, (∀ j, j < k → InSpan n m vs (us j)) → InSpan n m vs fun i => sm k fun j => mul (c j) (us j i)
  | 0, _ => InSpan.zero n m vs fun _ _ => rfl
  | k + 1, h => (InSpan.sum c us k fun j hj => h j (by omega)).add ((h k (by omega)).smul (c k))
/-- What is in the span of vectors of a span is in it. -/
theorem InSpan.trans {n m k : Nat} {vs us : Nat → Nat → UInt8} {v : Nat → UInt8} (h : InSpan n k us v) (hu : ∀ j, j < k → InSpan n m vs (us j)) : InSpan n m vs v := by
  obtain ⟨c, hc⟩ := h
  exact (InSpan.sum c us k hu).congr hc
end Gf
/- ROWS IN THE FORM OF STAIRS, in plain terms: as many as columns exactly if the rows span all. No program in sight. -/
namespace Gf
def vec (l : List UInt8) : Nat → UInt8 := fun i => l.getD i 0
/-- The place of the first element that is not 0; the length if there is none. -/
def firstNZ : List UInt8 → Nat
  | [] => 0
  | x :: r => if x = 0 then firstNZ r + 1 else 0
theorem getD_out {l : List UInt8} {i : Nat} (h : l.length ≤ i) : l.getD i 0 = 0 := by
  rw [List.getD_eq_getElem?_getD, List.getElem?_eq_none h]; rfl
theorem getD_map_range (n : Nat) (f : Nat → UInt8) {i : Nat} (h : i < n) : ((List.range n).map f).getD i 0 = f i := by
  rw [List.getD_eq_getElem?_getD, List.getElem?_map, List.getElem?_eq_getElem (by simpa using h)]
  simp

/-- r without its multiple of x that makes it 0 at x's first place. -/
def redRow (r x : List UInt8) : List UInt8 := (List.range r.length).map fun i => r.getD i 0 ^^^ mul (r.getD (firstNZ x) 0) (x.getD i 0)
theorem redRow_length (r x : List UInt8) : (redRow r x).length = r.length := by simp [redRow]
theorem redRow_get (r x : List UInt8) {i : Nat} (h : i < r.length) : (redRow r x).getD i 0 = r.getD i 0 ^^^ mul (r.getD (firstNZ x) 0) (x.getD i 0) := getD_map_range _ _ h
theorem redRow_same {r x : List UInt8} (h : r.getD (firstNZ x) 0 = 0) : redRow r x = r := by
  apply List.ext_getElem
  · exact redRow_length r x
  · intro i h1 h2
    have e := redRow_get r x h2
    rw [h, zero_mul, UInt8.xor_zero, List.getD_eq_getElem?_getD, List.getElem?_eq_getElem h1, List.getD_eq_getElem?_getD, List.getElem?_eq_getElem h2] at e
    exact e
def reduce (S : List (List UInt8)) (r : List UInt8) : List UInt8 := S.foldl redRow r
structure Stairs (n : Nat) (S : List (List UInt8)) : Prop where
  len : ∀ x ∈ S, x.length = n
  nz : ∀ x ∈ S, firstNZ x < n
  one : ∀ x ∈ S, x.getD (firstNZ x) 0 = 1
  tri : S.Pairwise fun x y => y.getD (firstNZ x) 0 = 0

/-- v is a combination of the rows of L. -/
def SpanL (n : Nat) (L : List (List UInt8)) (v : Nat → UInt8) : Prop := InSpan n L.length (fun k => vec (L.getD k [])) v
theorem SpanL.mem {n : Nat} {L : List (List UInt8)} {x : List UInt8} (h : x ∈ L) : SpanL n L (vec x) := by
  obtain ⟨k, hk, rfl⟩ := List.getElem_of_mem h
  have := InSpan.mem (n := n) (vs := fun k => vec (L.getD k [])) hk
  have e : L.getD k [] = L[k] := by rw [List.getD_eq_getElem?_getD, List.getElem?_eq_getElem hk]; rfl
  simp only [e] at this
  exact this
theorem SpanL.trans {n : Nat} {L M : List (List UInt8)} {v : Nat → UInt8} (h : SpanL n L v) (hm : ∀ x ∈ L, SpanL n M (vec x)) : SpanL n M v :=
  InSpan.trans h fun j hj => by
    have e : L.getD j [] = L[j] := by rw [List.getD_eq_getElem?_getD, List.getElem?_eq_getElem hj]; rfl
    simp only [e]
    exact hm _ (List.getElem_mem hj)
theorem SpanL.mono {n : Nat} {L M : List (List UInt8)} {v : Nat → UInt8} (h : SpanL n L v) (hm : ∀ x ∈ L, x ∈ M) : SpanL n M v := h.trans fun x hx => SpanL.mem (hm x hx)
theorem SpanL.add {n : Nat} {L : List (List UInt8)} {u v : Nat → UInt8} (hu : SpanL n L u) (hv : SpanL n L v) : SpanL n L fun i => u i ^^^ v i := InSpan.add hu hv
theorem SpanL.smul {n : Nat} {L : List (List UInt8)} {v : Nat → UInt8} (a : UInt8) (hv : SpanL n L v) : SpanL n L fun i => mul a (v i) := InSpan.smul a hv
theorem SpanL.congr {n : Nat} {L : List (List UInt8)} {u v : Nat → UInt8} (h : SpanL n L u) (he : ∀ i, i < n → v i = u i) : SpanL n L v := InSpan.congr h he

/-- The stairs with one row more; none if it is a combination of those that are there. -/
def addRow (S : List (List UInt8)) (r : List UInt8) : Option (List UInt8) :=
  if firstNZ (reduce S r) = r.length then none else some ((reduce S r).map (mul (inv ((reduce S r).getD (firstNZ (reduce S r)) 0))))
theorem getD_map_mul (c : UInt8) (l : List UInt8) (i : Nat) : (l.map (mul c)).getD i 0 = mul c (l.getD i 0) := by
  rw [List.getD_eq_getElem?_getD, List.getElem?_map, List.getD_eq_getElem?_getD]
  cases l[i]? with
  | none => exact (mul_zero c).symm
  | some x => rfl
end Gf
/- CODES, in plain terms: what their functions compute. No program in sight. -/
namespace Cd
def bitAt (s i : Nat) : Nat := s / 2 ^ i % 2
/-- A set of small numbers, with those of a list. -/
def setOf (s : Nat) (g : List Int) : Nat := g.foldl (fun s i => s ||| 2 ^ i.toNat) s
def badAt (d : Int) (s : Nat) (g : List Int) (k : Nat) : Bool :=
  decide (g.getD k 0 < 0) || decide (d ≤ g.getD k 0) || (decide (0 < k) && decide (g.getD k 0 ≤ g.getD (k - 1) 0)) || (bitAt s (g.getD k 0).toNat == 1)
def bad (d : Int) (s : Nat) (g : List Int) : Bool := (List.range g.length).any (badAt d s g)
/-- The first error of groups, if the numbers s were met before. -/
def checkG (d : Int) : Nat → List (List Int) → Int
  | _, [] => 0
  | s, g :: r => if g = [] then 8 else if bad d s g then 1 else checkG d (setOf s g) r
def check (d : Int) (gs : List (List Int)) (gl : Int) : Int :=
  if d < 1 ∨ 16 < d ∨ gl < 0 ∨ 4 < gl then 3 else if 24 < gs.length ∨ 24 < d + gs.length + gl then 2 else checkG d 0 gs
theorem check_range {d gl : Int} {gs : List (List Int)} (h : d < 1 ∨ 16 < d ∨ gl < 0 ∨ 4 < gl) : check d gs gl = 3 := if_pos h
theorem check_limit {d gl : Int} {gs : List (List Int)} (h : ¬ (d < 1 ∨ 16 < d ∨ gl < 0 ∨ 4 < gl)) (h2 : 24 < gs.length ∨ 24 < d + gs.length + gl) : check d gs gl = 2 := by rw [check, if_neg h, if_pos h2]
theorem check_groups {d gl : Int} {gs : List (List Int)} (h : ¬ (d < 1 ∨ 16 < d ∨ gl < 0 ∨ 4 < gl)) (h2 : ¬ (24 < gs.length ∨ 24 < d + gs.length + gl)) : check d gs gl = checkG d 0 gs := by rw [check, if_neg h, if_neg h2]
theorem bad_false {d : Int} {s : Nat} {g : List Int} (h : ∀ k, k < g.length → badAt d s g k = false) : bad d s g = false := by
  unfold bad
  rw [List.any_eq_false]
  intro k hk
  rw [h k (by simpa using hk)]
  simp
theorem bad_true {d : Int} {s : Nat} {g : List Int} {k : Nat} (hk : k < g.length) (h : badAt d s g k = true) : bad d s g = true := by
  unfold bad
  rw [List.any_eq_true]
  exact ⟨k, by simpa using hk, h⟩
theorem badAt_of {d : Int} {s : Nat} {g : List Int} (h : bad d s g = false) {k : Nat} (hk : k < g.length) : badAt d s g k = false := by
  unfold bad at h
  rw [List.any_eq_false] at h
  simpa using h k (by simpa using hk)
theorem bad_bounds {d : Int} {s : Nat} {g : List Int} (h : bad d s g = false) {i : Int} (hi : i ∈ g) : 0 ≤ i ∧ i < d := by
  obtain ⟨k, hk, rfl⟩ := List.getElem_of_mem hi
  have := badAt_of h hk
  unfold badAt at this
  rw [List.getD_eq_getElem?_getD, List.getElem?_eq_getElem hk] at this
  simp only [Option.getD_some, Bool.or_eq_false_iff, decide_eq_false_iff_not] at this
  omega
theorem badAt_def (d : Int) (s : Nat) (g : List Int) (k : Nat) : badAt d s g k = (decide (g.getD k 0 < 0) || decide (d ≤ g.getD k 0) || (decide (0 < k) && decide (g.getD k 0 ≤ g.getD (k - 1) 0)) || (bitAt s (g.getD k 0).toNat == 1)) := rfl
theorem setOf_nil (s : Nat) : setOf s [] = s := rfl
theorem checkG_end (d : Int) (s : Nat) : checkG d s [] = 0 := rfl
theorem checkG_nil {d : Int} {s : Nat} {r : List (List Int)} : checkG d s ([] :: r) = 8 := by simp [checkG]
theorem checkG_bad {d : Int} {s : Nat} {g : List Int} {r : List (List Int)} (hg : g ≠ []) (h : bad d s g = true) : checkG d s (g :: r) = 1 := by simp [checkG, hg, h]
theorem checkG_next {d : Int} {s : Nat} {g : List Int} {r : List (List Int)} (hg : g ≠ []) (h : bad d s g = false) : checkG d s (g :: r) = checkG d (setOf s g) r := by simp [checkG, hg, h]
theorem setOf_take {s : Nat} {g : List Int} {k : Nat} (h : k < g.length) : setOf s (g.take (k + 1)) = setOf s (g.take k) ||| 2 ^ (g[k]).toNat := by
  unfold setOf
  rw [List.take_succ_eq_append_getElem h, List.foldl_append]
  rfl
theorem drop_cons {α : Type} {l : List α} {i : Nat} (h : i < l.length) : l.drop i = l[i] :: l.drop (i + 1) := (List.drop_eq_getElem_cons h)
attribute [irreducible] checkG check bad badAt setOf
end Cd
/- THE WALKS over package code: Check, Pieces. -/
namespace Go.Proofs.YtenafgphaceidaaDoor
open Go.RowKit

theorem nat_pow_cast (m : Nat) : ((2 : Int) ^ m) = ((2 ^ m : Nat) : Int) := (Int.natCast_pow 2 m).symm
theorem pow_lt62 (m : Nat) (h : m < 62) : ((2 ^ m : Nat) : Int) < 4611686018427387904 := by
  have : 2 ^ m < 2 ^ 62 := Nat.pow_lt_pow_right (by omega) h
  exact Int.ofNat_lt.2 this
theorem wrap_pow (m : Nat) (h : m < 62) : wrap64 (2 ^ m) = ((2 ^ m : Nat) : Int) := by
  rw [nat_pow_cast]
  have h1 := pow_lt62 m h
  have h0 : (0 : Int) ≤ ((2 ^ m : Nat) : Int) := Int.natCast_nonneg _
  generalize ((2 ^ m : Nat) : Int) = z at h1 h0 ⊢
  unfold wrap64
  omega
theorem or_pow (s m : Nat) (hs : s < 65536) (h : m < 16) : bits .or .i64 (s : Int) (wrap64 (2 ^ m)) = ((s ||| 2 ^ m : Nat) : Int) ∧ s ||| 2 ^ m < 65536 := by
  have hpw : 2 ^ m < 2 ^ 16 := Nat.pow_lt_pow_right (by omega) h
  refine ⟨?_, Nat.or_lt_two_pow (n := 16) hs hpw⟩
  rw [wrap_pow m (by omega)]
  exact or64 _ _ (Nat.lt_trans hs (by decide)) (Nat.lt_trans hpw (by decide))
theorem cCheck_range (d gl : Int) (gs : List (List Int)) (G : Value) (w : World) (h : d < 1 ∨ 16 < d ∨ gl < 0 ∨ 4 < gl) :
    Calls Tryd.prog 22 #[.agg #[.int .i64 d, G, .int .i64 gl]] w fun e w' => e = .returned (.int .i64 (Cd.check d gs gl)) ∧ Ext w w' := by
  rw [Cd.check_range h]
  have four : d < 1 ∨ (¬ d < 1 ∧ 16 < d) ∨ (¬ d < 1 ∧ ¬ 16 < d ∧ gl < 0) ∨ (¬ d < 1 ∧ ¬ 16 < d ∧ ¬ gl < 0 ∧ 4 < gl) := by omega
  clear h
  rcases four with g | ⟨g1, g⟩ | ⟨g1, g2, g⟩ | ⟨g1, g2, g3, g⟩
  all_goals
    go_enter Tryd.func22, Tryd.ntmps22
    go_wp2_with fail
    go_step3
    go_wp2_with fail
    try rw [Exit.noGoto_ret]
    go_ret
    exact ⟨rfl, (Ext.refl _).alloc _⟩
theorem cCheck_limit (d gl : Int) (gs : List (List Int)) (G : Value) (w : World) (hG : Rs (Rs RI) w G gs) (h1 : 1 ≤ d) (h2 : d ≤ 16) (h3 : 0 ≤ gl) (h4 : gl ≤ 4) (h : 24 < gs.length ∨ 24 < d + gs.length + gl) :
    Calls Tryd.prog 22 #[.agg #[.int .i64 d, G, .int .i64 gl]] w fun e w' => e = .returned (.int .i64 (Cd.check d gs gl)) ∧ Ext w w' := by
  rw [Cd.check_limit (by omega) h]
  obtain ⟨A, c, rfl, hl⟩ := hG.form
  clear hG
  by_cases hb : 24 < gs.length
  · go_enter Tryd.func22, Tryd.ntmps22
    go_wp2_with fail
    go_step3
    go_wp2_with fail
    try rw [Exit.noGoto_ret]
    go_ret
    exact ⟨rfl, (Ext.refl _).alloc _⟩
  · have hb2 : 24 < d + gs.length + gl := by omega
    clear h
    go_enter Tryd.func22, Tryd.ntmps22
    go_wp2_with fail
    go_step3
    go_wp2_with fail
    try rw [Exit.noGoto_ret]
    go_ret
    exact ⟨rfl, (Ext.refl _).alloc _⟩
set_option maxHeartbeats 8000000 in
theorem cCheck_groups (d gl : Int) (gs : List (List Int)) (G : Value) (w : World) (hG : Rs (Rs RI) w G gs) (h1 : 1 ≤ d) (h2 : d ≤ 16) (h3 : 0 ≤ gl) (h4 : gl ≤ 4) (h5 : gs.length ≤ 24) (h6 : d + gs.length + gl ≤ 24) :
    Calls Tryd.prog 22 #[.agg #[.int .i64 d, G, .int .i64 gl]] w fun e w' => e = .returned (.int .i64 (Cd.check d gs gl)) ∧ Ext w w' := by
  rw [Cd.check_groups (by omega) (by omega)]
  obtain ⟨A, c, rfl, hl⟩ := hG.form
  have HG := Lib.hid hG
  clear hG
  go_enter Tryd.func22, Tryd.ntmps22
  go_wp2_with fail
  go_step3
  go_wp2_with fail
  go_step3
  go_wp2_with fail
  have hx := (Ext.refl w).alloc (.cells #[.int .i64 d, .slice A gs.length c, .int .i64 gl] 56)
  have HX := Lib.hid hx
  clear hx
  go_loop [3, 4, 48] (fun vs ve vi => ∃ i s : Nat, i ≤ gs.length ∧ vi = .int .i64 i ∧ ve = .int .i64 0 ∧ vs = .int .i64 s ∧ s < 65536 ∧ Hid (Cd.checkG d s (gs.drop i) = Cd.checkG d 0 gs)) (fun _ _ vi => gs.length - (intOf vi).toNat)
  case atStart => exact ⟨0, 0, Nat.zero_le _, rfl, rfl, rfl, by omega, rfl⟩
  case round =>
    obtain ⟨i, s, hi, rfl, rfl, rfl, hs, HC⟩ := hrel
    by_cases hlt : i < gs.length
    · obtain ⟨ad, u, rfl, hcell, hu⟩ := HG.out.at hlt
      obtain ⟨B, cB, rfl, hlB⟩ := hu.form
      have hcell' := HX.out.cell hcell
      have HU := Lib.hid hu
      clear hcell hu
      by_cases h0 : gs[i] = []
      · have hc8 : Cd.checkG d 0 gs = 8 := by rw [← HC.out, Cd.drop_cons hlt, h0, Cd.checkG_nil]
        have H8 := Lib.hid hc8
        have hl0 : gs[i].length = 0 := by rw [h0]; rfl
        clear hc8 h0
        go_wp2_with fail
        try rw [Exit.noGoto_ret]
        go_ret
        exact ⟨ret_int H8.out.symm, HX.out⟩
      · have hg0 : gs[i] ≠ [] := h0
        have hgl : gs[i].length ≠ 0 := fun h => h0 (List.length_eq_zero_iff.1 h)
        have e0 : ((gs[i].length : Int) == 0) = false := by rw [beq_eq_false_iff_ne]; omega
        have hgl2 : gs[i].length ≤ 9223372036854775807 := hlB
        have HG0 := Lib.hid h0
        clear h0 hg0 hgl
        obtain ⟨g, hg⟩ : ∃ g, gs[i] = g := ⟨_, rfl⟩
        rw [hg] at hlB hcell' HU e0 HG0
        have HGG := Lib.hid hg
        clear hg hgl2
        go_wp2_with fail
        go_loop [4, 57] (fun ve vk => ∃ k : Nat, k ≤ g.length ∧ vk = .int .i64 k ∧ ve = .int .i64 0 ∧ Hid (∀ j, j < k → Cd.badAt d s g j = false)) (fun _ vk => g.length - (intOf vk).toNat)
        case atStart => exact ⟨0, Nat.zero_le _, rfl, rfl, fun j hj => absurd hj (by omega)⟩
        case round =>
          obtain ⟨k, hk, rfl, rfl, HB⟩ := hrel
          by_cases hkl : k < g.length
          · obtain ⟨bd, u, rfl, hbc, hu⟩ := HU.out.at hkl
            obtain ⟨rfl, hlo, hhi⟩ := hu
            have hbc' := HX.out.cell hbc
            clear hbc
            have hgk : g.getD k 0 = g[k] := by rw [List.getD_eq_getElem?_getD, List.getElem?_eq_getElem hkl]; rfl
            have hbd := Cd.badAt_def d s g k
            rw [hgk] at hbd
            have bad1 : Cd.badAt d s g k = true → Cd.checkG d 0 gs = 1 := fun h => by
              rw [← HC.out, Cd.drop_cons hlt, HGG.out, Cd.checkG_bad HG0.out (Cd.bad_true hkl h)]
            have BD := Lib.hid hbd
            have B1 := Lib.hid bad1
            clear hgk hbd bad1
            by_cases c1 : g[k] < 0
            · have hb : Cd.badAt d s g k = true := by rw [BD.out]; simp [c1]
              have bad1 := B1.out
              have H1 := Lib.hid (bad1 hb)
              clear hb bad1
              go_wp2_with fail
              try rw [Exit.noGoto_ret]
              go_ret
              exact ⟨ret_int H1.out.symm, HX.out⟩
            · by_cases c2 : d ≤ g[k]
              · have hb : Cd.badAt d s g k = true := by rw [BD.out]; simp [c2]
                have bad1 := B1.out
                have H1 := Lib.hid (bad1 hb)
                clear hb bad1
                go_wp2_with fail
                try rw [Exit.noGoto_ret]
                go_ret
                exact ⟨ret_int H1.out.symm, HX.out⟩
              · have hm : bits .and .i64 ((s : Int) / 2 ^ (g[k]).toNat) 1 = ((Cd.bitAt s (g[k]).toNat : Nat) : Int) := by
                  have hle : s / 2 ^ (g[k]).toNat ≤ s := Nat.div_le_self _ _
                  have := odd64 (s / 2 ^ (g[k]).toNat) (by omega)
                  rw [Cd.bitAt, ← this]
                  simp
                have HM := Lib.hid hm
                clear hm
                by_cases ck : 0 < k
                · obtain ⟨bd2, u2, e2, hbc2, hu2⟩ := HU.out.at (i := k - 1) (by omega)
                  injection e2 with e2
                  subst e2
                  obtain ⟨rfl, hlo2, hhi2⟩ := hu2
                  have hbc2' := HX.out.cell hbc2
                  clear hbc2
                  have hgk2 : g.getD (k - 1) 0 = g[k - 1] := by rw [List.getD_eq_getElem?_getD, List.getElem?_eq_getElem (by omega)]; rfl
                  have HK2 := Lib.hid hgk2
                  clear hgk2
                  by_cases c3 : g[k] ≤ g[k - 1]
                  · have hb : Cd.badAt d s g k = true := by rw [BD.out, HK2.out]; simp [c3, ck]
                    have bad1 := B1.out
                    have H1 := Lib.hid (bad1 hb)
                    clear hb bad1
                    go_wp2_with fail
                    try rw [Exit.noGoto_ret]
                    go_ret
                    exact ⟨ret_int H1.out.symm, HX.out⟩
                  · by_cases c4 : Cd.bitAt s (g[k]).toNat = 1
                    · have eb : (bits .and .i64 ((s : Int) / 2 ^ (g[k]).toNat) 1 == 1) = true := by rw [HM.out, c4]; rfl
                      have hb : Cd.badAt d s g k = true := by rw [BD.out]; simp [c4]
                      have bad1 := B1.out
                      have H1 := Lib.hid (bad1 hb)
                      clear hb bad1 c4
                      go_wp2_with fail
                      try rw [Exit.noGoto_ret]
                      go_ret
                      exact ⟨ret_int H1.out.symm, HX.out⟩
                    · have eb : (bits .and .i64 ((s : Int) / 2 ^ (g[k]).toNat) 1 == 1) = false := by rw [HM.out, beq_eq_false_iff_ne]; omega
                      have hb : Cd.badAt d s g k = false := by rw [BD.out, HK2.out]; simp [c4]; omega
                      clear c4
                      have H1 := Lib.hid hb
                      clear hb
                      go_wp2_with fail
                      go_round
                      case rel => exact ⟨k + 1, by omega, by go_num, rfl, fun j hj => by
                        by_cases hjk : j = k
                        · rw [hjk]; exact H1.out
                        · exact HB.out j (by omega)⟩
                      case measure => simp [intOf]; omega
                · by_cases c4 : Cd.bitAt s (g[k]).toNat = 1
                  · have eb : (bits .and .i64 ((s : Int) / 2 ^ (g[k]).toNat) 1 == 1) = true := by rw [HM.out, c4]; rfl
                    have hb : Cd.badAt d s g k = true := by rw [BD.out]; simp [c4]
                    have bad1 := B1.out
                    have H1 := Lib.hid (bad1 hb)
                    clear hb bad1 c4
                    go_wp2_with fail
                    try rw [Exit.noGoto_ret]
                    go_ret
                    exact ⟨ret_int H1.out.symm, HX.out⟩
                  · have eb : (bits .and .i64 ((s : Int) / 2 ^ (g[k]).toNat) 1 == 1) = false := by rw [HM.out, beq_eq_false_iff_ne]; omega
                    have hb : Cd.badAt d s g k = false := by rw [BD.out]; simp [c4, ck]; omega
                    clear c4
                    have H1 := Lib.hid hb
                    clear hb
                    go_wp2_with fail
                    go_round
                    case rel => exact ⟨k + 1, by omega, by go_num, rfl, fun j hj => by
                      by_cases hjk : j = k
                      · rw [hjk]; exact H1.out
                      · exact HB.out j (by omega)⟩
                    case measure => simp [intOf]; omega
          · obtain rfl : k = g.length := by omega
            have hnb : Cd.bad d s g = false := Cd.bad_false HB.out
            have hgb : ∀ i ∈ g, 0 ≤ i ∧ i < 16 := fun i hi => by have := Cd.bad_bounds hnb hi; omega
            have hnx : Cd.checkG d (Cd.setOf s g) (gs.drop (i + 1)) = Cd.checkG d 0 gs := by rw [← HC.out, Cd.drop_cons hlt, HGG.out, Cd.checkG_next HG0.out hnb]
            have HNX := Lib.hid (And.intro hgb hnx)
            clear hnb hgb hnx
            go_wp2_with fail
            go_loop [3, 93] (fun vs vk => ∃ k s' : Nat, k ≤ g.length ∧ vk = .int .i64 k ∧ vs = .int .i64 s' ∧ s' < 65536 ∧ Hid (s' = Cd.setOf s (g.take k))) (fun _ vk => g.length - (intOf vk).toNat)
            case atStart => exact ⟨0, s, Nat.zero_le _, rfl, rfl, hs, by rw [List.take_zero, Cd.setOf_nil]; rfl⟩
            case round =>
              obtain ⟨k, s', hk, rfl, rfl, hs', HS⟩ := hrel
              by_cases hkl : k < g.length
              · obtain ⟨bd, u, rfl, hbc, hu⟩ := HU.out.at hkl
                obtain ⟨rfl, hlo, hhi⟩ := hu
                have hbc' := HX.out.cell hbc
                clear hbc
                have hb2 := HNX.out.1 _ (List.getElem_mem hkl)
                obtain ⟨m, hm⟩ : ∃ m : Nat, g[k] = (m : Int) := ⟨(g[k]).toNat, by omega⟩
                have hst := Cd.setOf_take (s := s) hkl
                rw [hm, Int.toNat_natCast, ← HS.out] at hst
                have hm16 : m < 16 := by omega
                rw [hm] at hbc'
                have hor := or_pow s' m hs' hm16
                have HOR := Lib.hid (And.intro hor.1 (And.intro hst hor.2))
                clear hor hst hb2 hm hlo hhi
                go_wp2_with fail
                go_round
                case rel => exact ⟨k + 1, s' ||| 2 ^ m, by omega, by go_num, by rw [HOR.out.1], HOR.out.2.2, HOR.out.2.1.symm⟩
                case measure => simp [intOf]; omega
              · obtain rfl : k = g.length := by omega
                have hse : s' = Cd.setOf s g := by rw [HS.out, List.take_length]
                have HSE := Lib.hid hse
                clear hse
                go_wp2_with fail
                go_round
                case rel => exact ⟨i + 1, s', by omega, by go_num, rfl, rfl, hs', by rw [HSE.out]; exact HNX.out.2⟩
                case measure => simp [intOf]; omega
    · obtain rfl : i = gs.length := by omega
      have hfin : Cd.checkG d 0 gs = 0 := by rw [← HC.out, List.drop_length, Cd.checkG_end]
      have HF := Lib.hid hfin
      clear hfin
      go_wp2_with fail
      try rw [Exit.noGoto_ret]
      go_ret
      exact ⟨ret_int HF.out.symm, HX.out⟩
/-- `Check` of a code: its first error; nothing that was there is changed. -/
theorem cCheck_any (d gl : Int) (gs : List (List Int)) (G : Value) (w : World) (hG : Rs (Rs RI) w G gs) :
    Calls Tryd.prog 22 #[.agg #[.int .i64 d, G, .int .i64 gl]] w fun e w' => e = .returned (.int .i64 (Cd.check d gs gl)) ∧ Ext w w' := by
  by_cases h : d < 1 ∨ 16 < d ∨ gl < 0 ∨ 4 < gl
  · exact cCheck_range d gl gs G w h
  · by_cases h2 : 24 < gs.length ∨ 24 < d + gs.length + gl
    · exact cCheck_limit d gl gs G w hG (by omega) (by omega) (by omega) (by omega) h2
    · exact cCheck_groups d gl gs G w hG (by omega) (by omega) (by omega) (by omega) (by omega) (by omega)
end Go.Proofs.YtenafgphaceidaaDoor
/- THE WALKS over package code: Pieces, first, the closures of Rows. -/
namespace Cd
/-- The number of pieces. -/
def pieces (d : Int) (gs : List (List Int)) (gl : Int) : Int := if check d gs gl = 0 then d + gs.length + gl else 0
theorem pieces_ok {d gl : Int} {gs : List (List Int)} (h : check d gs gl = 0) : pieces d gs gl = d + gs.length + gl := if_pos h
theorem pieces_no {d gl : Int} {gs : List (List Int)} (h : check d gs gl ≠ 0) : pieces d gs gl = 0 := if_neg h
/-- What a code has that Check accepts. -/
theorem check_ok {d gl : Int} {gs : List (List Int)} (h : check d gs gl = 0) : 1 ≤ d ∧ d ≤ 16 ∧ 0 ≤ gl ∧ gl ≤ 4 ∧ gs.length ≤ 24 ∧ d + gs.length + gl ≤ 24 := by
  by_cases h1 : d < 1 ∨ 16 < d ∨ gl < 0 ∨ 4 < gl
  · rw [check_range h1] at h; cases h
  · by_cases h2 : 24 < gs.length ∨ 24 < d + gs.length + gl
    · rw [check_limit h1 h2] at h; cases h
    · omega
theorem checkG_ok {d : Int} : ∀ {gs : List (List Int)} {s : Nat}, checkG d s gs = 0 → ∀ g ∈ gs, ∀ i ∈ g, 0 ≤ i ∧ i < d
  | [], _, _, g, hg, _, _ => by simp at hg
  | g0 :: r, s, h, g, hg, i, hi => by
    by_cases h0 : g0 = []
    · subst h0; rw [checkG_nil] at h; cases h
    · cases hb : bad d s g0 with
      | true => rw [checkG_bad h0 hb] at h; cases h
      | false =>
        rw [checkG_next h0 hb] at h
        rcases List.mem_cons.1 hg with rfl | hg
        · exact bad_bounds hb hi
        · exact checkG_ok h g hg i hi
theorem check_groups_ok {d gl : Int} {gs : List (List Int)} (h : check d gs gl = 0) : ∀ g ∈ gs, ∀ i ∈ g, 0 ≤ i ∧ i < d := by
  have hk := check_ok h
  rw [check_groups (by omega) (by omega)] at h
  exact checkG_ok h
/-- A row of n coefficients. -/
def rowOf (n : Nat) (g : Nat → UInt8) : List UInt8 := (List.range n).map g
def unitAt (k i : Nat) : UInt8 := if i = k then 1 else 0
def inAt (s i : Nat) : UInt8 := UInt8.ofNat (bitAt s i)
def gloAt (j i : Nat) : UInt8 := UInt8.ofNat (Gf.powN 2 ((i * (j + 1)) % 255))
def rows (d : Nat) (gs : List (List Int)) (gl : Nat) : List (List UInt8) :=
  (List.range d).map (fun k => rowOf d (unitAt k)) ++ gs.map (fun g => rowOf d (inAt (setOf 0 g))) ++ (List.range gl).map (fun j => rowOf d (gloAt j))
/-- The place of the first element that is not 0. -/
def first : List UInt8 → Nat
  | [] => 0
  | x :: r => if x = 0 then first r + 1 else 0
theorem unitAt_eq (k : Nat) : unitAt k k = 1 := if_pos rfl
theorem unitAt_ne {k i : Nat} (h : i ≠ k) : unitAt k i = 0 := if_neg h
attribute [irreducible] unitAt inAt gloAt first pieces
end Cd
namespace Go.Proofs.YtenafgphaceidaaDoor
open Go.RowKit

theorem cPieces_any (d gl : Int) (gs : List (List Int)) (G : Value) (w : World) (hG : Rs (Rs RI) w G gs) :
    Calls Tryd.prog 24 #[.agg #[.int .i64 d, G, .int .i64 gl]] w fun e w' => e = .returned (.int .i64 (Cd.pieces d gs gl)) ∧ Ext w w' := by
  have hx0 := (Ext.refl w).alloc (.cells #[.int .i64 d, G, .int .i64 gl] 56)
  have HX := Lib.hid (And.intro hx0 (Rs.ext (Rs.ext RI.ext) _ _ _ _ hx0 hG))
  obtain ⟨A, c, rfl, hl⟩ := hG.form
  clear hG hx0
  by_cases h0 : Cd.check d gs gl = 0
  · have hp := Cd.pieces_ok h0
    have hk := Cd.check_ok h0
    have e1 : (Cd.check d gs gl != 0) = false := by rw [h0]; rfl
    have HP := Lib.hid hp
    clear h0 hp
    go_enter Tryd.func24, Tryd.ntmps24
    go_wp2_with fail
    refine (cCheck_any d gl gs _ _ HX.out.2).mono ?_
    rintro e w1 ⟨rfl, hx1⟩
    have hc0 : w1.cell? ⟨w.heap.size, 0, none⟩ = some (.int .i64 d) := hx1.cell (by go_simp)
    have hc1 : w1.cell? ⟨w.heap.size, 1, none⟩ = some (.slice A gs.length c) := hx1.cell (by go_simp)
    have hc2 : w1.cell? ⟨w.heap.size, 2, none⟩ = some (.int .i64 gl) := hx1.cell (by go_simp)
    have HX1 := Lib.hid (HX.out.1.trans hx1)
    clear hx1
    go_wp2_with fail
    go_ret
    exact ⟨ret_int HP.out.symm, HX1.out⟩
  · have hp := Cd.pieces_no h0
    have e1 : (Cd.check d gs gl != 0) = true := by rw [bne_iff_ne]; exact h0
    have HP := Lib.hid hp
    clear h0 hp
    go_enter Tryd.func24, Tryd.ntmps24
    go_wp2_with fail
    refine (cCheck_any d gl gs _ _ HX.out.2).mono ?_
    rintro e w1 ⟨rfl, hx1⟩
    have HX1 := Lib.hid (HX.out.1.trans hx1)
    clear hx1
    go_wp2_with fail
    go_ret
    exact ⟨ret_int HP.out.symm, HX1.out⟩

theorem enters56 : ∀ args w, (callFunc 56 args).run Tryd.prog w = .ok (.enter 56 args) w := enters_of Tryd.func56 (by kernel_rfl) rfl
theorem enters57 : ∀ args w, (callFunc 57 args).run Tryd.prog w = .ok (.enter 57 args) w := enters_of Tryd.func57 (by kernel_rfl) rfl
theorem enters58 : ∀ args w, (callFunc 58 args).run Tryd.prog w = .ok (.enter 58 args) w := enters_of Tryd.func58 (by kernel_rfl) rfl
theorem rows2_any (i k P : Nat) (w : World) (h1 : w.cell? ⟨P, 0, none⟩ = some (.int .i64 k)) :
    Calls Tryd.prog 56 #[.int .i64 i, .pointer (some ⟨P, 0, none⟩)] w fun e w' => e = .returned (bv (Cd.unitAt k i)) ∧ Ext w w' := by
  by_cases h : i = k
  · subst h
    rw [Cd.unitAt_eq]
    go_enter Tryd.func56, Tryd.ntmps56
    go_wp2_with fail
    go_ret
    exact ⟨rfl, Ext.refl _⟩
  · rw [Cd.unitAt_ne h]
    have e1 : ((i : Int) == (k : Int)) = false := by rw [beq_eq_false_iff_ne]; omega
    clear h
    go_enter Tryd.func56, Tryd.ntmps56
    go_wp2_with fail
    go_ret
    exact ⟨rfl, Ext.refl _⟩
theorem rows3_any (i s P : Nat) (w : World) (hs : s < 65536) (hi : i < 16) (h1 : w.cell? ⟨P, 0, none⟩ = some (.int .i64 s)) :
    Calls Tryd.prog 57 #[.int .i64 i, .pointer (some ⟨P, 0, none⟩)] w fun e w' => e = .returned (bv (Cd.inAt s i)) ∧ Ext w w' := by
  have hm : bits .and .i64 ((s : Int) / 2 ^ i) 1 = ((Cd.bitAt s i : Nat) : Int) := by
    have hle : s / 2 ^ i ≤ s := Nat.div_le_self _ _
    have := odd64 (s / 2 ^ i) (by omega)
    rw [Cd.bitAt, ← this]
    simp
  have hb : Cd.bitAt s i < 2 := Nat.mod_lt _ (by decide)
  have hv : (Cd.inAt s i).toNat = Cd.bitAt s i := by
    unfold Cd.inAt
    rw [UInt8.toNat_ofNat']
    omega
  have HM := Lib.hid (And.intro hm hv)
  clear hm hv
  go_enter Tryd.func57, Tryd.ntmps57
  go_wp2_with fail
  go_ret
  exact ⟨ret_int (by rw [HM.out.1, HM.out.2]; omega), Ext.refl _⟩
theorem rows4_any (i j P : Nat) (w : World) (hT : Tab w) (hi : i < 16) (hj : j < 4) (h1 : w.cell? ⟨P, 0, none⟩ = some (.int .i64 j)) :
    Calls Tryd.prog 58 #[.int .i64 i, .pointer (some ⟨P, 0, none⟩)] w fun e w' => e = .returned (bv (Cd.gloAt j i)) ∧ Ext w w' := by
  have hm : i * (j + 1) < 64 := by
    have := Nat.mul_le_mul (show i ≤ 15 by omega) (show j + 1 ≤ 4 by omega)
    omega
  have hc : (i : Int) * ((j : Int) + 1) = ((i * (j + 1) : Nat) : Int) := by rw [Int.natCast_mul, Int.natCast_add]; rfl
  have hlo : 0 ≤ (i : Int) * ((j : Int) + 1) := by rw [hc]; omega
  have hhi : (i : Int) * ((j : Int) + 1) < 64 := by rw [hc]; omega
  have HC := Lib.hid (And.intro hc hm)
  have HT := Lib.hid hT
  clear hT hc hm
  generalize hz : (i : Int) * ((j : Int) + 1) = z at hlo hhi HC
  go_enter Tryd.func58, Tryd.ntmps58
  go_wp2_with fail
  refine (exp_any z _ HT.out (by omega) (by omega)).mono ?_
  rintro e w' ⟨rfl, rfl⟩
  go_wp2_with fail
  go_ret
  refine ⟨ret_int ?_, Ext.refl _⟩
  have h2 : (z % 255).toNat = i * (j + 1) % 255 := by have := HC.out.1; omega
  rw [h2]
  unfold Cd.gloAt
  rw [UInt8.toNat_ofNat', Nat.mod_eq_of_lt (Gf.powN_lt _)]

theorem Owns.front {w0 w : World} {L M : List LRow} (h : Owns w0 w (L ++ M)) : Owns w0 w L where
  ext := h.ext
  ok i r hr := h.ok i r (by rw [List.getElem?_append_left]; exact hr; exact (List.getElem?_eq_some_iff.1 hr).1)
  far i j a b hij ha hb := h.far i j a b hij (by rw [List.getElem?_append_left]; exact ha; exact (List.getElem?_eq_some_iff.1 ha).1) (by rw [List.getElem?_append_left]; exact hb; exact (List.getElem?_eq_some_iff.1 hb).1)
/-- A row that was made behind all others. -/
theorem Owns.behind {w0 w w' : World} {L : List LRow} (h : Owns w0 w L) (hx : Ext w w') {v : Value} {e s n : Nat} {xs : List Value} (ho : w'.ownsRow w.heap.size e s v n xs) : Owns w0 w' (L ++ [⟨v, e, s, n, xs⟩]) where
  ext := h.ext.trans hx
  ok i r hr := by
    rw [List.getElem?_append] at hr
    split at hr
    · exact (h.next hx).ok i r hr
    · have : r = ⟨v, e, s, n, xs⟩ := by
        cases hk : i - L.length with
        | zero => rw [hk] at hr; simpa using hr.symm
        | succ k => rw [hk] at hr; simp at hr
      subst this
      exact ⟨ho.1, ho.2.imp id fun ⟨g, cap, cur, h1, h2, r⟩ => ⟨g, cap, cur, h1, Nat.le_trans h.ext.size h2, r⟩⟩
  far i j a b hij ha hb := by
    have hlt : ∀ r : LRow, r.ok w0 w → r.far ⟨v, e, s, n, xs⟩ := fun r hr => by
      unfold LRow.far
      cases hv : r.v.ownBlock with
      | none => exact .inl rfl
      | some g =>
        refine .inr fun hh => ?_
        have h1 := (World.ownsRow.lt hr g hv).2
        have h2 := (ho.lt g hh.symm).1
        omega
    rw [List.getElem?_append] at ha hb
    split at ha
    · split at hb
      · exact h.far i j a b hij ha hb
      · have : b = ⟨v, e, s, n, xs⟩ := by
          cases hk : j - L.length with
          | zero => rw [hk] at hb; simpa using hb.symm
          | succ k => rw [hk] at hb; simp at hb
        subst this
        exact hlt a (h.ok i a ha)
    · have : a = ⟨v, e, s, n, xs⟩ := by
        cases hk : i - L.length with
        | zero => rw [hk] at ha; simpa using ha.symm
        | succ k => rw [hk] at ha; simp at ha
      subst this
      split at hb
      · exact LRow.far_symm (hlt b (h.ok j b hb))
      · exfalso
        have h1 : j - L.length = 0 := by
          cases hk : j - L.length with
          | zero => rfl
          | succ k => rw [hk] at hb; simp at hb
        have h2 : i - L.length = 0 := by
          cases hk : i - L.length with
          | zero => rfl
          | succ k => rw [hk] at ha; simp at ha
        omega

def inner1 (g : Nat) (r : List UInt8) : LRow := ⟨.slice (some ⟨g, 0, none⟩) r.length r.length, 5, 1, r.length, r.map bv⟩
def inner (hs : List Nat) (rs : List (List UInt8)) : List LRow := List.zipWith inner1 hs rs
/-- The rows of bytes that a call has made, in a variable of its own. -/
def RowsOut (w0 w : World) (P : Nat) (rs : List (List UInt8)) : Prop :=
  ∃ (A : Option Addr) (c : Nat) (hs : List Nat), hs.length = rs.length ∧ Owns w0 w (⟨.slice (some ⟨P, 0, none⟩) 1 1, 90, 1, 1, [.slice A rs.length c]⟩ :: ⟨.slice A rs.length c, 44, 1, rs.length, (inner hs rs).map (·.v)⟩ :: inner hs rs)
theorem RowsOut.next {w0 w w' : World} {P : Nat} {rs : List (List UInt8)} (h : RowsOut w0 w P rs) (hx : Ext w w') : RowsOut w0 w' P rs := by
  obtain ⟨A, c, hs, hl, h⟩ := h
  exact ⟨A, c, hs, hl, h.next hx⟩
theorem RowsOut.ext {w0 w : World} {P : Nat} {rs : List (List UInt8)} (h : RowsOut w0 w P rs) : Ext w0 w := by
  obtain ⟨A, c, hs, hl, h⟩ := h
  exact h.ext
theorem inner_snoc {hs : List Nat} {rs : List (List UInt8)} (h : hs.length = rs.length) (g : Nat) (r : List UInt8) : inner (hs ++ [g]) (rs ++ [r]) = inner hs rs ++ [inner1 g r] := by
  unfold inner
  rw [List.zipWith_append h]
  rfl
theorem info_bytes : (Tryd.prog.info? 44).map (fun i => (i.zero, i.size, i.bytes)) = some (some (.slice none 0 0), 1, 24) := by kernel_rfl

set_option maxRecDepth 100000 in
theorem rows1_any (w0 w : World) (P1 P5 d : Nat) (rs : List (List UInt8)) (F : FuncId) (cap : Array Value) (g : Nat → UInt8) (hd : d ≤ 16) (hr : rs.length < 100)
    (hE : ∀ args w, (callFunc F args).run Tryd.prog w = .ok (.enter F args) w)
    (hF : ∀ k, k < d → ∀ w', Ext w w' → Calls Tryd.prog F (#[.int .i64 k] ++ cap) w' fun e w'' => e = .returned (bv (g k)) ∧ Ext w' w'')
    (hc : w.cell? ⟨P1, 0, none⟩ = some (.int .i64 d)) (hO : RowsOut w0 w P5 rs) :
    Calls Tryd.prog 55 #[.func (.func F) #[] cap, .pointer (some ⟨P1, 0, none⟩), .pointer (some ⟨P5, 0, none⟩)] w fun e w' => e = .returned (.tuple #[]) ∧ RowsOut w0 w' P5 (rs ++ [Cd.rowOf d g]) := by
  have HF := Lib.hid hF
  have HO := Lib.hid hO
  clear hF hO
  obtain ⟨i0, hi, hz0, hz1, hz2⟩ := info_parts info_u8
  have HZ := Lib.hid hz2
  clear hz2
  go_enter Tryd.func55, Tryd.ntmps55
  go_wp2_with (refine wpList_make_full _ rfl (.tmp 7) (.tmp 7) 44 rfl w.heap.size 5 i0 (.int .u8 0) 1 Tryd.underlying44 hi hz0 hz1 _ _ _ _ d rfl rfl rfl rfl (by rw [HZ.out]; omega) (by unfold maxLen; omega) (Nat.le_refl _) ?_; intro w1 hown hgrow)
  have hx : Ext w w1 := (Ext.refl w).grown hgrow (fun k h => by cases h)
  have hown' : w1.ownsRow w.heap.size 5 1 (.slice (some ⟨w.heap.size, 0, none⟩) d d) d (part d 0 g) := by
    rw [part_zero, ← toList_madeCells_one]
    simpa [Value.cells] using hown
  have H0 := Lib.hid (And.intro hx hown')
  clear hown hown' hgrow hx
  go_loopw [5, 11] (fun vj vi wr => ∃ k : Nat, k ≤ d ∧ vi = .int .i64 k ∧ Hid (Ext w wr ∧ wr.ownsRow w.heap.size 5 1 (.slice (some ⟨w.heap.size, 0, none⟩) d d) d (part d k g))) (fun _ vi _ => d - (intOf vi).toNat)
  case atStart => exact ⟨0, Nat.zero_le _, rfl, H0.out⟩
  case round =>
    obtain ⟨k, hk, rfl, HR⟩ := hrel
    by_cases hlt : k < d
    · go_wp2_with fail
      refine (HF.out k hlt wr HR.out.1).mono ?_
      rintro e w2 ⟨rfl, hx2⟩
      have hown2 : w2.ownsRow w.heap.size 5 1 (.slice (some ⟨w.heap.size, 0, none⟩) d d) d (part d k g) := own_ext HR.out.2 hx2
      have hcc := hown2.cellAt k (by omega)
      rw [List.getElem?_eq_getElem (by rw [part_length g hk]; exact hlt)] at hcc
      have hf := hown2.frozenAt k
      have hst := (hown2.stored k (bv (g k))).1
      rw [part_set g hlt] at hst
      have hx3 : Ext w w2 := HR.out.1.trans hx2
      have HS := Lib.hid (And.intro hx3 hst)
      clear hown2 hst hx3 hx2
      go_wp2_with fail
      go_roundw
      case rel => exact ⟨k + 1, by omega, by go_num, HS.out.1.setCell (Nat.le_refl _) _, HS.out.2⟩
      case measure => simp [intOf]; omega
    · obtain rfl : k = d := by omega
      obtain ⟨A, c, hs, hsl, hL⟩ := HO.out
      have hL1 := hL.behind HR.out.1 HR.out.2
      rw [part_full] at hL1
      have hrow : (List.range k).map g = Cd.rowOf k g := rfl
      rw [hrow] at hL1
      have hc0 := hL1.cell 0 rfl 0 rfl
      have HL := Lib.hid hL1
      clear hL hL1
      go_wp2_with (refine wpl_append_owns (u := .slice (some ⟨w.heap.size, 0, none⟩) k k) 90 44 rfl (.tmp 21) (.tmp 23) rfl Tryd.underlying90 info_bytes rfl HL.out.push1 1 rfl rfl rfl (cell_of_row _ _ 0 _ _ (0, 0) (heap_new _ _)) rfl (by omega) (by decide) ?_; intro g1 c1 w3 hO3 _; have hc3 : w3.cell? ⟨P5, 0, none⟩ = some (.slice A rs.length c) := hO3.cell 0 rfl 0 rfl; have hf3 : w3.frozen? ⟨P5, 0, none⟩ = false := hO3.frozen 0 rfl 0)
      have hs3 := hO3.store 0 rfl 0 (.slice (some ⟨g1, 0, none⟩) (rs.length + 1) c1)
      have H3 := Lib.hid hs3
      clear hO3 hs3
      go_end0
      refine ⟨rfl, some ⟨g1, 0, none⟩, c1, hs ++ [w.heap.size], by simp [hsl], ?_⟩
      refine Owns.front (M := [⟨.slice (some ⟨wr.heap.size, 0, none⟩) 1 1, 44, 1, 1, [.slice (some ⟨w.heap.size, 0, none⟩) k k]⟩]) ?_
      rw [inner_snoc hsl]
      have h := H3.out
      simp [inner1, Cd.rowOf] at h ⊢
      exact h
end Go.Proofs.YtenafgphaceidaaDoor
/- THE WALK over code.Rows. -/
namespace Cd
/-- The rows of a code; none if Check has an error. -/
def rowsOf (d : Int) (gs : List (List Int)) (gl : Int) : List (List UInt8) := if check d gs gl = 0 then rows d.toNat gs gl.toNat else []
theorem rowsOf_ok {d gl : Int} {gs : List (List Int)} (h : check d gs gl = 0) : rowsOf d gs gl = rows d.toNat gs gl.toNat := if_pos h
theorem rowsOf_no {d gl : Int} {gs : List (List Int)} (h : check d gs gl ≠ 0) : rowsOf d gs gl = [] := if_neg h
def rows1 (d k : Nat) : List (List UInt8) := (List.range k).map fun k => rowOf d (unitAt k)
def rows2 (d : Nat) (gs : List (List Int)) : List (List UInt8) := gs.map fun g => rowOf d (inAt (setOf 0 g))
def rows3 (d k : Nat) : List (List UInt8) := (List.range k).map fun j => rowOf d (gloAt j)
theorem rows_parts (d : Nat) (gs : List (List Int)) (gl : Nat) : rows1 d d ++ rows2 d gs ++ rows3 d gl = rows d gs gl := rfl
theorem rows1_succ (d k : Nat) : rows1 d (k + 1) = rows1 d k ++ [rowOf d (unitAt k)] := by simp [rows1, List.range_succ]
theorem rows3_succ (d k : Nat) : rows3 d (k + 1) = rows3 d k ++ [rowOf d (gloAt k)] := by simp [rows3, List.range_succ]
theorem rows2_take {d k : Nat} {gs : List (List Int)} (h : k < gs.length) : rows2 d (gs.take (k + 1)) = rows2 d (gs.take k) ++ [rowOf d (inAt (setOf 0 gs[k]))] := by
  rw [rows2, List.take_succ_eq_append_getElem h, List.map_append]; rfl
theorem rows1_length (d k : Nat) : (rows1 d k).length = k := by simp [rows1]
theorem rows2_length (d : Nat) (gs : List (List Int)) : (rows2 d gs).length = gs.length := by simp [rows2]
theorem rows3_length (d k : Nat) : (rows3 d k).length = k := by simp [rows3]
theorem rowOf_length (d : Nat) (g : Nat → UInt8) : (rowOf d g).length = d := by simp [rowOf]
theorem rows_len (d : Nat) (gs : List (List Int)) (gl : Nat) : (rows d gs gl).length = d + gs.length + gl := by
  rw [← rows_parts]; simp [rows1_length, rows2_length, rows3_length]; omega
theorem rows_width {d : Nat} {gs : List (List Int)} {gl : Nat} {r : List UInt8} (h : r ∈ rows d gs gl) : r.length = d := by
  simp only [rows, List.mem_append, List.mem_map] at h
  rcases h with (⟨k, _, rfl⟩ | ⟨g, _, rfl⟩) | ⟨k, _, rfl⟩ <;> exact rowOf_length _ _
attribute [irreducible] rowsOf rows1 rows2 rows3
end Cd
namespace Go.Proofs.YtenafgphaceidaaDoor
open Go.RowKit

theorem RowsOut.rs {w0 w : World} {P : Nat} {rs : List (List UInt8)} (h : RowsOut w0 w P rs) (hw : ∀ r ∈ rs, r.length ≤ 9223372036854775807) (hn : rs.length ≤ 9223372036854775807) :
    ∃ A c, w.cell? ⟨P, 0, none⟩ = some (.slice A rs.length c) ∧ Rs (Rs RB) w (.slice A rs.length c) rs := by
  obtain ⟨A, c, hs, hl, hO⟩ := h
  refine ⟨A, c, hO.cell 0 rfl 0 rfl, A, c, rfl, hn, fun i r hi => ?_⟩
  have hi' : i < rs.length := (List.getElem?_eq_some_iff.1 hi).1
  have hr := (List.getElem?_eq_some_iff.1 hi).2
  have hin : (inner hs rs)[i]? = some (inner1 (hs[i]'(by omega)) r) := by
    unfold inner
    rw [List.getElem?_eq_getElem (by simp; omega), List.getElem_zipWith, hr]
  have hrd : Rd w A ((inner hs rs).map (·.v)) := hO.rd 1 rfl
  obtain ⟨ad, hA, _, hc⟩ := hrd i _ (by rw [List.getElem?_map, hin]; rfl)
  refine ⟨ad, _, hA, hc, ?_⟩
  refine Rs.of_rd ?_ (hw r (List.mem_of_getElem? hi))
  exact hO.rd (i + 2) (n := r.length) (by simpa [inner1] using hin)

theorem RowsOut.start {wb : World} : RowsOut wb (wb.alloc (.cells #[.slice none 0 0] 90)) wb.heap.size [] := by
  refine ⟨none, 0, [], rfl, ?_⟩
  have h1 := (Owns.start wb (L := [no, nilRow 44]) (by intro r hr; simp [no, nilRow] at hr; rcases hr with rfl | rfl <;> simp)).new 0 #[.slice none 0 0] 90 (by simp [maxLen])
  exact h1

theorem cRows_no (d gl : Int) (gs : List (List Int)) (G : Value) (w : World) (hG : Rs (Rs RI) w G gs) (h0 : Cd.check d gs gl ≠ 0) :
    Calls Tryd.prog 44 #[.agg #[.int .i64 d, G, .int .i64 gl]] w fun e w' => e = .returned (.tuple #[.slice none 0 0, .int .i64 (Cd.check d gs gl)]) ∧ Ext w w' := by
  have hx0 := (Ext.refl w).alloc (.cells #[.int .i64 d, G, .int .i64 gl] 56)
  have HX := Lib.hid (And.intro hx0 (Rs.ext (Rs.ext RI.ext) _ _ _ _ hx0 hG))
  obtain ⟨A, c, rfl, hl⟩ := hG.form
  clear hG hx0
  have e1 : (Cd.check d gs gl != 0) = true := by rw [bne_iff_ne]; exact h0
  clear h0
  go_enter Tryd.func44, Tryd.ntmps44
  go_wp2_with fail
  refine (cCheck_any d gl gs _ _ HX.out.2).mono ?_
  rintro e w1 ⟨rfl, hx1⟩
  have HX1 := Lib.hid (HX.out.1.trans hx1)
  clear hx1
  go_wp2_with fail
  go_ret2
  exact ⟨rfl, HX1.out⟩
set_option maxRecDepth 100000 in
theorem cRows_ok (d gl : Nat) (gs : List (List Int)) (G : Value) (w : World) (hT : Tab w) (hG : Rs (Rs RI) w G gs) (h0 : Cd.check d gs gl = 0) :
    Calls Tryd.prog 44 #[.agg #[.int .i64 d, G, .int .i64 gl]] w fun e w' => ∃ v, e = .returned (.tuple #[v, .int .i64 0]) ∧ Rs (Rs RB) w' v (Cd.rows d gs gl) ∧ Ext w w' := by
  have hx0 := (Ext.refl w).alloc (.cells #[.int .i64 d, G, .int .i64 gl] 56)
  have HX := Lib.hid (And.intro hx0 (Rs.ext (Rs.ext RI.ext) _ _ _ _ hx0 hG))
  have HT := Lib.hid hT
  obtain ⟨A, c, rfl, hl⟩ := hG.form
  have hk := Cd.check_ok h0
  obtain ⟨k1, k2, k3, k4, k5, k6⟩ := hk
  have H0 := Lib.hid h0
  clear hG hx0 hT h0 k1 k3
  have e1 : (Cd.check d gs gl != 0) = false := by rw [H0.out]; rfl
  go_enter Tryd.func44, Tryd.ntmps44
  go_wp2_with fail
  refine (cCheck_any d gl gs _ _ HX.out.2).mono ?_
  rintro e w1 ⟨rfl, hx1⟩
  have HX1 := Lib.hid (HX.out.1.trans hx1)
  have hc0 : w1.cell? ⟨w.heap.size, 0, none⟩ = some (.int .i64 d) := hx1.cell (by go_simp)
  have hc1 : w1.cell? ⟨w.heap.size, 1, none⟩ = some (.slice A gs.length c) := hx1.cell (by go_simp)
  have hc2 : w1.cell? ⟨w.heap.size, 2, none⟩ = some (.int .i64 gl) := hx1.cell (by go_simp)
  have HC := Lib.hid (And.intro hc0 (And.intro hc1 hc2))
  have HG := Lib.hid (Rs.ext (Rs.ext RI.ext) _ _ _ _ hx1 HX.out.2)
  clear hx1
  have HR0 := Lib.hid (RowsOut.start (wb := w1))
  have ha0 := HR0.out.ext.cell hc0
  have Q0 := Lib.hid ha0
  clear hc0 hc1 hc2
  go_wp2_with fail
  clear ha0
  go_loopw [22] (fun vi wr => ∃ k : Nat, k ≤ d ∧ vi = .int .i64 k ∧ Hid (RowsOut w1 wr w1.heap.size (Cd.rows1 d k))) (fun vi _ => d - (intOf vi).toNat)
  case atStart => exact ⟨0, Nat.zero_le _, rfl, by rw [show Cd.rows1 d 0 = [] from by simp [Cd.rows1]]; exact HR0.out⟩
  case round =>
    obtain ⟨k, hk, rfl, HR⟩ := hrel
    by_cases hlt : k < d
    · have hcd := (HR.out.ext.alloc (.cells #[.int .i64 k] 3)).cell HC.out.1
      have HCD := Lib.hid hcd
      clear hcd
      go_wp2_with fail
      refine (rows1_any w1 _ w.heap.size w1.heap.size d (Cd.rows1 d k) _ _ (Cd.unitAt k) (by omega) (by rw [Cd.rows1_length]; omega) enters56 ?_ HCD.out (HR.out.next ((Ext.refl _).alloc _))).mono ?_
      · intro i hi w' hx
        exact rows2_any i k _ w' (hx.cell (by go_simp))
      rintro e w2 ⟨rfl, ho⟩
      rw [← Cd.rows1_succ] at ho
      have HO := Lib.hid ho
      clear ho
      go_wp2_with fail
      go_roundw
      case rel => exact ⟨k + 1, by omega, by go_num, HO.out⟩
      case measure => simp [intOf]; omega
    · obtain rfl : k = d := by omega
      have hc1 := HR.out.ext.cell HC.out.2.1
      go_wp2_with fail
      clear hc1
      go_loopw [32] (fun vi wr => ∃ i : Nat, i ≤ gs.length ∧ vi = .int .i64 i ∧ Hid (RowsOut w1 wr w1.heap.size (Cd.rows1 k k ++ Cd.rows2 k (gs.take i)))) (fun vi _ => gs.length - (intOf vi).toNat)
      case atStart => exact ⟨0, Nat.zero_le _, rfl, by rw [List.take_zero, show Cd.rows2 k [] = [] from by simp [Cd.rows2], List.append_nil]; exact HR.out⟩
      case round =>
        obtain ⟨i, hi, rfl, HI⟩ := hrel
        by_cases hlt2 : i < gs.length
        · obtain ⟨ad, u, rfl, hcell, hu⟩ := HG.out.at hlt2
          obtain ⟨B, cB, rfl, hlB⟩ := hu.form
          have hcell' := HI.out.ext.cell hcell
          have HU := Lib.hid (Rs.ext RI.ext _ _ _ _ HI.out.ext hu)
          have hgb := Cd.check_groups_ok H0.out gs[i] (List.getElem_mem hlt2)
          have hstep := Cd.rows2_take (d := k) hlt2
          obtain ⟨g, hg⟩ : ∃ g, gs[i] = g := ⟨_, rfl⟩
          rw [hg] at hcell' HU hlB hgb hstep
          have HGB := Lib.hid (And.intro hgb hstep)
          clear hcell hu hgb hstep hg
          have hOs := ((Owns.start wr (L := []) (by simp)).push1 (u := .int .i64 0) (e := 3))
          rw [List.nil_append] at hOs
          have HS0 := Lib.hid hOs
          clear hOs
          go_wp2_with fail
          go_loopw [38] (fun vj wj => ∃ j s : Nat, j ≤ g.length ∧ vj = .int .i64 j ∧ s < 65536 ∧ Hid (Owns wr wj [⟨.slice (some ⟨wr.heap.size, 0, none⟩) 1 1, 3, 1, 1, [.int .i64 s]⟩] ∧ s = Cd.setOf 0 (g.take j))) (fun vj _ => g.length - (intOf vj).toNat)
          case atStart => exact ⟨0, 0, Nat.zero_le _, rfl, by omega, HS0.out, by rw [List.take_zero, Cd.setOf_nil]⟩
          case round =>
            obtain ⟨j, s, hj, rfl, hs, HS⟩ := hrel
            by_cases hlt3 : j < g.length
            · obtain ⟨bd, u, rfl, hbc, hu⟩ := HU.out.at hlt3
              obtain ⟨rfl, hlo, hhi⟩ := hu
              have hbc' := HS.out.1.ext.cell hbc
              clear hbc
              have hb2 := HGB.out.1 _ (List.getElem_mem hlt3)
              obtain ⟨m, hm⟩ : ∃ m : Nat, g[j] = (m : Int) := ⟨(g[j]).toNat, by omega⟩
              have hst := Cd.setOf_take (s := 0) hlt3
              rw [hm, Int.toNat_natCast, ← HS.out.2] at hst
              have hm16 : m < 16 := by omega
              rw [hm] at hbc'
              have hor := or_pow s m hs hm16
              have hcs := HS.out.1.cell 0 rfl 0 rfl
              have hfs := HS.out.1.frozen 0 rfl 0
              have HOR := Lib.hid (And.intro hor.1 (And.intro hst hor.2))
              clear hor hst hb2 hm hlo hhi
              go_wp2_with fail
              go_region
              all_goals go_wp2_with fail
              all_goals go_roundw
              case rel => exact ⟨j + 1, s ||| 2 ^ m, by omega, by go_num, HOR.out.2.2, by rw [HOR.out.1]; exact (HS.out.1.store 0 rfl 0 _).drew, HOR.out.2.1.symm⟩
              case measure => simp [intOf]; omega
            · obtain rfl : j = g.length := by omega
              have hse : s = Cd.setOf 0 g := by rw [HS.out.2, List.take_length]
              have hcs := HS.out.1.cell 0 rfl 0 rfl
              have HCS := Lib.hid (And.intro hcs (And.intro hse hs))
              have hro := HI.out.next HS.out.1.ext
              have hcd := hro.ext.cell HC.out.1
              have HRO := Lib.hid (And.intro hro hcd)
              clear hcs hse hro hcd
              go_wp2_with fail
              refine (rows1_any w1 _ w.heap.size w1.heap.size k (Cd.rows1 k k ++ Cd.rows2 k (gs.take i)) _ _ (Cd.inAt s) (by omega) (by rw [List.length_append, Cd.rows1_length, Cd.rows2_length, List.length_take]; omega) enters57 ?_ HRO.out.2 HRO.out.1).mono ?_
              · intro i hi w' hx
                exact rows3_any i s _ w' hs (by omega) (hx.cell HCS.out.1)
              rintro e w2 ⟨rfl, ho⟩
              rw [HCS.out.2.1, List.append_assoc, ← HGB.out.2] at ho
              have HO := Lib.hid ho
              clear ho
              go_wp2_with fail
              go_roundw
              case rel => exact ⟨i + 1, by omega, by go_num, HO.out⟩
              case measure => simp [intOf]; omega
        · obtain rfl : i = gs.length := by omega
          have hro := HI.out
          rw [List.take_length] at hro
          have hc2 := hro.ext.cell HC.out.2.2
          have HRO := Lib.hid hro
          clear hro
          go_wp2_with fail
          clear hc2
          go_loopw [53] (fun vj wr => ∃ j : Nat, j ≤ gl ∧ vj = .int .i64 j ∧ Hid (RowsOut w1 wr w1.heap.size (Cd.rows1 k k ++ Cd.rows2 k gs ++ Cd.rows3 k j))) (fun vj _ => gl - (intOf vj).toNat)
          case atStart => exact ⟨0, Nat.zero_le _, rfl, by rw [show Cd.rows3 k 0 = [] from by simp [Cd.rows3], List.append_nil]; exact HRO.out⟩
          case round =>
            obtain ⟨j, hj, rfl, HJ⟩ := hrel
            by_cases hlt3 : j < gl
            · have hcd := (HJ.out.ext.alloc (.cells #[.int .i64 j] 3)).cell HC.out.1
              have HCD := Lib.hid hcd
              clear hcd
              go_wp2_with fail
              refine (rows1_any w1 _ w.heap.size w1.heap.size k (Cd.rows1 k k ++ Cd.rows2 k gs ++ Cd.rows3 k j) _ _ (Cd.gloAt j) (by omega) (by simp only [List.length_append, Cd.rows1_length, Cd.rows2_length, Cd.rows3_length]; omega) enters58 ?_ HCD.out (HJ.out.next ((Ext.refl _).alloc _))).mono ?_
              · intro i hi w' hx
                exact rows4_any i j _ w' (((HT.out.ext HX1.out).ext HJ.out.ext).ext (((Ext.refl _).alloc _).trans hx)) (by omega) (by omega) (hx.cell (by go_simp))
              rintro e w2 ⟨rfl, ho⟩
              rw [List.append_assoc, ← Cd.rows3_succ] at ho
              have HO := Lib.hid ho
              clear ho
              go_wp2_with fail
              go_roundw
              case rel => exact ⟨j + 1, by omega, by go_num, HO.out⟩
              case measure => simp [intOf]; omega
            · obtain rfl : j = gl := by omega
              have hro := HJ.out
              rw [Cd.rows_parts] at hro
              obtain ⟨A2, c2, hcell, hrs⟩ := hro.rs (fun r hr => by rw [Cd.rows_width hr]; omega) (by rw [Cd.rows_len]; omega)
              have HRO := Lib.hid (And.intro hro hrs)
              clear hro hrs
              go_wp2_with fail
              go_ret2
              exact ⟨_, rfl, HRO.out.2, HX1.out.trans HRO.out.1.ext⟩
/-- `Rows` of a code: a row for each piece, and the first error; nothing that was there is changed. -/
theorem cRows_any (d gl : Int) (gs : List (List Int)) (G : Value) (w : World) (hT : Tab w) (hG : Rs (Rs RI) w G gs) :
    Calls Tryd.prog 44 #[.agg #[.int .i64 d, G, .int .i64 gl]] w fun e w' => ∃ v, e = .returned (.tuple #[v, .int .i64 (Cd.check d gs gl)]) ∧ Rs (Rs RB) w' v (Cd.rowsOf d gs gl) ∧ Ext w w' := by
  by_cases h0 : Cd.check d gs gl = 0
  · have hk := Cd.check_ok h0
    rw [Cd.rowsOf_ok h0, h0]
    obtain ⟨n, rfl⟩ : ∃ n : Nat, d = n := ⟨d.toNat, by omega⟩
    obtain ⟨m, rfl⟩ : ∃ m : Nat, gl = m := ⟨gl.toNat, by omega⟩
    exact cRows_ok n m gs G w hT hG h0
  · refine (cRows_no d gl gs G w hG h0).mono ?_
    rintro e w' ⟨rfl, hx⟩
    rw [Cd.rowsOf_no h0]
    exact ⟨_, rfl, ⟨none, 0, rfl, by simp, fun i x h => by simp at h⟩, hx⟩
end Go.Proofs.YtenafgphaceidaaDoor
/- THE WALK over (*stairs).add. -/
namespace Cd
end Cd
namespace Go.Proofs.YtenafgphaceidaaDoor
open Go.RowKit

/-- r less its multiples of rows; the part that belongs to it. -/
def redPart (p : List UInt8) (r x q : List UInt8) : List UInt8 := if r.getD (Gf.firstNZ x) 0 = 0 then p else Gf.sum p (Gf.scale (r.getD (Gf.firstNZ x) 0) q)
def redTo (rows parts : List (List UInt8)) (r p : List UInt8) : Nat → List UInt8 × List UInt8
  | 0 => (r, p)
  | k + 1 => (Gf.redRow (redTo rows parts r p k).1 (rows.getD k []), redPart (redTo rows parts r p k).2 (redTo rows parts r p k).1 (rows.getD k []) (parts.getD k []))
/-- r after k of its elements were turned by x. -/
def halfRow (r x : List UInt8) (k : Nat) : List UInt8 := (List.range r.length).map fun i => if i < k then r.getD i 0 ^^^ Gf.mul (r.getD (Gf.firstNZ x) 0) (x.getD i 0) else r.getD i 0

theorem redTo_length (rows parts : List (List UInt8)) (r p : List UInt8) : ∀ k, (redTo rows parts r p k).1.length = r.length
  | 0 => rfl
  | k + 1 => by rw [redTo, Gf.redRow_length, redTo_length]
theorem redPart_zero {p r x q : List UInt8} (h : r.getD (Gf.firstNZ x) 0 = 0) : redPart p r x q = p := if_pos h
theorem redPart_nz {p r x q : List UInt8} (h : r.getD (Gf.firstNZ x) 0 ≠ 0) : redPart p r x q = Gf.sum p (Gf.scale (r.getD (Gf.firstNZ x) 0) q) := if_neg h
theorem redTo_take (rows parts : List (List UInt8)) (r p : List UInt8) : ∀ k, k ≤ rows.length → (redTo rows parts r p k).1 = Gf.reduce (rows.take k) r
  | 0, _ => rfl
  | k + 1, h => by
    have hk : k < rows.length := by omega
    rw [redTo]
    show Gf.redRow _ _ = _
    rw [redTo_take rows parts r p k (by omega), List.take_succ_eq_append_getElem hk, Gf.reduce, Gf.reduce, List.foldl_append, List.getD_eq_getElem?_getD, List.getElem?_eq_getElem hk]
    rfl
theorem redTo_full (rows parts : List (List UInt8)) (r p : List UInt8) : (redTo rows parts r p rows.length).1 = Gf.reduce rows r := by
  rw [redTo_take rows parts r p _ (Nat.le_refl _), List.take_length]
/-- What belongs to the row that is added. -/
def newPart (rows parts : List (List UInt8)) (l p : List UInt8) : List UInt8 := Gf.scale (Gf.inv ((Gf.reduce rows l).getD (Gf.firstNZ (Gf.reduce rows l)) 0)) (redTo rows parts l p rows.length).2
/-- The stairs with a row more, if it is no combination of them. -/
def addTo (rows parts : List (List UInt8)) (l p : List UInt8) : List (List UInt8) × List (List UInt8) :=
  match Gf.addRow rows l with
  | none => (rows, parts)
  | some t => (rows ++ [t], parts ++ [newPart rows parts l p])
theorem addTo_none {rows parts : List (List UInt8)} {l p : List UInt8} (h : Gf.addRow rows l = none) : addTo rows parts l p = (rows, parts) := by unfold addTo; rw [h]
theorem addTo_some {rows parts : List (List UInt8)} {l p t : List UInt8} (h : Gf.addRow rows l = some t) : addTo rows parts l p = (rows ++ [t], parts ++ [newPart rows parts l p]) := by unfold addTo; rw [h]
attribute [irreducible] redPart halfRow addTo

end Go.Proofs.YtenafgphaceidaaDoor
/- CODES, in plain terms: pieces that fit data, and how they are solved for it. No program in sight. -/
namespace Cd
open Gf Go.Proofs.YtenafgphaceidaaDoor
/-- The bytes p are what a row makes of data pieces D, L bytes each. -/
def Fits (d L : Nat) (D : Nat → Nat → UInt8) (r p : List UInt8) : Prop := p.length = L ∧ ∀ x, x < L → p.getD x 0 = sm d fun i => mul (r.getD i 0) (D i x)
theorem sum_get (s t : List UInt8) (x : Nat) : (sum s t).getD x 0 = s.getD x 0 ^^^ t.getD x 0 := by
  rcases Nat.lt_or_ge x (max s.length t.length) with h | h
  · exact getD_map_range _ _ h
  · have h1 : s.length ≤ x := by omega
    have h2 : t.length ≤ x := by omega
    rw [getD_out (l := s) h1, getD_out (l := t) h2, getD_out (by simp [sum]; omega)]
    rfl
theorem sum_len (s t : List UInt8) : (sum s t).length = max s.length t.length := by simp [sum]
theorem scale_len (c : UInt8) (s : List UInt8) : (scale c s).length = s.length := by simp [scale]
theorem scale_get (c : UInt8) (s : List UInt8) {x : Nat} (h : x < s.length) : (scale c s).getD x 0 = mul c (s.getD x 0) := by
  unfold scale
  rw [List.getD_eq_getElem?_getD, List.getElem?_map, List.getD_eq_getElem?_getD, List.getElem?_eq_getElem h]
  rfl
theorem Fits.plus {d L : Nat} {D : Nat → Nat → UInt8} {r p x q : List UInt8} (h : Fits d L D r p) (hx : Fits d L D x q) (f : UInt8) {t : List UInt8} (ht : ∀ i, i < d → t.getD i 0 = r.getD i 0 ^^^ mul f (x.getD i 0)) :
    Fits d L D t (sum p (scale f q)) := by
  refine ⟨by rw [sum_len, scale_len, h.1, hx.1]; simp, fun k hk => ?_⟩
  rw [sum_get, scale_get _ _ (by rw [hx.1]; exact hk), h.2 k hk, hx.2 k hk, sm_mul, ← sm_add]
  refine sm_congr fun i hi => ?_
  rw [ht i hi, xor_mul, mul_assoc]
theorem Fits.congr {d L : Nat} {D : Nat → Nat → UInt8} {r p t : List UInt8} (h : Fits d L D r p) (ht : ∀ i, i < d → t.getD i 0 = r.getD i 0) : Fits d L D t p :=
  ⟨h.1, fun k hk => by rw [h.2 k hk]; exact sm_congr fun i hi => by rw [ht i hi]⟩
theorem Fits.scaled {d L : Nat} {D : Nat → Nat → UInt8} {r p : List UInt8} (h : Fits d L D r p) (c : UInt8) : Fits d L D (r.map (mul c)) (scale c p) := by
  refine ⟨by rw [scale_len, h.1], fun k hk => ?_⟩
  rw [scale_get _ _ (by rw [h.1]; exact hk), h.2 k hk, sm_mul]
  refine sm_congr fun i hi => ?_
  rw [getD_map_mul, mul_assoc]
theorem Fits.red {d L : Nat} {D : Nat → Nat → UInt8} {r p x q : List UInt8} (h : Fits d L D r p) (hx : Fits d L D x q) (hr : r.length = d) : Fits d L D (redRow r x) (redPart p r x q) := by
  by_cases hf : r.getD (firstNZ x) 0 = 0
  · rw [redPart_zero hf, redRow_same hf]; exact h
  · rw [redPart_nz hf]
    exact h.plus hx _ fun i hi => redRow_get r x (by omega)
theorem Fits.redTo {d L : Nat} {D : Nat → Nat → UInt8} {S Ps : List (List UInt8)} {r p : List UInt8} (h : Fits d L D r p) (hr : r.length = d) (hS : ∀ k, k < S.length → Fits d L D (S.getD k []) (Ps.getD k [])) :
    ∀ k, k ≤ S.length → Fits d L D (redTo S Ps r p k).1 (redTo S Ps r p k).2
  | 0, _ => h
  | k + 1, hk => (Fits.redTo h hr hS k (by omega)).red (hS k (by omega)) (by rw [redTo_length, hr])
theorem getD_app {α : Type} (l : List α) (x y : α) (k : Nat) : (l ++ [x]).getD k y = if k = l.length then x else l.getD k y := by
  rw [List.getD_eq_getElem?_getD, List.getD_eq_getElem?_getD, List.getElem?_append]
  split
  · rename_i h
    rw [if_neg (by omega)]
  · rename_i h
    split
    · rename_i h2
      rw [h2]; simp
    · rename_i h2
      rw [List.getElem?_eq_none (by simp; omega), List.getElem?_eq_none (by omega)]
theorem Fits.add {d L : Nat} {D : Nat → Nat → UInt8} {S Ps : List (List UInt8)} {l p : List UInt8} (hl : l.length = d) (hp : Ps.length = S.length) (h : Fits d L D l p) (hS : ∀ k, k < S.length → Fits d L D (S.getD k []) (Ps.getD k [])) :
    ∀ k, k < (addTo S Ps l p).1.length → Fits d L D ((addTo S Ps l p).1.getD k []) ((addTo S Ps l p).2.getD k []) := by
  cases ha : addRow S l with
  | none => rw [addTo_none ha]; exact hS
  | some t =>
    rw [addTo_some ha]
    intro k hk
    rw [getD_app, getD_app, hp]
    by_cases hk2 : k = S.length
    · rw [if_pos hk2, if_pos hk2]
      have h1 := Fits.redTo h hl hS S.length (Nat.le_refl _)
      rw [redTo_full] at h1
      unfold addRow at ha
      split at ha
      · cases ha
      · injection ha with ha
        subst ha
        exact h1.scaled _
    · rw [if_neg hk2, if_neg hk2]
      exact hS k (by simp at hk; omega)
/- The rows in the order of their first places. -/
theorem nodup_few : ∀ (n : Nat) (l : List Nat), l.Nodup → (∀ x ∈ l, x < n) → l.length ≤ n
  | 0, l, _, h => by
    cases l with
    | nil => simp
    | cons x r => exact absurd (h x (by simp)) (by omega)
  | n + 1, l, hn, h => by
    by_cases hm : n ∈ l
    · have h1 := nodup_few n (l.erase n) (hn.erase n) fun x hx => by
        have h2 := (hn.mem_erase_iff).1 hx
        have := h x h2.2
        omega
      rw [List.length_erase_of_mem hm] at h1
      omega
    · have := nodup_few n l hn fun x hx => by
        have := h x hx
        have : x ≠ n := fun e => hm (e ▸ hx)
        omega
      omega
theorem nodup_all {n : Nat} {l : List Nat} (hn : l.Nodup) (h : ∀ x ∈ l, x < n) (hl : l.length = n) {y : Nat} (hy : y < n) : y ∈ l := by
  by_cases hm : y ∈ l
  · exact hm
  · have := nodup_few n (y :: l) (List.nodup_cons.2 ⟨hm, hn⟩) fun x hx => by
      rcases List.mem_cons.1 hx with h1 | h1
      · rw [h1]; exact hy
      · exact h x h1
    simp at this
    omega
theorem firsts_nodup {n : Nat} {S : List (List UInt8)} (h : Stairs n S) : (S.map firstNZ).Nodup := by
  rw [List.nodup_iff_pairwise_ne, List.pairwise_map]
  have h2 : S.Pairwise fun x y => y ∈ S ∧ y.getD (firstNZ x) 0 = 0 := by
    rw [List.pairwise_iff_getElem]
    intro i j hi hj hij
    exact ⟨List.getElem_mem hj, List.pairwise_iff_getElem.1 h.tri i j hi hj hij⟩
  refine h2.imp ?_
  rintro x y ⟨hy, h1⟩ he
  rw [he, h.one y hy] at h1
  exact absurd h1 (by decide)
theorem Stairs.at {n : Nat} {S : List (List UInt8)} (h : Stairs n S) (hn : S.length = n) {a : Nat} (ha : a < n) : ∃ k, k < S.length ∧ firstNZ (S.getD k []) = a := by
  have h1 := nodup_all (firsts_nodup h) (fun x hx => by
    obtain ⟨y, hy, rfl⟩ := List.mem_map.1 hx
    exact h.nz y hy) (by rw [List.length_map, hn]) ha
  obtain ⟨y, hy, rfl⟩ := List.mem_map.1 h1
  obtain ⟨k, hk, rfl⟩ := List.getElem_of_mem hy
  exact ⟨k, hk, by rw [List.getD_eq_getElem?_getD, List.getElem?_eq_getElem hk]; rfl⟩
/- Solving rows in the form of a triangle. -/
/-- Rows in the form of a triangle, with ones. -/
structure Tri (n : Nat) (T : List (List UInt8)) : Prop where
  len : T.length = n
  wide : ∀ k, k < n → (T.getD k []).length = n
  first : ∀ k, k < n → firstNZ (T.getD k []) = k
  one : ∀ k, k < n → (T.getD k []).getD k 0 = 1
end Cd
/- CODES, in plain terms: what Encode and Decode compute, and that a chunk comes back. No program in sight. -/
namespace Cd
open Gf Go.Proofs.YtenafgphaceidaaDoor
def sizeN (d n : Nat) : Nat := (n + d - 1) / d
/-- The bytes of each piece of a chunk of n bytes. -/
def sizeOf (d gl : Int) (gs : List (List Int)) (n : Int) : Int := if n < 0 ∨ 4096 < n ∨ check d gs gl ≠ 0 then 0 else (n + d - 1) / d
theorem sizeOf_no {d gl n : Int} {gs : List (List Int)} (h : n < 0 ∨ 4096 < n ∨ check d gs gl ≠ 0) : sizeOf d gl gs n = 0 := if_pos h
theorem sizeOf_ok {d gl n : Int} {gs : List (List Int)} (h : 0 ≤ n) (h2 : n ≤ 4096) (h3 : check d gs gl = 0) : sizeOf d gl gs n = (n + d - 1) / d := if_neg (by omega)
theorem sizeOf_nat {d gl n : Nat} {gs : List (List Int)} (h2 : n ≤ 4096) (h3 : check d gs gl = 0) : sizeOf d gl gs (n : Int) = ((sizeN d n : Nat) : Int) := by
  have hk := check_ok h3
  rw [sizeOf_ok (by omega) (by omega) h3, sizeN]
  have : ((n : Int) + d - 1) = ((n + d - 1 : Nat) : Int) := by omega
  rw [this]
  exact (Int.natCast_ediv _ _).symm
theorem size_ge {d : Nat} (hd : 0 < d) (n : Nat) : n ≤ d * sizeN d n := by
  unfold sizeN
  have h1 := Nat.div_add_mod (n + d - 1) d
  have h2 := Nat.mod_lt (n + d - 1) hd
  omega
theorem size_le {d : Nat} (hd : 0 < d) (n : Nat) : sizeN d n ≤ n := by
  unfold sizeN
  rw [Nat.div_le_iff_le_mul_add_pred hd]
  have h1 : n ≤ d * n := Nat.le_mul_of_pos_left n hd
  omega
/-- A chunk, filled up with zeros. -/
def fill (len : Nat) (data : List UInt8) : List UInt8 := data ++ List.replicate (len - data.length) 0
def cutAt (size : Nat) (full : List UInt8) (i : Nat) : List UInt8 := (full.drop (i * size)).take size
/-- The data pieces of a chunk. -/
def cuts (d : Nat) (data : List UInt8) : List (List UInt8) := (List.range d).map (cutAt (sizeN d data.length) (fill (d * sizeN d data.length) data))
/-- The pieces that rows make of data pieces. -/
def encRows (rows parts : List (List UInt8)) : List (List UInt8) := rows.map fun r => combS r parts
def encode (d gl : Int) (gs : List (List Int)) (data : List UInt8) : List (List UInt8) := encRows (rowsOf d gs gl) (cuts d.toNat data)
/-- Both results of Encode. -/
def encL (d gl : Int) (gs : List (List Int)) (data : List UInt8) : List (List UInt8) := if check d gs gl = 0 ∧ data.length ≤ 4096 then encode d gl gs data else []
def encE (d gl : Int) (gs : List (List Int)) (data : List UInt8) : Int := if check d gs gl ≠ 0 then check d gs gl else if 4096 < data.length then 2 else 0
theorem encL_ok {d gl : Int} {gs : List (List Int)} {data : List UInt8} (h : check d gs gl = 0) (h2 : data.length ≤ 4096) : encL d gl gs data = encode d gl gs data := if_pos ⟨h, h2⟩
theorem encL_no {d gl : Int} {gs : List (List Int)} {data : List UInt8} (h : check d gs gl ≠ 0) : encL d gl gs data = [] := if_neg fun h2 => h h2.1
theorem encL_big {d gl : Int} {gs : List (List Int)} {data : List UInt8} (h : 4096 < data.length) : encL d gl gs data = [] := if_neg fun h2 => by omega
theorem encE_ok {d gl : Int} {gs : List (List Int)} {data : List UInt8} (h : check d gs gl = 0) (h2 : data.length ≤ 4096) : encE d gl gs data = 0 := by rw [encE, if_neg (by simp [h]), if_neg (by omega)]
theorem encE_no {d gl : Int} {gs : List (List Int)} {data : List UInt8} (h : check d gs gl ≠ 0) : encE d gl gs data = check d gs gl := if_pos h
theorem encE_big {d gl : Int} {gs : List (List Int)} {data : List UInt8} (h0 : check d gs gl = 0) (h : 4096 < data.length) : encE d gl gs data = 2 := by rw [encE, if_neg (by simp [h0]), if_pos h]
theorem fill_len {len : Nat} {data : List UInt8} (h : data.length ≤ len) : (fill len data).length = len := by simp [fill]; omega
theorem cuts_len (d : Nat) (data : List UInt8) : (cuts d data).length = d := by simp [cuts]
theorem cutAt_len {size d i : Nat} {full : List UInt8} (h : full.length = d * size) (hi : i < d) : (cutAt size full i).length = size := by
  have h1 : (i + 1) * size ≤ d * size := Nat.mul_le_mul_right size hi
  rw [Nat.succ_mul] at h1
  simp [cutAt]
  omega
theorem cuts_get {d : Nat} {data : List UInt8} {i : Nat} (h : i < d) : (cuts d data).getD i [] = cutAt (sizeN d data.length) (fill (d * sizeN d data.length) data) i := by
  unfold cuts
  rw [List.getD_eq_getElem?_getD, List.getElem?_map, List.getElem?_range h]
  rfl
theorem cuts_even {d : Nat} (hd : 0 < d) (data : List UInt8) {i : Nat} (h : i < d) : ((cuts d data).getD i []).length = sizeN d data.length := by
  rw [cuts_get h]
  exact cutAt_len (fill_len (size_ge hd _)) h
theorem cuts_all {d : Nat} (hd : 0 < d) (data : List UInt8) {p : List UInt8} (hp : p ∈ cuts d data) : p.length = sizeN d data.length := by
  obtain ⟨i, hi, rfl⟩ := List.getElem_of_mem hp
  have h1 : i < d := by rw [cuts_len] at hi; exact hi
  have := cuts_even hd data h1
  rw [List.getD_eq_getElem?_getD, List.getElem?_eq_getElem hi] at this
  exact this
/-- The byte x of the data piece i. -/
def dataAt (d : Nat) (data : List UInt8) (i x : Nat) : UInt8 := ((cuts d data).getD i []).getD x 0
theorem comb_sm (r : List UInt8) (parts : List (List UInt8)) (x : Nat) : ∀ k, comb r parts x k = sm k fun i => mul (r.getD i 0) ((parts.getD i []).getD x 0)
  | 0 => rfl
  | k + 1 => by rw [comb, comb_sm r parts x k, sm]
theorem comb_takes {d : Nat} (hd : 0 < d) (data : List UInt8) {r : List UInt8} (hr : r.length = d) : combOk r (cuts d data) = true := by
  unfold combOk
  rw [Bool.and_eq_true, beq_iff_eq, List.all_eq_true, hr, cuts_len]
  refine ⟨rfl, fun p hp => ?_⟩
  rw [beq_iff_eq, cuts_all hd data hp]
  cases hc : cuts d data with
  | nil => have := cuts_len d data; rw [hc] at this; simp at this; omega
  | cons q l => exact (cuts_all hd data (by rw [hc]; simp)).symm
theorem comb_fits {d : Nat} (hd : 0 < d) (data : List UInt8) {r : List UInt8} (hr : r.length = d) : Fits d (sizeN d data.length) (dataAt d data) r (combS r (cuts d data)) := by
  rw [combS_ok (comb_takes hd data hr)]
  have hh : ((cuts d data).headD []).length = sizeN d data.length := by
    cases hc : cuts d data with
    | nil => have := cuts_len d data; rw [hc] at this; simp at this; omega
    | cons q l => exact cuts_all hd data (by rw [hc]; simp)
  refine ⟨by rw [combine, List.length_map, List.length_range, hh], fun x hx => ?_⟩
  unfold combine
  rw [hh, getD_map_range _ _ hx, hr, comb_sm]
  rfl
section
variable {d gl : Int} {gs : List (List Int)} {n m : Int} {pieces : List (List UInt8)}
end
theorem encode_len (d gl : Int) (gs : List (List Int)) (data : List UInt8) : (encode d gl gs data).length = (rowsOf d gs gl).length := by simp [encode, encRows]
theorem encode_get {d gl : Int} {gs : List (List Int)} {data : List UInt8} {k : Nat} (hk : k < (rowsOf d gs gl).length) : (encode d gl gs data).getD k [] = combS ((rowsOf d gs gl).getD k []) (cuts d.toNat data) := by
  unfold encode encRows
  rw [List.getD_eq_getElem?_getD, List.getElem?_map, List.getD_eq_getElem?_getD, List.getElem?_eq_getElem hk]
  rfl
section
variable {d gl : Int} {gs : List (List Int)}
theorem rowsOf_width (h : check d gs gl = 0) {r : List UInt8} (hr : r ∈ rowsOf d gs gl) : r.length = d.toNat := by
  rw [rowsOf_ok h] at hr
  exact rows_width hr
theorem rowsOf_at (h : check d gs gl = 0) {k : Nat} (hk : k < (rowsOf d gs gl).length) : ((rowsOf d gs gl).getD k []).length = d.toNat := by
  rw [List.getD_eq_getElem?_getD, List.getElem?_eq_getElem hk]
  exact rowsOf_width h (List.getElem_mem hk)
theorem rowsOf_len (h : check d gs gl = 0) : ((rowsOf d gs gl).length : Int) = d + gs.length + gl := by
  have hk := check_ok h
  rw [rowsOf_ok h, rows_len]
  omega
theorem encode_fits (h : check d gs gl = 0) (data : List UInt8) {k : Nat} (hk : k < (rowsOf d gs gl).length) : Fits d.toNat (sizeN d.toNat data.length) (dataAt d.toNat data) ((rowsOf d gs gl).getD k []) ((encode d gl gs data).getD k []) := by
  have hc := check_ok h
  rw [encode_get hk]
  exact comb_fits (by omega) data (rowsOf_at h hk)
theorem encode_even (h : check d gs gl = 0) (data : List UInt8) {k : Nat} (hk : k < (rowsOf d gs gl).length) : ((encode d gl gs data).getD k []).length = sizeN d.toNat data.length := (encode_fits h data hk).1
end
end Cd
/- THE WALKS over Size and Encode. -/
namespace Go.Proofs.YtenafgphaceidaaDoor
open Go.RowKit
/- COPY FROM A STRING, and a part of a slice. -/
section
variable {P : Program} {w0 w : World} {L : List LRow}
theorem run_copy_str (dT sT ty elem : TypeId) (g dLen dCap : Nat) (l : List UInt8) (cur : Array Value) (t : TypeId)
    (hu : P.underlying dT = some (.slice elem)) (hs : (P.info? elem).map (·.size) = some 1) (hg : w.heap[g]? = some (.cells cur t (0, 0))) (hn : l.length ≤ dLen) (hfit : l.length ≤ cur.size) :
    (Builtin.copy_ #[dT, sT] ty #[.slice (some ⟨g, 0, none⟩) dLen dCap, .string (sb l)]).run P w = .ok (goInt l.length) (w.setRow g (l.map bv ++ cur.toList.drop l.length).toArray) := by
  have h1 : ∀ v ∈ l.map bv, v.oneCell' = true := fun v hv => by
    obtain ⟨b, _, rfl⟩ := List.mem_map.1 hv
    rfl
  have hst := run_storeCells_at P g 0 t (l.map bv) 0 cur w hg (by simpa using hfit) h1
  have hmin : Nat.min (sb l).size dLen = l.length := by rw [size_sb]; exact Nat.min_eq_left hn
  have hex : ((sb l).extract 0 l.length).data.toList = l := by simp [sb]
  have hcells : (Array.map (fun b : UInt8 => Value.int .u8 (b.toNat : Int)) ((sb l).extract 0 l.length).data).toList = l.map bv := by
    rw [Array.toList_map, hex]
  cases hq : P.info? elem with
  | none => simp [hq] at hs
  | some i =>
    simp only [Builtin.copy_, sizeOf, typeInfo, Builtin.lenOf, Builtin.firstCells, Sem.run_bind, Sem.run_pure, Result.andThen_ok, run_underlying hu, hmin, hcells, List.getElem?_toArray, List.getElem?_cons_zero, List.getElem?_cons_succ]
    have hst2 : (storeCells ⟨g, 0, none⟩ (l.map bv)).run P w = .ok () (w.setRow g (l.map bv ++ cur.toList.drop l.length).toArray) := by simpa using hst
    simp [hq, hst2]
theorem Owns.copied (h : Owns w0 w L) (i : Nat) {g n c e : Nat} {xs : List Value} (hi : L[i]? = some ⟨.slice (some ⟨g, 0, none⟩) n c, e, 1, n, xs⟩) (l : List UInt8) (hl : l.length ≤ n) :
    ∃ cur, w.heap[g]? = some (.cells cur e (0, 0)) ∧ l.length ≤ cur.size ∧ Owns w0 (w.setRow g (l.map bv ++ cur.toList.drop l.length).toArray) (L.set i ⟨.slice (some ⟨g, 0, none⟩) n c, e, 1, n, l.map bv ++ xs.drop l.length⟩) := by
  have h1 := h.row i hi
  have hB := (h1.lt g rfl).1
  rcases h1.2 with ⟨h2, _⟩ | ⟨g', cap, cur, hv, _, hg, hc, hm, hs, ht⟩
  · cases h2
  · injection hv with e1 e2 e3
    injection e1 with e1
    injection e1 with e1
    subst e1 e3
    rw [Nat.mul_one] at hs ht
    refine ⟨cur, hg, by omega, h.put i _ ?_ ?_ ?_ ?_⟩
    · exact below_setRow h.ext hB _
    · refine ⟨?_, .inr ⟨g, c, (l.map bv ++ cur.toList.drop l.length).toArray, rfl, hB, setRow_heap w g _ _ e _ hg, hc, hm, ?_, ?_⟩⟩
      · have := h1.1
        simp
        omega
      · simp
        omega
      · show List.take (n * 1) _ = _
        rw [Nat.mul_one, List.toList_toArray, List.take_append, List.take_of_length_le (by simpa using hl), ← ht, List.length_map, List.drop_take]
    · intro j r hj hr g' hg'
      have hf := h.far j i _ _ hj hr hi
      refine setRow_other w g g' _ ?_
      rintro rfl
      rcases hf with h2 | h2
      · rw [hg'] at h2; cases h2
      · exact h2 hg'
    · intro j r hj hr
      have := h.far i j _ _ (Ne.symm hj) hi hr
      exact this
theorem wpl_copy_str {ops : Array Oper} {rest : List Oper} {o : Oper} {a : Act} {Q : Exit → Act → World → Prop} (hgd : o.guard = none) (d s : Operand) (dT sT : TypeId)
    (ho : o.op = .call { callee := .builtin .copy, args := #[d, s], argTypes := #[dT, sT] }) {e : TypeId} (hu : P.underlying dT = some (.slice e)) (hsz : (P.info? e).map (·.size) = some 1)
    (h : Owns w0 w L) (i : Nat) {g n c : Nat} {xs : List Value} (hL : L[i]? = some ⟨.slice (some ⟨g, 0, none⟩) n c, e, 1, n, xs⟩) (hd : a.eval d = .slice (some ⟨g, 0, none⟩) n c) {l : List UInt8} (hs : a.eval s = .string (sb l)) (hl : l.length ≤ n)
    (hK : ∀ w', Owns w0 w' (L.set i ⟨.slice (some ⟨g, 0, none⟩) n c, e, 1, n, l.map bv ++ xs.drop l.length⟩) → wpList P ops Q rest (a.put o.dst (goInt l.length)) w') :
    wpList P ops Q (o :: rest) a w := by
  refine wpList_plain hgd fun K hK' => ?_
  obtain ⟨cur, hg, hc, hO⟩ := h.copied i hL l hl
  have hr := run_copy_str (P := P) (w := w) dT sT o.type e g n c l cur e hu hsz hg hl hc
  unfold Oper.wp execOp
  simp only [ho, resolve, invoke, builtin, Sem.run_bind, Sem.run_pure, Result.andThen_ok, List.map_toArray, List.map_cons, List.map_nil, hd, hs, hr]
  exact hK' _ _ (hK _ hO)
theorem run_part (t e : TypeId) (hu : P.underlying t = some (.slice e)) (hsz : (P.info? e).map (·.size) = some 1) (ad : Addr) (n c l h : Nat) (hlh : l ≤ h) (hhc : h ≤ c) :
    (Instr.sliceAt t (.slice (some ad) n c) (some (.int .i64 (l : Int))) (some (.int .i64 (h : Int))) none).run P w = .ok (.slice (if c = l then some ad else some (ad.add l)) (h - l) (c - l)) w := by
  have e1 : (0 : Int) ≤ (h : Int) ∧ (h : Int) ≤ (c : Int) := by omega
  have e2 : (0 : Int) ≤ (l : Int) ∧ (l : Int) ≤ (h : Int) := by omega
  cases hq : P.info? e with
  | none => simp [hq] at hsz
  | some i =>
    have hi : i.size = 1 := by simpa [hq] using hsz
    simp [Instr.sliceAt, Instr.slice, Instr.sliceBounds, Instr.sliceBound, asIntOf, run_underlying hu, sizeOf, typeInfo, hq, hi, e1, e2, hlh, hhc]
theorem wpl_part {ops : Array Oper} {rest : List Oper} {o : Oper} {a : Act} {Q : Exit → Act → World → Prop} (hgd : o.guard = none) (t e : TypeId) (x lo hi : Operand) (ho : o.op = .slice t x (some lo) (some hi) none)
    (hu : P.underlying t = some (.slice e)) (hsz : (P.info? e).map (·.size) = some 1) {ad : Addr} {n c l h : Nat} (hx : a.eval x = .slice (some ad) n c) (hlo : a.eval lo = .int .i64 (l : Int)) (hhi : a.eval hi = .int .i64 (h : Int)) (hlh : l ≤ h) (hhc : h ≤ c)
    (hK : ∀ A, A = (if c = l then some ad else some (ad.add l)) → wpList P ops Q rest (a.put o.dst (.slice A (h - l) (c - l))) w) :
    wpList P ops Q (o :: rest) a w := by
  refine wpList_plain hgd fun K hK' => ?_
  have hr := run_part (P := P) (w := w) t e hu hsz ad n c l h hlh hhc
  unfold Oper.wp execOp
  simp only [ho, Option.map_some, Option.map_none, hx, hlo, hhi, hr, Sem.run_bind, Sem.run_pure, Result.andThen_ok]
  exact hK' _ _ (hK _ rfl)
end
end Go.Proofs.YtenafgphaceidaaDoor
/- THE WALKS over Size and Encode. -/
namespace Go.Proofs.YtenafgphaceidaaDoor
open Go.RowKit
theorem cSize_any (d gl n : Int) (gs : List (List Int)) (G : Value) (w : World) (hG : Rs (Rs RI) w G gs) :
    Calls Tryd.prog 45 #[.agg #[.int .i64 d, G, .int .i64 gl], .int .i64 n] w fun e w' => e = .returned (.int .i64 (Cd.sizeOf d gl gs n)) ∧ Ext w w' := by
  have hx0 := (Ext.refl w).alloc (.cells #[.int .i64 d, G, .int .i64 gl] 56)
  have HX := Lib.hid (And.intro hx0 (Rs.ext (Rs.ext RI.ext) _ _ _ _ hx0 hG))
  obtain ⟨A, c, rfl, hl⟩ := hG.form
  clear hG hx0
  by_cases h1 : n < 0
  · have hz := Cd.sizeOf_no (d := d) (gl := gl) (gs := gs) (.inl h1)
    have HZ := Lib.hid hz
    clear hz
    go_enter Tryd.func45, Tryd.ntmps45
    go_wp2_with fail
    go_ret
    exact ⟨ret_int HZ.out.symm, HX.out.1⟩
  · by_cases h2 : 4096 < n
    · have hz := Cd.sizeOf_no (d := d) (gl := gl) (gs := gs) (.inr (.inl h2))
      have HZ := Lib.hid hz
      clear hz
      go_enter Tryd.func45, Tryd.ntmps45
      go_wp2_with fail
      go_ret
      exact ⟨ret_int HZ.out.symm, HX.out.1⟩
    · go_enter Tryd.func45, Tryd.ntmps45
      go_wp2_with fail
      refine (cCheck_any d gl gs _ _ HX.out.2).mono ?_
      rintro e w1 ⟨rfl, hx1⟩
      have hc0 : w1.cell? ⟨w.heap.size, 0, none⟩ = some (.int .i64 d) := hx1.cell (by go_simp)
      have HX1 := Lib.hid (HX.out.1.trans hx1)
      clear hx1
      by_cases h0 : Cd.check d gs gl = 0
      · have hk := Cd.check_ok h0
        have hz := Cd.sizeOf_ok (d := d) (gl := gl) (gs := gs) (n := n) (by omega) (by omega) h0
        have e1 : (Cd.check d gs gl != 0) = false := by rw [h0]; rfl
        have HZ := Lib.hid hz
        have e3 : d ≠ 0 := by omega
        clear hz h0
        go_wp2_with fail
        go_ret
        exact ⟨ret_int HZ.out.symm, HX1.out⟩
      · have hz := Cd.sizeOf_no (d := d) (gl := gl) (gs := gs) (n := n) (.inr (.inr h0))
        have e1 : (Cd.check d gs gl != 0) = true := by rw [bne_iff_ne]; exact h0
        have HZ := Lib.hid hz
        clear hz h0
        go_wp2_with fail
        go_ret
        exact ⟨ret_int HZ.out.symm, HX1.out⟩
theorem cEncode_no (d gl : Int) (gs : List (List Int)) (data : List UInt8) (G : Value) (w : World) (hT : Tab w) (hG : Rs (Rs RI) w G gs) (h0 : Cd.check d gs gl ≠ 0) :
    Calls Tryd.prog 23 #[.agg #[.int .i64 d, G, .int .i64 gl], .string (sb data)] w fun e w' => e = .returned (.tuple #[.slice none 0 0, .int .i64 (Cd.check d gs gl)]) ∧ Ext w w' := by
  have hx0 := (Ext.refl w).alloc (.cells #[.int .i64 d, G, .int .i64 gl] 56)
  have HX := Lib.hid (And.intro hx0 (Rs.ext (Rs.ext RI.ext) _ _ _ _ hx0 hG))
  have HT := Lib.hid (hT.ext hx0)
  obtain ⟨A, c, rfl, hl⟩ := hG.form
  have e1 : (Cd.check d gs gl != 0) = true := by rw [bne_iff_ne]; exact h0
  clear hG hx0 hT h0
  go_enter Tryd.func23, Tryd.ntmps23
  go_wp2_with fail
  refine (cRows_any d gl gs _ _ HT.out HX.out.2).mono ?_
  rintro e w1 ⟨v, rfl, hv, hx1⟩
  have HX1 := Lib.hid (HX.out.1.trans hx1)
  clear hx1 hv
  go_wp2_with fail
  go_ret2
  exact ⟨rfl, HX1.out⟩
theorem cEncode_big (d gl : Int) (gs : List (List Int)) (data : List UInt8) (G : Value) (w : World) (hT : Tab w) (hG : Rs (Rs RI) w G gs) (h0 : Cd.check d gs gl = 0) (hb : 4096 < data.length) (hl : data.length ≤ 9223372036854775807) :
    Calls Tryd.prog 23 #[.agg #[.int .i64 d, G, .int .i64 gl], .string (sb data)] w fun e w' => e = .returned (.tuple #[.slice none 0 0, .int .i64 2]) ∧ Ext w w' := by
  have hx0 := (Ext.refl w).alloc (.cells #[.int .i64 d, G, .int .i64 gl] 56)
  have HX := Lib.hid (And.intro hx0 (Rs.ext (Rs.ext RI.ext) _ _ _ _ hx0 hG))
  have HT := Lib.hid (hT.ext hx0)
  obtain ⟨A, c, rfl, _⟩ := hG.form
  have e1 : (Cd.check d gs gl != 0) = false := by rw [h0]; rfl
  clear hG hx0 hT h0
  go_enter Tryd.func23, Tryd.ntmps23
  go_wp2_with fail
  refine (cRows_any d gl gs _ _ HT.out HX.out.2).mono ?_
  rintro e w1 ⟨v, rfl, hv, hx1⟩
  have HX1 := Lib.hid (HX.out.1.trans hx1)
  clear hx1 hv
  go_wp2_with fail
  go_ret2
  exact ⟨rfl, HX1.out⟩
theorem bytes_zero (N : Nat) : (List.replicate N (Value.int .u8 0)) = (List.replicate N (0 : UInt8)).map bv := by rw [List.map_replicate]; rfl
theorem fill_cells {N : Nat} {data : List UInt8} : data.map bv ++ (List.replicate N (Value.int .u8 0)).drop data.length = (Cd.fill N data).map bv := by
  rw [Cd.fill, List.map_append, List.drop_replicate, bytes_zero]
/-- A part of a row of bytes reads as the part of the list. -/
theorem Rd.part {w : World} {g n size i d : Nat} {full : List UInt8} {A : Option Addr} (h : Rd w (some ⟨g, 0, none⟩) (full.map bv)) (hi : i < d)
    (hA : A = (if n = i * size then some ⟨g, 0, none⟩ else some ((⟨g, 0, none⟩ : Addr).add (i * size)))) (hn : n = d * size) : Rd w A ((Cd.cutAt size full i).map bv) := by
  by_cases hs : size = 0
  · have : Cd.cutAt size full i = [] := by rw [Cd.cutAt, hs]; simp
    rw [this]
    exact Rd.nil _ _
  · have h1 : (i + 1) * size ≤ d * size := Nat.mul_le_mul_right size hi
    rw [Nat.succ_mul] at h1
    rw [if_neg (by omega)] at hA
    subst hA
    intro k x hx
    rw [List.getElem?_map, Cd.cutAt, List.getElem?_take] at hx
    by_cases hk : k < size
    · rw [if_pos hk, List.getElem?_drop] at hx
      obtain ⟨ad, e1, e2, e3⟩ := h (i * size + k) x (by rw [List.getElem?_map]; exact hx)
      injection e1 with e1
      subst e1
      refine ⟨_, rfl, by rw [block_add]; exact e2, ?_⟩
      have ea : ∀ o i : Nat, (⟨g, o, none⟩ : Addr).add i = ⟨g, o + i, none⟩ := fun o i => by unfold Addr.add; split <;> simp_all
      have e4 : ((⟨g, 0, none⟩ : Addr).add (i * size)).add k = (⟨g, 0, none⟩ : Addr).add (i * size + k) := by rw [ea, ea, ea, Nat.add_assoc]
      rw [e4]; exact e3
    · rw [if_neg hk] at hx; cases hx
theorem info_u8s : (Tryd.prog.info? 5).map (·.size) = some 1 := by kernel_rfl
theorem Rs.of_rdS2 {w : World} {A : Option Addr} {c : Nat} {l : List (List UInt8)} (h : Rd w A (l.map sv)) (hl : l.length ≤ 9223372036854775807) : Rs RS w (.slice A l.length c) l :=
  ⟨A, c, rfl, hl, fun i x hi => by
    obtain ⟨ad, h1, _, h3⟩ := h i (sv x) (by rw [List.getElem?_map, hi]; rfl)
    exact ⟨ad, _, h1, h3, rfl⟩⟩
theorem Owns.older {w w2 wr : World} {L : List LRow} (h : Owns w2 wr L) (hx : Ext w w2) : Owns w wr L where
  ext := hx.trans h.ext
  ok i r hr := by
    have h1 := h.ok i r hr
    refine ⟨h1.1, ?_⟩
    rcases h1.2 with h2 | ⟨g, cap, cur, hv, hB, rest⟩
    · exact .inl h2
    · exact .inr ⟨g, cap, cur, hv, Nat.le_trans hx.size hB, rest⟩
  far := h.far
set_option maxRecDepth 100000 in
set_option maxHeartbeats 8000000 in
theorem cEncode_ok (d gl : Nat) (gs : List (List Int)) (data : List UInt8) (G : Value) (w : World) (hT : Tab w) (hG : Rs (Rs RI) w G gs) (h0 : Cd.check d gs gl = 0) (hb : data.length ≤ 4096) :
    Calls Tryd.prog 23 #[.agg #[.int .i64 d, G, .int .i64 gl], .string (sb data)] w fun e w' => ∃ v, e = .returned (.tuple #[v, .int .i64 0]) ∧ Rs RS w' v (Cd.encode d gl gs data) ∧ Owns w w' [⟨v, 9, 1, (Cd.encode d gl gs data).length, (Cd.encode d gl gs data).map sv⟩] := by
  have hx0 := (Ext.refl w).alloc (.cells #[.int .i64 d, G, .int .i64 gl] 56)
  have hk := Cd.check_ok h0
  have HX := Lib.hid (And.intro hx0 (Rs.ext (Rs.ext RI.ext) _ _ _ _ hx0 hG))
  have HT := Lib.hid (hT.ext hx0)
  obtain ⟨A, c, rfl, _⟩ := hG.form
  have e1 : (Cd.check d gs gl != 0) = false := by rw [h0]; rfl
  have HC := Lib.hid h0
  have hsz := Cd.size_le (d := d) (by omega) data.length
  have hge := Cd.size_ge (d := d) (by omega) data.length
  obtain ⟨sz, hsze⟩ : ∃ sz, Cd.sizeN d data.length = sz := ⟨_, rfl⟩
  have hso := Cd.sizeOf_nat (d := d) (gl := gl) (gs := gs) hb h0
  rw [hsze] at hsz hge hso
  obtain ⟨N, hN⟩ : ∃ N, d * sz = N := ⟨_, rfl⟩
  have hNle : N ≤ 65536 := by
    have := Nat.mul_le_mul (show d ≤ 16 by omega) hsz
    rw [← hN]
    omega
  have hmul : (d : Int) * (sz : Int) = (N : Int) := by rw [← hN, Int.natCast_mul]
  rw [hN] at hge
  obtain ⟨full, hfull⟩ : ∃ full, Cd.fill N data = full := ⟨_, rfl⟩
  have hfl : full.length = d * sz := by rw [← hfull, hN]; exact Cd.fill_len hge
  have hcuts : Cd.cuts d data = (List.range d).map (Cd.cutAt sz full) := by rw [Cd.cuts, hsze, hN, hfull]
  have HSO := Lib.hid hso
  have HF := Lib.hid (And.intro hfull (And.intro hfl (And.intro hcuts hN)))
  obtain ⟨i0, hi, hz0, hz1, hz2⟩ := info_parts info_u8
  have HZ2 := Lib.hid hz2
  clear hz2 hG hx0 hT h0 hfull hfl hcuts hN hso hsze
  go_enter Tryd.func23, Tryd.ntmps23
  go_wp2_with fail
  refine (cRows_any d gl gs _ _ HT.out HX.out.2).mono ?_
  rintro e w1 ⟨v, rfl, hv, hx1⟩
  obtain ⟨RA, cR, rfl, _⟩ := hv.form
  have hc0 : w1.cell? ⟨w.heap.size, 0, none⟩ = some (.int .i64 d) := hx1.cell (by go_simp)
  have hc1 : w1.cell? ⟨w.heap.size, 1, none⟩ = some (.slice A gs.length c) := hx1.cell (by go_simp)
  have hc2 : w1.cell? ⟨w.heap.size, 2, none⟩ = some (.int .i64 gl) := hx1.cell (by go_simp)
  have HX1 := Lib.hid (HX.out.1.trans hx1)
  have HT1 := Lib.hid (HT.out.ext hx1)
  have HG1 := Lib.hid (Rs.ext (Rs.ext RI.ext) _ _ _ _ hx1 HX.out.2)
  have HV := Lib.hid hv
  clear hx1 hv
  go_wp2_with fail
  clear hc1 hc2
  refine (cSize_any d gl data.length gs _ _ HG1.out).mono ?_
  rintro e w2 ⟨rfl, hx2⟩
  rw [HSO.out]
  have hc0' : w2.cell? ⟨w.heap.size, 0, none⟩ = some (.int .i64 d) := hx2.cell hc0
  have HX2 := Lib.hid (HX1.out.trans hx2)
  have HT2 := Lib.hid (HT1.out.ext hx2)
  have HV2 := Lib.hid (Rs.ext (Rs.ext RB.ext) _ _ _ _ hx2 HV.out)
  have HC0 := Lib.hid hc0'
  clear hx2 hc0
  go_wp2_with (first | (refine wpList_make_full _ rfl (.tmp 35) (.tmp 35) 44 rfl w2.heap.size 5 i0 (.int .u8 0) 1 Tryd.underlying44 hi hz0 hz1 _ _ _ _ N rfl rfl rfl rfl (by rw [HZ2.out]; omega) (by unfold maxLen; omega) (Nat.le_refl _) ?_; intro w3 hown hgrow; have hx3 : Ext w2 w3 := (Ext.refl w2).grown hgrow (fun k h => by cases h); have hO3 : Owns w2 w3 [⟨.slice (some ⟨w2.heap.size, 0, none⟩) N N, 5, 1, N, (madeCells (Value.int .u8 0).cells (N * 1)).toList⟩] := ((Owns.start w2 (L := []) (by simp)).behind hx3 hown); have HO3 := Lib.hid hO3; clear hown hgrow hx3 hO3) | (refine wpl_copy_str rfl (.tmp 37) (.tmp 38) 44 9 rfl Tryd.underlying44 info_u8s HO3.out 0 rfl rfl rfl hge ?_; intro w4 hO4; have HO4 := Lib.hid hO4; have hc4 : w4.cell? ⟨w.heap.size, 0, none⟩ = some (.int .i64 d) := hO4.ext.cell HC0.out; clear hO4))
  clear hc0' hc4
  have hO5 := HO4.out
  rw [show (madeCells (Value.int .u8 0).cells (N * 1)).toList = List.replicate N (Value.int .u8 0) from by rw [Nat.mul_one]; exact toList_madeCells_one _ _] at hO5
  have hO5' : Owns w2 w4 [⟨.slice (some ⟨w2.heap.size, 0, none⟩) N N, 5, 1, N, full.map bv⟩] := by
    rw [← HF.out.1, ← fill_cells]
    exact hO5
  have hO6 : Owns w2 w4 [⟨.slice (some ⟨w2.heap.size, 0, none⟩) N N, 5, 1, N, full.map bv⟩, nilRow 9, no] := (hO5'.wider.wider).put 1 (nilRow 9) hO5'.ext (nilRow_ok _ _ _) (fun _ _ _ _ _ _ => rfl) (fun _ _ _ _ => .inl rfl)
  have HO6 := Lib.hid hO6
  clear hO5 hO5' hO6
  go_loopw [10, 12, 42] (fun vp vi vx wr => ∃ (i ca : Nat) (B : Option Addr), i ≤ d ∧ vx = .int .i64 i ∧ vp = .slice B i ca ∧ Hid (Owns w2 wr [⟨.slice (some ⟨w2.heap.size, 0, none⟩) N N, 5, 1, N, full.map bv⟩, ⟨.slice B i ca, 9, 1, i, ((List.range i).map (Cd.cutAt sz full)).map sv⟩, no])) (fun _ _ vx _ => d - (intOf vx).toNat)
  case atStart => exact ⟨0, 0, none, Nat.zero_le _, rfl, rfl, HO6.out⟩
  case round =>
    obtain ⟨i, ca, B, hi2, rfl, rfl, HI⟩ := hrel
    by_cases hlt : i < d
    · obtain ⟨lo, hlo⟩ : ∃ lo, i * sz = lo := ⟨_, rfl⟩
      obtain ⟨hh, hhi⟩ : ∃ hh, (i + 1) * sz = hh := ⟨_, rfl⟩
      have q1 : (i : Int) * (sz : Int) = (lo : Int) := by rw [← hlo, Int.natCast_mul]
      have q2 : ((i : Int) + 1) * (sz : Int) = (hh : Int) := by rw [← hhi, Int.natCast_mul]; rfl
      have q3 : hh = lo + sz := by rw [← hhi, ← hlo, Nat.succ_mul]
      have q4 : hh ≤ N := by rw [← hhi, ← HF.out.2.2.2]; exact Nat.mul_le_mul_right sz hlt
      have q5 : hh - lo = sz := by omega
      have hcl := Cd.cutAt_len (size := sz) HF.out.2.1 hlt
      have hpart := fun (A : Option Addr) (hA : A = (if N = lo then some (⟨w2.heap.size, 0, none⟩ : Addr) else some ((⟨w2.heap.size, 0, none⟩ : Addr).add lo))) => Rd.part (n := N) (size := sz) (i := i) (d := d) (A := A) (HI.out.rd 0 rfl) hlt (by rw [hlo]; exact hA) HF.out.2.2.2.symm
      have hst : ((List.range (i + 1)).map (Cd.cutAt sz full)).map sv = ((List.range i).map (Cd.cutAt sz full)).map sv ++ [sv (Cd.cutAt sz full i)] := by simp [List.range_succ]
      obtain ⟨ct, hct⟩ : ∃ ct, Cd.cutAt sz full i = ct := ⟨_, rfl⟩
      rw [hct] at hcl hpart hst
      have HPART := Lib.hid hpart
      have HST := Lib.hid (And.intro hst (And.intro hcl q5))
      have hql : lo ≤ hh := by omega
      clear hpart hst hcl hlo hhi q3 q5 hct
      go_wp2_with (first | (refine wpl_part rfl 44 5 (.tmp 46) (.tmp 49) (.tmp 53) rfl Tryd.underlying44 info_u8s rfl rfl rfl hql q4 ?_; intro AA hAA; have hcv := str_u8 (w := wr) (c := N - lo) (n := hh - lo) (by rw [HST.out.2.2, HST.out.2.1]) (HPART.out AA hAA); clear hAA) | (have hB := HI.out.new 2 #[sv ct] 9 (by simp [maxLen]); refine wpl_append_owns (u := sv ct) 45 9 rfl (.tmp 45) (.tmp 56) rfl Tryd.underlying45 info_str rfl hB 1 rfl rfl rfl (hB.cell 2 rfl 0 rfl) rfl (by omega) (by decide) ?_; clear hB; intro g8 c8 w8 hO8 _))
      go_roundw
      case rel => exact ⟨i + 1, c8, _, by omega, by go_num, rfl, by rw [HST.out.1]; exact hO8.drop 2⟩
      case measure => simp [intOf]; omega
    · obtain rfl : i = d := by omega
      have hI := HI.out
      rw [← HF.out.2.2.1] at hI
      have hI2 := hI.wider.put 2 (nilRow 9) hI.ext (nilRow_ok _ _ _) (fun _ _ _ _ _ _ => rfl) (fun _ _ _ _ => .inl rfl)
      obtain ⟨parts, hparts⟩ : ∃ parts, Cd.cuts i data = parts := ⟨_, rfl⟩
      have hpl : parts.length = i := by rw [← hparts, Cd.cuts_len]
      have hps : ∀ p ∈ parts, p.length ≤ 140737488351232 := fun p hp => by
        rw [← hparts] at hp
        have h1 := Cd.cuts_all (by omega) data hp
        have h2 := Cd.size_le (d := i) (by omega) data.length
        omega
      rw [hparts] at hI2
      have HI2 := Lib.hid hI2
      have HP := Lib.hid (And.intro hparts (And.intro hpl hps))
      have hrl := Cd.rowsOf_len HC.out
      obtain ⟨R, hR⟩ : ∃ R, Cd.rowsOf (i : Int) gs (gl : Int) = R := ⟨_, rfl⟩
      have HV3 := HV2
      rw [hR] at HV3 hrl ⊢
      have HRR := Lib.hid hR
      clear hI hI2 hparts hpl hps hR
      go_wp2_with fail
      go_loopw [11, 61] (fun vo vx wr => ∃ (k co : Nat) (O : Option Addr), k ≤ R.length ∧ vx = .int .i64 k ∧ vo = .slice O k co ∧ Hid (Owns w2 wr [⟨.slice (some ⟨w2.heap.size, 0, none⟩) N N, 5, 1, N, full.map bv⟩, ⟨.slice B i ca, 9, 1, i, parts.map sv⟩, ⟨.slice O k co, 9, 1, k, (Cd.encRows (R.take k) parts).map sv⟩, no])) (fun _ vx _ => R.length - (intOf vx).toNat)
      case atStart => exact ⟨0, 0, none, Nat.zero_le _, rfl, rfl, HI2.out⟩
      case round =>
        obtain ⟨k, co, O, hk2, rfl, rfl, HJ⟩ := hrel
        by_cases hlt2 : k < R.length
        · obtain ⟨ad, u, rfl, hcell, hu⟩ := HV3.out.at (i := k) hlt2
          obtain ⟨RB', cRB, rfl, hrb⟩ := hu.form
          have hcell2 := HJ.out.ext.cell hcell
          have hurd := hu.rd
          have hst : (Cd.encRows (R.take (k + 1)) parts).map sv = (Cd.encRows (R.take k) parts).map sv ++ [sv (Gf.combS R[k] parts)] := by
            rw [Cd.encRows, List.take_succ_eq_append_getElem hlt2, List.map_append, List.map_append]; rfl
          have hrlen : R[k].length = i := by
            have hw := Cd.rowsOf_at (d := (i : Int)) (gl := (gl : Int)) (gs := gs) HC.out (k := k) (by rw [HRR.out]; exact hlt2)
            rw [HRR.out, List.getD_eq_getElem?_getD, List.getElem?_eq_getElem hlt2] at hw
            exact hw
          obtain ⟨r, hr⟩ : ∃ r, R[k] = r := ⟨_, rfl⟩
          rw [hr] at hst hurd hcell2 hrlen
          have HST := Lib.hid hst
          have HU := Lib.hid hurd
          have HRL := Lib.hid hrlen
          clear hst hurd hu hcell hr hrb hrlen
          go_wp2_with fail
          refine (combine_any r parts _ _ _ _ _ _ _ (HT2.out.ext HJ.out.ext) rfl HP.out.2.1.symm (by rw [HRL.out]; omega) HP.out.2.2 (HU.out.ext HJ.out.ext) (HJ.out.rd 1 rfl)).mono ?_
          rintro e w5 ⟨rfl, hx5⟩
          have HJ5 := Lib.hid (HJ.out.next hx5)
          clear hx5 hcell2
          go_wp2_with (have hB := HJ5.out.new 3 #[sv (Gf.combS r parts)] 9 (by simp [maxLen]); refine wpl_append_owns (u := sv (Gf.combS r parts)) 45 9 rfl (.tmp 71) (.tmp 73) rfl Tryd.underlying45 info_str rfl hB 2 rfl rfl rfl (hB.cell 3 rfl 0 rfl) rfl (by omega) (by decide) ?_; clear hB; intro g8 c8 w8 hO8 _)
          go_roundw
          case rel => exact ⟨k + 1, c8, _, by omega, by go_num, rfl, by rw [HST.out]; exact hO8.drop 3⟩
          case measure => simp [intOf]; omega
        · obtain rfl : k = R.length := by omega
          have hout : Rs RS wr (.slice O R.length co) (Cd.encode (i : Int) (gl : Int) gs data) := by
            have h1 := HJ.out.rd 2 rfl
            rw [List.take_length, ← HP.out.1, ← HRR.out] at h1
            have h2 := Cd.encode_len (i : Int) (gl : Int) gs data
            rw [HRR.out] at h2
            rw [← h2]
            exact Rs.of_rdS2 h1 (by rw [h2]; omega)
          have hxx : Owns w wr [⟨.slice O R.length co, 9, 1, (Cd.encode (i : Int) (gl : Int) gs data).length, (Cd.encode (i : Int) (gl : Int) gs data).map sv⟩] := by
            have h1 := HJ.out.older HX2.out
            have h2 := Cd.encode_len (i : Int) (gl : Int) gs data
            rw [HRR.out] at h2
            rw [List.take_length, ← HP.out.1, ← HRR.out] at h1
            rw [h2, ← HRR.out]
            exact h1.sublist (.cons _ (.cons _ (.cons_cons _ (List.nil_sublist _))))
          have HOUT := Lib.hid (And.intro hout hxx)
          clear hout hxx
          go_wp2_with fail
          go_ret2
          exact ⟨_, rfl, HOUT.out.1, HOUT.out.2⟩
/-- `Encode` of every chunk: its list is of the call's own. -/
theorem cEncode_own (d gl : Int) (gs : List (List Int)) (data : List UInt8) (G : Value) (w : World) (hT : Tab w) (hG : Rs (Rs RI) w G gs) (hl : data.length ≤ 9223372036854775807) :
    Calls Tryd.prog 23 #[.agg #[.int .i64 d, G, .int .i64 gl], .string (sb data)] w fun e w' => ∃ v, e = .returned (.tuple #[v, .int .i64 (Cd.encE d gl gs data)]) ∧ Rs RS w' v (Cd.encL d gl gs data) ∧ Owns w w' [⟨v, 9, 1, (Cd.encL d gl gs data).length, (Cd.encL d gl gs data).map sv⟩] := by
  have hnil : ∀ w', Ext w w' → Owns w w' [⟨.slice none 0 0, 9, 1, ([] : List (List UInt8)).length, ([] : List (List UInt8)).map sv⟩] := fun w' hx =>
    (Owns.start w (L := [⟨.slice none 0 0, 9, 1, 0, []⟩]) (by intro r hr; simp at hr; subst hr; exact ⟨rfl, rfl, rfl⟩)).next hx
  by_cases h0 : Cd.check d gs gl = 0
  · by_cases hb : data.length ≤ 4096
    · have hk := Cd.check_ok h0
      rw [Cd.encE_ok h0 hb, Cd.encL_ok h0 hb]
      obtain ⟨n, rfl⟩ : ∃ n : Nat, d = n := ⟨d.toNat, by omega⟩
      obtain ⟨m, rfl⟩ : ∃ m : Nat, gl = m := ⟨gl.toNat, by omega⟩
      exact cEncode_ok n m gs data G w hT hG h0 hb
    · rw [Cd.encE_big h0 (by omega), Cd.encL_big (by omega)]
      refine (cEncode_big d gl gs data G w hT hG h0 (by omega) hl).mono ?_
      rintro e w' ⟨rfl, hx⟩
      exact ⟨_, rfl, ⟨none, 0, rfl, by simp, fun i x h => by simp at h⟩, hnil w' hx⟩
  · rw [Cd.encE_no h0, Cd.encL_no h0]
    refine (cEncode_no d gl gs data G w hT hG h0).mono ?_
    rintro e w' ⟨rfl, hx⟩
    exact ⟨_, rfl, ⟨none, 0, rfl, by simp, fun i x h => by simp at h⟩, hnil w' hx⟩
/-- `Encode` of every chunk. -/
theorem cEncode_any (d gl : Int) (gs : List (List Int)) (data : List UInt8) (G : Value) (w : World) (hT : Tab w) (hG : Rs (Rs RI) w G gs) (hl : data.length ≤ 9223372036854775807) :
    Calls Tryd.prog 23 #[.agg #[.int .i64 d, G, .int .i64 gl], .string (sb data)] w fun e w' => ∃ v, e = .returned (.tuple #[v, .int .i64 (Cd.encE d gl gs data)]) ∧ Rs RS w' v (Cd.encL d gl gs data) ∧ Ext w w' :=
  (cEncode_own d gl gs data G w hT hG hl).mono fun _ _ ⟨v, h1, h2, h3⟩ => ⟨v, h1, h2, h3.ext⟩
end Go.Proofs.YtenafgphaceidaaDoor
/- BITS of sets, in plain terms. -/
namespace Cd
open Gf
theorem bit_test (s i : Nat) : bitAt s i = 1 ↔ s.testBit i = true := by
  unfold bitAt
  rw [Nat.testBit_eq_decide_div_mod_eq, decide_eq_true_eq]
theorem bit_01 (s i : Nat) : bitAt s i = 0 ∨ bitAt s i = 1 := by unfold bitAt; omega
theorem bit_or (s i j : Nat) : bitAt (s ||| 2 ^ i) j = 1 ↔ bitAt s j = 1 ∨ j = i := by
  rw [bit_test, bit_test, Nat.testBit_or, Nat.testBit_two_pow, Bool.or_eq_true, decide_eq_true_eq]
  exact or_congr Iff.rfl eq_comm
theorem bit_set : ∀ (g : List Int) (s j : Nat), (∀ i ∈ g, 0 ≤ i) → (bitAt (setOf s g) j = 1 ↔ bitAt s j = 1 ∨ (j : Int) ∈ g)
  | [], s, j, _ => by rw [setOf_nil]; simp
  | i :: g, s, j, h => by
    have e : setOf s (i :: g) = setOf (s ||| 2 ^ i.toNat) g := by unfold setOf; rfl
    rw [e, bit_set g _ j fun x hx => h x (by simp [hx]), bit_or, List.mem_cons, or_assoc]
    have h0 := h i (by simp)
    have : j = i.toNat ↔ (j : Int) = i := by omega
    rw [this]
end Cd
/- CODES, in plain terms: what a group's parity says, and which losses are repaired. -/
namespace Cd
open Gf Go.Proofs.YtenafgphaceidaaDoor
/-- What no error says of groups: each ascends, in bounds; none has a member of another. -/
theorem check_asc {d : Int} : ∀ {gs : List (List Int)} {s : Nat}, checkG d s gs = 0 → (∀ g ∈ gs, g ≠ [] ∧ (∀ i ∈ g, 0 ≤ i ∧ i < d ∧ bitAt s i.toNat = 0) ∧ g.Pairwise (· < ·)) ∧ gs.Pairwise (fun g h => ∀ i, i ∈ g → i ∉ h)
  | [], _, _ => ⟨fun g h => by (cases h), List.Pairwise.nil⟩
  | g :: r, s, h => by
    by_cases hg : g = []
    · rw [hg, checkG_nil] at h; cases h
    · cases hb : bad d s g with
      | true => rw [checkG_bad hg hb] at h; cases h
      | false =>
        rw [checkG_next hg hb] at h
        obtain ⟨h1, h2⟩ := check_asc h
        have hat : ∀ k, k < g.length → 0 ≤ g.getD k 0 ∧ g.getD k 0 < d ∧ (0 < k → g.getD (k - 1) 0 < g.getD k 0) ∧ bitAt s (g.getD k 0).toNat = 0 := fun k hk => by
          have := badAt_of hb hk
          rw [badAt_def] at this
          simp only [Bool.or_eq_false_iff, Bool.and_eq_false_iff, decide_eq_false_iff_not, beq_eq_false_iff_ne] at this
          have h01 := bit_01 s (g.getD k 0).toNat
          omega
        have hbd : ∀ i ∈ g, 0 ≤ i ∧ i < d ∧ bitAt s i.toNat = 0 := fun i hi => by
          obtain ⟨k, hk, rfl⟩ := List.getElem_of_mem hi
          have := hat k hk
          rw [List.getD_eq_getElem?_getD, List.getElem?_eq_getElem hk] at this
          exact ⟨this.1, this.2.1, this.2.2.2⟩
        have hset := bit_set g s
        refine ⟨fun x hx => ?_, ?_⟩
        · rcases List.mem_cons.1 hx with rfl | hx
          · refine ⟨hg, hbd, ?_⟩
            rw [List.pairwise_iff_getElem]
            intro i j hi hj hij
            have hstep : ∀ k, k + 1 < x.length → x.getD k 0 < x.getD (k + 1) 0 := fun k hk => (hat (k + 1) hk).2.2.1 (by omega)
            have hall : ∀ n, i + 1 + n < x.length → x.getD i 0 < x.getD (i + 1 + n) 0 := by
              intro n
              induction n with
              | zero => intro hn; exact hstep i hn
              | succ n ih => intro hn; exact Int.lt_trans (ih (by omega)) (hstep (i + 1 + n) hn)
            have := hall (j - i - 1) (by omega)
            rw [show i + 1 + (j - i - 1) = j from by omega] at this
            rw [List.getD_eq_getElem?_getD, List.getD_eq_getElem?_getD, List.getElem?_eq_getElem hi, List.getElem?_eq_getElem hj] at this
            exact this
          · obtain ⟨q1, q2, q3⟩ := h1 x hx
            refine ⟨q1, fun i hi => ?_, q3⟩
            obtain ⟨p1, p2, p3⟩ := q2 i hi
            refine ⟨p1, p2, ?_⟩
            rcases bit_01 s i.toNat with h0 | h0
            · exact h0
            · have := (hset i.toNat fun y hy => (hbd y hy).1).2 (.inl h0)
              omega
        · refine List.pairwise_cons.2 ⟨fun x hx i hi hix => ?_, h2⟩
          obtain ⟨p1, p2, p3⟩ := (h1 x hx).2.1 i hix
          have := (hset i.toNat fun y hy => (hbd y hy).1).2 (.inr (by rw [Int.toNat_of_nonneg p1]; exact hi))
          omega
/-- A sum over the members of a group. -/
def xorL (f : Nat → UInt8) : List Int → UInt8
  | [] => 0
  | i :: g => f i.toNat ^^^ xorL f g
theorem xor_group {d : Nat} (f : Nat → UInt8) : ∀ (g : List Int), g.Pairwise (· < ·) → (∀ i ∈ g, 0 ≤ i ∧ i < (d : Int)) → sm d (fun j => if (j : Int) ∈ g then f j else 0) = xorL f g
  | [], _, _ => by rw [xorL]; exact sm_zero fun j _ => by simp
  | i :: g, hp, hb => by
    obtain ⟨h1, h2⟩ := List.pairwise_cons.1 hp
    have hi := hb i (by simp)
    have ih := xor_group f g h2 fun x hx => hb x (by simp [hx])
    have hni : i ∉ g := fun h => Int.lt_irrefl _ (h1 i h)
    have e : sm d (fun j => if (j : Int) ∈ i :: g then f j else 0) = sm d (fun j => (if j = i.toNat then f j else 0) ^^^ (if (j : Int) ∈ g then f j else 0)) := sm_congr fun j _ => by
      by_cases hj : j = i.toNat
      · have hji : (j : Int) = i := by omega
        rw [if_pos hj, if_pos (by rw [hji]; simp), if_neg (by rw [hji]; exact hni), UInt8.xor_zero]
      · have hji : (j : Int) ≠ i := by omega
        rw [if_neg hj, UInt8.zero_xor]
        simp [hji]
    rw [e, sm_add, ih, xorL, sm_one (p := i.toNat) _ (by omega) fun j _ hne => if_neg hne, if_pos rfl]
variable {d gl : Int} {gs : List (List Int)}
theorem rowsOf_data (h : check d gs gl = 0) {k : Nat} (hk : k < d.toNat) : (rowsOf d gs gl).getD k [] = rowOf d.toNat (unitAt k) := by
  rw [rowsOf_ok h, ← rows_parts, List.append_assoc, List.getD_eq_getElem?_getD, List.getElem?_append_left (by rw [rows1_length]; exact hk)]
  simp [rows1, hk]
theorem rowsOf_group (h : check d gs gl = 0) {k : Nat} (hk : k < gs.length) : (rowsOf d gs gl).getD (d.toNat + k) [] = rowOf d.toNat (inAt (setOf 0 (gs.getD k []))) := by
  rw [rowsOf_ok h, ← rows_parts, List.append_assoc, List.getD_eq_getElem?_getD, List.getElem?_append_right (by rw [rows1_length]; omega), rows1_length, Nat.add_sub_cancel_left, List.getElem?_append_left (by rw [rows2_length]; exact hk)]
  simp [rows2, hk, List.getD_eq_getElem?_getD]
theorem rowOf_get {n i : Nat} (g : Nat → UInt8) (h : i < n) : (rowOf n g).getD i 0 = g i := getD_map_range _ _ h
theorem check_g (h : check d gs gl = 0) : checkG d 0 gs = 0 := by
  have hk := check_ok h
  rw [← check_groups (gl := gl) (by omega) (by omega)]
  exact h
theorem inAt_set {g : List Int} (hg : ∀ i ∈ g, 0 ≤ i) (j : Nat) : inAt (setOf 0 g) j = if (j : Int) ∈ g then 1 else 0 := by
  have h := bit_set g 0 j hg
  have h0 : bitAt 0 j = 0 := by simp [bitAt]
  unfold inAt
  by_cases hj : (j : Int) ∈ g
  · rw [if_pos hj, h.2 (.inr hj)]
    rfl
  · rw [if_neg hj]
    rcases bit_01 (setOf 0 g) j with h1 | h1
    · rw [h1]; rfl
    · rcases h.1 h1 with h2 | h2
      · omega
      · exact absurd h2 hj
theorem ext_getD {l m : List UInt8} (hl : l.length = m.length) (h : ∀ x, x < l.length → l.getD x 0 = m.getD x 0) : l = m := by
  apply List.ext_getElem hl
  intro x h1 h2
  have := h x h1
  rw [List.getD_eq_getElem?_getD, List.getElem?_eq_getElem h1, List.getD_eq_getElem?_getD, List.getElem?_eq_getElem h2] at this
  exact this
end Cd

/- THE TABLE OF THE CHEAPEST WAYS: rows, and what one step does to a row. -/
namespace Su
def upd (r : Nat → Way) (v : Nat) (x : Way) : Nat → Way := fun w => if w = v then x else r w
theorem upd_same (r : Nat → Way) (v : Nat) (x : Way) : upd r v x v = x := if_pos rfl
theorem upd_ne {r : Nat → Way} {v w : Nat} {x : Way} (h : w ≠ v) : upd r v x w = r w := if_neg h
def row (W : List Way) (s : Nat) : Nat → Way := fun v => if v < 12 then get W (s * 12 + v) else ⟨-1, 0, -1⟩
theorem row_at {W : List Way} {s v : Nat} (hv : v < 12) : row W s v = get W (s * 12 + v) := if_pos hv
theorem row_set {W : List Way} {s v : Nat} {x : Way} (hv : v < 12) (hl : s * 12 + v < W.length) : row (W.set (s * 12 + v) x) s = upd (row W s) v x := by
  funext w
  unfold row upd
  dsimp only
  by_cases hw : w < 12
  · rw [if_pos hw, if_pos hw, get_set hl]
    by_cases h : w = v
    · rw [if_pos h, if_pos (by omega)]
    · rw [if_neg h, if_neg (by omega)]
  · rw [if_neg hw, if_neg (by omega), if_neg hw]
theorem row_other {W : List Way} {s s' v : Nat} {x : Way} (hv : v < 12) (hs : s' ≠ s) : row (W.set (s * 12 + v) x) s' = row W s' := by
  funext w
  unfold row
  by_cases hw : w < 12
  · rw [if_pos hw, if_pos hw]
    unfold get
    rw [List.getD_eq_getElem?_getD, List.getD_eq_getElem?_getD, List.getElem?_set_ne (by omega)]
  · rw [if_neg hw, if_neg hw]
/-- No cost is lost, and none grows. -/
def Imp (r r' : Nat → Way) : Prop := ∀ v, 0 ≤ (r v).cost → 0 ≤ (r' v).cost ∧ (r' v).cost ≤ (r v).cost
theorem Imp.refl (r : Nat → Way) : Imp r r := fun _ h => ⟨h, Int.le_refl _⟩
theorem Imp.trans {a b c : Nat → Way} (h : Imp a b) (k : Imp b c) : Imp a c := fun v hv => by
  have h1 := h v hv
  have h2 := k v h1.1
  omega
def Bd (M : Int) (r : Nat → Way) : Prop := ∀ v, (r v).cost ≤ M
/-- A table whose row s is r; its other rows are those of W0. -/
structure Sim (W0 : List Way) (s : Nat) (M : Int) (W : List Way) (r : Nat → Way) : Prop where
  row : row W s = r
  bd : Bd M r
  oth : ∀ s', s' ≠ s → Su.row W s' = Su.row W0 s'
  len : W.length = W0.length
theorem sim_set {W0 W : List Way} {s v : Nat} {M M' : Int} {r : Nat → Way} {x : Way} (h : Sim W0 s M W r) (hv : v < 12) (hl : s * 12 + 12 ≤ W0.length) (hx : x.cost ≤ M') (hM : M ≤ M') : Sim W0 s M' (W.set (s * 12 + v) x) (upd r v x) where
  row := by rw [row_set hv (by rw [h.len]; omega), h.row]
  bd w := by
    unfold upd
    split
    · exact hx
    · exact Int.le_trans (h.bd w) hM
  oth s' hs := by rw [row_other hv hs]; exact h.oth s' hs
  len := by rw [List.length_set, h.len]
theorem Sim.wider {W0 W : List Way} {s : Nat} {M M' : Int} {r : Nat → Way} (h : Sim W0 s M W r) (hM : M ≤ M') : Sim W0 s M' W r := ⟨h.row, fun v => Int.le_trans (h.bd v) hM, h.oth, h.len⟩
theorem sim_rep {W0 : List Way} {s n : Nat} {c LIM : Int} {f : Nat → List Way → List Way} {g : Nat → (Nat → Way) → (Nat → Way)} (hc : 0 ≤ c)
    (hstep : ∀ k, k < n → ∀ M W r, 0 ≤ M → M ≤ LIM → Sim W0 s M W r → Sim W0 s (M + c) (f k W) (g k r)) : ∀ k, k ≤ n → ∀ M W r, 0 ≤ M → M + k * c ≤ LIM → Sim W0 s M W r → Sim W0 s (M + k * c) (rep f k W) (rep g k r)
  | 0, _, M, W, r, _, _, h => by simpa [rep] using h
  | k + 1, hk, M, W, r, h0, hM, h => by
    have hkc : 0 ≤ (k : Int) * c := Int.mul_nonneg (by omega) hc
    have e : M + ((k + 1 : Nat) : Int) * c = M + k * c + c := by rw [Int.natCast_add, Int.add_mul]; omega
    rw [e] at hM ⊢
    have ih := sim_rep hc hstep k (by omega) M W r h0 (by omega) h
    exact hstep k (by omega) _ _ _ (by omega) (by omega) ih
theorem sum64_eq {a b : Int} (ha : 0 ≤ a) (hb : 0 ≤ b) (h1 : a ≤ 100000000000000) (h2 : b ≤ 100000000000000) : sum64 a b = a + b := by
  unfold sum64 Go.RowKit.wrap64
  omega
/-! One hop. -/
def rmove (h : Ha) (u v : Nat) (r : Nat → Way) : Nat → Way :=
  if u ≠ v ∧ 0 ≤ price h u v ∧ 0 ≤ (r u).cost ∧ better ((r u).cost + price h u v) (r v).cost then upd r v ⟨(r u).cost + price h u v, 0, u⟩ else r
theorem price_le {h : Ha} (k : Ok h) {n : Nat} (hn : h.pr.length = n) {u v : Nat} (hu : u < n) (hv : v < n) : price h u v ≤ 1000000 := by
  have := price_bound k (a := u) (b := v) (by omega) (by omega)
  omega
theorem sim_move {h : Ha} (k : Ok h) {n : Nat} (hn : h.pr.length = n) {W0 : List Way} {s : Nat} (hl : s * 12 + 12 ≤ W0.length) {u v : Nat} (hu : u < n) (hv : v < n) (M : Int) (W : List Way) (r : Nat → Way) (hM : M ≤ 50000000000000) (hs : Sim W0 s M W r) :
    Sim W0 s (M + 1000000) (moveStep h s u v W) (rmove h u v r) := by
  have hn12 := k.few
  have hu12 : u < 12 := by omega
  have hv12 : v < 12 := by omega
  have hp := price_le k hn hu hv
  have e1 : get W (s * 12 + u) = r u := by rw [← hs.row, row_at hu12]
  have e2 : get W (s * 12 + v) = r v := by rw [← hs.row, row_at hv12]
  have hb := hs.bd u
  unfold moveStep rmove
  rw [e1, e2]
  by_cases h1 : u ≠ v ∧ 0 ≤ price h u v ∧ 0 ≤ (r u).cost
  · have e : sum64 (r u).cost (price h u v) = (r u).cost + price h u v := sum64_eq h1.2.2 h1.2.1 (by omega) (by omega)
    rw [e]
    split
    · exact sim_set hs hv12 hl (by simp only; omega) (by omega)
    · exact hs.wider (by omega)
  · rw [if_neg (by intro e; exact h1 ⟨e.1, e.2.1, e.2.2.1⟩), if_neg (by intro e; exact h1 ⟨e.1, e.2.1, e.2.2.1⟩)]
    exact hs.wider (by omega)
def rrelax (h : Ha) (n : Nat) (r : Nat → Way) : Nat → Way := rep (fun _ r => rep (fun u r => rep (fun v r => rmove h u v r) n r) n r) n r
theorem sim_relax {h : Ha} (k : Ok h) {n : Nat} (hn : h.pr.length = n) {W0 : List Way} {s : Nat} (hl : s * 12 + 12 ≤ W0.length) (M : Int) (W : List Way) (r : Nat → Way) (h0 : 0 ≤ M) (hM : M ≤ 40000000000000) (hs : Sim W0 s M W r) :
    Sim W0 s (M + 2000000000) (relax h s n W) (rrelax h n r) := by
  have hn12 := k.few
  have hnn : (n : Int) ≤ 12 := by omega
  have h1 : ∀ u, u < n → ∀ M W r, 0 ≤ M → M ≤ 49900000000000 → Sim W0 s M W r → Sim W0 s (M + n * 1000000) (rep (fun v W => moveStep h s u v W) n W) (rep (fun v r => rmove h u v r) n r) := fun u hu M W r h0 hM hs =>
    sim_rep (f := fun v W => moveStep h s u v W) (g := fun v r => rmove h u v r) (LIM := 50000000000000) (by decide) (fun v hv M W r _ hM hs => sim_move k hn hl hu hv M W r hM hs) n (Nat.le_refl _) M W r h0 (by omega) hs
  have hsq : (n : Int) * (n * 1000000) ≤ 144000000 := by
    have : (n : Int) * n ≤ 12 * 12 := Int.mul_le_mul hnn hnn (by omega) (by decide)
    rw [← Int.mul_assoc]
    omega
  have hsq0 : 0 ≤ (n : Int) * (n * 1000000) := Int.mul_nonneg (by omega) (by omega)
  have h2 : ∀ j, j < n → ∀ M W r, 0 ≤ M → M ≤ 49000000000000 → Sim W0 s M W r → Sim W0 s (M + n * (n * 1000000)) (rep (fun u W => rep (fun v W => moveStep h s u v W) n W) n W) (rep (fun u r => rep (fun v r => rmove h u v r) n r) n r) := fun _ _ M W r h0 hM hs =>
    sim_rep (f := fun u W => rep (fun v W => moveStep h s u v W) n W) (g := fun u r => rep (fun v r => rmove h u v r) n r) (LIM := 49900000000000) (by omega) h1 n (Nat.le_refl _) M W r h0 (by omega) hs
  have hcu : (n : Int) * (n * (n * 1000000)) ≤ 12 * 144000000 := Int.mul_le_mul hnn hsq hsq0 (by decide)
  have h3 := sim_rep (f := fun _ W => rep (fun u W => rep (fun v W => moveStep h s u v W) n W) n W) (g := fun _ r => rep (fun u r => rep (fun v r => rmove h u v r) n r) n r) (LIM := 49000000000000) hsq0 h2 n (Nat.le_refl _) M W r h0 (by omega) hs
  exact h3.wider (by omega)
/-! What a row is, while hops are tried. -/
def GoodD (r : Nat → Way) : Nat → Nat → Prop
  | 0, v => (r v).frm < 0 ∧ 0 ≤ (r v).cost
  | d + 1, v => ∃ u : Nat, (r v).frm = u ∧ GoodD r d u
structure RInv (h : Ha) (n : Nat) (r0 r : Nat → Way) : Prop where
  base : ∀ v, (r v).frm < 0 → r v = r0 v
  step : ∀ v, 0 ≤ (r v).frm → ∃ u : Nat, u < n ∧ v < n ∧ (r v).frm = u ∧ u ≠ v ∧ 0 ≤ price h u v ∧ 0 ≤ (r u).cost ∧ (r u).cost + price h u v ≤ (r v).cost ∧ (r v).half = 0
  good : ∀ v, 0 ≤ (r v).cost → ∃ d, GoodD r d v
theorem RInv.start {h : Ha} {n : Nat} {r0 : Nat → Way} (h0 : ∀ v, (r0 v).frm < 0) : RInv h n r0 r0 :=
  ⟨fun _ _ => rfl, fun v hv => by have := h0 v; omega, fun v hv => ⟨0, h0 v, hv⟩⟩
theorem good_avoid {h : Ha} {n : Nat} {r0 r : Nat → Way} (hi : RInv h n r0 r) {v : Nat} (x : Way) : ∀ d u, GoodD r d u → ((r v).cost < 0 ∨ (r u).cost < (r v).cost) → GoodD (upd r v x) d u
  | 0, u, hg, hc => by
    obtain ⟨h1, h2⟩ := hg
    have huv : u ≠ v := by rintro rfl; omega
    show (upd r v x u).frm < 0 ∧ 0 ≤ (upd r v x u).cost
    rw [upd_ne huv]
    exact ⟨h1, h2⟩
  | d + 1, u, hg, hc => by
    obtain ⟨w, h1, h2⟩ := hg
    obtain ⟨w', _, _, e, _, hp, hw0, hle, _⟩ := hi.step u (by omega)
    obtain rfl : w' = w := by omega
    have huv : u ≠ v := by rintro rfl; omega
    refine ⟨w', by rw [upd_ne huv]; exact h1, good_avoid hi x d w' h2 ?_⟩
    rcases hc with hc | hc
    · exact .inl hc
    · exact .inr (by omega)
theorem RInv.move {h : Ha} {n : Nat} {r0 r : Nat → Way} (hi : RInv h n r0 r) {u v : Nat} (hu : u < n) (hv : v < n) : RInv h n r0 (rmove h u v r) ∧ Imp r (rmove h u v r) ∧ (u ≠ v → 0 ≤ price h u v → 0 ≤ (r u).cost → 0 ≤ (rmove h u v r v).cost ∧ (rmove h u v r v).cost ≤ (r u).cost + price h u v) := by
  unfold rmove
  split
  · rename_i hc
    obtain ⟨huv, hp, hu0, hb⟩ := hc
    unfold better at hb
    have himp : Imp r (upd r v ⟨(r u).cost + price h u v, 0, u⟩) := fun w hw => by
      by_cases hwv : w = v
      · subst hwv; rw [upd_same]; simp only; omega
      · rw [upd_ne hwv]; omega
    have hgu : ∃ d, GoodD (upd r v ⟨(r u).cost + price h u v, 0, u⟩) d u := by
      obtain ⟨d, hd⟩ := hi.good u hu0
      exact ⟨d, good_avoid hi _ d u hd (by omega)⟩
    have hgv : ∃ d, GoodD (upd r v ⟨(r u).cost + price h u v, 0, u⟩) d v := by
      obtain ⟨d, hd⟩ := hgu
      exact ⟨d + 1, u, by rw [upd_same], hd⟩
    refine ⟨⟨fun w hw => ?_, fun w hw => ?_, fun w hw => ?_⟩, himp, fun _ _ _ => by rw [upd_same]; simp only; omega⟩
    · by_cases hwv : w = v
      · subst hwv; rw [upd_same] at hw; simp only at hw; omega
      · rw [upd_ne hwv] at hw ⊢; exact hi.base w hw
    · by_cases hwv : w = v
      · subst hwv
        refine ⟨u, hu, hv, by rw [upd_same], huv, hp, ?_, ?_, by rw [upd_same]⟩
        · rw [upd_ne huv]; exact hu0
        · rw [upd_ne huv, upd_same]; exact Int.le_refl _
      · rw [upd_ne hwv] at hw ⊢
        obtain ⟨x, hx, hwn, e, hxw, hpx, hx0, hle, hh⟩ := hi.step w hw
        refine ⟨x, hx, hwn, e, hxw, hpx, (himp x hx0).1, ?_, hh⟩
        have := (himp x hx0).2
        omega
    · have hold : ∀ d w, GoodD r d w → ∃ d', GoodD (upd r v ⟨(r u).cost + price h u v, 0, u⟩) d' w := by
        intro d
        induction d with
        | zero =>
          intro w hg
          by_cases hwv : w = v
          · subst hwv; exact hgv
          · exact ⟨0, by show (upd r v _ w).frm < 0 ∧ 0 ≤ (upd r v _ w).cost; rw [upd_ne hwv]; exact hg⟩
        | succ d ih =>
          intro w hg
          by_cases hwv : w = v
          · subst hwv; exact hgv
          · obtain ⟨x, e, hx⟩ := hg
            obtain ⟨d', hd'⟩ := ih x hx
            exact ⟨d' + 1, x, by rw [upd_ne hwv]; exact e, hd'⟩
      by_cases hwv : w = v
      · subst hwv; exact hgv
      · rw [upd_ne hwv] at hw
        obtain ⟨d, hd⟩ := hi.good w hw
        exact hold d w hd
  · rename_i hc
    refine ⟨hi, Imp.refl r, fun h1 h2 h3 => ?_⟩
    have : ¬ better ((r u).cost + price h u v) (r v).cost := fun hb => hc ⟨h1, h2, h3, hb⟩
    unfold better at this
    omega
/-- One round over all hops. -/
theorem RInv.inner {h : Ha} {n : Nat} {r0 r : Nat → Way} (hi : RInv h n r0 r) {u : Nat} (hu : u < n) : ∀ k, k ≤ n → RInv h n r0 (rep (fun v r => rmove h u v r) k r) ∧ Imp r (rep (fun v r => rmove h u v r) k r) ∧ ∀ v, v < k → u ≠ v → 0 ≤ price h u v → 0 ≤ (r u).cost → 0 ≤ (rep (fun v r => rmove h u v r) k r v).cost ∧ (rep (fun v r => rmove h u v r) k r v).cost ≤ (r u).cost + price h u v
  | 0, _ => ⟨hi, Imp.refl r, fun v hv => absurd hv (Nat.not_lt_zero v)⟩
  | k + 1, hk => by
    obtain ⟨h1, h2, h3⟩ := RInv.inner hi hu k (by omega)
    rw [rep_succ]
    obtain ⟨g1, g2, g3⟩ := h1.move hu (v := k) (by omega)
    refine ⟨g1, h2.trans g2, fun v hv huv hp h0 => ?_⟩
    by_cases hvk : v = k
    · subst hvk
      have h4 := h2 u h0
      have h5 := g3 huv hp h4.1
      omega
    · have h4 := h3 v (by omega) huv hp h0
      have h5 := g2 v h4.1
      omega
theorem RInv.round {h : Ha} {n : Nat} {r0 r : Nat → Way} (hi : RInv h n r0 r) : ∀ k, k ≤ n → RInv h n r0 (rep (fun u r => rep (fun v r => rmove h u v r) n r) k r) ∧ Imp r (rep (fun u r => rep (fun v r => rmove h u v r) n r) k r) ∧ ∀ u, u < k → ∀ v, v < n → u ≠ v → 0 ≤ price h u v → 0 ≤ (r u).cost → 0 ≤ (rep (fun u r => rep (fun v r => rmove h u v r) n r) k r v).cost ∧ (rep (fun u r => rep (fun v r => rmove h u v r) n r) k r v).cost ≤ (r u).cost + price h u v
  | 0, _ => ⟨hi, Imp.refl r, fun v hv => absurd hv (Nat.not_lt_zero v)⟩
  | k + 1, hk => by
    obtain ⟨h1, h2, h3⟩ := RInv.round hi k (by omega)
    rw [rep_succ]
    obtain ⟨g1, g2, g3⟩ := h1.inner (u := k) (by omega) n (Nat.le_refl _)
    refine ⟨g1, h2.trans g2, fun u hu v hv huv hp h0 => ?_⟩
    by_cases huk : u = k
    · subst huk
      have h4 := h2 u h0
      have h5 := g3 v hv huv hp h4.1
      omega
    · have h4 := h3 u (by omega) v hv huv hp h0
      have h5 := g2 v h4.1
      omega
/-- A way of k hops from where a row begins. -/
def Path (h : Ha) (n : Nat) (r0 : Nat → Way) : Nat → Nat → Int → Prop
  | 0, v, c => 0 ≤ (r0 v).cost ∧ (r0 v).cost ≤ c
  | k + 1, v, c => ∃ (u : Nat) (c' : Int), u < n ∧ v < n ∧ u ≠ v ∧ 0 ≤ price h u v ∧ Path h n r0 k u c' ∧ c' + price h u v ≤ c
theorem good_path {h : Ha} {n : Nat} {r0 r : Nat → Way} (hi : RInv h n r0 r) : ∀ d v, GoodD r d v → Path h n r0 d v (r v).cost
  | 0, v, hg => by
    have e := hi.base v hg.1
    show 0 ≤ (r0 v).cost ∧ (r0 v).cost ≤ (r v).cost
    rw [← e]
    exact ⟨hg.2, Int.le_refl _⟩
  | d + 1, v, hg => by
    obtain ⟨u, e, hu⟩ := hg
    obtain ⟨u', h1, h2, e', h3, h4, h5, h6, _⟩ := hi.step v (by omega)
    obtain rfl : u' = u := by omega
    exact ⟨u', _, h1, h2, h3, h4, good_path hi d u' hu, h6⟩
theorem rounds {h : Ha} {n : Nat} {r0 : Nat → Way} (h0 : ∀ v, (r0 v).frm < 0) : ∀ k, RInv h n r0 (rep (fun _ r => rep (fun u r => rep (fun v r => rmove h u v r) n r) n r) k r0) ∧ Imp r0 (rep (fun _ r => rep (fun u r => rep (fun v r => rmove h u v r) n r) n r) k r0) ∧ ∀ j, j ≤ k → ∀ v c, Path h n r0 j v c → 0 ≤ (rep (fun _ r => rep (fun u r => rep (fun v r => rmove h u v r) n r) n r) k r0 v).cost ∧ (rep (fun _ r => rep (fun u r => rep (fun v r => rmove h u v r) n r) n r) k r0 v).cost ≤ c
  | 0 => ⟨RInv.start h0, Imp.refl _, fun j hj v c hp => by
    obtain rfl : j = 0 := by omega
    exact hp⟩
  | k + 1 => by
    obtain ⟨h1, h2, h3⟩ := rounds (h := h) (n := n) h0 k
    rw [rep_succ]
    obtain ⟨g1, g2, g3⟩ := h1.round n (Nat.le_refl _)
    refine ⟨g1, h2.trans g2, fun j hj v c hp => ?_⟩
    by_cases hjk : j ≤ k
    · have h4 := h3 j hjk v c hp
      have h5 := g2 v h4.1
      omega
    · obtain rfl : j = k + 1 := by omega
      obtain ⟨u, c', hu, hv, huv, hpr, hpu, hle⟩ := hp
      have h4 := h3 k (Nat.le_refl _) u c' hpu
      have h5 := g3 u hu v hv huv hpr h4.1
      omega
theorem good_unique {r : Nat → Way} : ∀ d e v, GoodD r d v → GoodD r e v → d = e
  | 0, 0, _, _, _ => rfl
  | 0, e + 1, v, h1, h2 => by obtain ⟨u, hu, _⟩ := h2; have := h1.1; omega
  | d + 1, 0, v, h1, h2 => by obtain ⟨u, hu, _⟩ := h1; have := h2.1; omega
  | d + 1, e + 1, v, h1, h2 => by
    obtain ⟨u, hu, gu⟩ := h1
    obtain ⟨w, hw, gw⟩ := h2
    obtain rfl : u = w := by omega
    rw [good_unique d e u gu gw]
theorem good_chain {h : Ha} {n : Nat} {r0 r : Nat → Way} (hi : RInv h n r0 r) : ∀ d v, v < n → GoodD r d v → ∃ L : List Int, L.length = d + 1 ∧ L.Nodup ∧ ∀ x ∈ L, ∃ w e : Nat, x = w ∧ w < n ∧ e ≤ d ∧ GoodD r e w
  | 0, v, hv, hg => ⟨[(v : Int)], rfl, by simp, fun x hx => by
    rw [List.mem_singleton] at hx
    exact ⟨v, 0, hx, hv, Nat.le_refl _, hg⟩⟩
  | d + 1, v, hv, hg => by
    obtain ⟨u, e, hu⟩ := hg
    obtain ⟨u', h1, _, e', _⟩ := hi.step v (by omega)
    obtain rfl : u' = u := by omega
    obtain ⟨L, l1, l2, l3⟩ := good_chain hi d u' h1 hu
    refine ⟨(v : Int) :: L, by simp [l1], List.nodup_cons.2 ⟨fun hm => ?_, l2⟩, fun x hx => ?_⟩
    · obtain ⟨w, e2, hw, _, he2, hgw⟩ := l3 _ hm
      obtain rfl : w = v := by omega
      have := good_unique e2 (d + 1) w hgw ⟨u', e, hu⟩
      omega
    · rcases List.mem_cons.1 hx with hx | hx
      · exact ⟨v, d + 1, hx, hv, Nat.le_refl _, u', e, hu⟩
      · obtain ⟨w, e2, hw, hwn, he2, hgw⟩ := l3 x hx
        exact ⟨w, e2, hw, hwn, by omega, hgw⟩
theorem good_short {h : Ha} {n : Nat} {r0 r : Nat → Way} (hi : RInv h n r0 r) {d v : Nat} (hv : v < n) (hg : GoodD r d v) : d + 1 ≤ n := by
  obtain ⟨L, h1, h2, h3⟩ := good_chain hi d v hv hg
  rw [← h1]
  exact nodup_len n L h2 fun x hx => by
    obtain ⟨w, e, rfl, hw, _⟩ := h3 x hx
    omega
/-- After all rounds, no hop makes anything cheaper. -/
theorem relax_closed {h : Ha} {n : Nat} {r0 : Nat → Way} (h0 : ∀ v, (r0 v).frm < 0) : RInv h n r0 (rrelax h n r0) ∧ Imp r0 (rrelax h n r0) ∧ ∀ u v, u < n → v < n → u ≠ v → 0 ≤ price h u v → 0 ≤ (rrelax h n r0 u).cost → 0 ≤ (rrelax h n r0 v).cost ∧ (rrelax h n r0 v).cost ≤ (rrelax h n r0 u).cost + price h u v := by
  obtain ⟨h1, h2, h3⟩ := rounds (h := h) (n := n) h0 n
  refine ⟨h1, h2, fun u v hu hv huv hp hu0 => ?_⟩
  obtain ⟨d, hd⟩ := h1.good u hu0
  have hs := good_short h1 hu hd
  exact h3 (d + 1) hs v _ ⟨u, _, hu, hv, huv, hp, good_path h1 d u hd, Int.le_refl _⟩
end Su

/- THE TABLE OF THE CHEAPEST WAYS: what each of its rows is. -/
namespace Su
/-! Sets as numbers. -/
theorem and_mod2 (a b : Nat) : (a &&& b) % 2 = (a % 2) * (b % 2) := by
  have h := Nat.testBit_and a b 0
  simp only [Nat.testBit_zero] at h
  have h1 : (a &&& b) % 2 = 0 ∨ (a &&& b) % 2 = 1 := by omega
  have h2 : a % 2 = 0 ∨ a % 2 = 1 := by omega
  have h3 : b % 2 = 0 ∨ b % 2 = 1 := by omega
  rcases h1 with h1 | h1 <;> rcases h2 with h2 | h2 <;> rcases h3 with h3 | h3 <;> simp [h1, h2, h3] at h ⊢
theorem or_mod2 (a b : Nat) : (a ||| b) % 2 = a % 2 + b % 2 - (a % 2) * (b % 2) := by
  have h := Nat.testBit_or a b 0
  simp only [Nat.testBit_zero] at h
  have h1 : (a ||| b) % 2 = 0 ∨ (a ||| b) % 2 = 1 := by omega
  have h2 : a % 2 = 0 ∨ a % 2 = 1 := by omega
  have h3 : b % 2 = 0 ∨ b % 2 = 1 := by omega
  rcases h1 with h1 | h1 <;> rcases h2 with h2 | h2 <;> rcases h3 with h3 | h3 <;> simp [h1, h2, h3] at h ⊢
/-- The parts of a set come one after the other. -/
theorem sub_mask : ∀ (s half x : Nat), half &&& s = half → x &&& s = x → x < half → x ≤ (half - 1) &&& s := by
  intro s
  induction s using Nat.strongRecOn with
  | ind s ih =>
    intro half x h1 h2 h3
    have a1 := Nat.and_div_two (a := half) (b := s)
    have a2 := Nat.and_div_two (a := x) (b := s)
    have m1 := and_mod2 half s
    have m2 := and_mod2 x s
    rw [h1] at a1 m1
    rw [h2] at a2 m2
    have b1 := Nat.and_div_two (a := half - 1) (b := s)
    have c1 := and_mod2 (half - 1) s
    have hs0 : 0 < s := by
      rcases Nat.eq_zero_or_pos s with h | h
      · subst h; rw [Nat.and_zero] at h1; omega
      · exact h
    have p1 : half % 2 = 0 ∨ half % 2 = 1 := by omega
    have p2 : s % 2 = 0 ∨ s % 2 = 1 := by omega
    rcases p1 with p1 | p1
    · have hx' : x / 2 < half / 2 := by omega
      have hi := ih (s / 2) (by omega) (half / 2) (x / 2) a1.symm a2.symm hx'
      rw [show (half - 1) / 2 = half / 2 - 1 by omega] at b1
      rw [show (half - 1) % 2 = 1 by omega] at c1
      rcases p2 with p2 | p2 <;> rw [p2] at c1 m2 <;> omega
    · rw [show (half - 1) / 2 = half / 2 by omega, ← a1] at b1
      omega
theorem or_add : ∀ (a b : Nat), a &&& b = 0 → a ||| b = a + b := by
  intro a
  induction a using Nat.strongRecOn with
  | ind a ih =>
    intro b h
    rcases Nat.eq_zero_or_pos a with h0 | h0
    · subst h0; simp
    · have a1 := Nat.and_div_two (a := a) (b := b)
      have m1 := and_mod2 a b
      rw [h] at a1 m1
      have b1 := Nat.or_div_two (a := a) (b := b)
      have c1 := or_mod2 a b
      have hi := ih (a / 2) (by omega) (b / 2) (by omega)
      rw [hi] at b1
      have p1 : a % 2 = 0 ∨ a % 2 = 1 := by omega
      have p2 : b % 2 = 0 ∨ b % 2 = 1 := by omega
      rcases p1 with p1 | p1 <;> rcases p2 with p2 | p2 <;> rw [p1, p2] at c1 m1 <;> omega
theorem and_add {a b : Nat} (h : a &&& b = 0) : a &&& (a + b) = a := by
  rw [← or_add a b h]
  apply Nat.eq_of_testBit_eq
  intro i
  rw [Nat.testBit_and, Nat.testBit_or]
  cases a.testBit i <;> simp
/-! Joining. -/
def Shape (terms : List Int) (F : Nat → Nat → Way) (s n v : Nat) (e : Way) : Prop :=
  e.frm = -1 ∧ (e.cost < 0 ∨ (e.cost = 0 ∧ e.half = 0 ∧ ∃ k, k < terms.length ∧ s = 2 ^ k ∧ (v : Int) = terms.getD k 0) ∨
    ∃ x : Nat, e.half = x ∧ 0 < x ∧ x < s ∧ x &&& s = x ∧ v < n ∧ 0 ≤ (F x v).cost ∧ 0 ≤ (F (s - x) v).cost ∧ e.cost = (F x v).cost + (F (s - x) v).cost)
theorem join_one {terms : List Int} {W0 W : List Way} {s n half v : Nat} {M : Int} {r : Nat → Way} (hs : Sim W0 s M W r) (hl : s * 12 + 12 ≤ W0.length) (hn : n ≤ 12) (hv : v < n) (h0 : 0 < half) (hh : half < s) (hm : half &&& s = half)
    (ba : (row W0 half v).cost ≤ 10000000000000) (bb : (row W0 (s - half) v).cost ≤ 10000000000000) (bM : (row W0 half v).cost + (row W0 (s - half) v).cost ≤ M) :
    ∃ r', Sim W0 s M (joinStep s half v W) r' ∧ Imp r r' ∧ ((∀ w, Shape terms (row W0) s n w (r w)) → ∀ w, Shape terms (row W0) s n w (r' w)) ∧ (0 ≤ (row W0 half v).cost → 0 ≤ (row W0 (s - half) v).cost → 0 ≤ (r' v).cost ∧ (r' v).cost ≤ (row W0 half v).cost + (row W0 (s - half) v).cost) := by
  have hv12 : v < 12 := by omega
  have e1 : get W (half * 12 + v) = row W0 half v := by rw [← hs.oth half (by omega), row_at hv12]
  have e2 : get W ((s - half) * 12 + v) = row W0 (s - half) v := by rw [← hs.oth (s - half) (by omega), row_at hv12]
  have e3 : get W (s * 12 + v) = r v := by rw [← hs.row, row_at hv12]
  unfold joinStep
  rw [e1, e2, e3]
  by_cases hc : 0 ≤ (row W0 half v).cost ∧ 0 ≤ (row W0 (s - half) v).cost
  · rw [sum64_eq hc.1 hc.2 (by omega) (by omega)]
    split
    · rename_i hc2
      have hb := hc2.2.2
      unfold better at hb
      refine ⟨_, sim_set hs hv12 hl (by simp only; omega) (Int.le_refl _), fun w hw => ?_, fun hsh w => ?_, fun _ _ => ?_⟩
      · by_cases hwv : w = v
        · subst hwv; rw [upd_same]; simp only; omega
        · rw [upd_ne hwv]; omega
      · by_cases hwv : w = v
        · subst hwv
          rw [upd_same]
          exact ⟨rfl, .inr (.inr ⟨half, rfl, h0, hh, hm, hv, hc.1, hc.2, rfl⟩)⟩
        · rw [upd_ne hwv]; exact hsh w
      · rw [upd_same]; simp only; omega
    · rename_i hc2
      have hb : ¬ better ((row W0 half v).cost + (row W0 (s - half) v).cost) (r v).cost := fun hb => hc2 ⟨hc.1, hc.2, hb⟩
      unfold better at hb
      exact ⟨r, hs, Imp.refl r, fun h => h, fun _ _ => by omega⟩
  · rw [if_neg (by intro e; exact hc ⟨e.1, e.2.1⟩)]
    exact ⟨r, hs, Imp.refl r, fun h => h, fun ha hb => absurd ⟨ha, hb⟩ hc⟩
theorem join_all {terms : List Int} {W0 W : List Way} {s n half : Nat} {M : Int} {r : Nat → Way} (hs : Sim W0 s M W r) (hl : s * 12 + 12 ≤ W0.length) (hn : n ≤ 12) (h0 : 0 < half) (hh : half < s) (hm : half &&& s = half)
    (ba : ∀ v, (row W0 half v).cost ≤ 10000000000000) (bb : ∀ v, (row W0 (s - half) v).cost ≤ 10000000000000) (bM : ∀ v, (row W0 half v).cost + (row W0 (s - half) v).cost ≤ M) : ∀ k, k ≤ n →
    ∃ r', Sim W0 s M (rep (joinStep s half) k W) r' ∧ Imp r r' ∧ ((∀ w, Shape terms (row W0) s n w (r w)) → ∀ w, Shape terms (row W0) s n w (r' w)) ∧ ∀ v, v < k → 0 ≤ (row W0 half v).cost → 0 ≤ (row W0 (s - half) v).cost → 0 ≤ (r' v).cost ∧ (r' v).cost ≤ (row W0 half v).cost + (row W0 (s - half) v).cost
  | 0, _ => ⟨r, hs, Imp.refl r, fun h => h, fun v hv => absurd hv (Nat.not_lt_zero v)⟩
  | k + 1, hk => by
    obtain ⟨r1, g1, g2, g3, g4⟩ := join_all (terms := terms) hs hl hn h0 hh hm ba bb bM k (by omega)
    obtain ⟨r2, f1, f2, f3, f4⟩ := join_one (terms := terms) g1 hl hn (v := k) (by omega) h0 hh hm (ba k) (bb k) (bM k)
    rw [rep_succ]
    refine ⟨r2, f1, g2.trans f2, fun h => f3 (g3 h), fun v hv ha hb => ?_⟩
    by_cases hvk : v = k
    · subst hvk; exact f4 ha hb
    · have h1 := g4 v (by omega) ha hb
      have h2 := f2 v h1.1
      omega
theorem half_all {terms : List Int} {W0 : List Way} {s n : Nat} {M : Int} (hl : s * 12 + 12 ≤ W0.length) (hn : n ≤ 12)
    (ba : ∀ x, x < s → ∀ v, (row W0 x v).cost ≤ 10000000000000) (bM : ∀ x, 0 < x → x < s → ∀ v, (row W0 x v).cost + (row W0 (s - x) v).cost ≤ M) : ∀ (f half : Nat) (W : List Way) (r : Nat → Way), half ≤ f → half < s → half &&& s = half → Sim W0 s M W r →
    ∃ r', Sim W0 s M (halfLoop s n f half W) r' ∧ Imp r r' ∧ ((∀ w, Shape terms (row W0) s n w (r w)) → ∀ w, Shape terms (row W0) s n w (r' w)) ∧ ∀ x, 0 < x → x ≤ half → x &&& s = x → ∀ v, v < n → 0 ≤ (row W0 x v).cost → 0 ≤ (row W0 (s - x) v).cost → 0 ≤ (r' v).cost ∧ (r' v).cost ≤ (row W0 x v).cost + (row W0 (s - x) v).cost
  | 0, half, W, r, hf, _, _, hs => ⟨r, hs, Imp.refl r, fun h => h, fun x h0 hx => by omega⟩
  | f + 1, half, W, r, hf, hlt, hm, hs => by
    rcases Nat.eq_zero_or_pos half with h0 | h0
    · subst h0
      rw [halfLoop_end]
      exact ⟨r, hs, Imp.refl r, fun h => h, fun x h0 hx => by omega⟩
    · rw [halfLoop_next h0 hf, Nat.add_sub_cancel]
      obtain ⟨r1, g1, g2, g3, g4⟩ := join_all (terms := terms) hs hl hn h0 hlt hm (ba half hlt) (ba (s - half) (by omega)) (bM half h0 hlt) n (Nat.le_refl _)
      have hle := and_small (half - 1) s
      have hm2 : ((half - 1) &&& s) &&& s = (half - 1) &&& s := by rw [Nat.and_assoc, Nat.and_self]
      obtain ⟨r2, f1, f2, f3, f4⟩ := half_all (terms := terms) hl hn ba bM f ((half - 1) &&& s) _ r1 (by omega) (by omega) hm2 g1
      refine ⟨r2, f1, g2.trans f2, fun h => f3 (g3 h), fun x hx0 hx hxm v hv ha hb => ?_⟩
      by_cases hxh : x = half
      · subst hxh
        have h1 := g4 v hv ha hb
        have h2 := f2 v h1.1
        omega
      · exact f4 x hx0 (sub_mask s half x hm hxm (by omega)) hxm v hv ha hb
/-! The beginning of a row. -/
theorem init_all {W0 : List Way} {s : Nat} (hl : s * 12 + 12 ≤ W0.length) (hb : ∀ v, (row W0 s v).cost ≤ 0) : ∀ k, k ≤ 12 → ∃ r, Sim W0 s 0 (rep (initStep s) k W0) r ∧ (∀ v, v < k → r v = ⟨-1, 0, -1⟩) ∧ ∀ v, 12 ≤ v → r v = ⟨-1, 0, -1⟩
  | 0, _ => ⟨row W0 s, ⟨rfl, hb, fun _ _ => rfl, rfl⟩, fun v hv => absurd hv (Nat.not_lt_zero v), fun v hv => if_neg (by omega)⟩
  | k + 1, hk => by
    obtain ⟨r, g1, g2, g3⟩ := init_all hl hb k (by omega)
    refine ⟨_, sim_set g1 (v := k) (x := ⟨-1, 0, -1⟩) (M' := 0) (by omega) hl (by simp) (Int.le_refl _), fun v hv => ?_, fun v hv => ?_⟩
    · by_cases hvk : v = k
      · subst hvk; rw [upd_same]
      · rw [upd_ne hvk]; exact g2 v (by omega)
    · rw [upd_ne (by omega)]; exact g3 v hv
theorem one_all {terms : List Int} {W0 W : List Way} {s : Nat} (ht : ∀ x ∈ terms, 0 ≤ x ∧ x < 12) (hl : s * 12 + 12 ≤ W0.length) {r : Nat → Way} (hs : Sim W0 s 0 W r) (hr : ∀ v, r v = ⟨-1, 0, -1⟩) : ∀ k, k ≤ terms.length → ∃ r', Sim W0 s 0 (rep (oneStep terms s) k W) r' ∧ (∀ v, r' v = ⟨-1, 0, -1⟩ ∨ (r' v = ⟨0, 0, -1⟩ ∧ ∃ j, j < k ∧ s = 2 ^ j ∧ (v : Int) = terms.getD j 0)) ∧ ∀ j, j < k → s = 2 ^ j → r' (terms.getD j 0).toNat = ⟨0, 0, -1⟩
  | 0, _ => ⟨r, hs, fun v => .inl (hr v), fun j hj => absurd hj (Nat.not_lt_zero j)⟩
  | k + 1, hk => by
    obtain ⟨r1, g1, g2, g3⟩ := one_all ht hl hs hr k (by omega)
    rw [rep_succ]
    by_cases hp : s = 2 ^ k
    · have hm : terms.getD k 0 ∈ terms := by rw [List.getD_eq_getElem?_getD, List.getElem?_eq_getElem (by omega)]; exact List.getElem_mem _
      have hb := ht _ hm
      have h12 : (terms.getD k 0).toNat < 12 := by omega
      have e : get (rep (oneStep terms s) k W) (s * 12 + (terms.getD k 0).toNat) = r1 (terms.getD k 0).toNat := by rw [← g1.row, row_at h12]
      rw [oneStep_yes hp, e]
      have hx : (⟨0, (r1 (terms.getD k 0).toNat).half, (r1 (terms.getD k 0).toNat).frm⟩ : Way) = ⟨0, 0, -1⟩ := by
        rcases g2 (terms.getD k 0).toNat with h | ⟨h, _⟩ <;> rw [h]
      rw [hx]
      refine ⟨_, sim_set g1 h12 hl (x := ⟨0, 0, -1⟩) (M' := 0) (by simp) (Int.le_refl _), fun v => ?_, fun j hj hsj => ?_⟩
      · by_cases hvk : v = (terms.getD k 0).toNat
        · rw [hvk, upd_same]
          exact .inr ⟨rfl, k, by omega, hp, by omega⟩
        · rw [upd_ne hvk]
          rcases g2 v with h | ⟨h, j, h1, h2, h3⟩
          · exact .inl h
          · exact .inr ⟨h, j, by omega, h2, h3⟩
      · by_cases hjk : (terms.getD j 0).toNat = (terms.getD k 0).toNat
        · rw [hjk, upd_same]
        · rw [upd_ne hjk]
          exact g3 j (by
            rcases Nat.lt_or_ge j k with h | h
            · exact h
            · obtain rfl : j = k := by omega
              exact absurd rfl hjk) hsj
    · rw [oneStep_no hp]
      refine ⟨r1, g1, fun v => ?_, fun j hj hsj => ?_⟩
      · rcases g2 v with h | ⟨h, j, h1, h2, h3⟩
        · exact .inl h
        · exact .inr ⟨h, j, by omega, h2, h3⟩
      · exact g3 j (by
          rcases Nat.lt_or_ge j k with h | h
          · exact h
          · obtain rfl : j = k := by omega
            exact absurd hsj hp) hsj
/-- What a row of the table is. -/
structure RowOk (h : Ha) (n : Nat) (F : Nat → Nat → Way) (s : Nat) : Prop where
  bd : ∀ v, (F s v).cost ≤ (2 * (s : Int) - 1) * 2000000000
  inv : ∃ r0, RInv h n r0 (F s) ∧ ∀ v, Shape (senders h) F s n v (r0 v)
  one : ∀ k, k < (senders h).length → s = 2 ^ k → 0 ≤ (F s ((senders h).getD k 0).toNat).cost ∧ (F s ((senders h).getD k 0).toNat).cost ≤ 0
  join : ∀ x, 0 < x → x < s → x &&& s = x → ∀ v, v < n → 0 ≤ (F x v).cost → 0 ≤ (F (s - x) v).cost → 0 ≤ (F s v).cost ∧ (F s v).cost ≤ (F x v).cost + (F (s - x) v).cost
  move : ∀ u v, u < n → v < n → u ≠ v → 0 ≤ price h u v → 0 ≤ (F s u).cost → 0 ≤ (F s v).cost ∧ (F s v).cost ≤ (F s u).cost + price h u v
theorem Shape.congr {terms : List Int} {F G : Nat → Nat → Way} {s n v : Nat} {e : Way} (h : Shape terms F s n v e) (hFG : ∀ x, x < s → F x = G x) : Shape terms G s n v e := by
  obtain ⟨h1, h2 | h2 | ⟨x, a1, a2, a3, a4, a5, a6, a7, a8⟩⟩ := h
  · exact ⟨h1, .inl h2⟩
  · exact ⟨h1, .inr (.inl h2)⟩
  · rw [hFG x a3] at a6 a8
    rw [hFG (s - x) (by omega)] at a7 a8
    exact ⟨h1, .inr (.inr ⟨x, a1, a2, a3, a4, a5, a6, a7, a8⟩)⟩
theorem RowOk.congr {h : Ha} {n : Nat} {F G : Nat → Nat → Way} {s : Nat} (k : RowOk h n F s) (hFG : ∀ x, x ≤ s → F x = G x) : RowOk h n G s := by
  have e := hFG s (Nat.le_refl _)
  refine ⟨fun v => by rw [← e]; exact k.bd v, ?_, fun j hj hs => by rw [← e]; exact k.one j hj hs, fun x h0 hx hm v hv ha hb => ?_, fun u v hu hv huv hp h0 => ?_⟩
  · obtain ⟨r0, h1, h2⟩ := k.inv
    exact ⟨r0, by rw [← e]; exact h1, fun v => (h2 v).congr fun x hx => hFG x (by omega)⟩
  · rw [← hFG x (by omega)] at ha ⊢
    rw [← hFG (s - x) (by omega)] at hb ⊢
    rw [← e]
    exact k.join x h0 hx hm v hv ha hb
  · rw [← e] at h0 ⊢
    exact k.move u v hu hv huv hp h0
theorem fill_row {h : Ha} (k : Ok h) {n : Nat} (hn : h.pr.length = n) {s : Nat} (hs0 : 0 < s) (hs : s ≤ 256) {W : List Way} (hl : s * 12 + 12 ≤ W.length) (hz : ∀ v, (row W s v).cost ≤ 0) (hr : ∀ x, 0 < x → x < s → RowOk h n (row W) x) (h0 : ∀ v, (row W 0 v).cost ≤ 0) :
    RowOk h n (row (fill h (senders h) n s W)) s ∧ ∀ s', s' ≠ s → row (fill h (senders h) n s W) s' = row W s' := by
  have hn12 : n ≤ 12 := by have := k.few; omega
  have ht : ∀ x ∈ senders h, 0 ≤ x ∧ x < 12 := fun x hx => by
    have := k.src x ((senders_mem h x).1 hx).2
    have := k.few
    omega
  rw [fill_pos (by omega)]
  obtain ⟨ra, a1, a2, a3⟩ := init_all hl hz 12 (Nat.le_refl _)
  have ha : ∀ v, ra v = ⟨-1, 0, -1⟩ := fun v => by
    rcases Nat.lt_or_ge v 12 with h1 | h1
    · exact a2 v h1
    · exact a3 v h1
  obtain ⟨rb, b1, b2, b3⟩ := one_all ht hl a1 ha (senders h).length (Nat.le_refl _)
  have hM : (0 : Int) ≤ (2 * (s : Int) - 2) * 2000000000 := by omega
  have hbd : ∀ x, x < s → ∀ v, (row W x v).cost ≤ 10000000000000 := fun x hx v => by
    rcases Nat.eq_zero_or_pos x with h1 | h1
    · subst h1; have := h0 v; omega
    · have := (hr x h1 hx).bd v; omega
  have hbM : ∀ x, 0 < x → x < s → ∀ v, (row W x v).cost + (row W (s - x) v).cost ≤ (2 * (s : Int) - 2) * 2000000000 := fun x hx0 hx v => by
    have h1 := (hr x hx0 hx).bd v
    have h2 := (hr (s - x) (by omega) (by omega)).bd v
    omega
  have hm2 : ((s - 1) &&& s) &&& s = (s - 1) &&& s := by rw [Nat.and_assoc, Nat.and_self]
  have hle := and_small (s - 1) s
  obtain ⟨rc, c1, c2, c3, c4⟩ := half_all (terms := senders h) hl hn12 hbd hbM s ((s - 1) &&& s) _ rb (by omega) (by omega) hm2 (b1.wider hM)
  have hsh : ∀ w, Shape (senders h) (row W) s n w (rc w) := c3 fun w => by
    rcases b2 w with e | ⟨e, j, h1, h2, h3⟩ <;> rw [e]
    · exact ⟨rfl, .inl (by simp)⟩
    · exact ⟨rfl, .inr (.inl ⟨rfl, rfl, j, h1, h2, h3⟩)⟩
  have hfr : ∀ v, (rc v).frm < 0 := fun v => by have := (hsh v).1; omega
  have hrel := sim_relax k hn hl _ _ rc hM (by omega) c1
  obtain ⟨d1, d2, d3⟩ := relax_closed (h := h) (n := n) hfr
  refine ⟨?_, hrel.oth⟩
  have eo : ∀ x, x < s → row W x = row (relax h s n (halfLoop s n s ((s - 1) &&& s) (rep (oneStep (senders h) s) (senders h).length (rep (initStep s) 12 W)))) x := fun x hx => (hrel.oth x (by omega)).symm
  have es := hrel.row
  refine ⟨fun v => ?_, ⟨rc, by rw [es]; exact d1, fun v => (hsh v).congr eo⟩, fun j hj hsj => ?_, fun x hx0 hx hxm v hv ha hb => ?_, fun u v hu hv huv hp hu0 => ?_⟩
  · rw [es]
    have := hrel.bd v
    omega
  · have h1 := b3 j hj hsj
    have h2 := c2 ((senders h).getD j 0).toNat (by rw [h1]; simp)
    rw [h1] at h2
    have h3 := d2 _ h2.1
    rw [es]
    simp only at h2
    omega
  · rw [← eo x hx] at ha ⊢
    rw [← eo (s - x) (by omega)] at hb ⊢
    rw [es]
    have h1 := c4 x hx0 (by
      rcases Nat.lt_or_ge x ((s - 1) &&& s + 1) with h | h
      · have := sub_mask s s x (Nat.and_self s) hxm hx; exact this
      · exact sub_mask s s x (Nat.and_self s) hxm hx) hxm v hv ha hb
    have h2 := d2 v h1.1
    omega
  · rw [es] at hu0 ⊢
    exact d3 u v hu hv huv hp hu0
/-- The whole table. -/
theorem table_to {h : Ha} (k : Ok h) {n : Nat} (hn : h.pr.length = n) : ∀ j, j ≤ 2 ^ (senders h).length → (∀ s, 0 < s → s < j → RowOk h n (row (waysTo h j)) s) ∧ (∀ s, j ≤ s → ∀ v, (row (waysTo h j) s v).cost ≤ 0) ∧ ∀ v, (row (waysTo h j) 0 v).cost ≤ 0
  | 0, _ => by
    have hz : ∀ s v, (row (waysTo h 0) s v).cost ≤ 0 := fun s v => by
      unfold row
      split
      · rw [waysTo_zero]
        unfold get zeros
        rw [List.getD_eq_getElem?_getD, List.getElem?_replicate]
        split <;> simp
      · simp
    exact ⟨fun s _ hs => absurd hs (Nat.not_lt_zero s), fun s _ v => hz s v, fun v => hz 0 v⟩
  | j + 1, hj => by
    obtain ⟨h1, h2, h3⟩ := table_to k hn j (by omega)
    have h256 : 2 ^ (senders h).length ≤ 256 := Nat.pow_le_pow_right (by decide) k.send
    have hlen := waysTo_len h j
    rw [waysTo_succ, hn]
    rcases Nat.eq_zero_or_pos j with h0 | h0
    · subst h0
      rw [fill_zero]
      obtain ⟨ra, a1, a2, a3⟩ := init_all (W0 := waysTo h 0) (s := 0) (by rw [hlen]; omega) h3 12 (Nat.le_refl _)
      refine ⟨fun s hs0 hs => by omega, fun s hs v => ?_, fun v => ?_⟩
      · rw [a1.oth s (by omega)]; exact h2 s (by omega) v
      · rw [a1.row]; exact a1.bd v
    · obtain ⟨f1, f2⟩ := fill_row k hn h0 (by omega) (W := waysTo h j) (by rw [hlen]; omega) (h2 j (Nat.le_refl _)) h1 h3
      refine ⟨fun s hs0 hs => ?_, fun s hs v => ?_, fun v => ?_⟩
      · by_cases hsj : s = j
        · subst hsj; exact f1
        · exact (h1 s hs0 (by omega)).congr fun x hx => (f2 x (by omega)).symm
      · rw [f2 s (by omega)]; exact h2 s (by omega) v
      · rw [f2 0 (by omega)]; exact h3 v
theorem table_ok {h : Ha} (k : Ok h) {n : Nat} (hn : h.pr.length = n) {s : Nat} (h0 : 0 < s) (hs : s < 2 ^ (senders h).length) : RowOk h n (row (ways h)) s := (table_to k hn _ (Nat.le_refl _)).1 s h0 hs
end Su

/- THE WALK over ways of package sums. -/
namespace Go.Proofs.YtenafgphaceidaaDoor
open Go.RowKit
theorem Owns.lower {w w0 w' : World} {L : List LRow} (h : Owns w0 w' L) (hx : Ext w w0) : Owns w w' L where
  ext := hx.trans h.ext
  ok i r hr := by
    obtain ⟨h1, h2⟩ := h.ok i r hr
    refine ⟨h1, ?_⟩
    rcases h2 with h2 | ⟨g, cap, cur, a, b, rest⟩
    · exact .inl h2
    · exact .inr ⟨g, cap, cur, a, Nat.le_trans hx.size b, rest⟩
  far := h.far
theorem wrap_pow8 {k P : Nat} (h : 2 ^ k = P) (hk : k ≤ 8) : wrap64 (2 ^ k) = (P : Int) ∧ P ≤ 256 := by
  have h1 : ((2 : Int) ^ k) = ((2 ^ k : Nat) : Int) := by simp
  have h2 : P ≤ 256 := by rw [← h]; exact Nat.pow_le_pow_right (by decide) hk
  rw [h1, h]
  clear h1 h
  unfold wrap64
  omega
set_option maxHeartbeats 8000000 in
set_option maxRecDepth 100000 in
theorem uWays_any (h : Su.Ha) (v : Value) (w : World) (hv : RH w v h) (hk : Su.Ok h) :
    Calls Tryd.prog 34 #[v] w fun e w' => ∃ g N, e = .returned (.slice (some ⟨g, 0, none⟩) N N) ∧ N = 2 ^ (Su.senders h).length ∧ Owns w w' [wrow g N (Su.ways h)] := by
  have hvv := hv
  obtain ⟨A, B, c, d, rfl, hG, hS, hl1, hl2, hb1, hb2⟩ := hv.open
  have hx0 := (Ext.refl w).alloc (.cells #[.slice A h.pr.length c, .slice B h.src.length d, .int .i64 h.tgt] 25)
  have HX0 := Lib.hid hx0
  have HG := Lib.hid (Rs.ext (Rs.ext RI.ext) _ _ _ _ hx0 hG)
  have HV := Lib.hid (RH.ext _ _ _ _ hx0 hvv)
  clear hv hvv hG hS hx0
  obtain ⟨n, hn⟩ : ∃ n, h.pr.length = n := ⟨_, rfl⟩
  rw [hn] at HX0 HG HV hl1 ⊢
  have hn12 := hk.few
  rw [hn] at hn12
  have hterm : ∀ a ∈ Su.senders h, 0 ≤ a ∧ a < (n : Int) := fun a ha => by
    rw [← hn]; exact hk.src a ((Su.senders_mem h a).1 ha).2
  have HK := Lib.hid (And.intro hk (And.intro hn hterm))
  have h8 := hk.send
  clear hk hterm
  obtain ⟨m, hm⟩ : ∃ m, (Su.senders h).length = m := ⟨_, rfl⟩
  rw [hm] at h8
  obtain ⟨N, hN⟩ : ∃ N, 2 ^ m = N := ⟨_, rfl⟩
  have hN256 : N ≤ 256 := by rw [← hN]; exact Nat.pow_le_pow_right (by omega) h8
  have hN0 : 0 < N := by rw [← hN]; exact Nat.two_pow_pos m
  have hwN : wrap64 (2 ^ m) = (N : Int) := by
    rw [← hN]
    have h1 : ((2 : Int) ^ m) = ((2 ^ m : Nat) : Int) := by simp
    rw [h1, hN]
    unfold wrap64
    omega
  have HM := Lib.hid (And.intro hm (And.intro hN (fun k => show (Su.waysTo h k).length = N * 12 by rw [Su.waysTo_len, hm, hN])))
  obtain ⟨i0, hi, hz0, hz1, hz2⟩ := info_parts info_ways
  have HZ := Lib.hid hz2
  clear hz2 hm hN
  go_enter Tryd.func34, Tryd.ntmps34
  go_wp2_with fail
  refine (uSenders_any h _ _ HV.out (fun k hk => Nat.le_trans (Su.send_few HK.out.1.src k hk) (by rw [HK.out.2.1]; exact hn12))).mono ?_
  rintro e w1 ⟨A9, n9, c9, rfl, hr9, hx9⟩
  obtain rfl : n9 = m := by rw [hr9.len]; exact HM.out.1
  have HR9 := Lib.hid hr9
  have hb9 := hbox hx9
  have HX1 := Lib.hid hx9
  obtain ⟨d0, d1, d2⟩ := hb9
  clear hr9 hx9
  go_wp2_with (refine wpList_make_full _ rfl (.tmp 25) (.tmp 25) 74 rfl w1.heap.size 78 i0 wzero 36 Tryd.underlying74 hi hz0 hz1 _ _ _ _ N rfl rfl hwN hwN (by rw [HZ.out]; omega) (by unfold maxLen; omega) (Nat.le_refl _) ?_; intro w2 hown hgrow)
  have hO0 : Owns w1 w2 [wrow w1.heap.size N (Su.waysTo h 0)] := by
    refine Owns.single ((Ext.refl w1).grown hgrow (fun k h => by cases h)) ?_
    rw [made_zero] at hown
    rw [Su.waysTo_zero, HM.out.1, HM.out.2.1]
    unfold LRow.ok wrow
    rw [wcells_zeros]
    exact hown
  have HO0 := Lib.hid hO0
  obtain ⟨g, hg⟩ : ∃ g, w1.heap.size = g := ⟨_, rfl⟩
  rw [hg] at HO0 ⊢
  clear hown hgrow hO0 d0 d1 d2 hg hwN
  go_loopw [29] (fun vi wr => ∃ s : Nat, s ≤ N ∧ vi = .int .i64 s ∧ Hid (Owns w1 wr [wrow g N (Su.waysTo h s)])) (fun vi _ => N - (intOf vi).toNat)
  case atStart => exact ⟨0, Nat.zero_le _, rfl, HO0⟩
  case round =>
    obtain ⟨s, hs, rfl, HS⟩ := hrel
    by_cases hlt : s < N
    case neg =>
      obtain rfl : s = N := by omega
      go_wp2_with fail
      go_ret
      refine ⟨g, s, rfl, by rw [HM.out.1, HM.out.2.1], ?_⟩
      rw [Su.ways_def, HM.out.1, HM.out.2.1]
      exact HS.out.lower (HX0.out.trans HX1.out)
    case pos =>
      obtain ⟨X0, hX0⟩ : ∃ X, Su.waysTo h s = X := ⟨_, rfl⟩
      have hX0l : X0.length = N * 12 := by rw [← hX0]; exact HM.out.2.2 s
      have hnext : Su.waysTo h (s + 1) = Su.fill h (Su.senders h) n s X0 := by rw [Su.waysTo_succ, hX0, HK.out.2.1]
      rw [hX0] at HS
      have HNX := Lib.hid hnext
      clear hX0 hnext
      obtain ⟨wo, hwo⟩ : ∃ wo, wo = wr := ⟨_, rfl⟩
      rw [← hwo] at HS ⊢
      clear hwo
      go_wp2_with fail
      go_loopw [35] (fun vi wr => ∃ k : Nat, k ≤ 12 ∧ vi = .int .i64 k ∧ Hid (Owns w1 wr [wrow g N (Su.rep (Su.initStep s) k X0)])) (fun vi _ => 12 - (intOf vi).toNat)
      case atStart => exact ⟨0, Nat.zero_le _, rfl, Lib.hid HS.out⟩
      case round =>
        obtain ⟨k, hk, rfl, HI⟩ := hrel
        by_cases hlt2 : k < 12
        · have hat := ways_at HI.out (by rw [Su.rep_len (Su.initStep_len s)]; exact hX0l) hlt hlt2
          obtain ⟨k0, k1, k2, j0, j1, j2⟩ := hat
          go_wp2_with fail
          clear k0 k1 k2 j0 j1 j2
          go_roundw
          case rel => exact ⟨k + 1, by omega, by go_num, Lib.hid (ways_put HI.out s k (-1) 0 (-1))⟩
          case measure => simp [intOf]; omega
        · obtain rfl : k = 12 := by omega
          obtain ⟨X1, hX1⟩ : ∃ X, Su.rep (Su.initStep s) 12 X0 = X := ⟨_, rfl⟩
          have hX1l : X1.length = N * 12 := by rw [← hX1, Su.rep_len (Su.initStep_len s)]; exact hX0l
          rw [hX1] at HI
          by_cases hs0 : s = 0
          · subst hs0
            have hnx : Su.waysTo h (0 + 1) = X1 := by rw [HNX.out, Su.fill_zero, hX1]
            have HNX2 := Lib.hid hnx
            clear hX1 hnx
            go_wp2_with fail
            go_roundw
            case rel => exact ⟨0 + 1, by omega, by go_num, Lib.hid (by rw [HNX2.out]; exact HI.out)⟩
            case measure => simp [intOf]; omega
          · have hnx : Su.waysTo h (s + 1) = Su.relax h s n (Su.halfLoop s n s ((s - 1) &&& s) (Su.rep (Su.oneStep (Su.senders h) s) n9 X1)) := by rw [HNX.out, Su.fill_pos hs0, hX1, HM.out.1]
            have HNX2 := Lib.hid hnx
            have e0 : ((s : Int) == 0) = false := by rw [beq_eq_false_iff_ne]; omega
            clear hX1 hnx
            go_wp2_with fail
            go_loopw [48] (fun vi wr => ∃ k : Nat, k ≤ n9 ∧ vi = .int .i64 k ∧ Hid (Owns w1 wr [wrow g N (Su.rep (Su.oneStep (Su.senders h) s) k X1)])) (fun vi _ => n9 - (intOf vi).toNat)
            case atStart => exact ⟨0, Nat.zero_le _, rfl, Lib.hid HI.out⟩
            case round =>
              obtain ⟨k, hk, rfl, HJ⟩ := hrel
              by_cases hlt3 : k < n9
              · have hll : k < (Su.senders h).length := by rw [HM.out.1]; exact hlt3
                obtain ⟨ad, u, rfl, hcell, hu⟩ := HR9.out.at hll
                obtain ⟨rfl, hlo, hhi⟩ := hu
                have hgd := getD_get (x := (0 : Int)) hll
                have htm := HK.out.2.2 _ (List.getElem_mem hll)
                obtain ⟨y, hy⟩ : ∃ y, (Su.senders h)[k] = y := ⟨_, rfl⟩
                rw [hy] at hcell hgd htm hlo hhi
                obtain ⟨b, rfl⟩ : ∃ b : Nat, y = b := ⟨y.toNat, by omega⟩
                have hb : b < 12 := by omega
                have hcell2 := HJ.out.ext.cell hcell
                obtain ⟨Xk, hXk⟩ : ∃ X, Su.rep (Su.oneStep (Su.senders h) s) k X1 = X := ⟨_, rfl⟩
                have hXkl : Xk.length = N * 12 := by rw [← hXk, Su.rep_len (Su.oneStep_len _ s)]; exact hX1l
                rw [hXk] at HJ
                have hstep : Su.rep (Su.oneStep (Su.senders h) s) (k + 1) X1 = Su.oneStep (Su.senders h) s k Xk := by rw [Su.rep_succ, hXk]
                obtain ⟨Pk, hPk⟩ : ∃ P, 2 ^ k = P := ⟨_, rfl⟩
                have hk8 : k ≤ 8 := Nat.le_trans (Nat.le_of_lt hlt3) h8
                obtain ⟨hwk, hPk256⟩ := wrap_pow8 hPk hk8
                have hy2 := @Su.oneStep_yes (Su.senders h) s k Xk
                have hn2 := @Su.oneStep_no (Su.senders h) s k Xk
                rw [hPk, hgd, Int.toNat_natCast] at hy2
                rw [hPk] at hn2
                rw [← hstep] at hy2 hn2
                have HY2 := Lib.hid hy2
                have HN2 := Lib.hid hn2
                clear hy2 hn2 hPk hgd hstep hXk hk8 hcell hlo hhi htm
                by_cases hsp : s = Pk
                · have e1 : ((s : Int) == (Pk : Int)) = true := by rw [hsp]; simp
                  have HST := Lib.hid (HY2.out hsp)
                  have hat := ways_at HJ.out hXkl hlt hb
                  obtain ⟨k0, k1, k2, j0, j1, j2⟩ := hat
                  have e2 : ¬ (12 : Int) ≤ (b : Int) := by omega
                  clear hsp k1 k2 j1 j2
                  go_wp2_with fail
                  clear k0 j0 hcell2
                  go_roundw
                  case rel => exact ⟨k + 1, by omega, by go_num, Lib.hid (by rw [HST.out]; exact ways_put1 HJ.out s b 0)⟩
                  case measure => simp [intOf]; omega
                · have e1 : ((s : Int) == (Pk : Int)) = false := by rw [beq_eq_false_iff_ne]; omega
                  have HST := Lib.hid (HN2.out hsp)
                  clear hsp
                  go_wp2_with fail
                  clear hcell2
                  go_roundw
                  case rel => exact ⟨k + 1, by omega, by go_num, Lib.hid (by rw [HST.out]; exact HJ.out)⟩
                  case measure => simp [intOf]; omega
              · obtain rfl : k = n9 := by omega
                obtain ⟨X2, hX2⟩ : ∃ X, Su.rep (Su.oneStep (Su.senders h) s) k X1 = X := ⟨_, rfl⟩
                have hX2l : X2.length = N * 12 := by rw [← hX2, Su.rep_len (Su.oneStep_len _ s)]; exact hX1l
                rw [hX2] at HJ HNX2
                clear hX2
                have hs256 : s ≤ 256 := Nat.le_trans (Nat.le_of_lt hlt) hN256
                have hspos : 0 < s := Nat.pos_of_ne_zero hs0
                have hand := and_half (s := s) (x := s) hs256 hspos (Nat.le_refl _)
                have hhl := Su.and_small (s - 1) s
                obtain ⟨h0, hh0⟩ : ∃ x, (s - 1) &&& s = x := ⟨_, rfl⟩
                rw [hh0] at hand hhl HNX2
                obtain ⟨X3, hX3⟩ : ∃ X, Su.halfLoop s n s h0 X2 = X := ⟨_, rfl⟩
                have hX3l : X3.length = N * 12 := by rw [← hX3, Su.halfLoop_len]; exact hX2l
                rw [hX3] at HNX2
                have HX3 := Lib.hid hX3
                clear hh0 hX3
                have hhs : h0 < s := by omega
                have hhf : h0 ≤ s := by omega
                go_wp2_with fail
                refine half_loop w1 wr g N n s h0 s hN256 hn12 hlt hhs hhf X2 X3 hX2l HX3 HJ _ _ _ _ _ _ _ _ _ _ _ _ _ _ _ _ _ _ _ _ _ _ _ _ _ _ _ _ _ _ _ _ _ _ _ _ _ _ _ _ _ _ _ _ _ _ _ _ _ _ _ _ _ _ _ _ _ _ _ _ _ _ _ _ _ _ _ _ _ _ _ _ _ _ _ _ _ _ _ _ _ _ _ _ _ _ _ _ _ _ _ _ _ _ _ _ _ _ _ _ _ _ _ _ _ _ _ _ _ _ _ _ _ _ _ _ _ _ _ _ _ _ _ _ _ _ _ _ _ _ _ _ _ _ _ _ _ _ _ _ _ _ _ _ _ _ _ _ _ _ _ _ _ _ _ _ _ _ _ _ _ _ _ _ _ _ _ _ _ _ _ _ _ _ _ _ _ _ _ _ _ _ _ _ _ _ _ _ _ _ _ _ _ _ _ _ _ _ _ _ _ _ _ _ _ _ _ ?_
                intro u11 u12 u13 u14 u67 u68 u69 u70 u71 u72 u73 u74 u75 u76 u77 u78 u79 u80 u81 u82 u83 u84 u85 u86 u87 u88 u89 u90 u91 u92 u93 u94 u95 u96 u97 u98 u99 u100 u101 u102 u103 u104 u105 u106 u107 u108 u109 u110 u111 u112 u113 u114 u115 u116 u117 u118 u119 u120 u121 u122 u123 u124 u125 u126 u127 u128 u129 w3 hx3
                have HO3 := Lib.hid hx3
                clear hx3
                go_wp2_with fail
                have hdd := (hbox HX1.out).d0
                refine i_loop w1 w3 h A w.heap.size g N n s c hn12 hl1 hlt hdd (Lib.hid (Rs.ext (Rs.ext RI.ext) _ _ _ _ HX1.out HG.out)) (Lib.hid ⟨HK.out.1, HK.out.2.1⟩) X3 hX3l HO3 _ _ _ _ _ _ _ _ _ _ _ _ _ _ _ _ _ _ _ _ _ _ _ _ _ _ _ _ _ _ _ _ _ _ _ _ _ _ _ _ _ _ _ _ _ _ _ _ _ _ _ _ _ _ _ _ _ _ _ _ _ _ _ _ _ _ _ _ _ _ _ _ _ _ _ _ _ _ _ _ _ _ _ _ _ _ _ _ _ _ _ _ _ _ _ _ _ _ _ _ _ _ _ _ _ _ _ _ _ _ _ _ _ _ _ _ _ _ _ _ _ _ _ _ _ _ _ _ _ _ _ _ _ _ _ _ _ _ _ _ _ _ _ _ _ _ _ _ _ _ _ _ _ _ _ _ _ _ _ _ _ _ _ _ _ _ _ _ _ _ _ _ _ _ _ _ _ _ _ _ _ _ _ _ _ _ _ _ _ _ _ _ _ _ _ _ _ _ _ _ _ _ _ _ _ _ _ ?_
                intro u15 u16 u17 u131 u132 u133 u134 u135 u136 u137 u138 u139 u140 u141 u142 u143 u144 u145 u146 u147 u148 u149 u150 u151 u152 u153 u154 u155 u156 u157 u158 u159 u160 u161 u162 u163 u164 u165 u166 u167 u168 u169 u170 u171 u172 u173 u174 u175 u176 u177 u178 u179 u180 u181 u182 u183 u184 u185 u186 u187 u188 u189 u190 u191 u192 u193 u194 u195 u196 u197 u198 u199 u200 u201 u202 u203 u204 u205 u206 u207 w4 hx4
                have HO4 := Lib.hid hx4
                clear hx4 hdd
                go_wp2_with fail
                go_roundw
                case rel => exact ⟨s + 1, by omega, by go_num, Lib.hid (by rw [HNX2.out]; exact HO4.out)⟩
                case measure => simp [intOf]; omega
end Go.Proofs.YtenafgphaceidaaDoor

/- THE WALK over Least of package sums. -/
namespace Su
/-- The way of all pieces to a house. -/
def last (h : Ha) (v : Int) : Way := get (ways h) ((2 ^ (senders h).length - 1) * 12 + v.toNat)
/-- What Least returns. -/
def least (h : Ha) : Int × Int :=
  if check h ≠ 0 then (0, check h) else if senders h = [] then (0, 0) else if (last h h.tgt).cost < 0 then (0, 8) else ((last h h.tgt).cost, 0)
theorem least_err {h : Ha} (hc : check h ≠ 0) : least h = (0, check h) := if_pos hc
theorem least_none {h : Ha} (hc : check h = 0) (hs : senders h = []) : least h = (0, 0) := by rw [least, if_neg (by simp [hc]), if_pos hs]
theorem least_no {h : Ha} (hc : check h = 0) (hs : senders h ≠ []) (hl : (last h h.tgt).cost < 0) : least h = (0, 8) := by rw [least, if_neg (by simp [hc]), if_neg hs, if_pos hl]
theorem least_yes {h : Ha} (hc : check h = 0) (hs : senders h ≠ []) (hl : ¬ (last h h.tgt).cost < 0) : least h = ((last h h.tgt).cost, 0) := by rw [least, if_neg (by simp [hc]), if_neg hs, if_neg hl]
end Su
namespace Go.Proofs.YtenafgphaceidaaDoor
open Go.RowKit
set_option maxHeartbeats 4000000 in
set_option maxRecDepth 100000 in
theorem uLeast_any (h : Su.Ha) (v : Value) (w : World) (hv : RH w v h) :
    Calls Tryd.prog 15 #[v] w fun e w' => e = .returned (.tuple #[.int .i64 (Su.least h).1, .int .i64 (Su.least h).2]) ∧ Ext w w' := by
  have hvv := hv
  obtain ⟨A, B, c, d, rfl, hG, hS, hl1, hl2, hb1, hb2⟩ := hv.open
  have hx0 := (Ext.refl w).alloc (.cells #[.slice A h.pr.length c, .slice B h.src.length d, .int .i64 h.tgt] 25)
  have HX0 := Lib.hid hx0
  have HV := Lib.hid (RH.ext _ _ _ _ hx0 hvv)
  clear hv hvv hG hS hx0
  by_cases h0 : Su.check h = 0
  case neg =>
    have e1 : (Su.check h != 0) = true := by rw [bne_iff_ne]; exact h0
    have HC := Lib.hid (Su.least_err h0)
    clear h0
    go_enter Tryd.func15, Tryd.ntmps15
    go_wp2_with fail
    refine (uCheck_any h _ _ HV.out).mono ?_
    rintro ee w1 ⟨rfl, hx1⟩
    have HX1 := Lib.hid (HX0.out.trans hx1)
    clear hx1
    go_wp2_with fail
    go_ret2
    exact ⟨ret_two (v_int (by rw [HC.out])) (v_int (by rw [HC.out])), HX1.out⟩
  case pos =>
  have e1 : (Su.check h != 0) = false := by rw [h0]; rfl
  have hk := Su.ok_of h0
  have HK := Lib.hid (And.intro hk h0)
  obtain ⟨t, ht⟩ : ∃ t : Nat, h.tgt = t := ⟨h.tgt.toNat, by have := hk.tgt; omega⟩
  have ht12 : t < 12 := by have := hk.tgt; have := hk.few; omega
  have h8 := hk.send
  have hmm : 2 ^ (Su.senders h).length ≤ 256 := Nat.pow_le_pow_right (by decide) h8
  have hpos := Nat.two_pow_pos (Su.senders h).length
  have hlen := Su.waysTo_len h (2 ^ (Su.senders h).length)
  rw [← Su.ways_def] at hlen
  have hlast : Su.last h h.tgt = Su.get (Su.ways h) ((2 ^ (Su.senders h).length - 1) * 12 + t) := by unfold Su.last; rw [ht]; rfl
  have hnil : Su.senders h = [] ↔ 2 ^ (Su.senders h).length = 1 := by
    constructor
    · intro e; rw [e]; rfl
    · intro e
      rcases Nat.eq_zero_or_pos (Su.senders h).length with h1 | h1
      · exact List.length_eq_zero_iff.1 h1
      · exfalso
        obtain ⟨k, hk⟩ : ∃ k, (Su.senders h).length = k + 1 := ⟨(Su.senders h).length - 1, by omega⟩
        have := Nat.two_pow_pos k
        rw [hk, Nat.pow_succ] at e
        omega
  obtain ⟨N, hN⟩ : ∃ N, 2 ^ (Su.senders h).length = N := ⟨_, rfl⟩
  rw [hN] at hmm hpos hlen hlast hnil
  have HF := Lib.hid (And.intro hlen (And.intro hlast (And.intro hnil hN)))
  rw [ht] at HV HX0 ⊢
  have HTG := Lib.hid ht
  clear h0 ht hk hlen hlast hnil h8
  go_enter Tryd.func15, Tryd.ntmps15
  go_wp2_with fail
  refine (uCheck_any h _ _ HV.out).mono ?_
  rintro ee w1 ⟨rfl, hx1⟩
  have d0 : w1.cell? ⟨w.heap.size, 0, none⟩ = some (.slice A h.pr.length c) := hx1.cell (by go_simp)
  have d1 : w1.cell? ⟨w.heap.size, 1, none⟩ = some (.slice B h.src.length d) := hx1.cell (by go_simp)
  have d2 : w1.cell? ⟨w.heap.size, 2, none⟩ = some (.int .i64 (t : Int)) := hx1.cell (by go_simp)
  have HX1 := Lib.hid hx1
  have HD2 := Lib.hid d2
  clear hx1
  go_wp2_with fail
  clear d0 d1 d2
  refine (uWays_any h _ _ (RH.ext _ _ _ _ HX1.out HV.out) HK.out.1).mono ?_
  rintro ee w2 ⟨g, N', rfl, hN', hO⟩
  obtain rfl : N' = N := by rw [hN', HF.out.2.2.2]
  have hat := (ways_at hO HF.out.1 (s := N' - 1) (v := t) (by omega) ht12).c0
  obtain ⟨cost, hcost⟩ : ∃ cost, (Su.get (Su.ways h) ((N' - 1) * 12 + t)).cost = cost := ⟨_, rfl⟩
  rw [hcost] at hat
  have hlc : (Su.last h h.tgt).cost = cost := by rw [HF.out.2.1]; exact hcost
  have d2 := hO.ext.cell HD2.out
  have HLC := Lib.hid hlc
  have HX2 := Lib.hid ((HX0.out.trans HX1.out).trans hO.ext)
  obtain ⟨M, hM⟩ : ∃ M, N' - 1 = M := ⟨_, rfl⟩
  have hM2 : (N' : Int) - 1 = (M : Int) := by omega
  have hMN : M < N' := by omega
  rw [hM] at hat
  have e12 : ¬ (12 : Int) ≤ (t : Int) := by omega
  clear hO hlc hcost hN'
  by_cases hs : Su.senders h = []
  · have hone : M = 0 := by have := HF.out.2.2.1.1 hs; omega
    have HC := Lib.hid (Su.least_none HK.out.2 hs)
    have e2 : ((M : Int) == 0) = true := by rw [hone]; rfl
    clear hs hone
    go_wp2_with fail
    go_quiet (fail)
    go_wp2_with fail
    go_ret2
    exact ⟨ret_two (v_int (by rw [HC.out])) (v_int (by rw [HC.out])), HX2.out.drewN _⟩
  · have hone : M ≠ 0 := by
      intro e
      exact hs (HF.out.2.2.1.2 (by omega))
    have e2 : ((M : Int) == 0) = false := by rw [beq_eq_false_iff_ne]; omega
    by_cases hneg : cost < 0
    · have HC := Lib.hid (Su.least_no HK.out.2 hs (by rw [HLC.out]; exact hneg))
      clear hs hone
      go_wp2_with fail
      go_quiet (fail)
      go_wp2_with fail
      go_ret2
      exact ⟨ret_two (v_int (by rw [HC.out])) (v_int (by rw [HC.out])), HX2.out.drewN _⟩
    · have HC := Lib.hid (Su.least_yes HK.out.2 hs (by rw [HLC.out]; exact hneg))
      clear hs hone
      go_wp2_with fail
      go_quiet (fail)
      go_wp2_with fail
      go_ret2
      exact ⟨ret_two (v_int (by rw [HC.out, HLC.out])) (v_int (by rw [HC.out])), HX2.out.drewN _⟩
end Go.Proofs.YtenafgphaceidaaDoor

/- A SET OF HOPS as a map: its keys. -/
namespace Su
/-- The hops that are used for a set and a house, behind those that were; none if it takes too long. -/
def walkF (N : Nat) (W : List Way) : Nat → Nat → Nat → List (Int × Int) → Option (List (Int × Int))
  | 0, _, _, _ => none
  | f + 1, s, v, U =>
    if s < N ∧ v < 12 ∧ U.length < 1000000 then
      if 0 ≤ (get W (s * 12 + v)).frm then
        if (get W (s * 12 + v)).frm < 12 then walkF N W f s (get W (s * 12 + v)).frm.toNat (U ++ [((get W (s * 12 + v)).frm, (v : Int))]) else none
      else if 0 < (get W (s * 12 + v)).half then
        if (get W (s * 12 + v)).half ≤ s then (walkF N W f (get W (s * 12 + v)).half.toNat v U).bind (walkF N W f (s - (get W (s * 12 + v)).half.toNat) v) else none
      else some U
    else none
theorem walkF_in {N : Nat} {W : List Way} {f s v : Nat} {U V : List (Int × Int)} (h : walkF N W (f + 1) s v U = some V) : s < N ∧ v < 12 ∧ U.length < 1000000 := by
  rw [walkF] at h
  split at h
  · assumption
  · cases h
theorem walkF_from {N : Nat} {W : List Way} {f s v : Nat} {U V : List (Int × Int)} (h : walkF N W (f + 1) s v U = some V) (hf : 0 ≤ (get W (s * 12 + v)).frm) : (get W (s * 12 + v)).frm < 12 ∧ walkF N W f s (get W (s * 12 + v)).frm.toNat (U ++ [((get W (s * 12 + v)).frm, (v : Int))]) = some V := by
  rw [walkF, if_pos (walkF_in h), if_pos hf] at h
  split at h
  · exact ⟨by assumption, h⟩
  · cases h
theorem walkF_half {N : Nat} {W : List Way} {f s v : Nat} {U V : List (Int × Int)} (h : walkF N W (f + 1) s v U = some V) (hf : ¬ 0 ≤ (get W (s * 12 + v)).frm) (hh : 0 < (get W (s * 12 + v)).half) :
    (get W (s * 12 + v)).half ≤ s ∧ ∃ X, walkF N W f (get W (s * 12 + v)).half.toNat v U = some X ∧ walkF N W f (s - (get W (s * 12 + v)).half.toNat) v X = some V := by
  rw [walkF, if_pos (walkF_in h), if_neg hf, if_pos hh] at h
  split at h
  · refine ⟨by assumption, ?_⟩
    cases e : walkF N W f (get W (s * 12 + v)).half.toNat v U with
    | none => rw [e] at h; cases h
    | some X => rw [e] at h; exact ⟨X, rfl, h⟩
  · cases h
theorem walkF_end {N : Nat} {W : List Way} {f s v : Nat} {U V : List (Int × Int)} (h : walkF N W (f + 1) s v U = some V) (hf : ¬ 0 ≤ (get W (s * 12 + v)).frm) (hh : ¬ 0 < (get W (s * 12 + v)).half) : U = V := by
  rw [walkF, if_pos (walkF_in h), if_neg hf, if_neg hh] at h
  injection h
end Su
namespace Go.Proofs.YtenafgphaceidaaDoor
open Go.RowKit
open Go.Maps (Keyed)
open Go.WideMaps Go.ChangeMaps Go.MapKept Go.WideShapes
theorem laidOutT : laidOutB Tryd.prog = true := by kernel_rfl
theorem hopKeyed : Keyed Tryd.prog 65 := Keyed.of_law (deep_law_laid laidOutT (m := 5) (by decide) (Nat.le_of_ble_eq_true (by kernel_rfl)) (by kernel_rfl) (by kernel_rfl))
/-- What a hop reads as, as a key. -/
def hopKey (a b : Int) : Lit := .string (keyBytes [.int .i64 a, .int .i64 b])
theorem lits_int (m : Nat) {a : Int} (wa : (Lit.int .i64 a).wf = true) : Program.keyLits Tryd.prog (m + 1) 3 [.int .i64 a] = some [.int .i64 a] := by
  unfold Program.keyLits
  rw [Tryd.underlying3]
  simp [wa]
theorem cellsIntT : Tryd.prog.cellsOf 3 = 1 := by kernel_rfl
theorem cellsHop : Tryd.prog.cellsOf 65 = 2 := by kernel_rfl
theorem lits_hop (m : Nat) {a b : Int} (wa : (Lit.int .i64 a).wf = true) (wb : (Lit.int .i64 b).wf = true) : Program.keyLits Tryd.prog (m + 1 + 1) 65 [.int .i64 a, .int .i64 b] = some [.int .i64 a, .int .i64 b] := by
  unfold Program.keyLits
  rw [Tryd.underlying65]
  simp [cellsHop, cellsIntT, lits_int m wa, lits_int m wb]
theorem hopKey_of {a b : Int} (ha : -9223372036854775808 ≤ a ∧ a ≤ 9223372036854775807) (hb : -9223372036854775808 ≤ b ∧ b ≤ 9223372036854775807) : keyOf Tryd.prog 65 (.agg #[.int .i64 a, .int .i64 b]) = some (hopKey a b) := by
  have wa : (Lit.int .i64 a).wf = true := WalkArith.wf_i64 ha
  have wb : (Lit.int .i64 b).wf = true := WalkArith.wf_i64 hb
  obtain ⟨m, hm⟩ : ∃ m, Tryd.prog.types.size = m + 1 := ⟨Tryd.prog.types.size - 1, by kernel_rfl⟩
  have hkt : Tryd.prog.keyType 65 = true := by kernel_rfl
  have hfo : Value.formed Tryd.prog 65 (.agg #[.int .i64 a, .int .i64 b]) = true := by
    unfold Value.formed
    rw [Tryd.underlying65]
    simp [cellsHop]
  unfold keyOf
  rw [Tryd.underlying65]
  simp only [hkt, hfo, hm, Value.cells, lits_hop m wa wb, hopKey]
  rfl
theorem hopKey_inj {a b c d : Int} (ha : -9223372036854775808 ≤ a ∧ a ≤ 9223372036854775807) (hb : -9223372036854775808 ≤ b ∧ b ≤ 9223372036854775807) (hc : -9223372036854775808 ≤ c ∧ c ≤ 9223372036854775807) (hd : -9223372036854775808 ≤ d ∧ d ≤ 9223372036854775807) (h : hopKey a b = hopKey c d) : a = c ∧ b = d := by
  have h1 := hopKey_of ha hb
  have h2 := hopKey_of hc hd
  rw [← h] at h2
  have := hopKeyed.inj h1 h2
  injection this with this
  injection this with this
  injection this with e1 e2
  injection e1 with _ e1
  injection e2 with e2 _
  injection e2 with _ e2
  exact ⟨e1, e2⟩
def r64 (a : Int) : Prop := -9223372036854775808 ≤ a ∧ a ≤ 9223372036854775807
/-- A map says which hops are in a list. -/
def USays (D : DataW Unit) (U : List (Int × Int)) : Prop := ∀ a b : Int, r64 a → r64 b → Go.Maps.has D (hopKey a b) = decide ((a, b) ∈ U) ∧ D.atKey (hopKey a b) (.lit (.bool false)) = .lit (.bool (decide ((a, b) ∈ U)))
theorem USays.start : USays (.map []) [] := fun _ _ _ _ => ⟨rfl, rfl⟩
theorem USays.put {D : DataW Unit} {U : List (Int × Int)} (h : USays D U) (hD : Go.Maps.IsMap D) {f t : Int} (hf : r64 f) (ht : r64 t) : USays (D.put (hopKey f t) (.lit (.bool true))) (U ++ [(f, t)]) := by
  have hk : WideAt.IsKeyLit (hopKey f t) := hopKeyed.key (hopKey_of hf ht)
  intro a b ha hb
  by_cases he : a = f ∧ b = t
  · obtain ⟨rfl, rfl⟩ := he
    have hm : decide ((a, b) ∈ U ++ [(a, b)]) = true := by simp
    rw [hm]
    exact ⟨Go.Maps.has_put_same hD hk _, Go.Maps.atKey_put_same hD hk _ _⟩
  · have hne : hopKey a b ≠ hopKey f t := fun e => he (hopKey_inj ha hb hf ht e)
    have hm : decide ((a, b) ∈ U ++ [(f, t)]) = decide ((a, b) ∈ U) := by
      apply decide_eq_decide.2
      rw [List.mem_append, List.mem_singleton, Prod.mk.injEq]
      exact ⟨fun e => e.elim id fun e => absurd e he, .inl⟩
    rw [hm, Go.Maps.has_put_other hne, Go.Maps.atKey_put_other hne]
    exact h a b ha hb
/-- What the walk through the table reads and writes. -/
structure TW (W0 w : World) (g N b P6 P7 P8 : Nat) (W : List Su.Way) (U : List (Int × Int)) : Prop where
  ext : Ext W0 w
  ge : W0.heap.size ≤ b
  tab : ∀ s v, s < N → v < 12 → w.cell? ⟨g, s * 36 + v * 3, none⟩ = some (.int .i64 (Su.get W (s * 12 + v)).cost) ∧ w.cell? ⟨g, s * 36 + v * 3 + 1, none⟩ = some (.int .i64 (Su.get W (s * 12 + v)).half) ∧ w.cell? ⟨g, s * 36 + v * 3 + 2, none⟩ = some (.int .i64 (Su.get W (s * 12 + v)).frm)
  p6 : w.cell? ⟨P6, 0, none⟩ = some (.slice (some ⟨g, 0, none⟩) N N)
  p7 : w.cell? ⟨P7, 0, none⟩ = some (.map (some b))
  p8 : w.cell? ⟨P8, 0, none⟩ = some (.func (.func 35) #[] #[.pointer (some ⟨P6, 0, none⟩), .pointer (some ⟨P7, 0, none⟩), .pointer (some ⟨P8, 0, none⟩)])
  own : ∃ D : DataW Unit, w.ownsMap Tryd.prog 65 (plainElem Tryd.prog 4) b U.length D ∧ USays D U
theorem TW.next {W0 w w' : World} {g N b P6 P7 P8 : Nat} {W : List Su.Way} {U : List (Int × Int)} (h : TW W0 w g N b P6 P7 P8 W U) (hx : Ext w w') : TW W0 w' g N b P6 P7 P8 W U :=
  ⟨h.ext.trans hx, h.ge, fun s v hs hv => ⟨hx.cell (h.tab s v hs hv).1, hx.cell (h.tab s v hs hv).2.1, hx.cell (h.tab s v hs hv).2.2⟩, hx.cell h.p6, hx.cell h.p7, hx.cell h.p8, by obtain ⟨D, h1, h2⟩ := h.own; exact ⟨D, ownsMap_ext h1 hx, h2⟩⟩
/-- A store into a map turns no cell. -/
theorem grown_cell {w w' : World} {b n : Nat} {D : DataW Unit} {k : TypeId} {R : Value → Option (DataW Unit × List MemPlace)} (hown : w.ownsMap Tryd.prog k R b n D) (hg : w.grownBy w' (some b)) {p : Addr} {v : Value} (hp : w.cell? p = some v) : w'.cell? p = some v := by
  obtain ⟨es, clock, hb, _⟩ := hown
  by_cases hpb : p.block = b
  · exfalso
    simp [World.cell?, hpb, hb] at hp
  · have hlt : p.block < w.heap.size := by
      rcases Nat.lt_or_ge p.block w.heap.size with h1 | h1
      · exact h1
      · simp [World.cell?, Array.getElem?_eq_none h1] at hp
    have h1 := hg.block p.block hlt (by intro e; injection e with e; exact hpb e)
    unfold World.cell? at hp ⊢
    rw [h1]
    exact hp
theorem TW.put {W0 w w' : World} {g N b P6 P7 P8 : Nat} {W : List Su.Way} {U : List (Int × Int)} (h : TW W0 w g N b P6 P7 P8 W U) {D : DataW Unit} (h1 : w.ownsMap Tryd.prog 65 (plainElem Tryd.prog 4) b U.length D) (h2 : USays D U) {f t : Int} (hf : r64 f) (ht : r64 t)
    (h3 : w'.ownsMap Tryd.prog 65 (plainElem Tryd.prog 4) b (U.length + 1) (D.put (hopKey f t) (.lit (.bool true)))) (hg : w.grownBy w' (some b)) : TW W0 w' g N b P6 P7 P8 W (U ++ [(f, t)]) :=
  have k := fun {p : Addr} {v : Value} (hp : w.cell? p = some v) => grown_cell h1 hg hp
  ⟨h.ext.grown hg (fun j hj => by injection hj with hj; rw [← hj]; exact h.ge), h.ge, fun s v hs hv => ⟨k (h.tab s v hs hv).1, k (h.tab s v hs hv).2.1, k (h.tab s v hs hv).2.2⟩, k h.p6, k h.p7, k h.p8, _, by rw [List.length_append]; exact h3, h2.put h1.isMap hf ht⟩
end Go.Proofs.YtenafgphaceidaaDoor

/- THE WALK over Tree's closure. -/
namespace Go.Proofs.YtenafgphaceidaaDoor
open Go.RowKit
open Go.Maps (Keyed)
open Go.WideMaps Go.ChangeMaps Go.MapKept Go.WideShapes
theorem enters35 : ∀ args w, (callFunc 35 args).run Tryd.prog w = .ok (.enter 35 args) w := enters_of Tryd.func35 (by kernel_rfl) rfl
/-- No cell that was there has turned. -/
def Keep (w w' : World) : Prop := ∀ p v, w.cell? p = some v → w'.cell? p = some v
theorem Ext.keep {w w' : World} (h : Ext w w') : Keep w w' := fun _ _ hp => h.cell hp
theorem Keep.trans {a b c : World} (h : Keep a b) (k : Keep b c) : Keep a c := fun p v hp => k p v (h p v hp)
set_option maxHeartbeats 4000000 in
set_option maxRecDepth 100000 in
/-- The walk through the table. -/
theorem tree1_any (W0 : World) (g N b P6 P7 P8 : Nat) (W : List Su.Way) (hN : N ≤ 256) : ∀ (fuel s v : Nat) (U V : List (Int × Int)) (w : World), Su.walkF N W fuel s v U = some V → TW W0 w g N b P6 P7 P8 W U →
    Calls Tryd.prog 35 #[.int .i64 s, .int .i64 v, .pointer (some ⟨P6, 0, none⟩), .pointer (some ⟨P7, 0, none⟩), .pointer (some ⟨P8, 0, none⟩)] w fun e w' => e = .returned (.tuple #[]) ∧ TW W0 w' g N b P6 P7 P8 W V ∧ Keep w w'
  | 0, s, v, U, V, w, hw, _ => by cases hw
  | fuel + 1, s, v, U, V, w, hw, ht => by
    have ih := tree1_any W0 g N b P6 P7 P8 W hN fuel
    have IH := Lib.hid ih
    clear ih
    obtain ⟨hs, hv, hU⟩ := Su.walkF_in hw
    obtain ⟨k0, k1, k2⟩ := ht.tab s v hs hv
    have p6 := ht.p6
    obtain ⟨x, hx⟩ : ∃ x, Su.get W (s * 12 + v) = x := ⟨_, rfl⟩
    have hfrom := fun h => Su.walkF_from hw h
    have hhalf := fun h h2 => Su.walkF_half hw h h2
    have hend := fun h h2 => Su.walkF_end hw h h2
    rw [hx] at k0 k1 k2 hfrom hhalf hend
    obtain ⟨cost, half, frm⟩ := x
    simp only at k0 k1 k2 hfrom hhalf hend
    have hE := @enters35
    have HT := Lib.hid ht
    have ht2 := ht.next ((Ext.refl w).alloc (.cells #[.int .i64 cost, .int .i64 half, .int .i64 frm] 77))
    have HT2 := Lib.hid ht2
    have hkp : Keep w (w.alloc (.cells #[.int .i64 cost, .int .i64 half, .int .i64 frm] 77)) := ((Ext.refl w).alloc _).keep
    have HKP := Lib.hid hkp
    have e12 : ¬ (12 : Int) ≤ (v : Int) := by omega
    have hv64 : r64 (v : Int) := ⟨by omega, by omega⟩
    have HV64 := Lib.hid hv64
    clear ht ht2 hw hx hv64 hkp
    by_cases h0 : 0 ≤ frm
    · obtain ⟨hf12, hrec⟩ := hfrom h0
      obtain ⟨u, rfl⟩ : ∃ u : Nat, frm = u := ⟨frm.toNat, by omega⟩
      rw [Int.toNat_natCast] at hrec
      have hu64 : r64 (u : Int) := ⟨by omega, by omega⟩
      have HREC := Lib.hid (And.intro hrec hu64)
      obtain ⟨D, hD, hS⟩ := HT2.out.own
      have HD := Lib.hid (And.intro hD hS)
      have p7 := HT2.out.p7
      have hUl : U.length < maxLen := by unfold maxLen; omega
      clear hfrom hhalf hend hrec hu64 hD hS
      go_enter Tryd.func35, Tryd.ntmps35
      go_wp2_with (at_mapUpdate; refine wpList_mapUpdate_own _ rfl _ _ _ 79 rfl 65 4 hopKeyed Tryd.underlying79 _ b U.length D rfl HD.out.1 hUl _ _ _ rfl rfl (hopKey_of HREC.out.2 HV64.out) (.lit (.bool true)) [] (plainElem_bool Tryd.underlying4 true) ?_; intro w5 hown5 hgrow5; have HT5 := Lib.hid (HT2.out.put HD.out.1 HD.out.2 HREC.out.2 HV64.out hown5 hgrow5); have q8 := HT5.out.p8; have hk5 : Keep _ w5 := fun p v hp => grown_cell HD.out.1 hgrow5 hp; have HK5 := Lib.hid (HKP.out.trans hk5); clear hk5; have m2 := grown_cell HD.out.1 hgrow5 (p := ⟨w.heap.size, 2, none⟩) (v := .int .i64 (u : Int)) (by go_simp); clear hown5 hgrow5)
      refine (IH.out s u _ _ _ HREC.out.1 HT5.out).mono ?_
      rintro e w6 ⟨rfl, h6, h7⟩
      have H6 := Lib.hid (And.intro h6 (HK5.out.trans h7))
      clear h6 h7
      go_wp2_with fail
      go_end0
      exact ⟨rfl, H6.out⟩
    · by_cases h1 : 0 < half
      · obtain ⟨hhs, X, hr1, hr2⟩ := hhalf h0 h1
        obtain ⟨m, rfl⟩ : ∃ m : Nat, half = m := ⟨half.toNat, by omega⟩
        rw [Int.toNat_natCast] at hr1 hr2
        obtain ⟨r, hr⟩ : ∃ r, s - m = r := ⟨_, rfl⟩
        have hsr : (s : Int) - (m : Int) = (r : Int) := by omega
        rw [hr] at hr2
        have HREC := Lib.hid (And.intro hr1 hr2)
        have q8 := HT2.out.p8
        clear hfrom hhalf hend hr1 hr2 hr
        go_enter Tryd.func35, Tryd.ntmps35
        go_wp2_with fail
        refine (IH.out m v _ _ _ HREC.out.1 HT2.out).mono ?_
        rintro e w6 ⟨rfl, h6, h7⟩
        have x1 : w6.cell? ⟨w.heap.size, 1, none⟩ = some (.int .i64 (m : Int)) := h7 _ _ (by go_simp)
        have q8' := h6.p8
        have H6 := Lib.hid (And.intro h6 (HKP.out.trans h7))
        clear h6 h7
        go_wp2_with fail
        refine (IH.out r v _ _ _ HREC.out.2 H6.out.1).mono ?_
        rintro e w7 ⟨rfl, h6, h7⟩
        have H7 := Lib.hid (And.intro h6 (H6.out.2.trans h7))
        clear h6 h7
        go_wp2_with fail
        go_end0
        exact ⟨rfl, H7.out⟩
      · have hU2 := hend h0 h1
        subst hU2
        clear hfrom hhalf hend
        go_enter Tryd.func35, Tryd.ntmps35
        go_wp2_with fail
        go_end0
        exact ⟨rfl, HT2.out, HKP.out⟩
end Go.Proofs.YtenafgphaceidaaDoor

/- THE SEARCH BACK FROM THE TARGET, in plain terms; a queue in memory. -/
namespace Su
/-- A house is looked at from the house y. -/
def bfsStep (U : List (Int × Int)) (y : Int) (a : Nat) (nx : List (Int × Int)) : List (Int × Int) :=
  if nextOf nx (a : Int) = none ∧ ((a : Int), y) ∈ U then nx ++ [((a : Int), y)] else nx
theorem bfsStep_known {U : List (Int × Int)} {y b : Int} {a : Nat} {nx : List (Int × Int)} (h : nextOf nx (a : Int) = some b) : bfsStep U y a nx = nx := if_neg (by rw [h]; rintro ⟨e, _⟩; cases e)
theorem bfsStep_no {U : List (Int × Int)} {y : Int} {a : Nat} {nx : List (Int × Int)} (h : ((a : Int), y) ∉ U) : bfsStep U y a nx = nx := if_neg fun e => h e.2
theorem bfsStep_yes {U : List (Int × Int)} {y : Int} {a : Nat} {nx : List (Int × Int)} (h : nextOf nx (a : Int) = none) (h2 : ((a : Int), y) ∈ U) : bfsStep U y a nx = nx ++ [((a : Int), y)] := if_pos ⟨h, h2⟩
/-- The houses that are known; q: how many of them have been looked from. -/
def bfs (U : List (Int × Int)) (n : Nat) : Nat → Nat → List (Int × Int) → List (Int × Int)
  | 0, _, nx => nx
  | f + 1, q, nx => if q < nx.length then bfs U n f (q + 1) (rep (bfsStep U (nx.getD q (0, 0)).1) n nx) else nx
theorem bfs_go {U : List (Int × Int)} {n f q : Nat} {nx : List (Int × Int)} (h : q < nx.length) : bfs U n (f + 1) q nx = bfs U n f (q + 1) (rep (bfsStep U (nx.getD q (0, 0)).1) n nx) := by rw [bfs, if_pos h]
theorem bfs_end {U : List (Int × Int)} {n f q : Nat} {nx : List (Int × Int)} (h : ¬ q < nx.length) : bfs U n f q nx = nx := by
  cases f with
  | zero => rfl
  | succ f => rw [bfs, if_neg h]
/-- Known houses: each once, all of them houses. -/
structure Known (n : Nat) (nx : List (Int × Int)) : Prop where
  nd : (nx.map Prod.fst).Nodup
  dom : ∀ x ∈ nx, 0 ≤ x.1 ∧ x.1 < (n : Int)
  ran : ∀ x ∈ nx, 0 ≤ x.2 ∧ x.2 < (n : Int)
theorem Known.len {n : Nat} {nx : List (Int × Int)} (h : Known n nx) : nx.length ≤ n := by
  have := nodup_len n (nx.map Prod.fst) h.nd (fun x hx => by
    obtain ⟨y, hy, rfl⟩ := List.mem_map.1 hx
    exact h.dom y hy)
  simpa using this
theorem Known.step {n : Nat} {nx : List (Int × Int)} (h : Known n nx) {U : List (Int × Int)} {y : Int} {a : Nat} (ha : a < n) (hy : 0 ≤ y ∧ y < (n : Int)) : Known n (bfsStep U y a nx) := by
  unfold bfsStep
  split
  · rename_i hc
    refine ⟨?_, ?_, ?_⟩
    · rw [List.map_append, List.nodup_append]
      refine ⟨h.nd, by simp, ?_⟩
      intro x hx z hz
      simp only [List.map_cons, List.map_nil, List.mem_singleton] at hz
      subst hz
      obtain ⟨p, hp, rfl⟩ := List.mem_map.1 hx
      exact (nextOf_none.1 hc.1) p hp
    · intro x hx
      rcases List.mem_append.1 hx with hx | hx
      · exact h.dom x hx
      · rw [List.mem_singleton] at hx; subst hx; exact ⟨by simp, by simp; omega⟩
    · intro x hx
      rcases List.mem_append.1 hx with hx | hx
      · exact h.ran x hx
      · rw [List.mem_singleton] at hx; subst hx; exact hy
  · exact h
theorem Known.rep {n : Nat} {U : List (Int × Int)} {y : Int} (hy : 0 ≤ y ∧ y < (n : Int)) {nx : List (Int × Int)} (h : Known n nx) : ∀ k, k ≤ n → Known n (rep (bfsStep U y) k nx)
  | 0, _ => h
  | k + 1, hk => (Known.rep hy h k (by omega)).step (by omega) hy
theorem Known.at {n : Nat} {nx : List (Int × Int)} (h : Known n nx) {q : Nat} (hq : q < nx.length) : 0 ≤ (nx.getD q (0, 0)).1 ∧ (nx.getD q (0, 0)).1 < (n : Int) :=
  h.dom _ (by rw [List.getD_eq_getElem?_getD, List.getElem?_eq_getElem hq]; exact List.getElem_mem hq)
theorem bfsStep_pre (U : List (Int × Int)) (y : Int) (a : Nat) (nx : List (Int × Int)) : ∃ t, bfsStep U y a nx = nx ++ t := by
  unfold bfsStep
  split
  · exact ⟨_, rfl⟩
  · exact ⟨[], by simp⟩
theorem rep_pre (U : List (Int × Int)) (y : Int) (nx : List (Int × Int)) : ∀ k, ∃ t, rep (bfsStep U y) k nx = nx ++ t
  | 0 => ⟨[], by rw [rep_zero]; simp⟩
  | k + 1 => by
    obtain ⟨t, ht⟩ := rep_pre U y nx k
    obtain ⟨t2, ht2⟩ := bfsStep_pre U y k (rep (bfsStep U y) k nx)
    exact ⟨t ++ t2, by rw [rep_succ, ht2, ht, List.append_assoc]⟩
theorem rep_getD (U : List (Int × Int)) (y : Int) (nx : List (Int × Int)) (k : Nat) {q : Nat} (hq : q < nx.length) : (rep (bfsStep U y) k nx).getD q (0, 0) = nx.getD q (0, 0) := by
  obtain ⟨t, ht⟩ := rep_pre U y nx k
  rw [ht, List.getD_eq_getElem?_getD, List.getD_eq_getElem?_getD, List.getElem?_append_left hq]
theorem rep_len_ge (U : List (Int × Int)) (y : Int) (nx : List (Int × Int)) (k : Nat) : nx.length ≤ (rep (bfsStep U y) k nx).length := by
  obtain ⟨t, ht⟩ := rep_pre U y nx k
  rw [ht, List.length_append]
  omega
/-- The heads of the known houses from the q-th on. -/
def heads (q : Nat) (nx : List (Int × Int)) : List Int := (nx.drop q).map Prod.fst
theorem heads_len (q : Nat) (nx : List (Int × Int)) : (heads q nx).length = nx.length - q := by simp [heads]
theorem heads_snoc {q : Nat} {nx : List (Int × Int)} (hq : q ≤ nx.length) (x : Int × Int) : heads q (nx ++ [x]) = heads q nx ++ [x.1] := by
  unfold heads
  rw [List.drop_append_of_le_length hq, List.map_append]
  rfl
theorem heads_cons {q : Nat} {nx : List (Int × Int)} (hq : q < nx.length) : heads q nx = (nx.getD q (0, 0)).1 :: heads (q + 1) nx := by
  unfold heads
  rw [List.drop_eq_getElem_cons hq, List.map_cons, List.getD_eq_getElem?_getD, List.getElem?_eq_getElem hq]
  rfl
/-- The houses on the way of a house to the target are marked. -/
def mark (R : List (Int × Int)) (t : Int) : Nat → Int → List Bool → List Bool
  | 0, _, S => S
  | f + 1, a, S => if a ≠ t ∧ S.getD a.toNat false = false then mark R t f ((nextOf R a).getD 0) (S.set a.toNat true) else S
theorem mark_go {R : List (Int × Int)} {t : Int} {f : Nat} {a : Int} {S : List Bool} (h : a ≠ t) (h2 : S.getD a.toNat false = false) : mark R t (f + 1) a S = mark R t f ((nextOf R a).getD 0) (S.set a.toNat true) := by rw [mark, if_pos ⟨h, h2⟩]
theorem mark_tgt {R : List (Int × Int)} {t : Int} {f : Nat} {a : Int} {S : List Bool} (h : a = t) : mark R t f a S = S := by
  cases f with
  | zero => rfl
  | succ f => rw [mark, if_neg fun e => e.1 h]
theorem mark_on {R : List (Int × Int)} {t : Int} {f : Nat} {a : Int} {S : List Bool} (h : S.getD a.toNat false = true) : mark R t f a S = S := by
  cases f with
  | zero => rfl
  | succ f => rw [mark, if_neg fun e => by rw [h] at e; cases e.2]
theorem mark_len (R : List (Int × Int)) (t : Int) : ∀ f a S, (mark R t f a S).length = S.length
  | 0, _, _ => rfl
  | f + 1, a, S => by
    rw [mark]
    split
    · rw [mark_len R t f, List.length_set]
    · rfl
/-- How many are not marked. -/
def offs (S : List Bool) : Nat := S.count false
theorem offs_set {S : List Bool} {i : Nat} (h : S.getD i false = false) (hi : i < S.length) : offs (S.set i true) + 1 = offs S := by
  unfold offs
  rw [List.count_set hi]
  have e : S[i] = false := by rw [List.getD_eq_getElem?_getD, List.getElem?_eq_getElem hi] at h; exact h
  have hp : 0 < S.count false := List.count_pos_iff.2 (by rw [← e]; exact List.getElem_mem hi)
  simp [e]
  omega
/-- The marks of all senders. -/
def marksTo (R : List (Int × Int)) (t : Int) (L : List Int) (n : Nat) : Nat → List Bool
  | 0 => List.replicate n false
  | k + 1 => mark R t (n + 1) (L.getD k 0) (marksTo R t L n k)
theorem marksTo_zero (R : List (Int × Int)) (t : Int) (L : List Int) (n : Nat) : marksTo R t L n 0 = List.replicate n false := rfl
theorem marksTo_succ (R : List (Int × Int)) (t : Int) (L : List Int) (n k : Nat) : marksTo R t L n (k + 1) = mark R t (n + 1) (L.getD k 0) (marksTo R t L n k) := rfl
theorem marksTo_len (R : List (Int × Int)) (t : Int) (L : List Int) (n : Nat) : ∀ k, (marksTo R t L n k).length = n
  | 0 => by simp [marksTo]
  | k + 1 => by rw [marksTo, mark_len, marksTo_len R t L n k]
/-- The hops of the marked ones of the first k houses. -/
def outTo (R : List (Int × Int)) (S : List Bool) : Nat → List (Int × Int)
  | 0 => []
  | k + 1 => if S.getD k false = true then outTo R S k ++ [((k : Int), (nextOf R (k : Int)).getD 0)] else outTo R S k
theorem outTo_zero (R : List (Int × Int)) (S : List Bool) : outTo R S 0 = [] := rfl
theorem outTo_yes {R : List (Int × Int)} {S : List Bool} {k : Nat} (h : S.getD k false = true) : outTo R S (k + 1) = outTo R S k ++ [((k : Int), (nextOf R (k : Int)).getD 0)] := by rw [outTo, if_pos h]
theorem outTo_no {R : List (Int × Int)} {S : List Bool} {k : Nat} (h : S.getD k false = false) : outTo R S (k + 1) = outTo R S k := by rw [outTo, if_neg (by rw [h]; simp)]
theorem outTo_len (R : List (Int × Int)) (S : List Bool) : ∀ k, (outTo R S k).length ≤ k
  | 0 => Nat.le_refl _
  | k + 1 => by
    have := outTo_len R S k
    rw [outTo]
    split
    · rw [List.length_append]; simp; omega
    · omega
/-- The known houses, of used hops. -/
def known (h : Ha) (U : List (Int × Int)) : List (Int × Int) := bfs U h.pr.length (h.pr.length + 1) 0 [(h.tgt, h.tgt)]
/-- What Tree returns, of used hops. -/
def treeOf (h : Ha) (U : List (Int × Int)) : List (Int × Int) := outTo (known h U) (marksTo (known h U) h.tgt (senders h) h.pr.length (senders h).length) h.pr.length
attribute [irreducible] bfsStep bfs mark marksTo outTo
end Su
namespace Go.Proofs.YtenafgphaceidaaDoor
open Go.RowKit
/-- A QUEUE OF THE CALL'S OWN: a row whose head moves on. -/
def QRow (w0 w : World) (v : Value) (xs : List Value) : Prop :=
  ∃ g off c, v = .slice (some ⟨g, off, none⟩) xs.length c ∧ w0.heap.size ≤ g ∧ g < w.heap.size ∧ xs.length ≤ c ∧ c ≤ maxLen ∧ (∀ j x, xs[j]? = some x → w.cell? ⟨g, off + j, none⟩ = some x) ∧ ∀ j, j < c → (w.cell? ⟨g, off + j, none⟩).isSome = true ∧ w.frozen? ⟨g, off + j, none⟩ = false
theorem QRow.of_row {w0 w : World} {v : Value} {xs : List Value} {e n : Nat} (h : w.ownsRow w0.heap.size e 1 v n xs) (hn : 0 < n) : QRow w0 w v xs := by
  rcases h.2 with ⟨_, h0⟩ | ⟨g, cap, cur, hv, hB, hg, hnc, hcm, hsz, ht⟩
  · omega
  · have hl := h.1
    refine ⟨g, 0, cap, by rw [hv, show xs.length = n by omega], hB, lt_of_block hg, by omega, hcm, fun j x hj => ?_, fun j hj => ⟨?_, ?_⟩⟩
    · have hjn : j < n * 1 := by
        have : j < xs.length := by
          rcases Nat.lt_or_ge j xs.length with h2 | h2
          · exact h2
          · rw [List.getElem?_eq_none h2] at hj; cases hj
        omega
      rw [Nat.zero_add, ← hj, ← ht, cell_of_row w g j cur e (0, 0) hg]
      rw [List.getElem?_take, if_pos (by omega)]
      simp
    · rw [Nat.zero_add, cell_of_row w g j cur e (0, 0) hg]
      rw [Array.getElem?_eq_getElem (by omega)]
      rfl
    · rw [Nat.zero_add]
      simp [World.frozen?, hg]
theorem QRow.next {w0 w w' : World} {v : Value} {xs : List Value} (h : QRow w0 w v xs) (hx : Ext w w') : QRow w0 w' v xs := by
  obtain ⟨g, off, c, hv, hB, hlt, h1, h2, h3, h4⟩ := h
  exact ⟨g, off, c, hv, hB, Nat.lt_of_lt_of_le hlt hx.size, h1, h2, fun j x hj => hx.cell (h3 j x hj), fun j hj => ⟨by rw [Below.cell hx hlt]; exact (h4 j hj).1, by rw [Below.frozen hx hlt]; exact (h4 j hj).2⟩⟩
theorem QRow.mapped {w0 w w' : World} {v : Value} {xs : List Value} {P : Program} {b n : Nat} {D : DataW Unit} {k : TypeId} {R : Value → Option (DataW Unit × List MemPlace)} (h : QRow w0 w v xs) (hown : w.ownsMap P k R b n D) (hg : w.grownBy w' (some b)) : QRow w0 w' v xs := by
  obtain ⟨g, off, c, hv, hB, hlt, h1, h2, h3, h4⟩ := h
  obtain ⟨es, clock, hb, _⟩ := hown
  have key : ∀ j, j < c → w'.heap[g]? = w.heap[g]? := fun j hj => by
    refine hg.block g hlt ?_
    intro e
    injection e with e
    subst e
    have := (h4 j hj).1
    simp [World.cell?, hb] at this
  have hxl : ∀ j x, xs[j]? = some x → j < c := fun j x hj => by
    have : j < xs.length := by
      rcases Nat.lt_or_ge j xs.length with h2 | h2
      · exact h2
      · rw [List.getElem?_eq_none h2] at hj; cases hj
    omega
  exact ⟨g, off, c, hv, hB, Nat.lt_of_lt_of_le hlt hg.size, h1, h2, fun j x hj => by rw [World.cell?_of_block (a := ⟨g, off + j, none⟩) (key j (hxl j x hj))]; exact h3 j x hj,
    fun j hj => ⟨by rw [World.cell?_of_block (a := ⟨g, off + j, none⟩) (key j hj)]; exact (h4 j hj).1, by rw [World.frozen?_of_block (a := ⟨g, off + j, none⟩) (key j hj)]; exact (h4 j hj).2⟩⟩
theorem QRow.form {w0 w : World} {v : Value} {xs : List Value} (h : QRow w0 w v xs) : ∃ g off c, v = .slice (some ⟨g, off, none⟩) xs.length c ∧ ∀ j x, xs[j]? = some x → w.cell? ⟨g, off + j, none⟩ = some x := by
  obtain ⟨g, off, c, hv, hB, hlt, h1, h2, h3, h4⟩ := h
  exact ⟨g, off, c, hv, h3⟩
/-- The queue behind its head. -/
theorem QRow.tail {w0 w : World} {x : Value} {xs : List Value} {P : Program} (t : TypeId) (ht : P.underlying t = some (.slice (P.elem t))) (hs : (sizeOf (P.elem t)).run P w = .ok 1 w) {v : Value} (h : QRow w0 w v (x :: xs)) :
    ∃ v', (Instr.sliceAt t v (some (.int .i64 1)) none none).run P w = .ok v' w ∧ QRow w0 w v' xs := by
  obtain ⟨g, off, c, rfl, hB, hlt, h1, h2, h3, h4⟩ := h
  rw [List.length_cons] at h1
  rw [run_sliceAt_slice _ _ _ _ _ _ ht, run_slice_l _ _ _ _ _ ht .i64 1 (by decide) (by simp; omega), hs]
  simp only [Result.andThen]
  by_cases hc : c = 1
  · refine ⟨_, rfl, ?_⟩
    subst hc
    have hnil : xs = [] := List.length_eq_zero_iff.1 (by omega)
    subst hnil
    refine ⟨g, off, 0, by simp [sliced], hB, hlt, Nat.le_refl _, by omega, fun j x hj => by simp at hj, fun j hj => absurd hj (Nat.not_lt_zero j)⟩
  · refine ⟨_, rfl, g, off + 1, c - 1, ?_, hB, hlt, by omega, by omega, fun j y hj => ?_, fun j hj => ?_⟩
    · simp [sliced, hc, Addr.add_lit]
    · have := h3 (j + 1) y (by simpa using hj)
      rwa [show off + 1 + j = off + (j + 1) by omega]
    · have := h4 (j + 1) (by omega)
      rwa [show off + 1 + j = off + (j + 1) by omega]
/-- One element more. -/
theorem QRow.push {w0 w : World} {xs : List Value} {P : Program} (hx0 : Ext w0 w) (t ty e : TypeId) {z : Value} {bytes : Nat} (ht : P.underlying t = some (.slice e)) (hi : (P.info? e).map (fun i => (i.zero, i.size, i.bytes)) = some (some z, 1, bytes)) (hzs : z.cells.size = 1) {v : Value} (h : QRow w0 w v xs)
    {g0 : Nat} {u : Value} (hu : w.cell? ⟨g0, 0, none⟩ = some u) (h1 : u.oneCell' = true) (hm : xs.length < 1000000000000) (hb : bytes ≤ 100) :
    ∃ v' w', (Builtin.append_ #[t, t] ty #[v, .slice (some ⟨g0, 0, none⟩) 1 1]).run P w = .ok v' w' ∧ QRow w0 w' v' (xs ++ [u]) ∧ Ext w0 w' ∧
      ∀ (b : Nat) (k : TypeId) (R : Value → Option (DataW Unit × List MemPlace)) (n : Nat) (D : DataW Unit), w.ownsMap P k R b n D → w'.ownsMap P k R b n D := by
  obtain ⟨i, hi0, hiz, hi1, hi2⟩ := info_parts hi
  obtain ⟨g, off, c, rfl, hB, hlt, hl1, hl2, h3, h4⟩ := h
  have hnews : ∀ j y, [u][j]? = some y → w.cell? ((⟨g0, 0, none⟩ : Addr).add j) = some y := fun j y hj => by
    match j, hj with
    | 0, hj => simp at hj; subst hj; exact hu
  have hone : ∀ y ∈ [u], y.oneCell' = true := fun y hy => by simp at hy; subst hy; exact h1
  have hbb : (xs.length + 1) * bytes ≤ (xs.length + 1) * 100 := Nat.mul_le_mul_left _ hb
  by_cases hr : xs.length + 1 ≤ c
  · have hc0 := h4 xs.length (by omega)
    have hrun := run_append_room_cells (P := P) w t ty e i ht hi0 g off xs.length c ⟨g0, 0, none⟩ 1 1 [u] (by simp [hi1]) hnews hone hr (fun j hj => by
        obtain rfl : j = 0 := by simpa using hj
        rw [hi1, Nat.mul_one]; exact hc0.1) (fun j hj => by
        obtain rfl : j = 0 := by simpa using hj
        rw [hi1, Nat.mul_one]; exact hc0.2)
    rw [hi1, Nat.mul_one] at hrun
    have hw : w.setCells g (off + xs.length) [u] = w.setCell ⟨g, off + xs.length, none⟩ u := rfl
    rw [hw] at hrun
    refine ⟨_, _, hrun, ⟨g, off, c, by simp, hB, by simpa using hlt, by simpa using hr, hl2, fun j x hj => ?_, fun j hj => ⟨?_, ?_⟩⟩, hx0.setCell hB u, ?_⟩
    · by_cases hjl : j = xs.length
      · subst hjl
        rw [List.getElem?_append_right (Nat.le_refl _)] at hj
        simp at hj
        subst hj
        exact World.cell?_setCell_same' _ _ _ hc0.1
      · have hj2 : j < xs.length := by
          rcases Nat.lt_or_ge j (xs ++ [u]).length with h5 | h5
          · simp at h5; omega
          · rw [List.getElem?_eq_none h5] at hj; cases hj
        rw [List.getElem?_append_left hj2] at hj
        rw [World.cell?_setCell_other _ _ _ _ (by intro e; injection e with _ e _; omega)]
        exact h3 j x hj
    · by_cases hjl : j = xs.length
      · subst hjl
        rw [World.cell?_setCell_same' _ _ _ hc0.1]
        rfl
      · rw [World.cell?_setCell_other _ _ _ _ (by intro e; injection e with _ e _; omega)]
        exact (h4 j hj).1
    · rw [World.frozen?_setCell]
      exact (h4 j hj).2
    · rintro b k R n D ⟨es, clock, hbk, rest⟩
      refine ⟨es, clock, ?_, rest⟩
      rw [Below.heap_setCell _ _ _ _ (by
        rintro rfl
        have := hc0.1
        simp [World.cell?, hbk] at this)]
      exact hbk
  · obtain ⟨v', w', hrun, r1, r2⟩ := run_append_arg_grows (P := P) w t ty e i z 1 bytes ht hi0 hiz hi1 hi2 hzs (by decide) ⟨g, off, none⟩ xs.length c xs (by omega) (fun j y hj => by rw [Addr.add_lit]; exact h3 j y hj) ⟨g0, 0, none⟩ 1 1 [u] rfl hnews (by omega) (by unfold maxLen; omega) (by omega)
    have hxw : Ext w w' := (Ext.refl w).grown r2 (fun k hk => by cases hk)
    refine ⟨v', w', hrun, ?_, hx0.trans hxw, fun b k R n D hD => hD.kept r2 (by simp)⟩
    have hq := QRow.of_row (w0 := w) r1 (by omega)
    obtain ⟨g', off', c', e1, e2, e3⟩ := hq
    exact ⟨g', off', c', e1, Nat.le_trans hx0.size e2, e3⟩
end Go.Proofs.YtenafgphaceidaaDoor
