/- What the program's functions do, step by step: part E of the texts for this claim; no condition beyond what each theorem states. -/
import Derived.Deep.RegionHeld3
import Derived.Test.YtenafgphaceidaaDoorSpec19BunA
import Derived.Test.YtenafgphaceidaaDoorSpec19BunB
import Derived.Test.YtenafgphaceidaaDoorSpec19BunC
import Derived.Test.YtenafgphaceidaaDoorSpec19BunD
/- THE WALK over Carry of package sums. -/
namespace Su
/-- What Carry returns, where f is enough fuel. -/
def carry (f : Nat) (h : Ha) (l : List (Int × Int)) (coef : List UInt8) (ps : List (List UInt8)) : List (List UInt8) × List UInt8 × Int :=
  if check h ≠ 0 then ([], [], check h) else if valid h l = false then ([], [], 22) else if Gf.combE coef ps ≠ 0 ∨ ps.length ≠ h.src.length then ([], [], 1)
  else (l.map fun x => (sumF h.src l coef ps (Gf.combS coef ps).length f x.1).getD [], (sumF h.src l coef ps (Gf.combS coef ps).length f h.tgt).getD [], 0)
theorem carry_err {f : Nat} {h : Ha} {l : List (Int × Int)} {coef : List UInt8} {ps : List (List UInt8)} (hc : check h ≠ 0) : carry f h l coef ps = ([], [], check h) := if_pos hc
theorem carry_bad {f : Nat} {h : Ha} {l : List (Int × Int)} {coef : List UInt8} {ps : List (List UInt8)} (hc : check h = 0) (hv : valid h l = false) : carry f h l coef ps = ([], [], 22) := by rw [carry, if_neg (by simp [hc]), if_pos hv]
theorem carry_arg {f : Nat} {h : Ha} {l : List (Int × Int)} {coef : List UInt8} {ps : List (List UInt8)} (hv : valid h l = true) (ha : Gf.combE coef ps ≠ 0 ∨ ps.length ≠ h.src.length) : carry f h l coef ps = ([], [], 1) := by
  rw [carry, if_neg (by simp [(valid_iff.1 hv).1]), if_neg (by simp [hv]), if_pos ha]
theorem carry_ok {f : Nat} {h : Ha} {l : List (Int × Int)} {coef : List UInt8} {ps : List (List UInt8)} (hv : valid h l = true) (ha : ¬ (Gf.combE coef ps ≠ 0 ∨ ps.length ≠ h.src.length)) :
    carry f h l coef ps = (l.map fun x => (sumF h.src l coef ps (Gf.combS coef ps).length f x.1).getD [], (sumF h.src l coef ps (Gf.combS coef ps).length f h.tgt).getD [], 0) := by
  rw [carry, if_neg (by simp [(valid_iff.1 hv).1]), if_neg (by simp [hv]), if_neg ha]
end Su
namespace Go.Proofs.YtenafgphaceidaaDoor
open Go.RowKit
abbrev sv (p : List UInt8) : Value := .string (sb p)
theorem info_str : (Tryd.prog.info? 9).map (fun i => (i.zero, i.size, i.bytes)) = some (some (.string ByteArray.empty), 1, 16) := by kernel_rfl
theorem Rs.of_rdS {w : World} {A : Option Addr} {n c : Nat} {l : List (List UInt8)} (h : Rd w A (l.map sv)) (hn : n = l.length) (hl : l.length ≤ 9223372036854775807) : Rs RS w (.slice A n c) l := by
  subst hn
  exact ⟨A, c, rfl, hl, fun i x hi => by
    obtain ⟨ad, h1, _, h3⟩ := h i (sv x) (by rw [List.getElem?_map, hi]; rfl)
    exact ⟨ad, _, h1, h3, rfl⟩⟩
/-- What Carry leaves. -/
def CarryOut (res : List (List UInt8) × List UInt8 × Int) (w : World) (e : Ending) (w' : World) : Prop :=
  ∃ A n c, e = .returned (.tuple #[.slice A n c, .string (sb res.2.1), .int .i64 res.2.2]) ∧ Rs RS w' (.slice A n c) res.1 ∧ Ext w w'
theorem carry_nil {w w' : World} {res : List (List UInt8) × List UInt8 × Int} {x : Int} (hr : res = ([], [], x)) (hx : Ext w w') : CarryOut res w (.returned (.tuple #[.slice none 0 0, .string (sb []), .int .i64 x])) w' :=
  ⟨none, 0, 0, by rw [hr], by rw [hr]; exact ⟨none, 0, rfl, by simp, fun i x hi => by simp at hi⟩, hx⟩
theorem combS_le {coef : List UInt8} {ps : List (List UInt8)} {M : Nat} (hp : ∀ p ∈ ps, p.length ≤ M) : (Gf.combS coef ps).length ≤ M := by
  cases h : Gf.combOk coef ps with
  | false => rw [Gf.combS_no h]; exact Nat.zero_le _
  | true =>
    rw [Gf.combS_ok h, Gf.combine, List.length_map, List.length_range]
    cases ps with
    | nil => exact Nat.zero_le _
    | cons p ps => exact hp p List.mem_cons_self
theorem combE_len {coef : List UInt8} {ps : List (List UInt8)} (h : Gf.combE coef ps = 0) : coef.length = ps.length := by
  cases h2 : Gf.combOk coef ps with
  | false => rw [Gf.combE_no h2] at h; cases h
  | true =>
    unfold Gf.combOk at h2
    simp only [Bool.and_eq_true, beq_iff_eq] at h2
    exact h2.1
set_option maxHeartbeats 4000000 in
set_option maxRecDepth 100000 in
theorem uCarry_any (fuel : Nat) (h : Su.Ha) (l : List (Int × Int)) (coef : List UInt8) (ps : List (List UInt8)) (v u : Value) (A B : Option Addr) (ca cb : Nat) (w : World) (hT : Tab w) (hv : RH w v h) (hu : RL w u l) (hA : Rd w A (coef.map bv)) (hB : Rd w B (ps.map fun p => .string (sb p)))
    (hcl : coef.length ≤ 140737488351232) (hp : ∀ p ∈ ps, p.length ≤ 140737488351232)
    (hterm : Su.valid h l = true → Gf.combE coef ps = 0 → ps.length = h.src.length → (∀ x ∈ l, ∃ V, Su.sumF h.src l coef ps (Gf.combS coef ps).length fuel x.1 = some V) ∧ ∃ V, Su.sumF h.src l coef ps (Gf.combS coef ps).length fuel h.tgt = some V) :
    Calls Tryd.prog 18 #[v, u, .slice A coef.length ca, .slice B ps.length cb] w fun e w' => CarryOut (Su.carry fuel h l coef ps) w e w' := by
  have hvv := hv
  obtain ⟨PA, SA, c, d, rfl, hG, hS, hl1, hl2, hb1, hb2⟩ := hv.open
  obtain ⟨LA, cL, rfl, hl3⟩ := hu.form
  have hx0 := ((((Ext.refl w).alloc (.cells #[.slice PA h.pr.length c, .slice SA h.src.length d, .int .i64 h.tgt] 25)).alloc (.cells #[.slice LA l.length cL] 26)).alloc (.cells #[.slice A coef.length ca] 44)).alloc (.cells #[.slice B ps.length cb] 45)
  have HX0 := Lib.hid hx0
  have HV := Lib.hid (RH.ext _ _ _ _ hx0 hvv)
  have HL := Lib.hid (RL.ext _ _ _ _ hx0 hu)
  have HSR := Lib.hid (Rs.ext RI.ext _ _ _ _ hx0 hS)
  have HA := Lib.hid (hA.ext hx0)
  have HB := Lib.hid (hB.ext hx0)
  have HT := Lib.hid (hT.ext hx0)
  have HTERM := Lib.hid hterm
  have HP := Lib.hid hp
  clear hv hvv hu hG hS hx0 hA hB hT hterm hp
  by_cases h0 : Su.check h = 0
  case neg =>
    have e1 : (Su.check h != 0) = true := by rw [bne_iff_ne]; exact h0
    have HC := Lib.hid (Su.carry_err (f := fuel) (l := l) (coef := coef) (ps := ps) h0)
    clear h0
    go_enter Tryd.func18, Tryd.ntmps18
    go_wp2_with fail
    refine (uCheck_any h _ _ HV.out).mono ?_
    rintro ee w1 ⟨rfl, hx1⟩
    have HX1 := Lib.hid (HX0.out.trans hx1)
    clear hx1
    go_wp2_with fail
    go_ret3
    exact carry_nil HC.out HX1.out
  case pos =>
  have e1 : (Su.check h != 0) = false := by rw [h0]; rfl
  cases hval : Su.valid h l with
  | false =>
    have HC := Lib.hid (And.intro (Su.carry_bad (f := fuel) (coef := coef) (ps := ps) h0 hval) hval)
    clear h0 hval
    go_enter Tryd.func18, Tryd.ntmps18
    go_wp2_with fail
    refine (uCheck_any h _ _ HV.out).mono ?_
    rintro ee w1 ⟨rfl, hx1⟩
    have d0 : w1.cell? ⟨w.heap.size, 0, none⟩ = some (.slice PA h.pr.length c) := hx1.cell (by go_simp)
    have d1 : w1.cell? ⟨w.heap.size, 1, none⟩ = some (.slice SA h.src.length d) := hx1.cell (by go_simp)
    have d2 : w1.cell? ⟨w.heap.size, 2, none⟩ = some (.int .i64 h.tgt) := hx1.cell (by go_simp)
    have d3 : w1.cell? ⟨w.heap.size + 1, 0, none⟩ = some (.slice LA l.length cL) := hx1.cell (by go_simp)
    have HX1 := Lib.hid hx1
    clear hx1
    go_wp2_with fail
    clear d0 d1 d2 d3
    refine (uValid_any h l _ _ _ (RH.ext _ _ _ _ HX1.out HV.out) (RL.ext _ _ _ _ HX1.out HL.out)).mono ?_
    rintro ee w2 ⟨rfl, hx2⟩
    rw [HC.out.2]
    have HX2 := Lib.hid ((HX0.out.trans HX1.out).trans hx2)
    clear hx2
    go_wp2_with fail
    go_ret3
    exact carry_nil HC.out.1 HX2.out
  | true =>
    have HVAL := Lib.hid hval
    clear h0 hval
    go_enter Tryd.func18, Tryd.ntmps18
    go_wp2_with fail
    refine (uCheck_any h _ _ HV.out).mono ?_
    rintro ee w1 ⟨rfl, hx1⟩
    have d0 : w1.cell? ⟨w.heap.size, 0, none⟩ = some (.slice PA h.pr.length c) := hx1.cell (by go_simp)
    have d1 : w1.cell? ⟨w.heap.size, 1, none⟩ = some (.slice SA h.src.length d) := hx1.cell (by go_simp)
    have d2 : w1.cell? ⟨w.heap.size, 2, none⟩ = some (.int .i64 h.tgt) := hx1.cell (by go_simp)
    have d3 : w1.cell? ⟨w.heap.size + 1, 0, none⟩ = some (.slice LA l.length cL) := hx1.cell (by go_simp)
    have HX1 := Lib.hid hx1
    clear hx1
    go_wp2_with fail
    clear d0 d1 d2 d3
    refine (uValid_any h l _ _ _ (RH.ext _ _ _ _ HX1.out HV.out) (RL.ext _ _ _ _ HX1.out HL.out)).mono ?_
    rintro ee w2 ⟨rfl, hx2⟩
    rw [HVAL.out]
    have hx2' := HX1.out.trans hx2
    have d4 : w2.cell? ⟨w.heap.size + 2, 0, none⟩ = some (.slice A coef.length ca) := hx2'.cell (by go_simp)
    have d5 : w2.cell? ⟨w.heap.size + 3, 0, none⟩ = some (.slice B ps.length cb) := hx2'.cell (by go_simp)
    have HX2 := Lib.hid hx2'
    clear hx2 hx2'
    go_wp2_with fail
    clear d4 d5
    refine (combine_any coef ps A B _ _ ca cb _ (HT.out.ext HX2.out) rfl rfl hcl HP.out (HA.out.ext HX2.out) (HB.out.ext HX2.out)).mono ?_
    rintro ee w3 ⟨rfl, hx3⟩
    have hx3' := HX2.out.trans hx3
    have q0 : w3.cell? ⟨w.heap.size, 1, none⟩ = some (.slice SA h.src.length d) := hx3'.cell (by go_simp)
    have q1 : w3.cell? ⟨w.heap.size + 3, 0, none⟩ = some (.slice B ps.length cb) := hx3'.cell (by go_simp)
    have HX3 := Lib.hid hx3'
    clear hx3 hx3'
    have q0' := ((Ext.refl w3).alloc (.cells #[.string (sb (Gf.combS coef ps))] 9)).cell q0
    have q1' := ((Ext.refl w3).alloc (.cells #[.string (sb (Gf.combS coef ps))] 9)).cell q1
    obtain ⟨E, hE⟩ : ∃ E, Gf.combE coef ps = E := ⟨_, rfl⟩
    have HE := Lib.hid hE
    rw [hE]
    clear hE
    by_cases hE0 : E = 0
    case neg =>
      have e2 : (E != 0) = true := by rw [bne_iff_ne]; exact hE0
      have HC := Lib.hid (Su.carry_arg (f := fuel) HVAL.out (.inl (by rw [HE.out]; exact hE0)))
      clear hE0
      go_wp2_with fail
      go_ret3
      exact carry_nil HC.out (HX0.out.trans (HX3.out.alloc _))
    case pos =>
    subst hE0
    by_cases hpl : ps.length = h.src.length
    case neg =>
      have e2 : ((ps.length : Int) != (h.src.length : Int)) = true := by rw [bne_iff_ne]; omega
      have HC := Lib.hid (Su.carry_arg (f := fuel) (coef := coef) HVAL.out (.inr hpl))
      clear hpl
      go_wp2_with fail
      go_ret3
      exact carry_nil HC.out (HX0.out.trans (HX3.out.alloc _))
    case pos =>
    have e2 : ((ps.length : Int) != (h.src.length : Int)) = false := by rw [hpl]; simp
    have hcarry := Su.carry_ok (f := fuel) (coef := coef) (ps := ps) HVAL.out (by rintro (z | z); exact z HE.out; exact z hpl)
    obtain ⟨hall, V0, hV0⟩ := HTERM.out HVAL.out HE.out hpl
    have hcl2 : h.src.length = coef.length := by rw [combE_len HE.out, hpl]
    have hWl := combS_le (coef := coef) HP.out
    have hl12 := Su.hops_few (Su.valid_iff.1 HVAL.out).2.1
    have hk12 := (Su.ok_of (Su.valid_iff.1 HVAL.out).1).few
    obtain ⟨WH, hWH⟩ : ∃ WH, Gf.combS coef ps = WH := ⟨_, rfl⟩
    rw [hWH] at hcarry hall hV0 hWl q0' q1' ⊢
    obtain ⟨FN, hFN⟩ : ∃ FN : Value, (Value.func (.func 37) #[] #[.pointer (some ⟨w3.heap.size, 0, none⟩), .pointer (some ⟨w.heap.size, 0, none⟩), .pointer (some ⟨w.heap.size + 2, 0, none⟩), .pointer (some ⟨w.heap.size + 3, 0, none⟩), .pointer (some ⟨w.heap.size + 1, 0, none⟩), .pointer (some ⟨w3.heap.size + 1, 0, none⟩)]) = FN := ⟨_, rfl⟩
    have hx4 : Ext w3 ((w3.alloc (.cells #[.string (sb WH)] 9)).alloc (.cells #[FN] 83)) := ((Ext.refl w3).alloc _).alloc _
    have hx04 := HX3.out.trans hx4
    have hcw : CW ((w3.alloc (.cells #[.string (sb WH)] 9)).alloc (.cells #[FN] 83)) w3.heap.size w.heap.size (w.heap.size + 2) (w.heap.size + 3) (w.heap.size + 1) (w3.heap.size + 1) h.src l coef ps WH := by
      refine ⟨HT.out.ext hx04, by go_simp, ⟨SA, d, hx04.cell (by go_simp), Rs.ext RI.ext _ _ _ _ hx04 HSR.out⟩, ⟨A, ca, hx04.cell (by go_simp), HA.out.ext hx04⟩, ⟨B, cb, hx04.cell (by go_simp), HB.out.ext hx04⟩, ⟨LA, cL, hx04.cell (by go_simp), RL.ext _ _ _ _ hx04 HL.out⟩, ?_⟩
      rw [hFN]
      go_simp
    have HCW := Lib.hid hcw
    have HX4 := Lib.hid hx04
    have HALL := Lib.hid (And.intro hall (And.intro hV0 hcarry))
    have HCL := Lib.hid (And.intro hcl2 (hpl.symm))
    have HWL := Lib.hid hWl
    have HO0 : Hid (Owns ((w3.alloc (.cells #[.string (sb WH)] 9)).alloc (.cells #[FN] 83)) ((w3.alloc (.cells #[.string (sb WH)] 9)).alloc (.cells #[FN] 83)) [⟨.slice none 0 0, 9, 1, 0, []⟩, no]) := Lib.hid (Owns.start _ (by intro r hr; simp [no] at hr; rcases hr with rfl | rfl <;> simp))
    have hE9 := @enters37
    have d3 : ((w3.alloc (.cells #[.string (sb WH)] 9)).alloc (.cells #[FN] 83)).cell? ⟨w.heap.size + 1, 0, none⟩ = some (.slice LA l.length cL) := hx04.cell (by go_simp)
    clear hx4 hx04 hcw hall hV0 hcarry hcl2 hWl hWH q0 q1
    subst hFN
    have hsf : ∀ (w : World) (a : Addr) (f : Fn) (cap : Array Value), (store a (.func f #[] cap)).run Tryd.prog w = stored Tryd.prog w a (.func f #[] cap) .plain := fun w a f cap => run_store _ w a _ _ rfl
    go_wp2_with fail
    clear hsf
    clear d3 q0' q1'
    obtain ⟨w4, hw4⟩ : ∃ w4, ((w3.alloc (.cells #[.string (sb WH)] 9)).alloc (.cells #[.func (.func 37) #[] #[.pointer (some ⟨w3.heap.size, 0, none⟩), .pointer (some ⟨w.heap.size, 0, none⟩), .pointer (some ⟨w.heap.size + 2, 0, none⟩), .pointer (some ⟨w.heap.size + 3, 0, none⟩), .pointer (some ⟨w.heap.size + 1, 0, none⟩), .pointer (some ⟨w3.heap.size + 1, 0, none⟩)]] 83)) = w4 := ⟨_, rfl⟩
    rw [hw4] at HCW HX4 HO0 ⊢
    clear hw4
    go_loopw [15, 46] (fun vo vi wr => ∃ (k : Nat) (A' : Option Addr) (c' : Nat), k ≤ l.length ∧ vi = .int .i64 k ∧ vo = .slice A' k c' ∧ Hid (Owns w4 wr [⟨.slice A' k c', 9, 1, k, ((l.take k).map fun x => (Su.sumF h.src l coef ps WH.length fuel x.1).getD []).map sv⟩, no])) (fun _ vi _ => l.length - (intOf vi).toNat)
    case atStart => exact ⟨0, none, 0, Nat.zero_le _, rfl, rfl, Lib.hid HO0.out⟩
    case round =>
      obtain ⟨k, A', c', hk, rfl, rfl, HI⟩ := hrel
      have hcw := HCW.out.ext HI.out.ext
      by_cases hlt : k < l.length
      · obtain ⟨ad, f, t, hLA, hft, k1, k2, kb, kb2⟩ := (RL.ext _ _ _ _ (HX4.out.trans HI.out.ext) HL.out).at hlt
        subst hLA
        have hmem : l.getD k (0, 0) ∈ l := by rw [getD_get hlt]; exact List.getElem_mem _
        obtain ⟨V, hV⟩ := HALL.out.1 _ hmem
        have htk := Su.take_snoc hlt
        rw [hft] at hV htk
        simp only at hV
        have hxx := (Ext.refl wr).alloc (.cells #[.int .i64 f, .int .i64 t] 65)
        have HCX := Lib.hid (hcw.ext hxx)
        have HXX := Lib.hid hxx
        have HV2 := Lib.hid (And.intro hV htk)
        have q14 := (hcw.ext hxx).p14
        clear hV htk hft hmem hxx hcw
        go_wp2_with fail
        refine (carry1_any _ _ _ _ _ _ h.src l coef ps WH HCL.out.1 HCL.out.2 HWL.out HP.out fuel f V _ HV2.out.1 HCX.out).mono ?_
        rintro ee w6 ⟨rfl, hx6⟩
        have HO6 := Lib.hid (HI.out.next (HXX.out.trans hx6))
        clear hx6 q14
        go_wp2_with (have hB := HO6.out.new 1 #[sv V] 9 (by simp [maxLen]); refine wpl_append_owns (u := sv V) 45 9 rfl (.tmp 50) (.tmp 55) rfl Tryd.underlying45 info_str rfl hB 0 rfl rfl rfl (hB.cell 1 rfl 0 rfl) rfl (by omega) (by decide) ?_; clear hB; intro g8 c8 w8 hO8 _)
        have HO8 := Lib.hid hO8
        clear hO8 k1 k2
        go_roundw
        case rel => exact ⟨k + 1, some ⟨g8, 0, none⟩, c8, by omega, by go_num, rfl, Lib.hid (by
          rw [HV2.out.2, List.map_append, List.map_append, List.map_singleton, List.map_singleton, HV2.out.1]
          exact HO8.out.drop 1)⟩
        case measure => simp [intOf]; omega
      · obtain rfl : k = l.length := by omega
        have q14 := hcw.p14
        have d2 : wr.cell? ⟨w.heap.size, 2, none⟩ = some (.int .i64 h.tgt) := (HX4.out.trans HI.out.ext).cell (by go_simp)
        have HCX := Lib.hid hcw
        clear hcw
        go_wp2_with fail
        refine (carry1_any _ _ _ _ _ _ h.src l coef ps WH HCL.out.1 HCL.out.2 HWL.out HP.out fuel h.tgt V0 _ HALL.out.2.1 HCX.out).mono ?_
        rintro ee w6 ⟨rfl, hx6⟩
        have hO6 := HI.out.next hx6
        rw [List.take_length] at hO6
        have hrs : Rs RS w6 (.slice A' l.length c') (l.map fun x => (Su.sumF h.src l coef ps WH.length fuel x.1).getD []) := Rs.of_rdS (hO6.rd 0 rfl) (by simp) (by rw [List.length_map]; omega)
        have HRS := Lib.hid hrs
        have HX6 := Lib.hid ((HX0.out.trans HX4.out).trans hO6.ext)
        clear hx6 hO6 hrs q14 d2
        go_wp2_with fail
        go_ret3
        refine ⟨A', l.length, c', ?_, ?_, HX6.out⟩
        · rw [HALL.out.2.2, HALL.out.2.1]; rfl
        · rw [HALL.out.2.2]; exact HRS.out
end Go.Proofs.YtenafgphaceidaaDoor

/- THE WALKS over the example and same of law 19. -/
namespace Go.Proofs.YtenafgphaceidaaDoor
open Go.RowKit
set_option maxHeartbeats 2000000 in
set_option maxRecDepth 100000 in
/-- Are two lists of hops equal? -/
theorem lSame_any (a b : List (Int × Int)) (v u : Value) (w : World) (ha : RL w v a) (hb : RL w u b) :
    Calls Tryd.prog 26 #[v, u] w fun e w' => e = .returned (.bool (decide (a = b))) ∧ Ext w w' := by
  obtain ⟨A, ca, rfl, h1⟩ := ha.form
  obtain ⟨B, cb, rfl, h2⟩ := hb.form
  have HA := Lib.hid ha
  have HB := Lib.hid hb
  clear ha hb
  by_cases hl : a.length = b.length
  · have e1 : ((a.length : Int) != (b.length : Int)) = false := by rw [hl]; simp
    have HL := Lib.hid hl
    clear hl
    go_enter Tryd.func26, Tryd.ntmps26
    go_wp2_with fail
    go_loopw [13] (fun vi wr => ∃ i : Nat, i ≤ a.length ∧ vi = .int .i64 i ∧ Hid (Ext w wr ∧ ∀ j, j < i → a.getD j (0, 0) = b.getD j (0, 0))) (fun vi _ => a.length - (intOf vi).toNat)
    case atStart => exact ⟨0, Nat.zero_le _, rfl, Lib.hid ⟨Ext.refl _, fun j hj => absurd hj (Nat.not_lt_zero j)⟩⟩
    case round =>
      obtain ⟨i, hi, rfl, HJ⟩ := hrel
      by_cases hlt : i < a.length
      · have hlt2 : i < b.length := by have := HL.out; omega
        obtain ⟨ad, f, t, hA, hft, k1, k2, _, _⟩ := HA.out.at hlt
        obtain ⟨bd, f', t', hB, hft', k1', k2', _, _⟩ := HB.out.at hlt2
        subst hA
        subst hB
        have HF := Lib.hid (And.intro hft hft')
        have q1 := HJ.out.1.cell k1
        have q2 := HJ.out.1.cell k2
        have q1' := HJ.out.1.cell k1'
        have q2' := HJ.out.1.cell k2'
        clear k1 k2 k1' k2'
        clear hft hft'
        by_cases hf : f = f'
        · have ef : (f == f') = true := by rw [hf]; simp
          by_cases ht : t = t'
          · have et : (t == t') = true := by rw [ht]; simp
            have HE := Lib.hid (show (f, t) = (f', t') by rw [hf, ht])
            clear hf ht
            go_wp2_with fail
            go_quiet (fail)
            go_wp2_with fail
            clear q1 q2 q1' q2'
            go_roundw
            case rel => exact ⟨i + 1, by omega, by go_num, Lib.hid ⟨HJ.out.1.drewN _, fun j hj => by
              by_cases hji : j = i
              · rw [hji, HF.out.1, HF.out.2]; exact HE.out
              · exact HJ.out.2 j (by omega)⟩⟩
            case measure => simp [intOf]; omega
          · have et : (t == t') = false := by rw [beq_eq_false_iff_ne]; exact ht
            have hd : decide (a = b) = false := decide_eq_false fun e => ht (by
              have h1 := HF.out.1
              rw [e, HF.out.2] at h1
              injection h1 with _ h1
              exact h1.symm)
            have HD := Lib.hid hd
            clear hf ht hd
            go_wp2_with fail
            go_quiet (fail)
            go_wp2_with fail
            go_ret
            exact ⟨ret_bool HD.out.symm, HJ.out.1.drewN _⟩
        · have ef : (f == f') = false := by rw [beq_eq_false_iff_ne]; exact hf
          have hd : decide (a = b) = false := decide_eq_false fun e => hf (by
            have h1 := HF.out.1
            rw [e, HF.out.2] at h1
            injection h1 with h1 _
            exact h1.symm)
          have HD := Lib.hid hd
          clear hf hd
          go_wp2_with fail
          go_quiet (fail)
          go_wp2_with fail
          go_ret
          exact ⟨ret_bool HD.out.symm, HJ.out.1.drewN _⟩
      · obtain rfl : i = a.length := by omega
        have hd : decide (a = b) = true := by
          rw [decide_eq_true_eq]
          apply List.ext_getElem HL.out
          intro j h1 h2
          have := HJ.out.2 j h1
          rwa [getD_get h1, getD_get h2] at this
        have HD := Lib.hid hd
        clear hd
        go_wp2_with fail
        go_ret
        exact ⟨ret_bool HD.out.symm, HJ.out.1⟩
  · have e1 : ((a.length : Int) != (b.length : Int)) = true := by rw [bne_iff_ne]; omega
    have hd : decide (a = b) = false := decide_eq_false fun e => hl (by rw [e])
    have HD := Lib.hid hd
    clear hd hl
    go_enter Tryd.func26, Tryd.ntmps26
    go_wp2_with fail
    go_ret
    exact ⟨ret_bool HD.out.symm, Ext.refl _⟩
end Go.Proofs.YtenafgphaceidaaDoor

/- Mul, Scale, Sum of the specification of layer 4; Has and SameTexts of that of layer 7. -/
namespace Go.Proofs.YtenafgphaceidaaDoor
open Go.RowKit
theorem rHas_any (l : List Int) (x : Int) (B : Option Addr) (n c : Nat) (w : World) (hB : Rs RI w (.slice B n c) l) :
    Calls Tryd.prog 27 #[.slice B n c, .int .i64 x] w fun e w' => e = .returned (.bool (decide (x ∈ l))) ∧ w = w' := by
  have hn := hB.len
  obtain ⟨_, _, e0, hl⟩ := hB.form
  have HB := Lib.hid hB
  have HN := Lib.hid hn
  have hl2 : n ≤ 9223372036854775807 := by omega
  clear hB hn e0 hl
  go_enter Tryd.func27, Tryd.ntmps27
  go_wp2_with fail
  go_loop [5] (fun vi => ∃ i : Nat, i ≤ n ∧ vi = .int .i64 i ∧ Hid (∀ j, j < i → l.getD j 0 ≠ x)) (fun vi => n - (intOf vi).toNat)
  case atStart => exact ⟨0, Nat.zero_le _, rfl, Lib.hid fun j hj => absurd hj (Nat.not_lt_zero j)⟩
  case round =>
    obtain ⟨i, hi, rfl, HJ⟩ := hrel
    by_cases hlt : i < n
    · have hll : i < l.length := by rw [← HN.out]; exact hlt
      obtain ⟨ad, u, rfl, hc, hu⟩ := HB.out.at hll
      obtain ⟨rfl, _, _⟩ := hu
      have hgd := getD_get (x := (0 : Int)) hll
      obtain ⟨y, hy⟩ : ∃ y, l[i] = y := ⟨_, rfl⟩
      rw [hy] at hc hgd
      have hm : y ∈ l := by rw [← hy]; exact List.getElem_mem hll
      have HM := Lib.hid (And.intro hgd hm)
      clear hgd hm hy
      by_cases h1 : y = x
      · have e1 : (y == x) = true := by rw [h1]; simp
        have hd : decide (x ∈ l) = true := by rw [decide_eq_true_eq, ← h1]; exact HM.out.2
        have HD := Lib.hid hd
        clear h1 hd
        go_wp2_with fail
        go_ret
        exact ⟨ret_bool HD.out.symm, rfl⟩
      · have e1 : (y == x) = false := by rw [beq_eq_false_iff_ne]; exact h1
        have H1 := Lib.hid h1
        clear h1
        go_wp2_with fail
        go_round
        case rel => exact ⟨i + 1, by omega, by go_num, Lib.hid fun j hj => by
          by_cases hji : j = i
          · rw [hji, HM.out.1]; exact H1.out
          · exact HJ.out j (by omega)⟩
        case measure => simp [intOf]; omega
    · obtain rfl : i = n := by omega
      have hd : decide (x ∈ l) = false := by
        rw [decide_eq_false_iff_not]
        intro hm
        obtain ⟨j, hj, he⟩ := List.getElem_of_mem hm
        have := HJ.out j (by rw [HN.out]; exact hj)
        rw [getD_get hj] at this
        exact this he
      have HD := Lib.hid hd
      clear hd
      go_wp2_with fail
      go_ret
      exact ⟨ret_bool HD.out.symm, rfl⟩



theorem toList_sb (l : List UInt8) : (sb l).toList = l := by rw [ByteArray.toList_eq]; rfl
theorem sb_same {e p : List UInt8} (h : e = p) : (!(sb e).toList == (sb p).toList) = false := by subst h; simp
theorem sb_other {e p : List UInt8} (h : e ≠ p) : (!(sb e).toList == (sb p).toList) = true := by rw [toList_sb, toList_sb]; simp [h]


theorem decide_ne {α : Type} [DecidableEq α] {a b : α} (h : a ≠ b) : false = decide (a = b) := by simp [h]
theorem rSameTexts_any (ra rb : List (List UInt8)) (VA VB : Value) (w : World) (hA : Rs RS w VA ra) (hB : Rs RS w VB rb) :
    Calls Tryd.prog 20 #[VA, VB] w fun e w' => e = .returned (.bool (decide (ra = rb))) ∧ Ext w w' := by
  obtain ⟨A, ca, rfl, hla⟩ := hA.form
  obtain ⟨B, cb, rfl, hlb⟩ := hB.form
  have HA := Lib.hid hA
  have HB := Lib.hid hB
  clear hA hB
  by_cases hl : ra.length = rb.length
  · have e0 : ((ra.length : Int) != (rb.length : Int)) = false := by rw [hl]; simp
    have HL := Lib.hid hl
    clear hl
    go_enter Tryd.func20, Tryd.ntmps20
    go_wp2_with fail
    go_loopw [5] (fun vi wr => ∃ i : Nat, i ≤ ra.length ∧ vi = .int .i64 i ∧ Hid (Ext w wr ∧ ∀ j, j < i → ra.getD j [] = rb.getD j [])) (fun vi _ => ra.length - (intOf vi).toNat)
    case atStart => exact ⟨0, Nat.zero_le _, rfl, Lib.hid (And.intro (Ext.refl _) fun j hj => absurd hj (Nat.not_lt_zero j))⟩
    case round =>
      obtain ⟨i, hi, rfl, HI⟩ := hrel
      by_cases hlt : i < ra.length
      · have hlt2 : i < rb.length := by rw [← HL.out]; exact hlt
        obtain ⟨ad, u, rfl, hc, hu⟩ := (Rs.ext RS.ext _ _ _ _ HI.out.1 HA.out).at hlt
        obtain ⟨bd, u2, rfl, hc2, hu2⟩ := (Rs.ext RS.ext _ _ _ _ HI.out.1 HB.out).at hlt2
        unfold RS at hu hu2
        subst hu hu2
        have hga := getD_get (x := ([] : List UInt8)) hlt
        have hgb := getD_get (x := ([] : List UInt8)) hlt2
        obtain ⟨p, hp⟩ : ∃ p, ra[i] = p := ⟨_, rfl⟩
        obtain ⟨q, hq⟩ : ∃ q, rb[i] = q := ⟨_, rfl⟩
        rw [hp] at hga hc
        rw [hq] at hgb hc2
        have HG := Lib.hid (And.intro hga hgb)
        clear hga hgb hp hq
        by_cases he : p = q
        · have h1 := sb_same he
          have HE := Lib.hid he
          clear he
          go_wp2_with fail
          go_quiet (fail)
          go_wp2_with fail
          go_roundw
          case rel => exact ⟨i + 1, by omega, by go_num, Lib.hid (And.intro (by first | exact HI.out.1.drewN _ | exact HI.out.1) fun j hj => by
            by_cases hji : j = i
            · rw [hji, HG.out.1, HG.out.2, HE.out]
            · exact HI.out.2 j (by omega))⟩
          case measure => simp [intOf]; omega
        · have h1 := sb_other he
          have HE := Lib.hid he
          clear he
          go_wp2_with fail
          go_quiet (fail)
          go_wp2_with fail
          go_ret
          refine ⟨ret_bool (decide_ne fun h => HE.out ?_), by first | exact HI.out.1.drewN _ | exact HI.out.1⟩
          rw [← HG.out.1, ← HG.out.2, h]
      · obtain rfl : i = ra.length := by omega
        go_wp2_with fail
        go_ret
        refine ⟨ret_bool ?_, HI.out.1⟩
        have : ra = rb := by
          apply List.ext_getElem HL.out
          intro j h1 h2
          have := HI.out.2 j h1
          rwa [getD_get h1, getD_get h2] at this
        simp [this]
  · have e0 : ((ra.length : Int) != (rb.length : Int)) = true := by rw [bne_iff_ne]; omega
    have HL := Lib.hid hl
    clear hl
    go_enter Tryd.func20, Tryd.ntmps20
    go_wp2_with fail
    go_ret
    exact ⟨ret_bool (decide_ne fun h => HL.out (by rw [h])), Ext.refl _⟩


end Go.Proofs.YtenafgphaceidaaDoor

/- THE WALKS over the specification of layer 19: next, Few. -/
namespace Su
theorem next_drop : ∀ (l : List (Int × Int)) (a : Int) (i : Nat), (∀ j, j < i → (l.getD j (0, 0)).1 ≠ a) → i ≤ l.length → nextOf l a = nextOf (l.drop i) a
  | _, _, 0, _, _ => rfl
  | [], _, i + 1, _, h => by simp at h
  | x :: l, a, i + 1, h, hi => by
    have h0 : ¬ x.1 = a := by have := h 0 (Nat.succ_pos _); simpa using this
    rw [nextOf, if_neg h0, List.drop_succ_cons]
    exact next_drop l a i (fun j hj => by have := h (j + 1) (by omega); simpa using this) (by simpa using hi)
end Su
namespace Go.Proofs.YtenafgphaceidaaDoor
open Go.RowKit
set_option maxRecDepth 100000 in
theorem qNext_any (l : List (Int × Int)) (a : Int) (v : Value) (w : World) (hv : RL w v l) :
    Calls Tryd.prog 46 #[v, .int .i64 a] w fun e w' => e = .returned (.int .i64 ((Su.nextOf l a).getD (-1))) ∧ w = w' := by
  obtain ⟨A, c, rfl, hl⟩ := hv.form
  have HV := Lib.hid hv
  clear hv
  go_enter Tryd.func46, Tryd.ntmps46
  go_wp2_with fail
  go_loop [5] (fun vi => ∃ i : Nat, i ≤ l.length ∧ vi = .int .i64 i ∧ Hid (∀ j, j < i → (l.getD j (0, 0)).1 ≠ a)) (fun vi => l.length - (intOf vi).toNat)
  case atStart => exact ⟨0, Nat.zero_le _, rfl, Lib.hid fun j hj => absurd hj (Nat.not_lt_zero j)⟩
  case round =>
    obtain ⟨i, hi, rfl, HJ⟩ := hrel
    by_cases hlt : i < l.length
    · obtain ⟨ad, f, t, rfl, hft, k1, k2, _, _⟩ := HV.out.at hlt
      have HF := Lib.hid hft
      have hgd := getD_get (x := ((0 : Int), (0 : Int))) hlt
      rw [hft] at hgd
      by_cases hfa : f = a
      · have e1 : (f == a) = true := by rw [hfa]; simp
        have hn : Su.nextOf l a = some t := by
          rw [Su.next_drop l a i HJ.out hi, List.drop_eq_getElem_cons hlt, ← hgd, Su.nextOf, if_pos hfa]
        have HN := Lib.hid hn
        clear hn hfa hft hgd
        go_wp2_with fail
        go_ret
        exact ⟨ret_int (by rw [HN.out]; rfl), rfl⟩
      · have e1 : (f == a) = false := by rw [beq_eq_false_iff_ne]; exact hfa
        have HN := Lib.hid hfa
        clear hfa hft hgd
        go_wp2_with fail
        go_round
        case rel => exact ⟨i + 1, by omega, by go_num, Lib.hid fun j hj => by
          by_cases hji : j = i
          · rw [hji, HF.out]; exact HN.out
          · exact HJ.out j (by omega)⟩
        case measure => simp [intOf]; omega
    · obtain rfl : i = l.length := by omega
      have hn : Su.nextOf l a = none := by
        rw [Su.next_drop l a l.length HJ.out (Nat.le_refl _), List.drop_length]
        rfl
      have HN := Lib.hid hn
      clear hn
      go_wp2_with fail
      go_ret
      exact ⟨ret_int (by rw [HN.out]; rfl), rfl⟩
/-- What Few says of a haul. -/
def FewH (h : Su.Ha) (n m : Nat) (w : World) (e : Ending) (w' : World) : Prop := ∃ b, e = .returned (.bool b) ∧ (b = true → h.pr.length ≤ n ∧ h.src.length ≤ m ∧ ∀ r ∈ h.pr, r.length ≤ n) ∧ Ext w w'
set_option maxHeartbeats 2000000 in
set_option maxRecDepth 100000 in
theorem qFew_any (h : Su.Ha) (n m : Nat) (hn : n ≤ 100) (v : Value) (w : World) (hv : RH w v h) :
    Calls Tryd.prog 8 #[v, .int .i64 n, .int .i64 m] w fun e w' => FewH h n m w e w' := by
  obtain ⟨A, B, c, d, rfl, hG, hS, hl1, hl2, hb1, hb2⟩ := hv.open
  have hx0 := (Ext.refl w).alloc (.cells #[.slice A h.pr.length c, .slice B h.src.length d, .int .i64 h.tgt] 25)
  have HX0 := Lib.hid hx0
  have HG := Lib.hid (Rs.ext (Rs.ext RI.ext) _ _ _ _ hx0 hG)
  clear hv hG hS hx0
  by_cases h1 : n < h.pr.length
  · go_enter Tryd.func8, Tryd.ntmps8
    go_wp2_with fail
    go_ret
    exact ⟨false, rfl, (fun e => by cases e), HX0.out⟩
  · by_cases h2 : m < h.src.length
    · go_enter Tryd.func8, Tryd.ntmps8
      go_wp2_with fail
      go_ret
      exact ⟨false, rfl, (fun e => by cases e), HX0.out⟩
    · go_enter Tryd.func8, Tryd.ntmps8
      go_wp2_with fail
      go_loop [7] (fun vi => ∃ i : Nat, i ≤ h.pr.length ∧ vi = .int .i64 i ∧ Hid (∀ j r, j < i → h.pr[j]? = some r → r.length ≤ n)) (fun vi => h.pr.length - (intOf vi).toNat)
      case atStart => exact ⟨0, Nat.zero_le _, rfl, Lib.hid fun j _ hj => absurd hj (Nat.not_lt_zero j)⟩
      case round =>
        obtain ⟨i, hi, rfl, HJ⟩ := hrel
        by_cases hlt : i < h.pr.length
        · obtain ⟨ad, u, rfl, hcell, hu⟩ := HG.out.at hlt
          have hrow : h.pr[i]? = some h.pr[i] := List.getElem?_eq_getElem hlt
          obtain ⟨r, hr⟩ : ∃ r, h.pr[i] = r := ⟨_, rfl⟩
          rw [hr] at hu hrow
          obtain ⟨A2, c2, rfl, hl3⟩ := hu.form
          have HROW := Lib.hid hrow
          clear hrow hr hu
          by_cases hb : n < r.length
          · go_wp2_with fail
            go_ret
            exact ⟨false, rfl, (fun e => by cases e), HX0.out⟩
          · have HB := Lib.hid (show r.length ≤ n by omega)
            go_wp2_with fail
            go_round
            case rel => exact ⟨i + 1, by omega, by go_num, Lib.hid fun j r' hj hr' => by
              by_cases hji : j = i
              · rw [hji, HROW.out] at hr'
                injection hr' with hr'
                rw [← hr']
                exact HB.out
              · exact HJ.out j r' (by omega) hr'⟩
            case measure => simp [intOf]; omega
        · obtain rfl : i = h.pr.length := by omega
          have hall : h.pr.length ≤ n ∧ h.src.length ≤ m ∧ ∀ r ∈ h.pr, r.length ≤ n := ⟨by omega, by omega, fun r hr => by
            obtain ⟨j, hj, rfl⟩ := List.getElem_of_mem hr
            exact HJ.out j _ hj (List.getElem?_eq_getElem hj)⟩
          have HALL := Lib.hid hall
          clear hall
          go_wp2_with fail
          go_ret
          exact ⟨true, rfl, fun _ => HALL.out, HX0.out⟩
end Go.Proofs.YtenafgphaceidaaDoor

/- THE WALK over Check of the specification of layer 19. -/
namespace Su
/-- How many of the first houses are in a list. -/
def cntTo (l : List Int) : Nat → Nat
  | 0 => 0
  | k + 1 => cntTo l k + if (k : Int) ∈ l then 1 else 0
theorem cntTo_yes {l : List Int} {k : Nat} (h : (k : Int) ∈ l) : cntTo l (k + 1) = cntTo l k + 1 := by rw [cntTo, if_pos h]
theorem cntTo_no {l : List Int} {k : Nat} (h : (k : Int) ∉ l) : cntTo l (k + 1) = cntTo l k := by rw [cntTo, if_neg h]; rfl
theorem cntTo_erase (l : List Int) (n : Nat) : ∀ k, k ≤ n → cntTo (l.erase (n : Int)) k = cntTo l k
  | 0, _ => rfl
  | k + 1, hk => by
    rw [cntTo, cntTo, cntTo_erase l n k (by omega)]
    have : (k : Int) ∈ l.erase (n : Int) ↔ (k : Int) ∈ l := List.mem_erase_of_ne (by omega)
    simp only [this]
theorem cntTo_all : ∀ (n : Nat) (l : List Int), l.Nodup → (∀ x ∈ l, 0 ≤ x ∧ x < (n : Int)) → cntTo l n = l.length
  | 0, l, _, h => by
    cases l with
    | nil => rfl
    | cons x l => have := h x List.mem_cons_self; omega
  | n + 1, l, hd, h => by
    have h1 := cntTo_all n (l.erase (n : Int)) (hd.erase _) fun x hx => by
      have h2 := (hd.mem_erase_iff).1 hx
      have := h x h2.2
      have := h2.1
      omega
    rw [cntTo_erase l n n (Nat.le_refl _)] at h1
    by_cases hm : (n : Int) ∈ l
    · rw [List.length_erase_of_mem hm] at h1
      have := List.length_pos_of_mem hm
      rw [cntTo_yes hm]; omega
    · rw [List.erase_of_not_mem hm] at h1
      rw [cntTo_no hm]; omega
end Su
namespace Go.Proofs.YtenafgphaceidaaDoor
open Go.RowKit
set_option maxHeartbeats 4000000 in
set_option maxRecDepth 100000 in
theorem qCheck_any (h : Su.Ha) (v : Value) (w : World) (hv : RH w v h) :
    Calls Tryd.prog 10 #[v] w fun e w' => e = .returned (.int .i64 (Su.check h)) ∧ Ext w w' := by
  obtain ⟨A, B, c, d, rfl, hG, hS, hl1, hl2, hb1, hb2⟩ := hv.open
  have hx0 := (Ext.refl w).alloc (.cells #[.slice A h.pr.length c, .slice B h.src.length d, .int .i64 h.tgt] 25)
  have HX0 := Lib.hid hx0
  have HG := Lib.hid (Rs.ext (Rs.ext RI.ext) _ _ _ _ hx0 hG)
  have HS := Lib.hid (Rs.ext RI.ext _ _ _ _ hx0 hS)
  clear hv hG hS hx0
  obtain ⟨n, hn⟩ : ∃ n, h.pr.length = n := ⟨_, rfl⟩
  rw [hn] at HX0 HG HS hl1 ⊢
  by_cases h0 : n < 1 ∨ 12 < n
  · have hc : Su.check h = 2 := Su.check_many (by rw [hn]; exact h0)
    have HC := Lib.hid hc
    clear hc
    by_cases h1 : n < 1
    · clear h0
      go_enter Tryd.func10, Tryd.ntmps10
      go_wp2_with fail
      go_ret
      exact ⟨ret_int HC.out.symm, HX0.out⟩
    · have h2 : 12 < n := by omega
      clear h0
      go_enter Tryd.func10, Tryd.ntmps10
      go_wp2_with fail
      go_ret
      exact ⟨ret_int HC.out.symm, HX0.out⟩
  · have h1 : ¬ n < 1 := by omega
    have h2 : ¬ 12 < n := by omega
    have H0 := Lib.hid (And.intro hn h0)
    clear h0 hn
    go_enter Tryd.func10, Tryd.ntmps10
    go_wp2_with fail
    go_loop [4] (fun vi => ∃ i : Nat, i ≤ n ∧ vi = .int .i64 i ∧ Hid (∀ j r, j < i → h.pr[j]? = some r → ¬ Su.badRow n r)) (fun vi => n - (intOf vi).toNat)
    case atStart => exact ⟨0, Nat.zero_le _, rfl, Lib.hid fun j _ hj => absurd hj (Nat.not_lt_zero j)⟩
    case round =>
      obtain ⟨i, hi, rfl, HJ⟩ := hrel
      by_cases hlt : i < n
      · have hll : i < h.pr.length := by rw [H0.out.1]; exact hlt
        obtain ⟨ad, u, rfl, hcell, hu⟩ := HG.out.at hll
        have hrow : h.pr[i]? = some h.pr[i] := List.getElem?_eq_getElem hll
        have hmem : h.pr[i] ∈ h.pr := List.getElem_mem hll
        obtain ⟨r, hr⟩ : ∃ r, h.pr[i] = r := ⟨_, rfl⟩
        rw [hr] at hu hrow hmem
        obtain ⟨A2, c2, rfl, hl3⟩ := hu.form
        obtain ⟨m, hm⟩ : ∃ m, r.length = m := ⟨_, rfl⟩
        rw [hm] at hcell hu hl3
        have HU := Lib.hid (And.intro hu (And.intro hm (And.intro hrow hmem)))
        clear hu hrow hmem hr hm
        by_cases hb1 : m = n
        · subst hb1
          go_wp2_with fail
          go_loop [5] (fun vi => ∃ j : Nat, j ≤ m ∧ vi = .int .i64 j ∧ Hid (∀ k x, k < j → r[k]? = some x → -1 ≤ x ∧ x ≤ 1000000)) (fun vi => m - (intOf vi).toNat)
          case atStart => exact ⟨0, Nat.zero_le _, rfl, Lib.hid fun j _ hj => absurd hj (Nat.not_lt_zero j)⟩
          case round =>
            obtain ⟨j, hj, rfl, HK⟩ := hrel
            by_cases hjl : j < m
            · have hjr : j < r.length := by rw [HU.out.2.1]; exact hjl
              obtain ⟨ad2, u2, rfl, hc2, hu2⟩ := HU.out.1.at hjr
              obtain ⟨rfl, _, _⟩ := hu2
              have hxe : r[j]? = some r[j] := List.getElem?_eq_getElem hjr
              have hxm : r[j] ∈ r := List.getElem_mem hjr
              obtain ⟨x, hx⟩ : ∃ x, r[j] = x := ⟨_, rfl⟩
              rw [hx] at hc2 hxe hxm
              have HXE := Lib.hid (And.intro hxe hxm)
              clear hx hxe hxm
              by_cases hz1 : x < -1
              · have hc : Su.check h = 1 := Su.check_row (by rw [H0.out.1]; exact H0.out.2) HU.out.2.2.2 (.inr ⟨x, HXE.out.2, .inl hz1⟩)
                have HC := Lib.hid hc
                clear hc
                go_wp2_with fail
                go_ret
                exact ⟨ret_int HC.out.symm, HX0.out⟩
              · by_cases hz2 : 1000000 < x
                · have hc : Su.check h = 1 := Su.check_row (by rw [H0.out.1]; exact H0.out.2) HU.out.2.2.2 (.inr ⟨x, HXE.out.2, .inr hz2⟩)
                  have HC := Lib.hid hc
                  clear hc
                  go_wp2_with fail
                  go_ret
                  exact ⟨ret_int HC.out.symm, HX0.out⟩
                · go_wp2_with fail
                  go_round
                  case rel => exact ⟨j + 1, by omega, by go_num, Lib.hid fun k y hk hy => by
                    by_cases hkj : k = j
                    · rw [hkj, HXE.out.1] at hy
                      injection hy with hy
                      omega
                    · exact HK.out k y (by omega) hy⟩
                  case measure => simp [intOf]; omega
            · obtain rfl : j = m := by omega
              have hgood : ¬ Su.badRow j r := by
                rintro (hq | ⟨x, hx, hq⟩)
                · exact hq HU.out.2.1
                · obtain ⟨k, hk, rfl⟩ := List.getElem_of_mem hx
                  have := HK.out k _ (by rw [← HU.out.2.1]; exact hk) (List.getElem?_eq_getElem hk)
                  omega
              have HGD := Lib.hid hgood
              clear hgood
              go_wp2_with fail
              go_round
              case rel => exact ⟨i + 1, by omega, by go_num, Lib.hid fun j' r' hj hr' => by
                by_cases hji : j' = i
                · rw [hji, HU.out.2.2.1] at hr'
                  injection hr' with hr'
                  rw [← hr']
                  exact HGD.out
                · exact HJ.out j' r' (by omega) hr'⟩
              case measure => simp [intOf]; omega
        · have e1 : ((m : Int) != (n : Int)) = true := by rw [bne_iff_ne]; omega
          have hc : Su.check h = 1 := Su.check_row (by rw [H0.out.1]; exact H0.out.2) HU.out.2.2.2 (.inl (by rw [HU.out.2.1, H0.out.1]; exact hb1))
          have HC := Lib.hid hc
          clear hc
          go_wp2_with fail
          go_ret
          exact ⟨ret_int HC.out.symm, HX0.out⟩
      · obtain rfl : i = n := by omega
        have hrows : ∀ r ∈ h.pr, ¬ Su.badRow h.pr.length r := fun r hr => by
          obtain ⟨j, hj, rfl⟩ := List.getElem_of_mem hr
          rw [H0.out.1]
          exact HJ.out j _ (by rw [← H0.out.1]; exact hj) (List.getElem?_eq_getElem hj)
        have HR := Lib.hid hrows
        clear hrows
        by_cases ho : Su.out i h.tgt
        · have hc : Su.check h = 1 := Su.check_src (by rw [H0.out.1]; exact H0.out.2) HR.out (.inl (by rw [H0.out.1]; exact ho))
          have HC := Lib.hid hc
          clear hc
          unfold Su.out at ho
          by_cases ho1 : h.tgt < 0
          · clear ho
            go_wp2_with fail
            go_ret
            exact ⟨ret_int HC.out.symm, HX0.out⟩
          · have ho2 : (i : Int) ≤ h.tgt := by omega
            clear ho
            go_wp2_with fail
            go_ret
            exact ⟨ret_int HC.out.symm, HX0.out⟩
        · have HOT := Lib.hid ho
          unfold Su.out at ho
          have ho1 : ¬ h.tgt < 0 := by omega
          have ho2 : ¬ (i : Int) ≤ h.tgt := by omega
          clear ho
          go_wp2_with fail
          go_loop [6] (fun vi => ∃ k : Nat, k ≤ h.src.length ∧ vi = .int .i64 k ∧ Hid (∀ j x, j < k → h.src[j]? = some x → ¬ Su.out i x)) (fun vi => h.src.length - (intOf vi).toNat)
          case atStart => exact ⟨0, Nat.zero_le _, rfl, Lib.hid fun j _ hj => absurd hj (Nat.not_lt_zero j)⟩
          case round =>
            obtain ⟨k, hk, rfl, HK⟩ := hrel
            by_cases hkl : k < h.src.length
            · obtain ⟨ad2, u2, rfl, hc2, hu2⟩ := HS.out.at hkl
              obtain ⟨rfl, _, _⟩ := hu2
              have hxe : h.src[k]? = some h.src[k] := List.getElem?_eq_getElem hkl
              have hxm : h.src[k] ∈ h.src := List.getElem_mem hkl
              obtain ⟨x, hx⟩ : ∃ x, h.src[k] = x := ⟨_, rfl⟩
              rw [hx] at hc2 hxe hxm
              have HXE := Lib.hid (And.intro hxe hxm)
              clear hx hxe hxm
              by_cases ho : Su.out i x
              · have hc : Su.check h = 1 := Su.check_src (by rw [H0.out.1]; exact H0.out.2) HR.out (.inr ⟨x, HXE.out.2, by rw [H0.out.1]; exact ho⟩)
                have HC := Lib.hid hc
                clear hc
                unfold Su.out at ho
                by_cases hx1 : x < 0
                · clear ho
                  go_wp2_with fail
                  go_ret
                  exact ⟨ret_int HC.out.symm, HX0.out⟩
                · have hx2 : (i : Int) ≤ x := by omega
                  clear ho
                  go_wp2_with fail
                  go_ret
                  exact ⟨ret_int HC.out.symm, HX0.out⟩
              · have HXO := Lib.hid ho
                unfold Su.out at ho
                have hx1 : ¬ x < 0 := by omega
                have hx2 : ¬ (i : Int) ≤ x := by omega
                clear ho
                go_wp2_with fail
                go_round
                case rel => exact ⟨k + 1, by omega, by go_num, Lib.hid fun j y hj hy => by
                  by_cases hjk : j = k
                  · rw [hjk, HXE.out.1] at hy
                    injection hy with hy
                    rw [← hy]
                    exact HXO.out
                  · exact HK.out j y (by omega) hy⟩
                case measure => simp [intOf]; omega
            · obtain rfl : k = h.src.length := by omega
              have hin : ∀ a ∈ h.src, 0 ≤ a ∧ a < (i : Int) := fun a ha => by
                obtain ⟨j, hj, rfl⟩ := List.getElem_of_mem ha
                have : ¬ Su.out i _ := HK.out j _ hj (List.getElem?_eq_getElem hj)
                unfold Su.out at this
                omega
              have hc : Su.check h = if 8 < (Su.senders h).length then 2 else 0 := Su.check_send (by rw [H0.out.1]; exact H0.out.2) HR.out (by
                rw [H0.out.1]
                rintro (hq | ⟨a, ha, hq⟩)
                · exact HOT.out hq
                · have := hin a ha
                  unfold Su.out at hq
                  omega)
              have hcn : Su.cntTo (Su.senders h) i = (Su.senders h).length := Su.cntTo_all i _ (by rw [Su.senders_def]; exact Su.sendTo_nodup _ _ _) (fun x hx => hin x ((Su.senders_mem h x).1 hx).2)
              have HC := Lib.hid (And.intro hc hcn)
              clear hc hcn hin
              go_wp2_with fail
              go_loop [7, 8] (fun vm va => ∃ j : Nat, j ≤ i ∧ va = .int .i64 j ∧ ∃ m : Nat, m ≤ j ∧ vm = .int .i64 m ∧ Hid (m = Su.cntTo (Su.senders h) j)) (fun _ va => i - (intOf va).toNat)
              case atStart => exact ⟨0, Nat.zero_le _, rfl, 0, Nat.le_refl _, rfl, Lib.hid rfl⟩
              case round =>
                obtain ⟨j, hj, rfl, m, hmj, rfl, HM⟩ := hrel
                by_cases hji : j < i
                · by_cases hs : (j : Int) ∈ h.src
                  · by_cases ht : (j : Int) = h.tgt
                    · have e1 : ((j : Int) != h.tgt) = false := by rw [ht]; simp
                      have hno := Su.cntTo_no (l := Su.senders h) (k := j) (by rw [Su.senders_mem]; exact fun e => e.1 ht)
                      have HN := Lib.hid (And.intro hno (decide_eq_true hs))
                      clear hno hs ht
                      go_wp2_with fail
                      refine (rHas_any h.src j _ _ _ _ HS.out).mono ?_
                      rintro e w1 ⟨rfl, rfl⟩
                      rw [HN.out.2]
                      go_wp2_with fail
                      go_round
                      case rel => exact ⟨j + 1, by omega, by go_num, m, by omega, rfl, Lib.hid (by rw [HN.out.1]; exact HM.out)⟩
                      case measure => simp [intOf]; omega
                    · have e1 : ((j : Int) != h.tgt) = true := by rw [bne_iff_ne]; exact ht
                      have hno := Su.cntTo_yes (l := Su.senders h) (k := j) (by rw [Su.senders_mem]; exact ⟨ht, hs⟩)
                      have HN := Lib.hid (And.intro hno (decide_eq_true hs))
                      clear hno hs ht
                      go_wp2_with fail
                      refine (rHas_any h.src j _ _ _ _ HS.out).mono ?_
                      rintro e w1 ⟨rfl, rfl⟩
                      rw [HN.out.2]
                      go_wp2_with fail
                      go_round
                      case rel => exact ⟨j + 1, by omega, by go_num, m + 1, by omega, by go_num, Lib.hid (by rw [HN.out.1, ← HM.out])⟩
                      case measure => simp [intOf]; omega
                  · have hno := Su.cntTo_no (l := Su.senders h) (k := j) (by rw [Su.senders_mem]; exact fun e => hs e.2)
                    have HN := Lib.hid (And.intro hno (decide_eq_false hs))
                    clear hno hs
                    go_wp2_with fail
                    refine (rHas_any h.src j _ _ _ _ HS.out).mono ?_
                    rintro e w1 ⟨rfl, rfl⟩
                    rw [HN.out.2]
                    go_wp2_with fail
                    go_round
                    case rel => exact ⟨j + 1, by omega, by go_num, m, by omega, rfl, Lib.hid (by rw [HN.out.1]; exact HM.out)⟩
                    case measure => simp [intOf]; omega
                · obtain rfl : j = i := by omega
                  have hm := HM.out.trans HC.out.2
                  by_cases h8 : 8 < m
                  · have hr : Su.check h = 2 := by rw [HC.out.1, ← hm, if_pos h8]
                    have HR2 := Lib.hid hr
                    clear hr hm
                    go_wp2_with fail
                    go_ret
                    exact ⟨ret_int HR2.out.symm, HX0.out⟩
                  · have hr : Su.check h = 0 := by rw [HC.out.1, ← hm, if_neg h8]
                    have HR2 := Lib.hid hr
                    clear hr hm
                    go_wp2_with fail
                    go_ret
                    exact ⟨ret_int HR2.out.symm, HX0.out⟩
end Go.Proofs.YtenafgphaceidaaDoor

/- THE WALKS over Valid of the specification of layer 19. -/
namespace Su
theorem next_mem {h : Ha} {l : List (Int × Int)} (ho : hopsOk h l) {x : Int × Int} (hx : x ∈ l) : nextOf l x.1 = some x.2 := by
  obtain ⟨k, hk, e⟩ := mem_at hx
  have hr := rise k hk (fun j hj => ho j (by omega))
  have hd := next_drop l x.1 k (fun j hj => by have := hr j hj; rw [e] at this; omega) (by omega)
  have e2 : l[k] = x := by rw [← e, List.getD_eq_getElem?_getD, List.getElem?_eq_getElem hk]; rfl
  rw [hd, List.drop_eq_getElem_cons hk, e2, nextOf, if_pos rfl]
theorem go_stay {l : List (Int × Int)} {a : Int} (hn : nextOf l a = none) : ∀ n, go l n a = a
  | 0 => rfl
  | n + 1 => by rw [go, go_stay hn n, hn]; rfl
theorem go_add (l : List (Int × Int)) (a : Int) (m : Nat) : ∀ n, go l (n + m) a = go l n (go l m a)
  | 0 => by rw [Nat.zero_add]; rfl
  | n + 1 => by rw [show n + 1 + m = (n + m) + 1 by omega, go, go, go_add l a m n]
theorem next_tgt {h : Ha} {l : List (Int × Int)} (ho : hopsOk h l) : nextOf l h.tgt = none := by
  cases hn : nextOf l h.tgt with
  | none => rfl
  | some b => exact absurd rfl (next_in ho hn).2.2.2.1
/-- Must a house send, by the first k hops? -/
def mustTo (b : Bool) (l : List (Int × Int)) (a : Int) : Nat → Bool
  | 0 => b
  | k + 1 => mustTo b l a k || decide ((l.getD k (0, 0)).2 = a)
theorem mustTo_true {b : Bool} {l : List (Int × Int)} {a : Int} {k : Nat} (h : mustTo b l a k = true) : mustTo b l a (k + 1) = true := by rw [mustTo, h]; rfl
theorem mustTo_yes {b : Bool} {l : List (Int × Int)} {a : Int} {k : Nat} (h : (l.getD k (0, 0)).2 = a) : mustTo b l a (k + 1) = true := by rw [mustTo, decide_eq_true h]; simp
theorem mustTo_no {b : Bool} {l : List (Int × Int)} {a : Int} {k : Nat} (h : mustTo b l a k = false) (h2 : ¬ (l.getD k (0, 0)).2 = a) : mustTo b l a (k + 1) = false := by rw [mustTo, h, decide_eq_false h2]; rfl
theorem mustTo_iff {b : Bool} {l : List (Int × Int)} {a : Int} : ∀ k, mustTo b l a k = true ↔ b = true ∨ ∃ j, j < k ∧ (l.getD j (0, 0)).2 = a
  | 0 => by simp [mustTo]
  | k + 1 => by
    rw [mustTo, Bool.or_eq_true, mustTo_iff k, decide_eq_true_iff]
    constructor
    · rintro ((h | ⟨j, h1, h2⟩) | h)
      · exact .inl h
      · exact .inr ⟨j, by omega, h2⟩
      · exact .inr ⟨k, by omega, h⟩
    · rintro (h | ⟨j, h1, h2⟩)
      · exact .inl (.inl h)
      · by_cases hj : j = k
        · subst hj; exact .inr h2
        · exact .inl (.inr ⟨j, by omega, h2⟩)
theorem must_bad {h : Ha} {l : List (Int × Int)} (hc : check h = 0) (ho : hopsOk h l) {a : Int} (hm : mustTo (decide (a ∈ h.src)) l a l.length = true) (ht : a ≠ h.tgt) (hn : nextOf l a = none) : valid h l = false := by
  rcases (mustTo_iff l.length).1 hm with h1 | ⟨j, h1, h2⟩
  · exact valid_send ((senders_mem h a).2 ⟨ht, of_decide_eq_true h1⟩) hn
  · have hx : l.getD j (0, 0) ∈ l := by rw [List.getD_eq_getElem?_getD, List.getElem?_eq_getElem h1]; exact List.getElem_mem h1
    refine valid_go hx ?_
    obtain ⟨m, hm⟩ : ∃ m, h.pr.length = m + 1 := ⟨h.pr.length - 1, by have := (ok_of hc).one; omega⟩
    rw [hm, go_add, go_some (n := 0) (b := (l.getD j (0, 0)).2) (next_mem ho hx), h2, go_stay hn]
    exact ht
theorem must_good {h : Ha} {l : List (Int × Int)} (ho : hopsOk h l) (hall : ∀ a : Int, 0 ≤ a → a < (h.pr.length : Int) → mustTo (decide (a ∈ h.src)) l a l.length = true → a ≠ h.tgt → nextOf l a ≠ none) {x : Int × Int} (hx : x ∈ l) : ∀ s, go l s x.1 ≠ h.tgt → nextOf l (go l s x.1) ≠ none
  | 0, _ => by rw [go_zero, next_mem ho hx]; simp
  | s + 1, ht => by
    cases hn : nextOf l (go l s x.1) with
    | none =>
      rw [go_none hn] at ht
      exact absurd hn (must_good ho hall hx s ht)
    | some b =>
      rw [go_some hn] at ht ⊢
      have hin := next_in ho hn
      obtain ⟨k, hk, e⟩ := mem_at (nextOf_some hn)
      exact hall b hin.2.1 hin.2.2.1 ((mustTo_iff _).2 (.inr ⟨k, hk, by rw [e]⟩)) ht
theorem must_send {h : Ha} {l : List (Int × Int)} (hk : Ok h) (hall : ∀ a : Int, 0 ≤ a → a < (h.pr.length : Int) → mustTo (decide (a ∈ h.src)) l a l.length = true → a ≠ h.tgt → nextOf l a ≠ none) : ∀ a ∈ senders h, nextOf l a ≠ none := fun a ha => by
  have := (senders_mem h a).1 ha
  have hr := hk.src a this.2
  exact hall a hr.1 hr.2 ((mustTo_iff _).2 (.inl (decide_eq_true this.2))) this.1
end Su
namespace Go.Proofs.YtenafgphaceidaaDoor
open Go.RowKit
noncomputable def must_loop_code : Code := ((Tryd.f28.body.bind (loopOf 17)).getD .skip)
set_option maxRecDepth 1000000 in
set_option maxHeartbeats 16000000 in
theorem must_loop (wr : World) (l : List (Int × Int)) (C : Option Addr) (e a : Nat) (m0 : Bool) (hl : l.length ≤ 9223372036854775807) (HL : Hid (RL wr (.slice C l.length e) l)) (c0 c2 c3 c4 c5 c6 c7 c11 c12 c13 c14 c15 c16 c17 c18 c19 c20 c21 c22 c23 c24 c25 c26 c27 c28 c29 c30 c31 c32 c33 c34 c35 c36 c37 c38 c39 c40 c41 c42 c43 c44 c45 c46 c47 c48 c49 c50 c51 c52 c53 c54 c55 c56 c57 c58 c59 c60 c61 c62 c63 c64 c65 c66 c67 c68 c69 c70 c71 c72 c73 c74 c75 c76 c77 c78 c79 c80 c81 c82 c83 c84 c85 c86 c87 c88 c89 c90 c91 c92 c93 c94 c95 c96 c97 c98 c99 c100 c101 c102 c103 c104 c105 c106 c107 c108 c109 c110 c111 c112 c113 c114 c115 c116 c117 c118 c119 c120 c121 c122 c123 c124 c125 c126 c127 c128 c129 c130 c131 c132 c133 c134 c135 c136 c137 c138 c139 c140 c141 c142 c143 c144 c145 c146 c147 c148 c149 c150 c151 c152 c153 c154 c155 c156 c157 : Value) (df : List Deferred) (Q0 : Exit → Act → World → Prop)
    (hexit : ∀ (u9 u10 u96 u97 u98 u99 u100 u101 u102 u103 u104 u105 u106 u107 u108 u109 u110 u111 : Value) (wx : World), u9 = .bool (Su.mustTo m0 l a l.length) ∧ wx = wr → Q0 (.exit 4) ⟨#[c0, .slice C l.length e, c2, c3, c4, c5, c6, c7, .int .i64 (a : Nat), u9, u10, c11, c12, c13, c14, c15, c16, c17, c18, c19, c20, c21, c22, c23, c24, c25, c26, c27, c28, c29, c30, c31, c32, c33, c34, c35, c36, c37, c38, c39, c40, c41, c42, c43, c44, c45, c46, c47, c48, c49, c50, c51, c52, c53, c54, c55, c56, c57, c58, c59, c60, c61, c62, c63, c64, c65, c66, c67, c68, c69, c70, c71, c72, c73, c74, c75, c76, c77, c78, c79, c80, c81, c82, c83, c84, c85, c86, c87, c88, c89, c90, c91, c92, c93, c94, c95, u96, u97, u98, u99, u100, u101, u102, u103, u104, u105, u106, u107, u108, u109, u110, u111, c112, c113, c114, c115, c116, c117, c118, c119, c120, c121, c122, c123, c124, c125, c126, c127, c128, c129, c130, c131, c132, c133, c134, c135, c136, c137, c138, c139, c140, c141, c142, c143, c144, c145, c146, c147, c148, c149, c150, c151, c152, c153, c154, c155, c156, c157], df⟩ wx) :
    Code.wp Tryd.prog must_loop_code Q0 ⟨#[c0, .slice C l.length e, c2, c3, c4, c5, c6, c7, .int .i64 (a : Nat), .bool m0, .int .i64 0, c11, c12, c13, c14, c15, c16, c17, c18, c19, c20, c21, c22, c23, c24, c25, c26, c27, c28, c29, c30, c31, c32, c33, c34, c35, c36, c37, c38, c39, c40, c41, c42, c43, c44, c45, c46, c47, c48, c49, c50, c51, c52, c53, c54, c55, c56, c57, c58, c59, c60, c61, c62, c63, c64, c65, c66, c67, c68, c69, c70, c71, c72, c73, c74, c75, c76, c77, c78, c79, c80, c81, c82, c83, c84, c85, c86, c87, c88, c89, c90, c91, c92, c93, c94, c95, c96, c97, c98, c99, c100, c101, c102, c103, c104, c105, c106, c107, c108, c109, c110, c111, c112, c113, c114, c115, c116, c117, c118, c119, c120, c121, c122, c123, c124, c125, c126, c127, c128, c129, c130, c131, c132, c133, c134, c135, c136, c137, c138, c139, c140, c141, c142, c143, c144, c145, c146, c147, c148, c149, c150, c151, c152, c153, c154, c155, c156, c157], df⟩ wr := by
  have HE := Lib.hid hexit
  clear hexit
  conv => arg 2; whnf
  dsimp only
  go_loop [9, 10] (fun vm vi => ∃ k : Nat, k ≤ l.length ∧ vi = .int .i64 k ∧ ∃ b : Bool, vm = .bool b ∧ Hid (Su.mustTo m0 l a k = b)) (fun _ vi => l.length - (intOf vi).toNat)
  case atStart => exact ⟨0, Nat.zero_le _, rfl, m0, rfl, Lib.hid rfl⟩
  case round =>
    obtain ⟨k, hk, rfl, b, rfl, HB⟩ := hrel
    by_cases hlt : k < l.length
    · cases b with
      | true =>
        have HN := Lib.hid (Su.mustTo_true HB.out)
        go_wp2_with fail
        go_round
        case rel => exact ⟨k + 1, by omega, by go_num, true, rfl, HN⟩
        case measure => simp [intOf]; omega
      | false =>
        obtain ⟨ad, f, t, rfl, hft, k1, k2, _, _⟩ := HL.out.at hlt
        by_cases ht : t = (a : Int)
        · have e1 : (t == (a : Int)) = true := by rw [ht]; simp
          have HN := Lib.hid (Su.mustTo_yes (b := m0) (l := l) (a := a) (k := k) (by rw [hft]; exact ht))
          clear ht hft
          go_wp2_with fail
          go_round
          case rel => exact ⟨k + 1, by omega, by go_num, true, rfl, HN⟩
          case measure => simp [intOf]; omega
        · have e1 : (t == (a : Int)) = false := by rw [beq_eq_false_iff_ne]; exact ht
          have HN := Lib.hid (Su.mustTo_no HB.out (by rw [hft]; exact ht))
          clear ht hft
          go_wp2_with fail
          go_round
          case rel => exact ⟨k + 1, by omega, by go_num, false, rfl, HN⟩
          case measure => simp [intOf]; omega
    · obtain rfl : k = l.length := by omega
      go_wp2_with fail
      exact HE.out _ _ _ _ _ _ _ _ _ _ _ _ _ _ _ _ _ _ wr ⟨by rw [HB.out], rfl⟩
noncomputable def walk_loop_code : Code := ((Tryd.f28.body.bind (loopOf 27)).getD .skip)
set_option maxRecDepth 1000000 in
set_option maxHeartbeats 16000000 in
theorem walk_loop (wr : World) (l : List (Int × Int)) (C : Option Addr) (e B n : Nat) (x tg : Int) (hx0 : 0 ≤ x) (hnn : n ≤ 12) (d2 : wr.cell? ⟨B, 2, none⟩ = some (.int .i64 tg)) (HL : Hid (RL wr (.slice C l.length e) l)) (HT : Hid (Su.nextOf l tg = none)) (HP : Hid (∀ a b, Su.nextOf l a = some b → 0 ≤ b)) (HN : Hid (∀ s, Su.go l s x ≠ tg → Su.nextOf l (Su.go l s x) ≠ none)) (c0 c3 c4 c6 c7 c8 c9 c10 c11 c14 c15 c16 c17 c18 c19 c20 c21 c22 c23 c24 c25 c26 c27 c28 c29 c30 c31 c32 c33 c34 c35 c36 c37 c38 c39 c40 c41 c42 c43 c44 c45 c46 c47 c48 c49 c50 c51 c52 c53 c54 c55 c56 c57 c58 c59 c60 c61 c62 c63 c64 c65 c66 c67 c68 c69 c70 c71 c72 c73 c74 c75 c76 c77 c78 c79 c80 c81 c82 c83 c84 c85 c86 c87 c88 c89 c90 c91 c92 c93 c94 c95 c96 c97 c98 c99 c100 c101 c102 c103 c104 c105 c106 c107 c108 c109 c110 c111 c112 c113 c114 c115 c116 c117 c118 c119 c120 c121 c122 c123 c124 c125 c126 c127 c128 c129 c130 c131 c132 c133 c134 c135 c136 c137 c138 c139 c140 c141 c142 c143 c144 c145 c146 c147 c148 c149 c150 c151 c152 c153 c154 c155 c156 c157 : Value) (df : List Deferred) (Q0 : Exit → Act → World → Prop)
    (hexit : ∀ (u12 u13 u136 u137 u138 u139 u140 u141 u142 u143 u144 u145 u146 u147 u148 u149 u150 u151 u152 u153 : Value) (wx : World), u12 = .int .i64 (Su.go l n x) ∧ wx = wr → Q0 (.exit 8) ⟨#[c0, .slice C l.length e, .pointer (some ⟨B, 0, none⟩), c3, c4, .int .i64 (n : Nat), c6, c7, c8, c9, c10, c11, u12, u13, c14, c15, c16, c17, c18, c19, c20, c21, c22, c23, c24, c25, c26, c27, c28, c29, c30, c31, c32, c33, c34, c35, c36, c37, c38, c39, c40, c41, c42, c43, c44, c45, c46, c47, c48, c49, c50, c51, c52, c53, c54, c55, c56, c57, c58, c59, c60, c61, c62, c63, c64, c65, c66, c67, c68, c69, c70, c71, c72, c73, c74, c75, c76, c77, c78, c79, c80, c81, c82, c83, c84, c85, c86, c87, c88, c89, c90, c91, c92, c93, c94, c95, c96, c97, c98, c99, c100, c101, c102, c103, c104, c105, c106, c107, c108, c109, c110, c111, c112, c113, c114, c115, c116, c117, c118, c119, c120, c121, c122, c123, c124, c125, c126, c127, c128, c129, c130, c131, c132, c133, c134, c135, u136, u137, u138, u139, u140, u141, u142, u143, u144, u145, u146, u147, u148, u149, u150, u151, u152, u153, c154, c155, c156, c157], df⟩ wx) :
    Code.wp Tryd.prog walk_loop_code Q0 ⟨#[c0, .slice C l.length e, .pointer (some ⟨B, 0, none⟩), c3, c4, .int .i64 (n : Nat), c6, c7, c8, c9, c10, c11, .int .i64 x, .int .i64 0, c14, c15, c16, c17, c18, c19, c20, c21, c22, c23, c24, c25, c26, c27, c28, c29, c30, c31, c32, c33, c34, c35, c36, c37, c38, c39, c40, c41, c42, c43, c44, c45, c46, c47, c48, c49, c50, c51, c52, c53, c54, c55, c56, c57, c58, c59, c60, c61, c62, c63, c64, c65, c66, c67, c68, c69, c70, c71, c72, c73, c74, c75, c76, c77, c78, c79, c80, c81, c82, c83, c84, c85, c86, c87, c88, c89, c90, c91, c92, c93, c94, c95, c96, c97, c98, c99, c100, c101, c102, c103, c104, c105, c106, c107, c108, c109, c110, c111, c112, c113, c114, c115, c116, c117, c118, c119, c120, c121, c122, c123, c124, c125, c126, c127, c128, c129, c130, c131, c132, c133, c134, c135, c136, c137, c138, c139, c140, c141, c142, c143, c144, c145, c146, c147, c148, c149, c150, c151, c152, c153, c154, c155, c156, c157], df⟩ wr := by
  have HE := Lib.hid hexit
  clear hexit
  conv => arg 2; whnf
  dsimp only
  go_loop [12, 13] (fun va vi => ∃ k : Nat, k ≤ n ∧ vi = .int .i64 k ∧ ∃ y : Int, 0 ≤ y ∧ va = .int .i64 y ∧ Hid (y = Su.go l k x)) (fun _ vi => n - (intOf vi).toNat)
  case atStart => exact ⟨0, Nat.zero_le _, rfl, x, hx0, rfl, Lib.hid rfl⟩
  case round =>
    obtain ⟨k, hk, rfl, y, hy, rfl, HY⟩ := hrel
    by_cases hlt : k < n
    · by_cases ht : y = tg
      · have e1 : (y != tg) = false := by rw [ht]; simp
        have hend : y = Su.go l n x := by
          obtain ⟨m, hm⟩ : ∃ m, n = m + k := ⟨n - k, by omega⟩
          rw [hm, Su.go_add, ← HY.out, Su.go_stay (by rw [ht]; exact HT.out)]
        have HEND := Lib.hid hend
        clear ht hend
        go_wp2_with fail
        exact HE.out _ _ _ _ _ _ _ _ _ _ _ _ _ _ _ _ _ _ _ _ wr ⟨by rw [← HEND.out], rfl⟩
      · have e1 : (y != tg) = true := by rw [bne_iff_ne]; exact ht
        have hne := HN.out k (by rw [← HY.out]; exact ht)
        rw [← HY.out] at hne
        obtain ⟨b, hb⟩ : ∃ b, Su.nextOf l y = some b := by
          cases hq : Su.nextOf l y with
          | none => exact absurd hq hne
          | some b => exact ⟨b, rfl⟩
        have hb0 : 0 ≤ b := HP.out _ _ hb
        have hs : b = Su.go l (k + 1) x := (Su.go_some (by rw [← HY.out]; exact hb)).symm
        have HS := Lib.hid (And.intro hs hb)
        clear ht hne hb hs
        go_wp2_with fail
        refine (qNext_any l y _ _ HL.out).mono ?_
        rintro ee w1 ⟨rfl, rfl⟩
        rw [HS.out.2, Option.getD_some]
        go_wp2_with fail
        go_round
        case rel => exact ⟨k + 1, by omega, by go_num, b, hb0, rfl, Lib.hid HS.out.1⟩
        case measure => simp [intOf]; omega
    · obtain rfl : k = n := by omega
      go_wp2_with fail
      exact HE.out _ _ _ _ _ _ _ _ _ _ _ _ _ _ _ _ _ _ _ _ wr ⟨by rw [← HY.out], rfl⟩
end Go.Proofs.YtenafgphaceidaaDoor

/- THE DRAWN REGION of Valid of the specification of layer 19, one theorem for each way. -/
namespace Go.Proofs.YtenafgphaceidaaDoor
open Go.RowKit
noncomputable def qv_neg_code : Code := ((Tryd.f28.body.bind (regionOf 8)).getD .skip)
def qv_neg_dsts : List (Option Nat) := [some 61, some 62, some 63, some 64, some 65, some 66, some 67, some 68, some 69, some 70, some 71, some 72, some 73, some 74, some 75, some 76, some 77, some 78, some 79, some 80, some 81, some 82, some 83, some 84, some 85, some 86]
theorem qv_neg_apart : apartD qv_neg_dsts = true := by decide +kernel
set_option maxRecDepth 1000000 in
set_option maxHeartbeats 16000000 in
theorem qv_neg (wr : World) (B X n cA cc aa bb : Nat) (ad1 ad2 : Addr) (pp : Int) (han : aa < n) (hbn : bb < n) (b0 : wr.cell? ⟨B, 0, none⟩ = some (.slice (some ad1) n cA)) (x0 : wr.cell? ⟨X, 0, none⟩ = some (.int .i64 (aa : Int))) (x1 : wr.cell? ⟨X, 1, none⟩ = some (.int .i64 (bb : Int))) (g1 : wr.cell? (ad1.add aa) = some (.slice (some ad2) n cc)) (g2 : wr.cell? (ad2.add bb) = some (.int .i64 pp)) (hp : pp < 0) (c0 c1 c3 c4 c5 c6 c8 c9 c10 c11 c12 c13 c14 c15 c16 c17 c18 c19 c20 c21 c22 c23 c24 c25 c26 c27 c28 c29 c30 c31 c32 c33 c34 c35 c36 c37 c38 c39 c40 c41 c42 c43 c44 c45 c46 c47 c48 c49 c50 c51 c52 c53 c54 c55 c56 c57 c58 c59 c60 c61 c62 c63 c64 c65 c66 c67 c68 c69 c70 c71 c72 c73 c74 c75 c76 c77 c78 c79 c80 c81 c82 c83 c84 c85 c86 c87 c88 c89 c90 c91 c92 c93 c94 c95 c96 c97 c98 c99 c100 c101 c102 c103 c104 c105 c106 c107 c108 c109 c110 c111 c112 c113 c114 c115 c116 c117 c118 c119 c120 c121 c122 c123 c124 c125 c126 c127 c128 c129 c130 c131 c132 c133 c134 c135 c136 c137 c138 c139 c140 c141 c142 c143 c144 c145 c146 c147 c148 c149 c150 c151 c152 c153 c154 c155 c156 c157 : Value) (df : List Deferred) (K : Act → World → Prop)
    (hK : ∀  (u61 u62 u63 u64 u65 u66 u67 u68 u69 u70 u71 u72 u73 u74 u75 u76 u77 u78 u79 u80 u81 u82 u83 u84 u85 : Value) (wx : World), Ext wr wx → K ⟨#[c0, c1, .pointer (some ⟨B, 0, none⟩), c3, c4, c5, c6, .pointer (some ⟨X, 0, none⟩), c8, c9, c10, c11, c12, c13, c14, c15, c16, c17, c18, c19, c20, c21, c22, c23, c24, c25, c26, c27, c28, c29, c30, c31, c32, c33, c34, c35, c36, c37, c38, c39, c40, c41, c42, c43, c44, c45, c46, c47, c48, c49, c50, c51, c52, c53, c54, c55, c56, c57, c58, c59, c60, u61, u62, u63, u64, u65, u66, u67, u68, u69, u70, u71, u72, u73, u74, u75, u76, u77, u78, u79, u80, u81, u82, u83, u84, u85, .bool true, c87, c88, c89, c90, c91, c92, c93, c94, c95, c96, c97, c98, c99, c100, c101, c102, c103, c104, c105, c106, c107, c108, c109, c110, c111, c112, c113, c114, c115, c116, c117, c118, c119, c120, c121, c122, c123, c124, c125, c126, c127, c128, c129, c130, c131, c132, c133, c134, c135, c136, c137, c138, c139, c140, c141, c142, c143, c144, c145, c146, c147, c148, c149, c150, c151, c152, c153, c154, c155, c156, c157], df⟩ wx) :
    Code.wp Tryd.prog qv_neg_code (AtEnd K) ⟨#[c0, c1, .pointer (some ⟨B, 0, none⟩), c3, c4, c5, c6, .pointer (some ⟨X, 0, none⟩), c8, c9, c10, c11, c12, c13, c14, c15, c16, c17, c18, c19, c20, c21, c22, c23, c24, c25, c26, c27, c28, c29, c30, c31, c32, c33, c34, c35, c36, c37, c38, c39, c40, c41, c42, c43, c44, c45, c46, c47, c48, c49, c50, c51, c52, c53, c54, c55, c56, c57, c58, c59, c60, c61, c62, c63, c64, c65, c66, c67, c68, c69, c70, c71, c72, c73, c74, c75, c76, c77, c78, c79, c80, c81, c82, c83, c84, c85, c86, c87, c88, c89, c90, c91, c92, c93, c94, c95, c96, c97, c98, c99, c100, c101, c102, c103, c104, c105, c106, c107, c108, c109, c110, c111, c112, c113, c114, c115, c116, c117, c118, c119, c120, c121, c122, c123, c124, c125, c126, c127, c128, c129, c130, c131, c132, c133, c134, c135, c136, c137, c138, c139, c140, c141, c142, c143, c144, c145, c146, c147, c148, c149, c150, c151, c152, c153, c154, c155, c156, c157], df⟩ wr := by
  conv => arg 2; whnf
  refine region_inv (by kernel_rfl) [[], [0], [], [2], [1, 3], [4], [], [6], [5, 7], [8], [9], [10], [11], [12, 11], [13, 11, 11], [14], [14], [16, 14], [15, 17, 14], [18, 14], [19, 14], [14], [21, 14], [20, 22, 14], [14, 23, 11], [11, 24]] (by kernel_rfl) [0, 1, 2, 3, 4, 5, 6, 7, 8, 9, 10, 11, 12, 13, 14, 15, 16, 17, 18, 19, 20, 21, 22, 23, 24, 25] (by decide +kernel) (by decide +kernel) (by decide +kernel) (fun L a wc => Inv qv_neg_dsts [.pointer (some ⟨B, 0, none⟩), .slice (some ad1) n cA, .pointer (some ⟨X, 0, none⟩), .int .i64 (aa : Int), .pointer (some (ad1.add aa)), .slice (some ad2) n cc, .pointer (some ⟨X, 1, none⟩), .int .i64 (bb : Int), .pointer (some (ad2.add bb)), .int .i64 pp, .bool true, .bool true, undef, undef, undef, undef, undef, undef, undef, undef, undef, undef, undef, undef, undef, .bool true] ⟨#[c0, c1, .pointer (some ⟨B, 0, none⟩), c3, c4, c5, c6, .pointer (some ⟨X, 0, none⟩), c8, c9, c10, c11, c12, c13, c14, c15, c16, c17, c18, c19, c20, c21, c22, c23, c24, c25, c26, c27, c28, c29, c30, c31, c32, c33, c34, c35, c36, c37, c38, c39, c40, c41, c42, c43, c44, c45, c46, c47, c48, c49, c50, c51, c52, c53, c54, c55, c56, c57, c58, c59, c60, c61, c62, c63, c64, c65, c66, c67, c68, c69, c70, c71, c72, c73, c74, c75, c76, c77, c78, c79, c80, c81, c82, c83, c84, c85, c86, c87, c88, c89, c90, c91, c92, c93, c94, c95, c96, c97, c98, c99, c100, c101, c102, c103, c104, c105, c106, c107, c108, c109, c110, c111, c112, c113, c114, c115, c116, c117, c118, c119, c120, c121, c122, c123, c124, c125, c126, c127, c128, c129, c130, c131, c132, c133, c134, c135, c136, c137, c138, c139, c140, c141, c142, c143, c144, c145, c146, c147, c148, c149, c150, c151, c152, c153, c154, c155, c156, c157], df⟩ L a ∧ Hid (Ext wr wc)) ⟨Inv.start, Lib.hid ((Ext.refl wr).drew)⟩ ?_ ?_
  · refine ⟨?_, ?_, ?_, ?_, ?_, ?_, ?_, ?_, ?_, ?_, ?_, ?_, ?_, ?_, ?_, ?_, ?_, ?_, ?_, ?_, ?_, ?_, ?_, ?_, ?_, ?_, trivial⟩
    · -- 0 field
      rintro L a wc ⟨hv, HO⟩ hL hc hd
      exact wpOp_val rfl rfl (ex_field rfl ((hv.fixed 2 (by decide)).trans rfl) (by go_simp)) ⟨hv.put qv_neg_apart 0 rfl (Nat.le_of_ble_eq_true rfl) (Nat.le_of_ble_eq_true rfl) rfl, HO⟩
    · -- 1 load
      rintro L a wc ⟨hv, HO⟩ hL hc hd
      have h0 : wc.cell? ⟨B, 0, none⟩ = some (.slice (some ad1) n cA) := HO.out.cell b0
      exact wpOp_val rfl rfl (ex_load rfl (hv.get 0 rfl rfl (hd 0 (by decide))) (by go_simp)) ⟨hv.put qv_neg_apart 1 rfl (Nat.le_of_ble_eq_true rfl) (Nat.le_of_ble_eq_true rfl) rfl, HO⟩
    · -- 2 field
      rintro L a wc ⟨hv, HO⟩ hL hc hd
      exact wpOp_val rfl rfl (ex_field rfl ((hv.fixed 7 (by decide)).trans rfl) (by go_simp)) ⟨hv.put qv_neg_apart 2 rfl (Nat.le_of_ble_eq_true rfl) (Nat.le_of_ble_eq_true rfl) rfl, HO⟩
    · -- 3 load
      rintro L a wc ⟨hv, HO⟩ hL hc hd
      have h1 : wc.cell? ⟨X, 0, none⟩ = some (.int .i64 (aa : Int)) := HO.out.cell x0
      exact wpOp_val rfl rfl (ex_load rfl (hv.get 2 rfl rfl (hd 2 (by decide))) (by go_simp)) ⟨hv.put qv_neg_apart 3 rfl (Nat.le_of_ble_eq_true rfl) (Nat.le_of_ble_eq_true rfl) rfl, HO⟩
    · -- 4 index
      rintro L a wc ⟨hv, HO⟩ hL hc hd
      have u1 : (0 : Int) ≤ (aa : Int) := by omega
      have u2 : (aa : Int) < (n : Int) := by omega
      exact wpOp_val rfl rfl (ex_index rfl (hv.get 1 rfl rfl (hd 1 (by decide))) (hv.get 3 rfl rfl (hd 3 (by decide))) (by go_simp)) ⟨hv.put qv_neg_apart 4 rfl (Nat.le_of_ble_eq_true rfl) (Nat.le_of_ble_eq_true rfl) rfl, HO⟩
    · -- 5 load
      rintro L a wc ⟨hv, HO⟩ hL hc hd
      have h1 : wc.cell? (ad1.add aa) = some (.slice (some ad2) n cc) := HO.out.cell g1
      exact wpOp_val rfl rfl (ex_load rfl (hv.get 4 rfl rfl (hd 4 (by decide))) (by go_simp)) ⟨hv.put qv_neg_apart 5 rfl (Nat.le_of_ble_eq_true rfl) (Nat.le_of_ble_eq_true rfl) rfl, HO⟩
    · -- 6 field
      rintro L a wc ⟨hv, HO⟩ hL hc hd
      exact wpOp_val rfl rfl (ex_field rfl ((hv.fixed 7 (by decide)).trans rfl) (by go_simp)) ⟨hv.put qv_neg_apart 6 rfl (Nat.le_of_ble_eq_true rfl) (Nat.le_of_ble_eq_true rfl) rfl, HO⟩
    · -- 7 load
      rintro L a wc ⟨hv, HO⟩ hL hc hd
      have h1 : wc.cell? ⟨X, 1, none⟩ = some (.int .i64 (bb : Int)) := HO.out.cell x1
      exact wpOp_val rfl rfl (ex_load rfl (hv.get 6 rfl rfl (hd 6 (by decide))) (by go_simp)) ⟨hv.put qv_neg_apart 7 rfl (Nat.le_of_ble_eq_true rfl) (Nat.le_of_ble_eq_true rfl) rfl, HO⟩
    · -- 8 index
      rintro L a wc ⟨hv, HO⟩ hL hc hd
      have u1 : (0 : Int) ≤ (bb : Int) := by omega
      have u2 : (bb : Int) < (n : Int) := by omega
      exact wpOp_val rfl rfl (ex_index rfl (hv.get 5 rfl rfl (hd 5 (by decide))) (hv.get 7 rfl rfl (hd 7 (by decide))) (by go_simp)) ⟨hv.put qv_neg_apart 8 rfl (Nat.le_of_ble_eq_true rfl) (Nat.le_of_ble_eq_true rfl) rfl, HO⟩
    · -- 9 load
      rintro L a wc ⟨hv, HO⟩ hL hc hd
      have h1 : wc.cell? (ad2.add bb) = some (.int .i64 pp) := HO.out.cell g2
      exact wpOp_val rfl rfl (ex_load rfl (hv.get 8 rfl rfl (hd 8 (by decide))) (by go_simp)) ⟨hv.put qv_neg_apart 9 rfl (Nat.le_of_ble_eq_true rfl) (Nat.le_of_ble_eq_true rfl) rfl, HO⟩
    · -- 10 bin
      rintro L a wc ⟨hv, HO⟩ hL hc hd
      exact wpOp_val rfl rfl (ex_bin rfl (hv.get 9 rfl rfl (hd 9 (by decide))) rfl (by go_simp)) ⟨hv.put qv_neg_apart 10 rfl (Nat.le_of_ble_eq_true rfl) (Nat.le_of_ble_eq_true rfl) rfl, HO⟩
    · -- 11 move
      rintro L a wc ⟨hv, HO⟩ hL hc hd
      exact wpOp_val rfl rfl (ex_move rfl (hv.get 10 rfl rfl (hd 10 (by decide)))) ⟨hv.put qv_neg_apart 11 rfl (Nat.le_of_ble_eq_true rfl) (Nat.le_of_ble_eq_true rfl) rfl, HO⟩
    · -- 12 off
      rintro L a wc ⟨hv, HO⟩ hL hc hd
      exact wpOp_off rfl ((wanted_at rfl rfl (hv.get 11 rfl rfl (hd 11 (by decide)))).trans rfl) ⟨hv.put qv_neg_apart 12 rfl (Nat.le_of_ble_eq_true rfl) (Nat.le_of_ble_eq_true rfl) rfl, HO⟩
    · -- 13 off
      rintro L a wc ⟨hv, HO⟩ hL hc hd
      exact wpOp_off rfl ((wanted_at rfl rfl (hv.get 11 rfl rfl (hd 11 (by decide)))).trans rfl) ⟨hv.put qv_neg_apart 13 rfl (Nat.le_of_ble_eq_true rfl) (Nat.le_of_ble_eq_true rfl) rfl, HO⟩
    · -- 14 off
      rintro L a wc ⟨hv, HO⟩ hL hc hd
      exact wpOp_off rfl ((wanted_at rfl rfl (hv.get 11 rfl rfl (hd 11 (by decide)))).trans rfl) ⟨hv.put qv_neg_apart 14 rfl (Nat.le_of_ble_eq_true rfl) (Nat.le_of_ble_eq_true rfl) rfl, HO⟩
    · -- 15 off
      rintro L a wc ⟨hv, HO⟩ hL hc hd
      exact wpOp_off rfl (wanted_undef rfl rfl (hv.get 14 rfl rfl (hd 14 (by decide)))) ⟨hv.put qv_neg_apart 15 rfl (Nat.le_of_ble_eq_true rfl) (Nat.le_of_ble_eq_true rfl) rfl, HO⟩
    · -- 16 off
      rintro L a wc ⟨hv, HO⟩ hL hc hd
      exact wpOp_off rfl (wanted_undef rfl rfl (hv.get 14 rfl rfl (hd 14 (by decide)))) ⟨hv.put qv_neg_apart 16 rfl (Nat.le_of_ble_eq_true rfl) (Nat.le_of_ble_eq_true rfl) rfl, HO⟩
    · -- 17 off
      rintro L a wc ⟨hv, HO⟩ hL hc hd
      exact wpOp_off rfl (wanted_undef rfl rfl (hv.get 14 rfl rfl (hd 14 (by decide)))) ⟨hv.put qv_neg_apart 17 rfl (Nat.le_of_ble_eq_true rfl) (Nat.le_of_ble_eq_true rfl) rfl, HO⟩
    · -- 18 off
      rintro L a wc ⟨hv, HO⟩ hL hc hd
      exact wpOp_off rfl (wanted_undef rfl rfl (hv.get 14 rfl rfl (hd 14 (by decide)))) ⟨hv.put qv_neg_apart 18 rfl (Nat.le_of_ble_eq_true rfl) (Nat.le_of_ble_eq_true rfl) rfl, HO⟩
    · -- 19 off
      rintro L a wc ⟨hv, HO⟩ hL hc hd
      exact wpOp_off rfl (wanted_undef rfl rfl (hv.get 14 rfl rfl (hd 14 (by decide)))) ⟨hv.put qv_neg_apart 19 rfl (Nat.le_of_ble_eq_true rfl) (Nat.le_of_ble_eq_true rfl) rfl, HO⟩
    · -- 20 off
      rintro L a wc ⟨hv, HO⟩ hL hc hd
      exact wpOp_off rfl (wanted_undef rfl rfl (hv.get 14 rfl rfl (hd 14 (by decide)))) ⟨hv.put qv_neg_apart 20 rfl (Nat.le_of_ble_eq_true rfl) (Nat.le_of_ble_eq_true rfl) rfl, HO⟩
    · -- 21 off
      rintro L a wc ⟨hv, HO⟩ hL hc hd
      exact wpOp_off rfl (wanted_undef rfl rfl (hv.get 14 rfl rfl (hd 14 (by decide)))) ⟨hv.put qv_neg_apart 21 rfl (Nat.le_of_ble_eq_true rfl) (Nat.le_of_ble_eq_true rfl) rfl, HO⟩
    · -- 22 off
      rintro L a wc ⟨hv, HO⟩ hL hc hd
      exact wpOp_off rfl (wanted_undef rfl rfl (hv.get 14 rfl rfl (hd 14 (by decide)))) ⟨hv.put qv_neg_apart 22 rfl (Nat.le_of_ble_eq_true rfl) (Nat.le_of_ble_eq_true rfl) rfl, HO⟩
    · -- 23 off
      rintro L a wc ⟨hv, HO⟩ hL hc hd
      exact wpOp_off rfl (wanted_undef rfl rfl (hv.get 14 rfl rfl (hd 14 (by decide)))) ⟨hv.put qv_neg_apart 23 rfl (Nat.le_of_ble_eq_true rfl) (Nat.le_of_ble_eq_true rfl) rfl, HO⟩
    · -- 24 off
      rintro L a wc ⟨hv, HO⟩ hL hc hd
      exact wpOp_off rfl ((wanted_at rfl rfl (hv.get 11 rfl rfl (hd 11 (by decide)))).trans rfl) ⟨hv.put qv_neg_apart 24 rfl (Nat.le_of_ble_eq_true rfl) (Nat.le_of_ble_eq_true rfl) rfl, HO⟩
    · -- 25 pick
      rintro L a wc ⟨hv, HO⟩ hL hc hd
      exact wpOp_val rfl rfl (ex_pick rfl (hv.get 11 rfl rfl (hd 11 (by decide))) rfl) ⟨hv.put qv_neg_apart 25 rfl (Nat.le_of_ble_eq_true rfl) (Nat.le_of_ble_eq_true rfl) rfl, HO⟩
  · rintro L a wc ⟨hv, HO⟩ hall
    show K a wc
    have ha := act_lit a
    rw [hv.size, hv.defers] at ha
    have hl : ∀ f : Nat → Value, ((List.range (⟨#[c0, c1, .pointer (some ⟨B, 0, none⟩), c3, c4, c5, c6, .pointer (some ⟨X, 0, none⟩), c8, c9, c10, c11, c12, c13, c14, c15, c16, c17, c18, c19, c20, c21, c22, c23, c24, c25, c26, c27, c28, c29, c30, c31, c32, c33, c34, c35, c36, c37, c38, c39, c40, c41, c42, c43, c44, c45, c46, c47, c48, c49, c50, c51, c52, c53, c54, c55, c56, c57, c58, c59, c60, c61, c62, c63, c64, c65, c66, c67, c68, c69, c70, c71, c72, c73, c74, c75, c76, c77, c78, c79, c80, c81, c82, c83, c84, c85, c86, c87, c88, c89, c90, c91, c92, c93, c94, c95, c96, c97, c98, c99, c100, c101, c102, c103, c104, c105, c106, c107, c108, c109, c110, c111, c112, c113, c114, c115, c116, c117, c118, c119, c120, c121, c122, c123, c124, c125, c126, c127, c128, c129, c130, c131, c132, c133, c134, c135, c136, c137, c138, c139, c140, c141, c142, c143, c144, c145, c146, c147, c148, c149, c150, c151, c152, c153, c154, c155, c156, c157], df⟩ : Act).tmps.size).map f).toArray = #[f 0, f 1, f 2, f 3, f 4, f 5, f 6, f 7, f 8, f 9, f 10, f 11, f 12, f 13, f 14, f 15, f 16, f 17, f 18, f 19, f 20, f 21, f 22, f 23, f 24, f 25, f 26, f 27, f 28, f 29, f 30, f 31, f 32, f 33, f 34, f 35, f 36, f 37, f 38, f 39, f 40, f 41, f 42, f 43, f 44, f 45, f 46, f 47, f 48, f 49, f 50, f 51, f 52, f 53, f 54, f 55, f 56, f 57, f 58, f 59, f 60, f 61, f 62, f 63, f 64, f 65, f 66, f 67, f 68, f 69, f 70, f 71, f 72, f 73, f 74, f 75, f 76, f 77, f 78, f 79, f 80, f 81, f 82, f 83, f 84, f 85, f 86, f 87, f 88, f 89, f 90, f 91, f 92, f 93, f 94, f 95, f 96, f 97, f 98, f 99, f 100, f 101, f 102, f 103, f 104, f 105, f 106, f 107, f 108, f 109, f 110, f 111, f 112, f 113, f 114, f 115, f 116, f 117, f 118, f 119, f 120, f 121, f 122, f 123, f 124, f 125, f 126, f 127, f 128, f 129, f 130, f 131, f 132, f 133, f 134, f 135, f 136, f 137, f 138, f 139, f 140, f 141, f 142, f 143, f 144, f 145, f 146, f 147, f 148, f 149, f 150, f 151, f 152, f 153, f 154, f 155, f 156, f 157] := fun _ => rfl
    rw [hl] at ha
    simp only [hv.fixed 0 (by decide), hv.fixed 1 (by decide), hv.fixed 2 (by decide), hv.fixed 3 (by decide), hv.fixed 4 (by decide), hv.fixed 5 (by decide), hv.fixed 6 (by decide), hv.fixed 7 (by decide), hv.fixed 8 (by decide), hv.fixed 9 (by decide), hv.fixed 10 (by decide), hv.fixed 11 (by decide), hv.fixed 12 (by decide), hv.fixed 13 (by decide), hv.fixed 14 (by decide), hv.fixed 15 (by decide), hv.fixed 16 (by decide), hv.fixed 17 (by decide), hv.fixed 18 (by decide), hv.fixed 19 (by decide), hv.fixed 20 (by decide), hv.fixed 21 (by decide), hv.fixed 22 (by decide), hv.fixed 23 (by decide), hv.fixed 24 (by decide), hv.fixed 25 (by decide), hv.fixed 26 (by decide), hv.fixed 27 (by decide), hv.fixed 28 (by decide), hv.fixed 29 (by decide), hv.fixed 30 (by decide), hv.fixed 31 (by decide), hv.fixed 32 (by decide), hv.fixed 33 (by decide), hv.fixed 34 (by decide), hv.fixed 35 (by decide), hv.fixed 36 (by decide), hv.fixed 37 (by decide), hv.fixed 38 (by decide), hv.fixed 39 (by decide), hv.fixed 40 (by decide), hv.fixed 41 (by decide), hv.fixed 42 (by decide), hv.fixed 43 (by decide), hv.fixed 44 (by decide), hv.fixed 45 (by decide), hv.fixed 46 (by decide), hv.fixed 47 (by decide), hv.fixed 48 (by decide), hv.fixed 49 (by decide), hv.fixed 50 (by decide), hv.fixed 51 (by decide), hv.fixed 52 (by decide), hv.fixed 53 (by decide), hv.fixed 54 (by decide), hv.fixed 55 (by decide), hv.fixed 56 (by decide), hv.fixed 57 (by decide), hv.fixed 58 (by decide), hv.fixed 59 (by decide), hv.fixed 60 (by decide), hv.fixed 87 (by decide), hv.fixed 88 (by decide), hv.fixed 89 (by decide), hv.fixed 90 (by decide), hv.fixed 91 (by decide), hv.fixed 92 (by decide), hv.fixed 93 (by decide), hv.fixed 94 (by decide), hv.fixed 95 (by decide), hv.fixed 96 (by decide), hv.fixed 97 (by decide), hv.fixed 98 (by decide), hv.fixed 99 (by decide), hv.fixed 100 (by decide), hv.fixed 101 (by decide), hv.fixed 102 (by decide), hv.fixed 103 (by decide), hv.fixed 104 (by decide), hv.fixed 105 (by decide), hv.fixed 106 (by decide), hv.fixed 107 (by decide), hv.fixed 108 (by decide), hv.fixed 109 (by decide), hv.fixed 110 (by decide), hv.fixed 111 (by decide), hv.fixed 112 (by decide), hv.fixed 113 (by decide), hv.fixed 114 (by decide), hv.fixed 115 (by decide), hv.fixed 116 (by decide), hv.fixed 117 (by decide), hv.fixed 118 (by decide), hv.fixed 119 (by decide), hv.fixed 120 (by decide), hv.fixed 121 (by decide), hv.fixed 122 (by decide), hv.fixed 123 (by decide), hv.fixed 124 (by decide), hv.fixed 125 (by decide), hv.fixed 126 (by decide), hv.fixed 127 (by decide), hv.fixed 128 (by decide), hv.fixed 129 (by decide), hv.fixed 130 (by decide), hv.fixed 131 (by decide), hv.fixed 132 (by decide), hv.fixed 133 (by decide), hv.fixed 134 (by decide), hv.fixed 135 (by decide), hv.fixed 136 (by decide), hv.fixed 137 (by decide), hv.fixed 138 (by decide), hv.fixed 139 (by decide), hv.fixed 140 (by decide), hv.fixed 141 (by decide), hv.fixed 142 (by decide), hv.fixed 143 (by decide), hv.fixed 144 (by decide), hv.fixed 145 (by decide), hv.fixed 146 (by decide), hv.fixed 147 (by decide), hv.fixed 148 (by decide), hv.fixed 149 (by decide), hv.fixed 150 (by decide), hv.fixed 151 (by decide), hv.fixed 152 (by decide), hv.fixed 153 (by decide), hv.fixed 154 (by decide), hv.fixed 155 (by decide), hv.fixed 156 (by decide), hv.fixed 157 (by decide), hv.get 25 (d := 86) rfl rfl (hall 25 (by decide))] at ha
    rw [ha]
    exact hK _ _ _ _ _ _ _ _ _ _ _ _ _ _ _ _ _ _ _ _ _ _ _ _ _ wc HO.out
noncomputable def qv_first_code : Code := ((Tryd.f28.body.bind (regionOf 8)).getD .skip)
def qv_first_dsts : List (Option Nat) := [some 61, some 62, some 63, some 64, some 65, some 66, some 67, some 68, some 69, some 70, some 71, some 72, some 73, some 74, some 75, some 76, some 77, some 78, some 79, some 80, some 81, some 82, some 83, some 84, some 85, some 86]
theorem qv_first_apart : apartD qv_first_dsts = true := by decide +kernel
set_option maxRecDepth 1000000 in
set_option maxHeartbeats 16000000 in
theorem qv_first (wr : World) (B X n cA cc aa bb : Nat) (ad1 ad2 : Addr) (pp : Int) (han : aa < n) (hbn : bb < n) (b0 : wr.cell? ⟨B, 0, none⟩ = some (.slice (some ad1) n cA)) (x0 : wr.cell? ⟨X, 0, none⟩ = some (.int .i64 (aa : Int))) (x1 : wr.cell? ⟨X, 1, none⟩ = some (.int .i64 (bb : Int))) (g1 : wr.cell? (ad1.add aa) = some (.slice (some ad2) n cc)) (g2 : wr.cell? (ad2.add bb) = some (.int .i64 pp)) (hp : ¬ pp < 0) (k : Nat) (hk0 : k = 0) (c0 c1 c3 c4 c5 c8 c9 c10 c11 c12 c13 c14 c15 c16 c17 c18 c19 c20 c21 c22 c23 c24 c25 c26 c27 c28 c29 c30 c31 c32 c33 c34 c35 c36 c37 c38 c39 c40 c41 c42 c43 c44 c45 c46 c47 c48 c49 c50 c51 c52 c53 c54 c55 c56 c57 c58 c59 c60 c61 c62 c63 c64 c65 c66 c67 c68 c69 c70 c71 c72 c73 c74 c75 c76 c77 c78 c79 c80 c81 c82 c83 c84 c85 c86 c87 c88 c89 c90 c91 c92 c93 c94 c95 c96 c97 c98 c99 c100 c101 c102 c103 c104 c105 c106 c107 c108 c109 c110 c111 c112 c113 c114 c115 c116 c117 c118 c119 c120 c121 c122 c123 c124 c125 c126 c127 c128 c129 c130 c131 c132 c133 c134 c135 c136 c137 c138 c139 c140 c141 c142 c143 c144 c145 c146 c147 c148 c149 c150 c151 c152 c153 c154 c155 c156 c157 : Value) (df : List Deferred) (K : Act → World → Prop)
    (hK : ∀  (u61 u62 u63 u64 u65 u66 u67 u68 u69 u70 u71 u72 u73 u74 u75 u76 u77 u78 u79 u80 u81 u82 u83 u84 u85 : Value) (wx : World), Ext wr wx → K ⟨#[c0, c1, .pointer (some ⟨B, 0, none⟩), c3, c4, c5, .int .i64 (k : Nat), .pointer (some ⟨X, 0, none⟩), c8, c9, c10, c11, c12, c13, c14, c15, c16, c17, c18, c19, c20, c21, c22, c23, c24, c25, c26, c27, c28, c29, c30, c31, c32, c33, c34, c35, c36, c37, c38, c39, c40, c41, c42, c43, c44, c45, c46, c47, c48, c49, c50, c51, c52, c53, c54, c55, c56, c57, c58, c59, c60, u61, u62, u63, u64, u65, u66, u67, u68, u69, u70, u71, u72, u73, u74, u75, u76, u77, u78, u79, u80, u81, u82, u83, u84, u85, .bool false, c87, c88, c89, c90, c91, c92, c93, c94, c95, c96, c97, c98, c99, c100, c101, c102, c103, c104, c105, c106, c107, c108, c109, c110, c111, c112, c113, c114, c115, c116, c117, c118, c119, c120, c121, c122, c123, c124, c125, c126, c127, c128, c129, c130, c131, c132, c133, c134, c135, c136, c137, c138, c139, c140, c141, c142, c143, c144, c145, c146, c147, c148, c149, c150, c151, c152, c153, c154, c155, c156, c157], df⟩ wx) :
    Code.wp Tryd.prog qv_first_code (AtEnd K) ⟨#[c0, c1, .pointer (some ⟨B, 0, none⟩), c3, c4, c5, .int .i64 (k : Nat), .pointer (some ⟨X, 0, none⟩), c8, c9, c10, c11, c12, c13, c14, c15, c16, c17, c18, c19, c20, c21, c22, c23, c24, c25, c26, c27, c28, c29, c30, c31, c32, c33, c34, c35, c36, c37, c38, c39, c40, c41, c42, c43, c44, c45, c46, c47, c48, c49, c50, c51, c52, c53, c54, c55, c56, c57, c58, c59, c60, c61, c62, c63, c64, c65, c66, c67, c68, c69, c70, c71, c72, c73, c74, c75, c76, c77, c78, c79, c80, c81, c82, c83, c84, c85, c86, c87, c88, c89, c90, c91, c92, c93, c94, c95, c96, c97, c98, c99, c100, c101, c102, c103, c104, c105, c106, c107, c108, c109, c110, c111, c112, c113, c114, c115, c116, c117, c118, c119, c120, c121, c122, c123, c124, c125, c126, c127, c128, c129, c130, c131, c132, c133, c134, c135, c136, c137, c138, c139, c140, c141, c142, c143, c144, c145, c146, c147, c148, c149, c150, c151, c152, c153, c154, c155, c156, c157], df⟩ wr := by
  conv => arg 2; whnf
  refine region_inv (by kernel_rfl) [[], [0], [], [2], [1, 3], [4], [], [6], [5, 7], [8], [9], [10], [11], [12, 11], [13, 11, 11], [14], [14], [16, 14], [15, 17, 14], [18, 14], [19, 14], [14], [21, 14], [20, 22, 14], [14, 23, 11], [11, 24]] (by kernel_rfl) [0, 1, 2, 3, 4, 5, 6, 7, 8, 9, 10, 11, 12, 13, 14, 15, 16, 17, 18, 19, 20, 21, 22, 23, 24, 25] (by decide +kernel) (by decide +kernel) (by decide +kernel) (fun L a wc => Inv qv_first_dsts [.pointer (some ⟨B, 0, none⟩), .slice (some ad1) n cA, .pointer (some ⟨X, 0, none⟩), .int .i64 (aa : Int), .pointer (some (ad1.add aa)), .slice (some ad2) n cc, .pointer (some ⟨X, 1, none⟩), .int .i64 (bb : Int), .pointer (some (ad2.add bb)), .int .i64 pp, .bool false, .bool false, .int .i64 (k : Nat), .bool false, .bool false, undef, undef, undef, undef, undef, undef, undef, undef, undef, .bool false, .bool false] ⟨#[c0, c1, .pointer (some ⟨B, 0, none⟩), c3, c4, c5, .int .i64 (k : Nat), .pointer (some ⟨X, 0, none⟩), c8, c9, c10, c11, c12, c13, c14, c15, c16, c17, c18, c19, c20, c21, c22, c23, c24, c25, c26, c27, c28, c29, c30, c31, c32, c33, c34, c35, c36, c37, c38, c39, c40, c41, c42, c43, c44, c45, c46, c47, c48, c49, c50, c51, c52, c53, c54, c55, c56, c57, c58, c59, c60, c61, c62, c63, c64, c65, c66, c67, c68, c69, c70, c71, c72, c73, c74, c75, c76, c77, c78, c79, c80, c81, c82, c83, c84, c85, c86, c87, c88, c89, c90, c91, c92, c93, c94, c95, c96, c97, c98, c99, c100, c101, c102, c103, c104, c105, c106, c107, c108, c109, c110, c111, c112, c113, c114, c115, c116, c117, c118, c119, c120, c121, c122, c123, c124, c125, c126, c127, c128, c129, c130, c131, c132, c133, c134, c135, c136, c137, c138, c139, c140, c141, c142, c143, c144, c145, c146, c147, c148, c149, c150, c151, c152, c153, c154, c155, c156, c157], df⟩ L a ∧ Hid (Ext wr wc)) ⟨Inv.start, Lib.hid ((Ext.refl wr).drew)⟩ ?_ ?_
  · refine ⟨?_, ?_, ?_, ?_, ?_, ?_, ?_, ?_, ?_, ?_, ?_, ?_, ?_, ?_, ?_, ?_, ?_, ?_, ?_, ?_, ?_, ?_, ?_, ?_, ?_, ?_, trivial⟩
    · -- 0 field
      rintro L a wc ⟨hv, HO⟩ hL hc hd
      exact wpOp_val rfl rfl (ex_field rfl ((hv.fixed 2 (by decide)).trans rfl) (by go_simp)) ⟨hv.put qv_first_apart 0 rfl (Nat.le_of_ble_eq_true rfl) (Nat.le_of_ble_eq_true rfl) rfl, HO⟩
    · -- 1 load
      rintro L a wc ⟨hv, HO⟩ hL hc hd
      have h0 : wc.cell? ⟨B, 0, none⟩ = some (.slice (some ad1) n cA) := HO.out.cell b0
      exact wpOp_val rfl rfl (ex_load rfl (hv.get 0 rfl rfl (hd 0 (by decide))) (by go_simp)) ⟨hv.put qv_first_apart 1 rfl (Nat.le_of_ble_eq_true rfl) (Nat.le_of_ble_eq_true rfl) rfl, HO⟩
    · -- 2 field
      rintro L a wc ⟨hv, HO⟩ hL hc hd
      exact wpOp_val rfl rfl (ex_field rfl ((hv.fixed 7 (by decide)).trans rfl) (by go_simp)) ⟨hv.put qv_first_apart 2 rfl (Nat.le_of_ble_eq_true rfl) (Nat.le_of_ble_eq_true rfl) rfl, HO⟩
    · -- 3 load
      rintro L a wc ⟨hv, HO⟩ hL hc hd
      have h1 : wc.cell? ⟨X, 0, none⟩ = some (.int .i64 (aa : Int)) := HO.out.cell x0
      exact wpOp_val rfl rfl (ex_load rfl (hv.get 2 rfl rfl (hd 2 (by decide))) (by go_simp)) ⟨hv.put qv_first_apart 3 rfl (Nat.le_of_ble_eq_true rfl) (Nat.le_of_ble_eq_true rfl) rfl, HO⟩
    · -- 4 index
      rintro L a wc ⟨hv, HO⟩ hL hc hd
      have u1 : (0 : Int) ≤ (aa : Int) := by omega
      have u2 : (aa : Int) < (n : Int) := by omega
      exact wpOp_val rfl rfl (ex_index rfl (hv.get 1 rfl rfl (hd 1 (by decide))) (hv.get 3 rfl rfl (hd 3 (by decide))) (by go_simp)) ⟨hv.put qv_first_apart 4 rfl (Nat.le_of_ble_eq_true rfl) (Nat.le_of_ble_eq_true rfl) rfl, HO⟩
    · -- 5 load
      rintro L a wc ⟨hv, HO⟩ hL hc hd
      have h1 : wc.cell? (ad1.add aa) = some (.slice (some ad2) n cc) := HO.out.cell g1
      exact wpOp_val rfl rfl (ex_load rfl (hv.get 4 rfl rfl (hd 4 (by decide))) (by go_simp)) ⟨hv.put qv_first_apart 5 rfl (Nat.le_of_ble_eq_true rfl) (Nat.le_of_ble_eq_true rfl) rfl, HO⟩
    · -- 6 field
      rintro L a wc ⟨hv, HO⟩ hL hc hd
      exact wpOp_val rfl rfl (ex_field rfl ((hv.fixed 7 (by decide)).trans rfl) (by go_simp)) ⟨hv.put qv_first_apart 6 rfl (Nat.le_of_ble_eq_true rfl) (Nat.le_of_ble_eq_true rfl) rfl, HO⟩
    · -- 7 load
      rintro L a wc ⟨hv, HO⟩ hL hc hd
      have h1 : wc.cell? ⟨X, 1, none⟩ = some (.int .i64 (bb : Int)) := HO.out.cell x1
      exact wpOp_val rfl rfl (ex_load rfl (hv.get 6 rfl rfl (hd 6 (by decide))) (by go_simp)) ⟨hv.put qv_first_apart 7 rfl (Nat.le_of_ble_eq_true rfl) (Nat.le_of_ble_eq_true rfl) rfl, HO⟩
    · -- 8 index
      rintro L a wc ⟨hv, HO⟩ hL hc hd
      have u1 : (0 : Int) ≤ (bb : Int) := by omega
      have u2 : (bb : Int) < (n : Int) := by omega
      exact wpOp_val rfl rfl (ex_index rfl (hv.get 5 rfl rfl (hd 5 (by decide))) (hv.get 7 rfl rfl (hd 7 (by decide))) (by go_simp)) ⟨hv.put qv_first_apart 8 rfl (Nat.le_of_ble_eq_true rfl) (Nat.le_of_ble_eq_true rfl) rfl, HO⟩
    · -- 9 load
      rintro L a wc ⟨hv, HO⟩ hL hc hd
      have h1 : wc.cell? (ad2.add bb) = some (.int .i64 pp) := HO.out.cell g2
      exact wpOp_val rfl rfl (ex_load rfl (hv.get 8 rfl rfl (hd 8 (by decide))) (by go_simp)) ⟨hv.put qv_first_apart 9 rfl (Nat.le_of_ble_eq_true rfl) (Nat.le_of_ble_eq_true rfl) rfl, HO⟩
    · -- 10 bin
      rintro L a wc ⟨hv, HO⟩ hL hc hd
      exact wpOp_val rfl rfl (ex_bin rfl (hv.get 9 rfl rfl (hd 9 (by decide))) rfl (by go_simp)) ⟨hv.put qv_first_apart 10 rfl (Nat.le_of_ble_eq_true rfl) (Nat.le_of_ble_eq_true rfl) rfl, HO⟩
    · -- 11 move
      rintro L a wc ⟨hv, HO⟩ hL hc hd
      exact wpOp_val rfl rfl (ex_move rfl (hv.get 10 rfl rfl (hd 10 (by decide)))) ⟨hv.put qv_first_apart 11 rfl (Nat.le_of_ble_eq_true rfl) (Nat.le_of_ble_eq_true rfl) rfl, HO⟩
    · -- 12 move
      rintro L a wc ⟨hv, HO⟩ hL hc hd
      exact wpOp_val rfl ((wanted_at rfl rfl (hv.get 11 rfl rfl (hd 11 (by decide)))).trans rfl) (ex_move rfl ((hv.fixed 6 (by decide)).trans rfl)) ⟨hv.put qv_first_apart 12 rfl (Nat.le_of_ble_eq_true rfl) (Nat.le_of_ble_eq_true rfl) rfl, HO⟩
    · -- 13 bin
      rintro L a wc ⟨hv, HO⟩ hL hc hd
      have u3 : (k : Int) ≤ 0 := by omega
      exact wpOp_val rfl ((wanted_at rfl rfl (hv.get 11 rfl rfl (hd 11 (by decide)))).trans rfl) (ex_bin rfl (hv.get 12 rfl rfl (hd 12 (by decide))) rfl (by go_simp)) ⟨hv.put qv_first_apart 13 rfl (Nat.le_of_ble_eq_true rfl) (Nat.le_of_ble_eq_true rfl) rfl, HO⟩
    · -- 14 move
      rintro L a wc ⟨hv, HO⟩ hL hc hd
      exact wpOp_val rfl ((wanted_at rfl rfl (hv.get 11 rfl rfl (hd 11 (by decide)))).trans rfl) (ex_move rfl (hv.get 13 rfl rfl (hd 13 (by decide)))) ⟨hv.put qv_first_apart 14 rfl (Nat.le_of_ble_eq_true rfl) (Nat.le_of_ble_eq_true rfl) rfl, HO⟩
    · -- 15 off
      rintro L a wc ⟨hv, HO⟩ hL hc hd
      exact wpOp_off rfl ((wanted_at rfl rfl (hv.get 14 rfl rfl (hd 14 (by decide)))).trans rfl) ⟨hv.put qv_first_apart 15 rfl (Nat.le_of_ble_eq_true rfl) (Nat.le_of_ble_eq_true rfl) rfl, HO⟩
    · -- 16 off
      rintro L a wc ⟨hv, HO⟩ hL hc hd
      exact wpOp_off rfl ((wanted_at rfl rfl (hv.get 14 rfl rfl (hd 14 (by decide)))).trans rfl) ⟨hv.put qv_first_apart 16 rfl (Nat.le_of_ble_eq_true rfl) (Nat.le_of_ble_eq_true rfl) rfl, HO⟩
    · -- 17 off
      rintro L a wc ⟨hv, HO⟩ hL hc hd
      exact wpOp_off rfl ((wanted_at rfl rfl (hv.get 14 rfl rfl (hd 14 (by decide)))).trans rfl) ⟨hv.put qv_first_apart 17 rfl (Nat.le_of_ble_eq_true rfl) (Nat.le_of_ble_eq_true rfl) rfl, HO⟩
    · -- 18 off
      rintro L a wc ⟨hv, HO⟩ hL hc hd
      exact wpOp_off rfl ((wanted_at rfl rfl (hv.get 14 rfl rfl (hd 14 (by decide)))).trans rfl) ⟨hv.put qv_first_apart 18 rfl (Nat.le_of_ble_eq_true rfl) (Nat.le_of_ble_eq_true rfl) rfl, HO⟩
    · -- 19 off
      rintro L a wc ⟨hv, HO⟩ hL hc hd
      exact wpOp_off rfl ((wanted_at rfl rfl (hv.get 14 rfl rfl (hd 14 (by decide)))).trans rfl) ⟨hv.put qv_first_apart 19 rfl (Nat.le_of_ble_eq_true rfl) (Nat.le_of_ble_eq_true rfl) rfl, HO⟩
    · -- 20 off
      rintro L a wc ⟨hv, HO⟩ hL hc hd
      exact wpOp_off rfl ((wanted_at rfl rfl (hv.get 14 rfl rfl (hd 14 (by decide)))).trans rfl) ⟨hv.put qv_first_apart 20 rfl (Nat.le_of_ble_eq_true rfl) (Nat.le_of_ble_eq_true rfl) rfl, HO⟩
    · -- 21 off
      rintro L a wc ⟨hv, HO⟩ hL hc hd
      exact wpOp_off rfl ((wanted_at rfl rfl (hv.get 14 rfl rfl (hd 14 (by decide)))).trans rfl) ⟨hv.put qv_first_apart 21 rfl (Nat.le_of_ble_eq_true rfl) (Nat.le_of_ble_eq_true rfl) rfl, HO⟩
    · -- 22 off
      rintro L a wc ⟨hv, HO⟩ hL hc hd
      exact wpOp_off rfl ((wanted_at rfl rfl (hv.get 14 rfl rfl (hd 14 (by decide)))).trans rfl) ⟨hv.put qv_first_apart 22 rfl (Nat.le_of_ble_eq_true rfl) (Nat.le_of_ble_eq_true rfl) rfl, HO⟩
    · -- 23 off
      rintro L a wc ⟨hv, HO⟩ hL hc hd
      exact wpOp_off rfl ((wanted_at rfl rfl (hv.get 14 rfl rfl (hd 14 (by decide)))).trans rfl) ⟨hv.put qv_first_apart 23 rfl (Nat.le_of_ble_eq_true rfl) (Nat.le_of_ble_eq_true rfl) rfl, HO⟩
    · -- 24 pick
      rintro L a wc ⟨hv, HO⟩ hL hc hd
      exact wpOp_val rfl ((wanted_at rfl rfl (hv.get 11 rfl rfl (hd 11 (by decide)))).trans rfl) (ex_pick rfl (hv.get 14 rfl rfl (hd 14 (by decide))) ((if_neg (by simp)).trans rfl)) ⟨hv.put qv_first_apart 24 rfl (Nat.le_of_ble_eq_true rfl) (Nat.le_of_ble_eq_true rfl) rfl, HO⟩
    · -- 25 pick
      rintro L a wc ⟨hv, HO⟩ hL hc hd
      exact wpOp_val rfl rfl (ex_pick rfl (hv.get 11 rfl rfl (hd 11 (by decide))) ((if_neg (by simp)).trans (hv.get 24 rfl rfl (hd 24 (by decide))))) ⟨hv.put qv_first_apart 25 rfl (Nat.le_of_ble_eq_true rfl) (Nat.le_of_ble_eq_true rfl) rfl, HO⟩
  · rintro L a wc ⟨hv, HO⟩ hall
    show K a wc
    have ha := act_lit a
    rw [hv.size, hv.defers] at ha
    have hl : ∀ f : Nat → Value, ((List.range (⟨#[c0, c1, .pointer (some ⟨B, 0, none⟩), c3, c4, c5, .int .i64 (k : Nat), .pointer (some ⟨X, 0, none⟩), c8, c9, c10, c11, c12, c13, c14, c15, c16, c17, c18, c19, c20, c21, c22, c23, c24, c25, c26, c27, c28, c29, c30, c31, c32, c33, c34, c35, c36, c37, c38, c39, c40, c41, c42, c43, c44, c45, c46, c47, c48, c49, c50, c51, c52, c53, c54, c55, c56, c57, c58, c59, c60, c61, c62, c63, c64, c65, c66, c67, c68, c69, c70, c71, c72, c73, c74, c75, c76, c77, c78, c79, c80, c81, c82, c83, c84, c85, c86, c87, c88, c89, c90, c91, c92, c93, c94, c95, c96, c97, c98, c99, c100, c101, c102, c103, c104, c105, c106, c107, c108, c109, c110, c111, c112, c113, c114, c115, c116, c117, c118, c119, c120, c121, c122, c123, c124, c125, c126, c127, c128, c129, c130, c131, c132, c133, c134, c135, c136, c137, c138, c139, c140, c141, c142, c143, c144, c145, c146, c147, c148, c149, c150, c151, c152, c153, c154, c155, c156, c157], df⟩ : Act).tmps.size).map f).toArray = #[f 0, f 1, f 2, f 3, f 4, f 5, f 6, f 7, f 8, f 9, f 10, f 11, f 12, f 13, f 14, f 15, f 16, f 17, f 18, f 19, f 20, f 21, f 22, f 23, f 24, f 25, f 26, f 27, f 28, f 29, f 30, f 31, f 32, f 33, f 34, f 35, f 36, f 37, f 38, f 39, f 40, f 41, f 42, f 43, f 44, f 45, f 46, f 47, f 48, f 49, f 50, f 51, f 52, f 53, f 54, f 55, f 56, f 57, f 58, f 59, f 60, f 61, f 62, f 63, f 64, f 65, f 66, f 67, f 68, f 69, f 70, f 71, f 72, f 73, f 74, f 75, f 76, f 77, f 78, f 79, f 80, f 81, f 82, f 83, f 84, f 85, f 86, f 87, f 88, f 89, f 90, f 91, f 92, f 93, f 94, f 95, f 96, f 97, f 98, f 99, f 100, f 101, f 102, f 103, f 104, f 105, f 106, f 107, f 108, f 109, f 110, f 111, f 112, f 113, f 114, f 115, f 116, f 117, f 118, f 119, f 120, f 121, f 122, f 123, f 124, f 125, f 126, f 127, f 128, f 129, f 130, f 131, f 132, f 133, f 134, f 135, f 136, f 137, f 138, f 139, f 140, f 141, f 142, f 143, f 144, f 145, f 146, f 147, f 148, f 149, f 150, f 151, f 152, f 153, f 154, f 155, f 156, f 157] := fun _ => rfl
    rw [hl] at ha
    simp only [hv.fixed 0 (by decide), hv.fixed 1 (by decide), hv.fixed 2 (by decide), hv.fixed 3 (by decide), hv.fixed 4 (by decide), hv.fixed 5 (by decide), hv.fixed 6 (by decide), hv.fixed 7 (by decide), hv.fixed 8 (by decide), hv.fixed 9 (by decide), hv.fixed 10 (by decide), hv.fixed 11 (by decide), hv.fixed 12 (by decide), hv.fixed 13 (by decide), hv.fixed 14 (by decide), hv.fixed 15 (by decide), hv.fixed 16 (by decide), hv.fixed 17 (by decide), hv.fixed 18 (by decide), hv.fixed 19 (by decide), hv.fixed 20 (by decide), hv.fixed 21 (by decide), hv.fixed 22 (by decide), hv.fixed 23 (by decide), hv.fixed 24 (by decide), hv.fixed 25 (by decide), hv.fixed 26 (by decide), hv.fixed 27 (by decide), hv.fixed 28 (by decide), hv.fixed 29 (by decide), hv.fixed 30 (by decide), hv.fixed 31 (by decide), hv.fixed 32 (by decide), hv.fixed 33 (by decide), hv.fixed 34 (by decide), hv.fixed 35 (by decide), hv.fixed 36 (by decide), hv.fixed 37 (by decide), hv.fixed 38 (by decide), hv.fixed 39 (by decide), hv.fixed 40 (by decide), hv.fixed 41 (by decide), hv.fixed 42 (by decide), hv.fixed 43 (by decide), hv.fixed 44 (by decide), hv.fixed 45 (by decide), hv.fixed 46 (by decide), hv.fixed 47 (by decide), hv.fixed 48 (by decide), hv.fixed 49 (by decide), hv.fixed 50 (by decide), hv.fixed 51 (by decide), hv.fixed 52 (by decide), hv.fixed 53 (by decide), hv.fixed 54 (by decide), hv.fixed 55 (by decide), hv.fixed 56 (by decide), hv.fixed 57 (by decide), hv.fixed 58 (by decide), hv.fixed 59 (by decide), hv.fixed 60 (by decide), hv.fixed 87 (by decide), hv.fixed 88 (by decide), hv.fixed 89 (by decide), hv.fixed 90 (by decide), hv.fixed 91 (by decide), hv.fixed 92 (by decide), hv.fixed 93 (by decide), hv.fixed 94 (by decide), hv.fixed 95 (by decide), hv.fixed 96 (by decide), hv.fixed 97 (by decide), hv.fixed 98 (by decide), hv.fixed 99 (by decide), hv.fixed 100 (by decide), hv.fixed 101 (by decide), hv.fixed 102 (by decide), hv.fixed 103 (by decide), hv.fixed 104 (by decide), hv.fixed 105 (by decide), hv.fixed 106 (by decide), hv.fixed 107 (by decide), hv.fixed 108 (by decide), hv.fixed 109 (by decide), hv.fixed 110 (by decide), hv.fixed 111 (by decide), hv.fixed 112 (by decide), hv.fixed 113 (by decide), hv.fixed 114 (by decide), hv.fixed 115 (by decide), hv.fixed 116 (by decide), hv.fixed 117 (by decide), hv.fixed 118 (by decide), hv.fixed 119 (by decide), hv.fixed 120 (by decide), hv.fixed 121 (by decide), hv.fixed 122 (by decide), hv.fixed 123 (by decide), hv.fixed 124 (by decide), hv.fixed 125 (by decide), hv.fixed 126 (by decide), hv.fixed 127 (by decide), hv.fixed 128 (by decide), hv.fixed 129 (by decide), hv.fixed 130 (by decide), hv.fixed 131 (by decide), hv.fixed 132 (by decide), hv.fixed 133 (by decide), hv.fixed 134 (by decide), hv.fixed 135 (by decide), hv.fixed 136 (by decide), hv.fixed 137 (by decide), hv.fixed 138 (by decide), hv.fixed 139 (by decide), hv.fixed 140 (by decide), hv.fixed 141 (by decide), hv.fixed 142 (by decide), hv.fixed 143 (by decide), hv.fixed 144 (by decide), hv.fixed 145 (by decide), hv.fixed 146 (by decide), hv.fixed 147 (by decide), hv.fixed 148 (by decide), hv.fixed 149 (by decide), hv.fixed 150 (by decide), hv.fixed 151 (by decide), hv.fixed 152 (by decide), hv.fixed 153 (by decide), hv.fixed 154 (by decide), hv.fixed 155 (by decide), hv.fixed 156 (by decide), hv.fixed 157 (by decide), hv.get 25 (d := 86) rfl rfl (hall 25 (by decide))] at ha
    rw [ha]
    exact hK _ _ _ _ _ _ _ _ _ _ _ _ _ _ _ _ _ _ _ _ _ _ _ _ _ wc HO.out
noncomputable def qv_back_code : Code := ((Tryd.f28.body.bind (regionOf 8)).getD .skip)
def qv_back_dsts : List (Option Nat) := [some 61, some 62, some 63, some 64, some 65, some 66, some 67, some 68, some 69, some 70, some 71, some 72, some 73, some 74, some 75, some 76, some 77, some 78, some 79, some 80, some 81, some 82, some 83, some 84, some 85, some 86]
theorem qv_back_apart : apartD qv_back_dsts = true := by decide +kernel
set_option maxRecDepth 1000000 in
set_option maxHeartbeats 16000000 in
theorem qv_back (wr : World) (B X n cA cc aa bb : Nat) (ad1 ad2 : Addr) (pp : Int) (han : aa < n) (hbn : bb < n) (b0 : wr.cell? ⟨B, 0, none⟩ = some (.slice (some ad1) n cA)) (x0 : wr.cell? ⟨X, 0, none⟩ = some (.int .i64 (aa : Int))) (x1 : wr.cell? ⟨X, 1, none⟩ = some (.int .i64 (bb : Int))) (g1 : wr.cell? (ad1.add aa) = some (.slice (some ad2) n cc)) (g2 : wr.cell? (ad2.add bb) = some (.int .i64 pp)) (hp : ¬ pp < 0) (k : Nat) (j ln cl : Nat) (ad : Addr) (f9 : Int) (hj64 : (j : Int) ≤ 9223372036854775806) (hkj : k = j + 1) (hjl : j < ln) (m1 : wr.cell? (ad.add (j * 2)) = some (.int .i64 f9)) (hq : (aa : Int) ≤ f9) (c0 c3 c4 c5 c8 c9 c10 c11 c12 c13 c14 c15 c16 c17 c18 c19 c20 c21 c22 c23 c24 c25 c26 c27 c28 c29 c30 c31 c32 c33 c34 c35 c36 c37 c38 c39 c40 c41 c42 c43 c44 c45 c46 c47 c48 c49 c50 c51 c52 c53 c54 c55 c56 c57 c58 c59 c60 c61 c62 c63 c64 c65 c66 c67 c68 c69 c70 c71 c72 c73 c74 c75 c76 c77 c78 c79 c80 c81 c82 c83 c84 c85 c86 c87 c88 c89 c90 c91 c92 c93 c94 c95 c96 c97 c98 c99 c100 c101 c102 c103 c104 c105 c106 c107 c108 c109 c110 c111 c112 c113 c114 c115 c116 c117 c118 c119 c120 c121 c122 c123 c124 c125 c126 c127 c128 c129 c130 c131 c132 c133 c134 c135 c136 c137 c138 c139 c140 c141 c142 c143 c144 c145 c146 c147 c148 c149 c150 c151 c152 c153 c154 c155 c156 c157 : Value) (df : List Deferred) (K : Act → World → Prop)
    (hK : ∀  (u61 u62 u63 u64 u65 u66 u67 u68 u69 u70 u71 u72 u73 u74 u75 u76 u77 u78 u79 u80 u81 u82 u83 u84 u85 : Value) (wx : World), Ext wr wx → K ⟨#[c0, .slice (some ad) ln cl, .pointer (some ⟨B, 0, none⟩), c3, c4, c5, .int .i64 (k : Nat), .pointer (some ⟨X, 0, none⟩), c8, c9, c10, c11, c12, c13, c14, c15, c16, c17, c18, c19, c20, c21, c22, c23, c24, c25, c26, c27, c28, c29, c30, c31, c32, c33, c34, c35, c36, c37, c38, c39, c40, c41, c42, c43, c44, c45, c46, c47, c48, c49, c50, c51, c52, c53, c54, c55, c56, c57, c58, c59, c60, u61, u62, u63, u64, u65, u66, u67, u68, u69, u70, u71, u72, u73, u74, u75, u76, u77, u78, u79, u80, u81, u82, u83, u84, u85, .bool true, c87, c88, c89, c90, c91, c92, c93, c94, c95, c96, c97, c98, c99, c100, c101, c102, c103, c104, c105, c106, c107, c108, c109, c110, c111, c112, c113, c114, c115, c116, c117, c118, c119, c120, c121, c122, c123, c124, c125, c126, c127, c128, c129, c130, c131, c132, c133, c134, c135, c136, c137, c138, c139, c140, c141, c142, c143, c144, c145, c146, c147, c148, c149, c150, c151, c152, c153, c154, c155, c156, c157], df⟩ wx) :
    Code.wp Tryd.prog qv_back_code (AtEnd K) ⟨#[c0, .slice (some ad) ln cl, .pointer (some ⟨B, 0, none⟩), c3, c4, c5, .int .i64 (k : Nat), .pointer (some ⟨X, 0, none⟩), c8, c9, c10, c11, c12, c13, c14, c15, c16, c17, c18, c19, c20, c21, c22, c23, c24, c25, c26, c27, c28, c29, c30, c31, c32, c33, c34, c35, c36, c37, c38, c39, c40, c41, c42, c43, c44, c45, c46, c47, c48, c49, c50, c51, c52, c53, c54, c55, c56, c57, c58, c59, c60, c61, c62, c63, c64, c65, c66, c67, c68, c69, c70, c71, c72, c73, c74, c75, c76, c77, c78, c79, c80, c81, c82, c83, c84, c85, c86, c87, c88, c89, c90, c91, c92, c93, c94, c95, c96, c97, c98, c99, c100, c101, c102, c103, c104, c105, c106, c107, c108, c109, c110, c111, c112, c113, c114, c115, c116, c117, c118, c119, c120, c121, c122, c123, c124, c125, c126, c127, c128, c129, c130, c131, c132, c133, c134, c135, c136, c137, c138, c139, c140, c141, c142, c143, c144, c145, c146, c147, c148, c149, c150, c151, c152, c153, c154, c155, c156, c157], df⟩ wr := by
  conv => arg 2; whnf
  refine region_inv (by kernel_rfl) [[], [0], [], [2], [1, 3], [4], [], [6], [5, 7], [8], [9], [10], [11], [12, 11], [13, 11, 11], [14], [14], [16, 14], [15, 17, 14], [18, 14], [19, 14], [14], [21, 14], [20, 22, 14], [14, 23, 11], [11, 24]] (by kernel_rfl) [0, 1, 2, 3, 4, 5, 6, 7, 8, 9, 10, 11, 12, 13, 14, 15, 16, 17, 18, 19, 20, 21, 22, 23, 24, 25] (by decide +kernel) (by decide +kernel) (by decide +kernel) (fun L a wc => Inv qv_back_dsts [.pointer (some ⟨B, 0, none⟩), .slice (some ad1) n cA, .pointer (some ⟨X, 0, none⟩), .int .i64 (aa : Int), .pointer (some (ad1.add aa)), .slice (some ad2) n cc, .pointer (some ⟨X, 1, none⟩), .int .i64 (bb : Int), .pointer (some (ad2.add bb)), .int .i64 pp, .bool false, .bool false, .int .i64 (k : Nat), .bool true, .bool true, .slice (some ad) ln cl, .int .i64 (k : Nat), .int .i64 (j : Nat), .pointer (some (ad.add (j * 2))), .pointer (some (ad.add (j * 2))), .int .i64 f9, .pointer (some ⟨X, 0, none⟩), .int .i64 (aa : Int), .bool true, .bool true, .bool true] ⟨#[c0, .slice (some ad) ln cl, .pointer (some ⟨B, 0, none⟩), c3, c4, c5, .int .i64 (k : Nat), .pointer (some ⟨X, 0, none⟩), c8, c9, c10, c11, c12, c13, c14, c15, c16, c17, c18, c19, c20, c21, c22, c23, c24, c25, c26, c27, c28, c29, c30, c31, c32, c33, c34, c35, c36, c37, c38, c39, c40, c41, c42, c43, c44, c45, c46, c47, c48, c49, c50, c51, c52, c53, c54, c55, c56, c57, c58, c59, c60, c61, c62, c63, c64, c65, c66, c67, c68, c69, c70, c71, c72, c73, c74, c75, c76, c77, c78, c79, c80, c81, c82, c83, c84, c85, c86, c87, c88, c89, c90, c91, c92, c93, c94, c95, c96, c97, c98, c99, c100, c101, c102, c103, c104, c105, c106, c107, c108, c109, c110, c111, c112, c113, c114, c115, c116, c117, c118, c119, c120, c121, c122, c123, c124, c125, c126, c127, c128, c129, c130, c131, c132, c133, c134, c135, c136, c137, c138, c139, c140, c141, c142, c143, c144, c145, c146, c147, c148, c149, c150, c151, c152, c153, c154, c155, c156, c157], df⟩ L a ∧ Hid (Ext wr wc)) ⟨Inv.start, Lib.hid ((Ext.refl wr).drew)⟩ ?_ ?_
  · refine ⟨?_, ?_, ?_, ?_, ?_, ?_, ?_, ?_, ?_, ?_, ?_, ?_, ?_, ?_, ?_, ?_, ?_, ?_, ?_, ?_, ?_, ?_, ?_, ?_, ?_, ?_, trivial⟩
    · -- 0 field
      rintro L a wc ⟨hv, HO⟩ hL hc hd
      exact wpOp_val rfl rfl (ex_field rfl ((hv.fixed 2 (by decide)).trans rfl) (by go_simp)) ⟨hv.put qv_back_apart 0 rfl (Nat.le_of_ble_eq_true rfl) (Nat.le_of_ble_eq_true rfl) rfl, HO⟩
    · -- 1 load
      rintro L a wc ⟨hv, HO⟩ hL hc hd
      have h0 : wc.cell? ⟨B, 0, none⟩ = some (.slice (some ad1) n cA) := HO.out.cell b0
      exact wpOp_val rfl rfl (ex_load rfl (hv.get 0 rfl rfl (hd 0 (by decide))) (by go_simp)) ⟨hv.put qv_back_apart 1 rfl (Nat.le_of_ble_eq_true rfl) (Nat.le_of_ble_eq_true rfl) rfl, HO⟩
    · -- 2 field
      rintro L a wc ⟨hv, HO⟩ hL hc hd
      exact wpOp_val rfl rfl (ex_field rfl ((hv.fixed 7 (by decide)).trans rfl) (by go_simp)) ⟨hv.put qv_back_apart 2 rfl (Nat.le_of_ble_eq_true rfl) (Nat.le_of_ble_eq_true rfl) rfl, HO⟩
    · -- 3 load
      rintro L a wc ⟨hv, HO⟩ hL hc hd
      have h1 : wc.cell? ⟨X, 0, none⟩ = some (.int .i64 (aa : Int)) := HO.out.cell x0
      exact wpOp_val rfl rfl (ex_load rfl (hv.get 2 rfl rfl (hd 2 (by decide))) (by go_simp)) ⟨hv.put qv_back_apart 3 rfl (Nat.le_of_ble_eq_true rfl) (Nat.le_of_ble_eq_true rfl) rfl, HO⟩
    · -- 4 index
      rintro L a wc ⟨hv, HO⟩ hL hc hd
      have u1 : (0 : Int) ≤ (aa : Int) := by omega
      have u2 : (aa : Int) < (n : Int) := by omega
      exact wpOp_val rfl rfl (ex_index rfl (hv.get 1 rfl rfl (hd 1 (by decide))) (hv.get 3 rfl rfl (hd 3 (by decide))) (by go_simp)) ⟨hv.put qv_back_apart 4 rfl (Nat.le_of_ble_eq_true rfl) (Nat.le_of_ble_eq_true rfl) rfl, HO⟩
    · -- 5 load
      rintro L a wc ⟨hv, HO⟩ hL hc hd
      have h1 : wc.cell? (ad1.add aa) = some (.slice (some ad2) n cc) := HO.out.cell g1
      exact wpOp_val rfl rfl (ex_load rfl (hv.get 4 rfl rfl (hd 4 (by decide))) (by go_simp)) ⟨hv.put qv_back_apart 5 rfl (Nat.le_of_ble_eq_true rfl) (Nat.le_of_ble_eq_true rfl) rfl, HO⟩
    · -- 6 field
      rintro L a wc ⟨hv, HO⟩ hL hc hd
      exact wpOp_val rfl rfl (ex_field rfl ((hv.fixed 7 (by decide)).trans rfl) (by go_simp)) ⟨hv.put qv_back_apart 6 rfl (Nat.le_of_ble_eq_true rfl) (Nat.le_of_ble_eq_true rfl) rfl, HO⟩
    · -- 7 load
      rintro L a wc ⟨hv, HO⟩ hL hc hd
      have h1 : wc.cell? ⟨X, 1, none⟩ = some (.int .i64 (bb : Int)) := HO.out.cell x1
      exact wpOp_val rfl rfl (ex_load rfl (hv.get 6 rfl rfl (hd 6 (by decide))) (by go_simp)) ⟨hv.put qv_back_apart 7 rfl (Nat.le_of_ble_eq_true rfl) (Nat.le_of_ble_eq_true rfl) rfl, HO⟩
    · -- 8 index
      rintro L a wc ⟨hv, HO⟩ hL hc hd
      have u1 : (0 : Int) ≤ (bb : Int) := by omega
      have u2 : (bb : Int) < (n : Int) := by omega
      exact wpOp_val rfl rfl (ex_index rfl (hv.get 5 rfl rfl (hd 5 (by decide))) (hv.get 7 rfl rfl (hd 7 (by decide))) (by go_simp)) ⟨hv.put qv_back_apart 8 rfl (Nat.le_of_ble_eq_true rfl) (Nat.le_of_ble_eq_true rfl) rfl, HO⟩
    · -- 9 load
      rintro L a wc ⟨hv, HO⟩ hL hc hd
      have h1 : wc.cell? (ad2.add bb) = some (.int .i64 pp) := HO.out.cell g2
      exact wpOp_val rfl rfl (ex_load rfl (hv.get 8 rfl rfl (hd 8 (by decide))) (by go_simp)) ⟨hv.put qv_back_apart 9 rfl (Nat.le_of_ble_eq_true rfl) (Nat.le_of_ble_eq_true rfl) rfl, HO⟩
    · -- 10 bin
      rintro L a wc ⟨hv, HO⟩ hL hc hd
      exact wpOp_val rfl rfl (ex_bin rfl (hv.get 9 rfl rfl (hd 9 (by decide))) rfl (by go_simp)) ⟨hv.put qv_back_apart 10 rfl (Nat.le_of_ble_eq_true rfl) (Nat.le_of_ble_eq_true rfl) rfl, HO⟩
    · -- 11 move
      rintro L a wc ⟨hv, HO⟩ hL hc hd
      exact wpOp_val rfl rfl (ex_move rfl (hv.get 10 rfl rfl (hd 10 (by decide)))) ⟨hv.put qv_back_apart 11 rfl (Nat.le_of_ble_eq_true rfl) (Nat.le_of_ble_eq_true rfl) rfl, HO⟩
    · -- 12 move
      rintro L a wc ⟨hv, HO⟩ hL hc hd
      exact wpOp_val rfl ((wanted_at rfl rfl (hv.get 11 rfl rfl (hd 11 (by decide)))).trans rfl) (ex_move rfl ((hv.fixed 6 (by decide)).trans rfl)) ⟨hv.put qv_back_apart 12 rfl (Nat.le_of_ble_eq_true rfl) (Nat.le_of_ble_eq_true rfl) rfl, HO⟩
    · -- 13 bin
      rintro L a wc ⟨hv, HO⟩ hL hc hd
      have u3 : (0 : Int) < (k : Int) := by omega
      exact wpOp_val rfl ((wanted_at rfl rfl (hv.get 11 rfl rfl (hd 11 (by decide)))).trans rfl) (ex_bin rfl (hv.get 12 rfl rfl (hd 12 (by decide))) rfl (by go_simp)) ⟨hv.put qv_back_apart 13 rfl (Nat.le_of_ble_eq_true rfl) (Nat.le_of_ble_eq_true rfl) rfl, HO⟩
    · -- 14 move
      rintro L a wc ⟨hv, HO⟩ hL hc hd
      exact wpOp_val rfl ((wanted_at rfl rfl (hv.get 11 rfl rfl (hd 11 (by decide)))).trans rfl) (ex_move rfl (hv.get 13 rfl rfl (hd 13 (by decide)))) ⟨hv.put qv_back_apart 14 rfl (Nat.le_of_ble_eq_true rfl) (Nat.le_of_ble_eq_true rfl) rfl, HO⟩
    · -- 15 move
      rintro L a wc ⟨hv, HO⟩ hL hc hd
      exact wpOp_val rfl ((wanted_at rfl rfl (hv.get 14 rfl rfl (hd 14 (by decide)))).trans rfl) (ex_move rfl ((hv.fixed 1 (by decide)).trans rfl)) ⟨hv.put qv_back_apart 15 rfl (Nat.le_of_ble_eq_true rfl) (Nat.le_of_ble_eq_true rfl) rfl, HO⟩
    · -- 16 move
      rintro L a wc ⟨hv, HO⟩ hL hc hd
      exact wpOp_val rfl ((wanted_at rfl rfl (hv.get 14 rfl rfl (hd 14 (by decide)))).trans rfl) (ex_move rfl ((hv.fixed 6 (by decide)).trans rfl)) ⟨hv.put qv_back_apart 16 rfl (Nat.le_of_ble_eq_true rfl) (Nat.le_of_ble_eq_true rfl) rfl, HO⟩
    · -- 17 bin
      rintro L a wc ⟨hv, HO⟩ hL hc hd
      have u3 : (k : Int) - 1 = (j : Int) := by omega
      have u4 : (1 : Int) ≤ (k : Int) := by omega
      have u5 : IntKind.i64.wrap ((j : Nat) : Int) = (j : Int) := by rw [IntKind.wrap_i64]; omega
      exact wpOp_val rfl ((wanted_at rfl rfl (hv.get 14 rfl rfl (hd 14 (by decide)))).trans rfl) (ex_bin rfl (hv.get 16 rfl rfl (hd 16 (by decide))) rfl (by go_simp)) ⟨hv.put qv_back_apart 17 rfl (Nat.le_of_ble_eq_true rfl) (Nat.le_of_ble_eq_true rfl) rfl, HO⟩
    · -- 18 index
      rintro L a wc ⟨hv, HO⟩ hL hc hd
      have u1 : (0 : Int) ≤ (j : Int) := by omega
      have u2 : (j : Int) < (ln : Int) := by omega
      exact wpOp_val rfl ((wanted_at rfl rfl (hv.get 14 rfl rfl (hd 14 (by decide)))).trans rfl) (ex_index rfl (hv.get 15 rfl rfl (hd 15 (by decide))) (hv.get 17 rfl rfl (hd 17 (by decide))) (by go_simp)) ⟨hv.put qv_back_apart 18 rfl (Nat.le_of_ble_eq_true rfl) (Nat.le_of_ble_eq_true rfl) rfl, HO⟩
    · -- 19 field
      rintro L a wc ⟨hv, HO⟩ hL hc hd
      exact wpOp_val rfl ((wanted_at rfl rfl (hv.get 14 rfl rfl (hd 14 (by decide)))).trans rfl) (ex_field rfl (hv.get 18 rfl rfl (hd 18 (by decide))) (by go_simp)) ⟨hv.put qv_back_apart 19 rfl (Nat.le_of_ble_eq_true rfl) (Nat.le_of_ble_eq_true rfl) rfl, HO⟩
    · -- 20 load
      rintro L a wc ⟨hv, HO⟩ hL hc hd
      have h1 : wc.cell? (ad.add (j * 2)) = some (.int .i64 f9) := HO.out.cell m1
      exact wpOp_val rfl ((wanted_at rfl rfl (hv.get 14 rfl rfl (hd 14 (by decide)))).trans rfl) (ex_load rfl (hv.get 19 rfl rfl (hd 19 (by decide))) (by go_simp)) ⟨hv.put qv_back_apart 20 rfl (Nat.le_of_ble_eq_true rfl) (Nat.le_of_ble_eq_true rfl) rfl, HO⟩
    · -- 21 field
      rintro L a wc ⟨hv, HO⟩ hL hc hd
      exact wpOp_val rfl ((wanted_at rfl rfl (hv.get 14 rfl rfl (hd 14 (by decide)))).trans rfl) (ex_field rfl ((hv.fixed 7 (by decide)).trans rfl) (by go_simp)) ⟨hv.put qv_back_apart 21 rfl (Nat.le_of_ble_eq_true rfl) (Nat.le_of_ble_eq_true rfl) rfl, HO⟩
    · -- 22 load
      rintro L a wc ⟨hv, HO⟩ hL hc hd
      have h1 : wc.cell? ⟨X, 0, none⟩ = some (.int .i64 (aa : Int)) := HO.out.cell x0
      exact wpOp_val rfl ((wanted_at rfl rfl (hv.get 14 rfl rfl (hd 14 (by decide)))).trans rfl) (ex_load rfl (hv.get 21 rfl rfl (hd 21 (by decide))) (by go_simp)) ⟨hv.put qv_back_apart 22 rfl (Nat.le_of_ble_eq_true rfl) (Nat.le_of_ble_eq_true rfl) rfl, HO⟩
    · -- 23 bin
      rintro L a wc ⟨hv, HO⟩ hL hc hd
      exact wpOp_val rfl ((wanted_at rfl rfl (hv.get 14 rfl rfl (hd 14 (by decide)))).trans rfl) (ex_bin rfl (hv.get 20 rfl rfl (hd 20 (by decide))) (hv.get 22 rfl rfl (hd 22 (by decide))) (by go_simp)) ⟨hv.put qv_back_apart 23 rfl (Nat.le_of_ble_eq_true rfl) (Nat.le_of_ble_eq_true rfl) rfl, HO⟩
    · -- 24 pick
      rintro L a wc ⟨hv, HO⟩ hL hc hd
      exact wpOp_val rfl ((wanted_at rfl rfl (hv.get 11 rfl rfl (hd 11 (by decide)))).trans rfl) (ex_pick rfl (hv.get 14 rfl rfl (hd 14 (by decide))) ((if_pos rfl).trans (hv.get 23 rfl rfl (hd 23 (by decide))))) ⟨hv.put qv_back_apart 24 rfl (Nat.le_of_ble_eq_true rfl) (Nat.le_of_ble_eq_true rfl) rfl, HO⟩
    · -- 25 pick
      rintro L a wc ⟨hv, HO⟩ hL hc hd
      exact wpOp_val rfl rfl (ex_pick rfl (hv.get 11 rfl rfl (hd 11 (by decide))) ((if_neg (by simp)).trans (hv.get 24 rfl rfl (hd 24 (by decide))))) ⟨hv.put qv_back_apart 25 rfl (Nat.le_of_ble_eq_true rfl) (Nat.le_of_ble_eq_true rfl) rfl, HO⟩
  · rintro L a wc ⟨hv, HO⟩ hall
    show K a wc
    have ha := act_lit a
    rw [hv.size, hv.defers] at ha
    have hl : ∀ f : Nat → Value, ((List.range (⟨#[c0, .slice (some ad) ln cl, .pointer (some ⟨B, 0, none⟩), c3, c4, c5, .int .i64 (k : Nat), .pointer (some ⟨X, 0, none⟩), c8, c9, c10, c11, c12, c13, c14, c15, c16, c17, c18, c19, c20, c21, c22, c23, c24, c25, c26, c27, c28, c29, c30, c31, c32, c33, c34, c35, c36, c37, c38, c39, c40, c41, c42, c43, c44, c45, c46, c47, c48, c49, c50, c51, c52, c53, c54, c55, c56, c57, c58, c59, c60, c61, c62, c63, c64, c65, c66, c67, c68, c69, c70, c71, c72, c73, c74, c75, c76, c77, c78, c79, c80, c81, c82, c83, c84, c85, c86, c87, c88, c89, c90, c91, c92, c93, c94, c95, c96, c97, c98, c99, c100, c101, c102, c103, c104, c105, c106, c107, c108, c109, c110, c111, c112, c113, c114, c115, c116, c117, c118, c119, c120, c121, c122, c123, c124, c125, c126, c127, c128, c129, c130, c131, c132, c133, c134, c135, c136, c137, c138, c139, c140, c141, c142, c143, c144, c145, c146, c147, c148, c149, c150, c151, c152, c153, c154, c155, c156, c157], df⟩ : Act).tmps.size).map f).toArray = #[f 0, f 1, f 2, f 3, f 4, f 5, f 6, f 7, f 8, f 9, f 10, f 11, f 12, f 13, f 14, f 15, f 16, f 17, f 18, f 19, f 20, f 21, f 22, f 23, f 24, f 25, f 26, f 27, f 28, f 29, f 30, f 31, f 32, f 33, f 34, f 35, f 36, f 37, f 38, f 39, f 40, f 41, f 42, f 43, f 44, f 45, f 46, f 47, f 48, f 49, f 50, f 51, f 52, f 53, f 54, f 55, f 56, f 57, f 58, f 59, f 60, f 61, f 62, f 63, f 64, f 65, f 66, f 67, f 68, f 69, f 70, f 71, f 72, f 73, f 74, f 75, f 76, f 77, f 78, f 79, f 80, f 81, f 82, f 83, f 84, f 85, f 86, f 87, f 88, f 89, f 90, f 91, f 92, f 93, f 94, f 95, f 96, f 97, f 98, f 99, f 100, f 101, f 102, f 103, f 104, f 105, f 106, f 107, f 108, f 109, f 110, f 111, f 112, f 113, f 114, f 115, f 116, f 117, f 118, f 119, f 120, f 121, f 122, f 123, f 124, f 125, f 126, f 127, f 128, f 129, f 130, f 131, f 132, f 133, f 134, f 135, f 136, f 137, f 138, f 139, f 140, f 141, f 142, f 143, f 144, f 145, f 146, f 147, f 148, f 149, f 150, f 151, f 152, f 153, f 154, f 155, f 156, f 157] := fun _ => rfl
    rw [hl] at ha
    simp only [hv.fixed 0 (by decide), hv.fixed 1 (by decide), hv.fixed 2 (by decide), hv.fixed 3 (by decide), hv.fixed 4 (by decide), hv.fixed 5 (by decide), hv.fixed 6 (by decide), hv.fixed 7 (by decide), hv.fixed 8 (by decide), hv.fixed 9 (by decide), hv.fixed 10 (by decide), hv.fixed 11 (by decide), hv.fixed 12 (by decide), hv.fixed 13 (by decide), hv.fixed 14 (by decide), hv.fixed 15 (by decide), hv.fixed 16 (by decide), hv.fixed 17 (by decide), hv.fixed 18 (by decide), hv.fixed 19 (by decide), hv.fixed 20 (by decide), hv.fixed 21 (by decide), hv.fixed 22 (by decide), hv.fixed 23 (by decide), hv.fixed 24 (by decide), hv.fixed 25 (by decide), hv.fixed 26 (by decide), hv.fixed 27 (by decide), hv.fixed 28 (by decide), hv.fixed 29 (by decide), hv.fixed 30 (by decide), hv.fixed 31 (by decide), hv.fixed 32 (by decide), hv.fixed 33 (by decide), hv.fixed 34 (by decide), hv.fixed 35 (by decide), hv.fixed 36 (by decide), hv.fixed 37 (by decide), hv.fixed 38 (by decide), hv.fixed 39 (by decide), hv.fixed 40 (by decide), hv.fixed 41 (by decide), hv.fixed 42 (by decide), hv.fixed 43 (by decide), hv.fixed 44 (by decide), hv.fixed 45 (by decide), hv.fixed 46 (by decide), hv.fixed 47 (by decide), hv.fixed 48 (by decide), hv.fixed 49 (by decide), hv.fixed 50 (by decide), hv.fixed 51 (by decide), hv.fixed 52 (by decide), hv.fixed 53 (by decide), hv.fixed 54 (by decide), hv.fixed 55 (by decide), hv.fixed 56 (by decide), hv.fixed 57 (by decide), hv.fixed 58 (by decide), hv.fixed 59 (by decide), hv.fixed 60 (by decide), hv.fixed 87 (by decide), hv.fixed 88 (by decide), hv.fixed 89 (by decide), hv.fixed 90 (by decide), hv.fixed 91 (by decide), hv.fixed 92 (by decide), hv.fixed 93 (by decide), hv.fixed 94 (by decide), hv.fixed 95 (by decide), hv.fixed 96 (by decide), hv.fixed 97 (by decide), hv.fixed 98 (by decide), hv.fixed 99 (by decide), hv.fixed 100 (by decide), hv.fixed 101 (by decide), hv.fixed 102 (by decide), hv.fixed 103 (by decide), hv.fixed 104 (by decide), hv.fixed 105 (by decide), hv.fixed 106 (by decide), hv.fixed 107 (by decide), hv.fixed 108 (by decide), hv.fixed 109 (by decide), hv.fixed 110 (by decide), hv.fixed 111 (by decide), hv.fixed 112 (by decide), hv.fixed 113 (by decide), hv.fixed 114 (by decide), hv.fixed 115 (by decide), hv.fixed 116 (by decide), hv.fixed 117 (by decide), hv.fixed 118 (by decide), hv.fixed 119 (by decide), hv.fixed 120 (by decide), hv.fixed 121 (by decide), hv.fixed 122 (by decide), hv.fixed 123 (by decide), hv.fixed 124 (by decide), hv.fixed 125 (by decide), hv.fixed 126 (by decide), hv.fixed 127 (by decide), hv.fixed 128 (by decide), hv.fixed 129 (by decide), hv.fixed 130 (by decide), hv.fixed 131 (by decide), hv.fixed 132 (by decide), hv.fixed 133 (by decide), hv.fixed 134 (by decide), hv.fixed 135 (by decide), hv.fixed 136 (by decide), hv.fixed 137 (by decide), hv.fixed 138 (by decide), hv.fixed 139 (by decide), hv.fixed 140 (by decide), hv.fixed 141 (by decide), hv.fixed 142 (by decide), hv.fixed 143 (by decide), hv.fixed 144 (by decide), hv.fixed 145 (by decide), hv.fixed 146 (by decide), hv.fixed 147 (by decide), hv.fixed 148 (by decide), hv.fixed 149 (by decide), hv.fixed 150 (by decide), hv.fixed 151 (by decide), hv.fixed 152 (by decide), hv.fixed 153 (by decide), hv.fixed 154 (by decide), hv.fixed 155 (by decide), hv.fixed 156 (by decide), hv.fixed 157 (by decide), hv.get 25 (d := 86) rfl rfl (hall 25 (by decide))] at ha
    rw [ha]
    exact hK _ _ _ _ _ _ _ _ _ _ _ _ _ _ _ _ _ _ _ _ _ _ _ _ _ wc HO.out
noncomputable def qv_rise_code : Code := ((Tryd.f28.body.bind (regionOf 8)).getD .skip)
def qv_rise_dsts : List (Option Nat) := [some 61, some 62, some 63, some 64, some 65, some 66, some 67, some 68, some 69, some 70, some 71, some 72, some 73, some 74, some 75, some 76, some 77, some 78, some 79, some 80, some 81, some 82, some 83, some 84, some 85, some 86]
theorem qv_rise_apart : apartD qv_rise_dsts = true := by decide +kernel
set_option maxRecDepth 1000000 in
set_option maxHeartbeats 16000000 in
theorem qv_rise (wr : World) (B X n cA cc aa bb : Nat) (ad1 ad2 : Addr) (pp : Int) (han : aa < n) (hbn : bb < n) (b0 : wr.cell? ⟨B, 0, none⟩ = some (.slice (some ad1) n cA)) (x0 : wr.cell? ⟨X, 0, none⟩ = some (.int .i64 (aa : Int))) (x1 : wr.cell? ⟨X, 1, none⟩ = some (.int .i64 (bb : Int))) (g1 : wr.cell? (ad1.add aa) = some (.slice (some ad2) n cc)) (g2 : wr.cell? (ad2.add bb) = some (.int .i64 pp)) (hp : ¬ pp < 0) (k : Nat) (j ln cl : Nat) (ad : Addr) (f9 : Int) (hj64 : (j : Int) ≤ 9223372036854775806) (hkj : k = j + 1) (hjl : j < ln) (m1 : wr.cell? (ad.add (j * 2)) = some (.int .i64 f9)) (hq : ¬ (aa : Int) ≤ f9) (c0 c3 c4 c5 c8 c9 c10 c11 c12 c13 c14 c15 c16 c17 c18 c19 c20 c21 c22 c23 c24 c25 c26 c27 c28 c29 c30 c31 c32 c33 c34 c35 c36 c37 c38 c39 c40 c41 c42 c43 c44 c45 c46 c47 c48 c49 c50 c51 c52 c53 c54 c55 c56 c57 c58 c59 c60 c61 c62 c63 c64 c65 c66 c67 c68 c69 c70 c71 c72 c73 c74 c75 c76 c77 c78 c79 c80 c81 c82 c83 c84 c85 c86 c87 c88 c89 c90 c91 c92 c93 c94 c95 c96 c97 c98 c99 c100 c101 c102 c103 c104 c105 c106 c107 c108 c109 c110 c111 c112 c113 c114 c115 c116 c117 c118 c119 c120 c121 c122 c123 c124 c125 c126 c127 c128 c129 c130 c131 c132 c133 c134 c135 c136 c137 c138 c139 c140 c141 c142 c143 c144 c145 c146 c147 c148 c149 c150 c151 c152 c153 c154 c155 c156 c157 : Value) (df : List Deferred) (K : Act → World → Prop)
    (hK : ∀  (u61 u62 u63 u64 u65 u66 u67 u68 u69 u70 u71 u72 u73 u74 u75 u76 u77 u78 u79 u80 u81 u82 u83 u84 u85 : Value) (wx : World), Ext wr wx → K ⟨#[c0, .slice (some ad) ln cl, .pointer (some ⟨B, 0, none⟩), c3, c4, c5, .int .i64 (k : Nat), .pointer (some ⟨X, 0, none⟩), c8, c9, c10, c11, c12, c13, c14, c15, c16, c17, c18, c19, c20, c21, c22, c23, c24, c25, c26, c27, c28, c29, c30, c31, c32, c33, c34, c35, c36, c37, c38, c39, c40, c41, c42, c43, c44, c45, c46, c47, c48, c49, c50, c51, c52, c53, c54, c55, c56, c57, c58, c59, c60, u61, u62, u63, u64, u65, u66, u67, u68, u69, u70, u71, u72, u73, u74, u75, u76, u77, u78, u79, u80, u81, u82, u83, u84, u85, .bool false, c87, c88, c89, c90, c91, c92, c93, c94, c95, c96, c97, c98, c99, c100, c101, c102, c103, c104, c105, c106, c107, c108, c109, c110, c111, c112, c113, c114, c115, c116, c117, c118, c119, c120, c121, c122, c123, c124, c125, c126, c127, c128, c129, c130, c131, c132, c133, c134, c135, c136, c137, c138, c139, c140, c141, c142, c143, c144, c145, c146, c147, c148, c149, c150, c151, c152, c153, c154, c155, c156, c157], df⟩ wx) :
    Code.wp Tryd.prog qv_rise_code (AtEnd K) ⟨#[c0, .slice (some ad) ln cl, .pointer (some ⟨B, 0, none⟩), c3, c4, c5, .int .i64 (k : Nat), .pointer (some ⟨X, 0, none⟩), c8, c9, c10, c11, c12, c13, c14, c15, c16, c17, c18, c19, c20, c21, c22, c23, c24, c25, c26, c27, c28, c29, c30, c31, c32, c33, c34, c35, c36, c37, c38, c39, c40, c41, c42, c43, c44, c45, c46, c47, c48, c49, c50, c51, c52, c53, c54, c55, c56, c57, c58, c59, c60, c61, c62, c63, c64, c65, c66, c67, c68, c69, c70, c71, c72, c73, c74, c75, c76, c77, c78, c79, c80, c81, c82, c83, c84, c85, c86, c87, c88, c89, c90, c91, c92, c93, c94, c95, c96, c97, c98, c99, c100, c101, c102, c103, c104, c105, c106, c107, c108, c109, c110, c111, c112, c113, c114, c115, c116, c117, c118, c119, c120, c121, c122, c123, c124, c125, c126, c127, c128, c129, c130, c131, c132, c133, c134, c135, c136, c137, c138, c139, c140, c141, c142, c143, c144, c145, c146, c147, c148, c149, c150, c151, c152, c153, c154, c155, c156, c157], df⟩ wr := by
  conv => arg 2; whnf
  refine region_inv (by kernel_rfl) [[], [0], [], [2], [1, 3], [4], [], [6], [5, 7], [8], [9], [10], [11], [12, 11], [13, 11, 11], [14], [14], [16, 14], [15, 17, 14], [18, 14], [19, 14], [14], [21, 14], [20, 22, 14], [14, 23, 11], [11, 24]] (by kernel_rfl) [0, 1, 2, 3, 4, 5, 6, 7, 8, 9, 10, 11, 12, 13, 14, 15, 16, 17, 18, 19, 20, 21, 22, 23, 24, 25] (by decide +kernel) (by decide +kernel) (by decide +kernel) (fun L a wc => Inv qv_rise_dsts [.pointer (some ⟨B, 0, none⟩), .slice (some ad1) n cA, .pointer (some ⟨X, 0, none⟩), .int .i64 (aa : Int), .pointer (some (ad1.add aa)), .slice (some ad2) n cc, .pointer (some ⟨X, 1, none⟩), .int .i64 (bb : Int), .pointer (some (ad2.add bb)), .int .i64 pp, .bool false, .bool false, .int .i64 (k : Nat), .bool true, .bool true, .slice (some ad) ln cl, .int .i64 (k : Nat), .int .i64 (j : Nat), .pointer (some (ad.add (j * 2))), .pointer (some (ad.add (j * 2))), .int .i64 f9, .pointer (some ⟨X, 0, none⟩), .int .i64 (aa : Int), .bool false, .bool false, .bool false] ⟨#[c0, .slice (some ad) ln cl, .pointer (some ⟨B, 0, none⟩), c3, c4, c5, .int .i64 (k : Nat), .pointer (some ⟨X, 0, none⟩), c8, c9, c10, c11, c12, c13, c14, c15, c16, c17, c18, c19, c20, c21, c22, c23, c24, c25, c26, c27, c28, c29, c30, c31, c32, c33, c34, c35, c36, c37, c38, c39, c40, c41, c42, c43, c44, c45, c46, c47, c48, c49, c50, c51, c52, c53, c54, c55, c56, c57, c58, c59, c60, c61, c62, c63, c64, c65, c66, c67, c68, c69, c70, c71, c72, c73, c74, c75, c76, c77, c78, c79, c80, c81, c82, c83, c84, c85, c86, c87, c88, c89, c90, c91, c92, c93, c94, c95, c96, c97, c98, c99, c100, c101, c102, c103, c104, c105, c106, c107, c108, c109, c110, c111, c112, c113, c114, c115, c116, c117, c118, c119, c120, c121, c122, c123, c124, c125, c126, c127, c128, c129, c130, c131, c132, c133, c134, c135, c136, c137, c138, c139, c140, c141, c142, c143, c144, c145, c146, c147, c148, c149, c150, c151, c152, c153, c154, c155, c156, c157], df⟩ L a ∧ Hid (Ext wr wc)) ⟨Inv.start, Lib.hid ((Ext.refl wr).drew)⟩ ?_ ?_
  · refine ⟨?_, ?_, ?_, ?_, ?_, ?_, ?_, ?_, ?_, ?_, ?_, ?_, ?_, ?_, ?_, ?_, ?_, ?_, ?_, ?_, ?_, ?_, ?_, ?_, ?_, ?_, trivial⟩
    · -- 0 field
      rintro L a wc ⟨hv, HO⟩ hL hc hd
      exact wpOp_val rfl rfl (ex_field rfl ((hv.fixed 2 (by decide)).trans rfl) (by go_simp)) ⟨hv.put qv_rise_apart 0 rfl (Nat.le_of_ble_eq_true rfl) (Nat.le_of_ble_eq_true rfl) rfl, HO⟩
    · -- 1 load
      rintro L a wc ⟨hv, HO⟩ hL hc hd
      have h0 : wc.cell? ⟨B, 0, none⟩ = some (.slice (some ad1) n cA) := HO.out.cell b0
      exact wpOp_val rfl rfl (ex_load rfl (hv.get 0 rfl rfl (hd 0 (by decide))) (by go_simp)) ⟨hv.put qv_rise_apart 1 rfl (Nat.le_of_ble_eq_true rfl) (Nat.le_of_ble_eq_true rfl) rfl, HO⟩
    · -- 2 field
      rintro L a wc ⟨hv, HO⟩ hL hc hd
      exact wpOp_val rfl rfl (ex_field rfl ((hv.fixed 7 (by decide)).trans rfl) (by go_simp)) ⟨hv.put qv_rise_apart 2 rfl (Nat.le_of_ble_eq_true rfl) (Nat.le_of_ble_eq_true rfl) rfl, HO⟩
    · -- 3 load
      rintro L a wc ⟨hv, HO⟩ hL hc hd
      have h1 : wc.cell? ⟨X, 0, none⟩ = some (.int .i64 (aa : Int)) := HO.out.cell x0
      exact wpOp_val rfl rfl (ex_load rfl (hv.get 2 rfl rfl (hd 2 (by decide))) (by go_simp)) ⟨hv.put qv_rise_apart 3 rfl (Nat.le_of_ble_eq_true rfl) (Nat.le_of_ble_eq_true rfl) rfl, HO⟩
    · -- 4 index
      rintro L a wc ⟨hv, HO⟩ hL hc hd
      have u1 : (0 : Int) ≤ (aa : Int) := by omega
      have u2 : (aa : Int) < (n : Int) := by omega
      exact wpOp_val rfl rfl (ex_index rfl (hv.get 1 rfl rfl (hd 1 (by decide))) (hv.get 3 rfl rfl (hd 3 (by decide))) (by go_simp)) ⟨hv.put qv_rise_apart 4 rfl (Nat.le_of_ble_eq_true rfl) (Nat.le_of_ble_eq_true rfl) rfl, HO⟩
    · -- 5 load
      rintro L a wc ⟨hv, HO⟩ hL hc hd
      have h1 : wc.cell? (ad1.add aa) = some (.slice (some ad2) n cc) := HO.out.cell g1
      exact wpOp_val rfl rfl (ex_load rfl (hv.get 4 rfl rfl (hd 4 (by decide))) (by go_simp)) ⟨hv.put qv_rise_apart 5 rfl (Nat.le_of_ble_eq_true rfl) (Nat.le_of_ble_eq_true rfl) rfl, HO⟩
    · -- 6 field
      rintro L a wc ⟨hv, HO⟩ hL hc hd
      exact wpOp_val rfl rfl (ex_field rfl ((hv.fixed 7 (by decide)).trans rfl) (by go_simp)) ⟨hv.put qv_rise_apart 6 rfl (Nat.le_of_ble_eq_true rfl) (Nat.le_of_ble_eq_true rfl) rfl, HO⟩
    · -- 7 load
      rintro L a wc ⟨hv, HO⟩ hL hc hd
      have h1 : wc.cell? ⟨X, 1, none⟩ = some (.int .i64 (bb : Int)) := HO.out.cell x1
      exact wpOp_val rfl rfl (ex_load rfl (hv.get 6 rfl rfl (hd 6 (by decide))) (by go_simp)) ⟨hv.put qv_rise_apart 7 rfl (Nat.le_of_ble_eq_true rfl) (Nat.le_of_ble_eq_true rfl) rfl, HO⟩
    · -- 8 index
      rintro L a wc ⟨hv, HO⟩ hL hc hd
      have u1 : (0 : Int) ≤ (bb : Int) := by omega
      have u2 : (bb : Int) < (n : Int) := by omega
      exact wpOp_val rfl rfl (ex_index rfl (hv.get 5 rfl rfl (hd 5 (by decide))) (hv.get 7 rfl rfl (hd 7 (by decide))) (by go_simp)) ⟨hv.put qv_rise_apart 8 rfl (Nat.le_of_ble_eq_true rfl) (Nat.le_of_ble_eq_true rfl) rfl, HO⟩
    · -- 9 load
      rintro L a wc ⟨hv, HO⟩ hL hc hd
      have h1 : wc.cell? (ad2.add bb) = some (.int .i64 pp) := HO.out.cell g2
      exact wpOp_val rfl rfl (ex_load rfl (hv.get 8 rfl rfl (hd 8 (by decide))) (by go_simp)) ⟨hv.put qv_rise_apart 9 rfl (Nat.le_of_ble_eq_true rfl) (Nat.le_of_ble_eq_true rfl) rfl, HO⟩
    · -- 10 bin
      rintro L a wc ⟨hv, HO⟩ hL hc hd
      exact wpOp_val rfl rfl (ex_bin rfl (hv.get 9 rfl rfl (hd 9 (by decide))) rfl (by go_simp)) ⟨hv.put qv_rise_apart 10 rfl (Nat.le_of_ble_eq_true rfl) (Nat.le_of_ble_eq_true rfl) rfl, HO⟩
    · -- 11 move
      rintro L a wc ⟨hv, HO⟩ hL hc hd
      exact wpOp_val rfl rfl (ex_move rfl (hv.get 10 rfl rfl (hd 10 (by decide)))) ⟨hv.put qv_rise_apart 11 rfl (Nat.le_of_ble_eq_true rfl) (Nat.le_of_ble_eq_true rfl) rfl, HO⟩
    · -- 12 move
      rintro L a wc ⟨hv, HO⟩ hL hc hd
      exact wpOp_val rfl ((wanted_at rfl rfl (hv.get 11 rfl rfl (hd 11 (by decide)))).trans rfl) (ex_move rfl ((hv.fixed 6 (by decide)).trans rfl)) ⟨hv.put qv_rise_apart 12 rfl (Nat.le_of_ble_eq_true rfl) (Nat.le_of_ble_eq_true rfl) rfl, HO⟩
    · -- 13 bin
      rintro L a wc ⟨hv, HO⟩ hL hc hd
      have u3 : (0 : Int) < (k : Int) := by omega
      exact wpOp_val rfl ((wanted_at rfl rfl (hv.get 11 rfl rfl (hd 11 (by decide)))).trans rfl) (ex_bin rfl (hv.get 12 rfl rfl (hd 12 (by decide))) rfl (by go_simp)) ⟨hv.put qv_rise_apart 13 rfl (Nat.le_of_ble_eq_true rfl) (Nat.le_of_ble_eq_true rfl) rfl, HO⟩
    · -- 14 move
      rintro L a wc ⟨hv, HO⟩ hL hc hd
      exact wpOp_val rfl ((wanted_at rfl rfl (hv.get 11 rfl rfl (hd 11 (by decide)))).trans rfl) (ex_move rfl (hv.get 13 rfl rfl (hd 13 (by decide)))) ⟨hv.put qv_rise_apart 14 rfl (Nat.le_of_ble_eq_true rfl) (Nat.le_of_ble_eq_true rfl) rfl, HO⟩
    · -- 15 move
      rintro L a wc ⟨hv, HO⟩ hL hc hd
      exact wpOp_val rfl ((wanted_at rfl rfl (hv.get 14 rfl rfl (hd 14 (by decide)))).trans rfl) (ex_move rfl ((hv.fixed 1 (by decide)).trans rfl)) ⟨hv.put qv_rise_apart 15 rfl (Nat.le_of_ble_eq_true rfl) (Nat.le_of_ble_eq_true rfl) rfl, HO⟩
    · -- 16 move
      rintro L a wc ⟨hv, HO⟩ hL hc hd
      exact wpOp_val rfl ((wanted_at rfl rfl (hv.get 14 rfl rfl (hd 14 (by decide)))).trans rfl) (ex_move rfl ((hv.fixed 6 (by decide)).trans rfl)) ⟨hv.put qv_rise_apart 16 rfl (Nat.le_of_ble_eq_true rfl) (Nat.le_of_ble_eq_true rfl) rfl, HO⟩
    · -- 17 bin
      rintro L a wc ⟨hv, HO⟩ hL hc hd
      have u3 : (k : Int) - 1 = (j : Int) := by omega
      have u4 : (1 : Int) ≤ (k : Int) := by omega
      have u5 : IntKind.i64.wrap ((j : Nat) : Int) = (j : Int) := by rw [IntKind.wrap_i64]; omega
      exact wpOp_val rfl ((wanted_at rfl rfl (hv.get 14 rfl rfl (hd 14 (by decide)))).trans rfl) (ex_bin rfl (hv.get 16 rfl rfl (hd 16 (by decide))) rfl (by go_simp)) ⟨hv.put qv_rise_apart 17 rfl (Nat.le_of_ble_eq_true rfl) (Nat.le_of_ble_eq_true rfl) rfl, HO⟩
    · -- 18 index
      rintro L a wc ⟨hv, HO⟩ hL hc hd
      have u1 : (0 : Int) ≤ (j : Int) := by omega
      have u2 : (j : Int) < (ln : Int) := by omega
      exact wpOp_val rfl ((wanted_at rfl rfl (hv.get 14 rfl rfl (hd 14 (by decide)))).trans rfl) (ex_index rfl (hv.get 15 rfl rfl (hd 15 (by decide))) (hv.get 17 rfl rfl (hd 17 (by decide))) (by go_simp)) ⟨hv.put qv_rise_apart 18 rfl (Nat.le_of_ble_eq_true rfl) (Nat.le_of_ble_eq_true rfl) rfl, HO⟩
    · -- 19 field
      rintro L a wc ⟨hv, HO⟩ hL hc hd
      exact wpOp_val rfl ((wanted_at rfl rfl (hv.get 14 rfl rfl (hd 14 (by decide)))).trans rfl) (ex_field rfl (hv.get 18 rfl rfl (hd 18 (by decide))) (by go_simp)) ⟨hv.put qv_rise_apart 19 rfl (Nat.le_of_ble_eq_true rfl) (Nat.le_of_ble_eq_true rfl) rfl, HO⟩
    · -- 20 load
      rintro L a wc ⟨hv, HO⟩ hL hc hd
      have h1 : wc.cell? (ad.add (j * 2)) = some (.int .i64 f9) := HO.out.cell m1
      exact wpOp_val rfl ((wanted_at rfl rfl (hv.get 14 rfl rfl (hd 14 (by decide)))).trans rfl) (ex_load rfl (hv.get 19 rfl rfl (hd 19 (by decide))) (by go_simp)) ⟨hv.put qv_rise_apart 20 rfl (Nat.le_of_ble_eq_true rfl) (Nat.le_of_ble_eq_true rfl) rfl, HO⟩
    · -- 21 field
      rintro L a wc ⟨hv, HO⟩ hL hc hd
      exact wpOp_val rfl ((wanted_at rfl rfl (hv.get 14 rfl rfl (hd 14 (by decide)))).trans rfl) (ex_field rfl ((hv.fixed 7 (by decide)).trans rfl) (by go_simp)) ⟨hv.put qv_rise_apart 21 rfl (Nat.le_of_ble_eq_true rfl) (Nat.le_of_ble_eq_true rfl) rfl, HO⟩
    · -- 22 load
      rintro L a wc ⟨hv, HO⟩ hL hc hd
      have h1 : wc.cell? ⟨X, 0, none⟩ = some (.int .i64 (aa : Int)) := HO.out.cell x0
      exact wpOp_val rfl ((wanted_at rfl rfl (hv.get 14 rfl rfl (hd 14 (by decide)))).trans rfl) (ex_load rfl (hv.get 21 rfl rfl (hd 21 (by decide))) (by go_simp)) ⟨hv.put qv_rise_apart 22 rfl (Nat.le_of_ble_eq_true rfl) (Nat.le_of_ble_eq_true rfl) rfl, HO⟩
    · -- 23 bin
      rintro L a wc ⟨hv, HO⟩ hL hc hd
      exact wpOp_val rfl ((wanted_at rfl rfl (hv.get 14 rfl rfl (hd 14 (by decide)))).trans rfl) (ex_bin rfl (hv.get 20 rfl rfl (hd 20 (by decide))) (hv.get 22 rfl rfl (hd 22 (by decide))) (by go_simp)) ⟨hv.put qv_rise_apart 23 rfl (Nat.le_of_ble_eq_true rfl) (Nat.le_of_ble_eq_true rfl) rfl, HO⟩
    · -- 24 pick
      rintro L a wc ⟨hv, HO⟩ hL hc hd
      exact wpOp_val rfl ((wanted_at rfl rfl (hv.get 11 rfl rfl (hd 11 (by decide)))).trans rfl) (ex_pick rfl (hv.get 14 rfl rfl (hd 14 (by decide))) ((if_pos rfl).trans (hv.get 23 rfl rfl (hd 23 (by decide))))) ⟨hv.put qv_rise_apart 24 rfl (Nat.le_of_ble_eq_true rfl) (Nat.le_of_ble_eq_true rfl) rfl, HO⟩
    · -- 25 pick
      rintro L a wc ⟨hv, HO⟩ hL hc hd
      exact wpOp_val rfl rfl (ex_pick rfl (hv.get 11 rfl rfl (hd 11 (by decide))) ((if_neg (by simp)).trans (hv.get 24 rfl rfl (hd 24 (by decide))))) ⟨hv.put qv_rise_apart 25 rfl (Nat.le_of_ble_eq_true rfl) (Nat.le_of_ble_eq_true rfl) rfl, HO⟩
  · rintro L a wc ⟨hv, HO⟩ hall
    show K a wc
    have ha := act_lit a
    rw [hv.size, hv.defers] at ha
    have hl : ∀ f : Nat → Value, ((List.range (⟨#[c0, .slice (some ad) ln cl, .pointer (some ⟨B, 0, none⟩), c3, c4, c5, .int .i64 (k : Nat), .pointer (some ⟨X, 0, none⟩), c8, c9, c10, c11, c12, c13, c14, c15, c16, c17, c18, c19, c20, c21, c22, c23, c24, c25, c26, c27, c28, c29, c30, c31, c32, c33, c34, c35, c36, c37, c38, c39, c40, c41, c42, c43, c44, c45, c46, c47, c48, c49, c50, c51, c52, c53, c54, c55, c56, c57, c58, c59, c60, c61, c62, c63, c64, c65, c66, c67, c68, c69, c70, c71, c72, c73, c74, c75, c76, c77, c78, c79, c80, c81, c82, c83, c84, c85, c86, c87, c88, c89, c90, c91, c92, c93, c94, c95, c96, c97, c98, c99, c100, c101, c102, c103, c104, c105, c106, c107, c108, c109, c110, c111, c112, c113, c114, c115, c116, c117, c118, c119, c120, c121, c122, c123, c124, c125, c126, c127, c128, c129, c130, c131, c132, c133, c134, c135, c136, c137, c138, c139, c140, c141, c142, c143, c144, c145, c146, c147, c148, c149, c150, c151, c152, c153, c154, c155, c156, c157], df⟩ : Act).tmps.size).map f).toArray = #[f 0, f 1, f 2, f 3, f 4, f 5, f 6, f 7, f 8, f 9, f 10, f 11, f 12, f 13, f 14, f 15, f 16, f 17, f 18, f 19, f 20, f 21, f 22, f 23, f 24, f 25, f 26, f 27, f 28, f 29, f 30, f 31, f 32, f 33, f 34, f 35, f 36, f 37, f 38, f 39, f 40, f 41, f 42, f 43, f 44, f 45, f 46, f 47, f 48, f 49, f 50, f 51, f 52, f 53, f 54, f 55, f 56, f 57, f 58, f 59, f 60, f 61, f 62, f 63, f 64, f 65, f 66, f 67, f 68, f 69, f 70, f 71, f 72, f 73, f 74, f 75, f 76, f 77, f 78, f 79, f 80, f 81, f 82, f 83, f 84, f 85, f 86, f 87, f 88, f 89, f 90, f 91, f 92, f 93, f 94, f 95, f 96, f 97, f 98, f 99, f 100, f 101, f 102, f 103, f 104, f 105, f 106, f 107, f 108, f 109, f 110, f 111, f 112, f 113, f 114, f 115, f 116, f 117, f 118, f 119, f 120, f 121, f 122, f 123, f 124, f 125, f 126, f 127, f 128, f 129, f 130, f 131, f 132, f 133, f 134, f 135, f 136, f 137, f 138, f 139, f 140, f 141, f 142, f 143, f 144, f 145, f 146, f 147, f 148, f 149, f 150, f 151, f 152, f 153, f 154, f 155, f 156, f 157] := fun _ => rfl
    rw [hl] at ha
    simp only [hv.fixed 0 (by decide), hv.fixed 1 (by decide), hv.fixed 2 (by decide), hv.fixed 3 (by decide), hv.fixed 4 (by decide), hv.fixed 5 (by decide), hv.fixed 6 (by decide), hv.fixed 7 (by decide), hv.fixed 8 (by decide), hv.fixed 9 (by decide), hv.fixed 10 (by decide), hv.fixed 11 (by decide), hv.fixed 12 (by decide), hv.fixed 13 (by decide), hv.fixed 14 (by decide), hv.fixed 15 (by decide), hv.fixed 16 (by decide), hv.fixed 17 (by decide), hv.fixed 18 (by decide), hv.fixed 19 (by decide), hv.fixed 20 (by decide), hv.fixed 21 (by decide), hv.fixed 22 (by decide), hv.fixed 23 (by decide), hv.fixed 24 (by decide), hv.fixed 25 (by decide), hv.fixed 26 (by decide), hv.fixed 27 (by decide), hv.fixed 28 (by decide), hv.fixed 29 (by decide), hv.fixed 30 (by decide), hv.fixed 31 (by decide), hv.fixed 32 (by decide), hv.fixed 33 (by decide), hv.fixed 34 (by decide), hv.fixed 35 (by decide), hv.fixed 36 (by decide), hv.fixed 37 (by decide), hv.fixed 38 (by decide), hv.fixed 39 (by decide), hv.fixed 40 (by decide), hv.fixed 41 (by decide), hv.fixed 42 (by decide), hv.fixed 43 (by decide), hv.fixed 44 (by decide), hv.fixed 45 (by decide), hv.fixed 46 (by decide), hv.fixed 47 (by decide), hv.fixed 48 (by decide), hv.fixed 49 (by decide), hv.fixed 50 (by decide), hv.fixed 51 (by decide), hv.fixed 52 (by decide), hv.fixed 53 (by decide), hv.fixed 54 (by decide), hv.fixed 55 (by decide), hv.fixed 56 (by decide), hv.fixed 57 (by decide), hv.fixed 58 (by decide), hv.fixed 59 (by decide), hv.fixed 60 (by decide), hv.fixed 87 (by decide), hv.fixed 88 (by decide), hv.fixed 89 (by decide), hv.fixed 90 (by decide), hv.fixed 91 (by decide), hv.fixed 92 (by decide), hv.fixed 93 (by decide), hv.fixed 94 (by decide), hv.fixed 95 (by decide), hv.fixed 96 (by decide), hv.fixed 97 (by decide), hv.fixed 98 (by decide), hv.fixed 99 (by decide), hv.fixed 100 (by decide), hv.fixed 101 (by decide), hv.fixed 102 (by decide), hv.fixed 103 (by decide), hv.fixed 104 (by decide), hv.fixed 105 (by decide), hv.fixed 106 (by decide), hv.fixed 107 (by decide), hv.fixed 108 (by decide), hv.fixed 109 (by decide), hv.fixed 110 (by decide), hv.fixed 111 (by decide), hv.fixed 112 (by decide), hv.fixed 113 (by decide), hv.fixed 114 (by decide), hv.fixed 115 (by decide), hv.fixed 116 (by decide), hv.fixed 117 (by decide), hv.fixed 118 (by decide), hv.fixed 119 (by decide), hv.fixed 120 (by decide), hv.fixed 121 (by decide), hv.fixed 122 (by decide), hv.fixed 123 (by decide), hv.fixed 124 (by decide), hv.fixed 125 (by decide), hv.fixed 126 (by decide), hv.fixed 127 (by decide), hv.fixed 128 (by decide), hv.fixed 129 (by decide), hv.fixed 130 (by decide), hv.fixed 131 (by decide), hv.fixed 132 (by decide), hv.fixed 133 (by decide), hv.fixed 134 (by decide), hv.fixed 135 (by decide), hv.fixed 136 (by decide), hv.fixed 137 (by decide), hv.fixed 138 (by decide), hv.fixed 139 (by decide), hv.fixed 140 (by decide), hv.fixed 141 (by decide), hv.fixed 142 (by decide), hv.fixed 143 (by decide), hv.fixed 144 (by decide), hv.fixed 145 (by decide), hv.fixed 146 (by decide), hv.fixed 147 (by decide), hv.fixed 148 (by decide), hv.fixed 149 (by decide), hv.fixed 150 (by decide), hv.fixed 151 (by decide), hv.fixed 152 (by decide), hv.fixed 153 (by decide), hv.fixed 154 (by decide), hv.fixed 155 (by decide), hv.fixed 156 (by decide), hv.fixed 157 (by decide), hv.get 25 (d := 86) rfl rfl (hall 25 (by decide))] at ha
    rw [ha]
    exact hK _ _ _ _ _ _ _ _ _ _ _ _ _ _ _ _ _ _ _ _ _ _ _ _ _ wc HO.out
end Go.Proofs.YtenafgphaceidaaDoor

/- THE WALKS over Valid of the specification of layer 19: its loops, each a declaration of its own. -/
namespace Go.Proofs.YtenafgphaceidaaDoor
open Go.RowKit
noncomputable def hops_loop_code : Code := ((Tryd.f28.body.bind (loopOf 6)).getD .skip)
set_option maxRecDepth 1000000 in
set_option maxHeartbeats 16000000 in
theorem hops_loop (W0 wr : World) (h : Su.Ha) (l : List (Int × Int)) (A C : Option Addr) (B n c e : Nat) (hl3 : l.length ≤ 9223372036854775807) (HX : Hid (Ext W0 wr)) (HK : Hid (Su.Ok h ∧ h.pr.length = n ∧ Su.check h = 0)) (HG : Hid (Rs (Rs RI) W0 (.slice A n c) h.pr)) (HL : Hid (RL W0 (.slice C l.length e) l)) (HD : Hid (W0.cell? ⟨B, 0, none⟩ = some (.slice A n c) ∧ W0.cell? ⟨B, 2, none⟩ = some (.int .i64 h.tgt))) (c0 c3 c4 c7 c8 c9 c10 c11 c12 c13 c14 c15 c16 c17 c18 c19 c20 c21 c22 c23 c24 c25 c26 c27 c28 c29 c30 c31 c32 c33 c34 c35 c36 c37 c38 c39 c40 c41 c42 c43 c44 c45 c46 c47 c48 c49 c50 c51 c52 c53 c54 c55 c56 c57 c58 c59 c60 c61 c62 c63 c64 c65 c66 c67 c68 c69 c70 c71 c72 c73 c74 c75 c76 c77 c78 c79 c80 c81 c82 c83 c84 c85 c86 c87 c88 c89 c90 c91 c92 c93 c94 c95 c96 c97 c98 c99 c100 c101 c102 c103 c104 c105 c106 c107 c108 c109 c110 c111 c112 c113 c114 c115 c116 c117 c118 c119 c120 c121 c122 c123 c124 c125 c126 c127 c128 c129 c130 c131 c132 c133 c134 c135 c136 c137 c138 c139 c140 c141 c142 c143 c144 c145 c146 c147 c148 c149 c150 c151 c152 c153 c154 c155 c156 c157 : Value) (df : List Deferred) (Q0 : Exit → Act → World → Prop)
    (hret : ∀ (u6 u7 u17 u18 u19 u20 u21 u22 u23 u24 u25 u26 u27 u28 u29 u30 u31 u32 u33 u34 u35 u36 u37 u38 u39 u40 u41 u42 u43 u44 u45 u46 u47 u48 u49 u50 u51 u52 u53 u54 u55 u56 u57 u58 u59 u60 u61 u62 u63 u64 u65 u66 u67 u68 u69 u70 u71 u72 u73 u74 u75 u76 u77 u78 u79 u80 u81 u82 u83 u84 u85 u86 : Value) (wx : World), Su.valid h l = false ∧ Ext W0 wx → Q0 .ret ⟨#[c0, .slice C l.length e, .pointer (some ⟨B, 0, none⟩), c3, .bool false, .int .i64 (n : Nat), u6, u7, c8, c9, c10, c11, c12, c13, c14, c15, c16, u17, u18, u19, u20, u21, u22, u23, u24, u25, u26, u27, u28, u29, u30, u31, u32, u33, u34, u35, u36, u37, u38, u39, u40, u41, u42, u43, u44, u45, u46, u47, u48, u49, u50, u51, u52, u53, u54, u55, u56, u57, u58, u59, u60, u61, u62, u63, u64, u65, u66, u67, u68, u69, u70, u71, u72, u73, u74, u75, u76, u77, u78, u79, u80, u81, u82, u83, u84, u85, u86, c87, c88, c89, c90, c91, c92, c93, c94, c95, c96, c97, c98, c99, c100, c101, c102, c103, c104, c105, c106, c107, c108, c109, c110, c111, c112, c113, c114, c115, c116, c117, c118, c119, c120, c121, c122, c123, c124, c125, c126, c127, c128, c129, c130, c131, c132, c133, c134, c135, c136, c137, c138, c139, c140, c141, c142, c143, c144, c145, c146, c147, c148, c149, c150, c151, c152, c153, c154, c155, c156, c157], df⟩ wx)
    (hexit : ∀ (u4 u6 u7 u17 u18 u19 u20 u21 u22 u23 u24 u25 u26 u27 u28 u29 u30 u31 u32 u33 u34 u35 u36 u37 u38 u39 u40 u41 u42 u43 u44 u45 u46 u47 u48 u49 u50 u51 u52 u53 u54 u55 u56 u57 u58 u59 u60 u61 u62 u63 u64 u65 u66 u67 u68 u69 u70 u71 u72 u73 u74 u75 u76 u77 u78 u79 u80 u81 u82 u83 u84 u85 u86 : Value) (wx : World), Ext W0 wx ∧ (∀ k, k < l.length → ¬ Su.badHop h l k (l.getD k (0, 0))) → Q0 (.exit 0) ⟨#[c0, .slice C l.length e, .pointer (some ⟨B, 0, none⟩), c3, u4, .int .i64 (n : Nat), u6, u7, c8, c9, c10, c11, c12, c13, c14, c15, c16, u17, u18, u19, u20, u21, u22, u23, u24, u25, u26, u27, u28, u29, u30, u31, u32, u33, u34, u35, u36, u37, u38, u39, u40, u41, u42, u43, u44, u45, u46, u47, u48, u49, u50, u51, u52, u53, u54, u55, u56, u57, u58, u59, u60, u61, u62, u63, u64, u65, u66, u67, u68, u69, u70, u71, u72, u73, u74, u75, u76, u77, u78, u79, u80, u81, u82, u83, u84, u85, u86, c87, c88, c89, c90, c91, c92, c93, c94, c95, c96, c97, c98, c99, c100, c101, c102, c103, c104, c105, c106, c107, c108, c109, c110, c111, c112, c113, c114, c115, c116, c117, c118, c119, c120, c121, c122, c123, c124, c125, c126, c127, c128, c129, c130, c131, c132, c133, c134, c135, c136, c137, c138, c139, c140, c141, c142, c143, c144, c145, c146, c147, c148, c149, c150, c151, c152, c153, c154, c155, c156, c157], df⟩ wx) :
    Code.wp Tryd.prog hops_loop_code Q0 ⟨#[c0, .slice C l.length e, .pointer (some ⟨B, 0, none⟩), c3, c4, .int .i64 (n : Nat), .int .i64 0, c7, c8, c9, c10, c11, c12, c13, c14, c15, c16, c17, c18, c19, c20, c21, c22, c23, c24, c25, c26, c27, c28, c29, c30, c31, c32, c33, c34, c35, c36, c37, c38, c39, c40, c41, c42, c43, c44, c45, c46, c47, c48, c49, c50, c51, c52, c53, c54, c55, c56, c57, c58, c59, c60, c61, c62, c63, c64, c65, c66, c67, c68, c69, c70, c71, c72, c73, c74, c75, c76, c77, c78, c79, c80, c81, c82, c83, c84, c85, c86, c87, c88, c89, c90, c91, c92, c93, c94, c95, c96, c97, c98, c99, c100, c101, c102, c103, c104, c105, c106, c107, c108, c109, c110, c111, c112, c113, c114, c115, c116, c117, c118, c119, c120, c121, c122, c123, c124, c125, c126, c127, c128, c129, c130, c131, c132, c133, c134, c135, c136, c137, c138, c139, c140, c141, c142, c143, c144, c145, c146, c147, c148, c149, c150, c151, c152, c153, c154, c155, c156, c157], df⟩ wr := by
  have HE := Lib.hid hexit
  clear hexit
  have HRT := Lib.hid hret
  clear hret
  conv => arg 2; whnf
  dsimp only
  go_loopw [6] (fun vi wr => ∃ i : Nat, i ≤ l.length ∧ vi = .int .i64 i ∧ Hid (Ext W0 wr ∧ ∀ k, k < i → ¬ Su.badHop h l k (l.getD k (0, 0)))) (fun vi _ => l.length - (intOf vi).toNat)
  case atStart => exact ⟨0, Nat.zero_le _, rfl, Lib.hid ⟨HX.out, fun k hk => absurd hk (Nat.not_lt_zero k)⟩⟩
  case round =>
    obtain ⟨i, hi, rfl, HI⟩ := hrel
    by_cases hlt : i < l.length
    · obtain ⟨ad, f, t, rfl, hft, k1, k2, kb, kb2⟩ := HL.out.at hlt
      have k1' := HI.out.1.cell k1
      have k2' := HI.out.1.cell k2
      have HX3 := Lib.hid ((Ext.refl wr).alloc (.cells #[.int .i64 f, .int .i64 t] 65))
      have hn := HK.out.2.1
      have HFT := Lib.hid hft
      have d0 : wr.cell? ⟨B, 0, none⟩ = some (.slice A n c) := HI.out.1.cell HD.out.1
      have d2 : wr.cell? ⟨B, 2, none⟩ = some (.int .i64 h.tgt) := HI.out.1.cell HD.out.2
      have x2 : (wr.alloc (.cells #[.int .i64 f, .int .i64 t] 65)).cell? ⟨B, 2, none⟩ = some (.int .i64 h.tgt) := HX3.out.cell d2
      by_cases q0 : f < 0
      · have HB := Lib.hid (Su.valid_hop (h := h) hlt (by rw [hft]; exact .inl q0))
        clear hft hn k1 k2
        go_wp2_with fail
        exact HRT.out _ _ _ _ _ _ _ _ _ _ _ _ _ _ _ _ _ _ _ _ _ _ _ _ _ _ _ _ _ _ _ _ _ _ _ _ _ _ _ _ _ _ _ _ _ _ _ _ _ _ _ _ _ _ _ _ _ _ _ _ _ _ _ _ _ _ _ _ _ _ _ _ _ ⟨HB.out, HI.out.1.trans HX3.out⟩
      by_cases q1 : (n : Int) ≤ f
      · have HB := Lib.hid (Su.valid_hop (h := h) hlt (by rw [hft]; exact .inr (.inl (by rw [hn]; exact q1))))
        clear hft hn k1 k2
        go_wp2_with fail
        exact HRT.out _ _ _ _ _ _ _ _ _ _ _ _ _ _ _ _ _ _ _ _ _ _ _ _ _ _ _ _ _ _ _ _ _ _ _ _ _ _ _ _ _ _ _ _ _ _ _ _ _ _ _ _ _ _ _ _ _ _ _ _ _ _ _ _ _ _ _ _ _ _ _ _ _ ⟨HB.out, HI.out.1.trans HX3.out⟩
      by_cases q2 : t < 0
      · have HB := Lib.hid (Su.valid_hop (h := h) hlt (by rw [hft]; exact .inr (.inr (.inl q2))))
        clear hft hn k1 k2
        go_wp2_with fail
        exact HRT.out _ _ _ _ _ _ _ _ _ _ _ _ _ _ _ _ _ _ _ _ _ _ _ _ _ _ _ _ _ _ _ _ _ _ _ _ _ _ _ _ _ _ _ _ _ _ _ _ _ _ _ _ _ _ _ _ _ _ _ _ _ _ _ _ _ _ _ _ _ _ _ _ _ ⟨HB.out, HI.out.1.trans HX3.out⟩
      by_cases q3 : (n : Int) ≤ t
      · have HB := Lib.hid (Su.valid_hop (h := h) hlt (by rw [hft]; exact .inr (.inr (.inr (.inl (by rw [hn]; exact q3))))))
        clear hft hn k1 k2
        go_wp2_with fail
        exact HRT.out _ _ _ _ _ _ _ _ _ _ _ _ _ _ _ _ _ _ _ _ _ _ _ _ _ _ _ _ _ _ _ _ _ _ _ _ _ _ _ _ _ _ _ _ _ _ _ _ _ _ _ _ _ _ _ _ _ _ _ _ _ _ _ _ _ _ _ _ _ _ _ _ _ ⟨HB.out, HI.out.1.trans HX3.out⟩
      by_cases q4 : f = t
      · have HB := Lib.hid (Su.valid_hop (h := h) hlt (by rw [hft]; exact .inr (.inr (.inr (.inr (.inl q4))))))
        have e4 : (f == t) = true := by rw [q4]; simp
        clear hft hn k1 k2 q4
        go_wp2_with fail
        exact HRT.out _ _ _ _ _ _ _ _ _ _ _ _ _ _ _ _ _ _ _ _ _ _ _ _ _ _ _ _ _ _ _ _ _ _ _ _ _ _ _ _ _ _ _ _ _ _ _ _ _ _ _ _ _ _ _ _ _ _ _ _ _ _ _ _ _ _ _ _ _ _ _ _ _ ⟨HB.out, HI.out.1.trans HX3.out⟩
      have e4 : (f == t) = false := by rw [beq_eq_false_iff_ne]; exact q4
      by_cases q5 : f = h.tgt
      · have HB := Lib.hid (Su.valid_hop (h := h) hlt (by rw [hft]; exact .inr (.inr (.inr (.inr (.inr (.inl q5)))))))
        have e5 : (f == h.tgt) = true := by rw [q5]; simp
        clear hft hn k1 k2 q5 q4
        go_wp2_with fail
        exact HRT.out _ _ _ _ _ _ _ _ _ _ _ _ _ _ _ _ _ _ _ _ _ _ _ _ _ _ _ _ _ _ _ _ _ _ _ _ _ _ _ _ _ _ _ _ _ _ _ _ _ _ _ _ _ _ _ _ _ _ _ _ _ _ _ _ _ _ _ _ _ _ _ _ _ ⟨HB.out, HI.out.1.trans HX3.out⟩
      have e5 : (f == h.tgt) = false := by rw [beq_eq_false_iff_ne]; exact q5
      obtain ⟨a, rfl⟩ : ∃ a : Nat, f = a := ⟨f.toNat, by omega⟩
      obtain ⟨b, rfl⟩ : ∃ b : Nat, t = b := ⟨t.toNat, by omega⟩
      have ha : a < n := by omega
      have hb : b < n := by omega
      obtain ⟨ad1, ad2, cc, hA, g1, g2⟩ := price_at HG.out HK.out.1 HK.out.2.1 ha hb
      have g1 := HI.out.1.cell g1
      have g2 := HI.out.1.cell g2
      rw [hA] at d0
      obtain ⟨pp, hpp⟩ : ∃ pp, Su.price h a b = pp := ⟨_, rfl⟩
      rw [hpp] at g2
      have x0 : (wr.alloc (.cells #[.int .i64 a, .int .i64 b] 65)).cell? ⟨B, 0, none⟩ = some (.slice (some ad1) n c) := HX3.out.cell d0
      have x3 : (wr.alloc (.cells #[.int .i64 a, .int .i64 b] 65)).cell? (ad1.add a) = some (.slice (some ad2) n cc) := HX3.out.cell g1
      have x4 : (wr.alloc (.cells #[.int .i64 a, .int .i64 b] 65)).cell? (ad2.add b) = some (.int .i64 pp) := HX3.out.cell g2
      have hX : B < wr.heap.size := lt_of_cell d0
      have y0 : (wr.alloc (.cells #[.int .i64 a, .int .i64 b] 65)).cell? ⟨wr.heap.size, 0, none⟩ = some (.int .i64 (a : Int)) := by go_simp
      have y1 : (wr.alloc (.cells #[.int .i64 a, .int .i64 b] 65)).cell? ⟨wr.heap.size, 1, none⟩ = some (.int .i64 (b : Int)) := by go_simp
      have HCE := Lib.hid (And.intro x0 (And.intro x3 (And.intro x4 (And.intro y0 y1))))
      clear x0 x3 x4 y0 y1 hX
      by_cases q6 : pp < 0
      · have HB := Lib.hid (Su.valid_hop (h := h) hlt (by rw [hft]; exact .inr (.inr (.inr (.inr (.inr (.inr (.inl (by rw [hpp]; exact q6)))))))))
        clear hft hn k1 k2 q4 q5 hA hpp g1 g2 d0 d2
        go_wp2_with fail
        refine wp_atEnd (qv_neg _ B wr.heap.size n c cc a b ad1 ad2 pp ha hb (HCE.out.1) (HCE.out.2.2.2.1) (HCE.out.2.2.2.2) (HCE.out.2.1) (HCE.out.2.2.1) q6 _ _ _ _ _ _ _ _ _ _ _ _ _ _ _ _ _ _ _ _ _ _ _ _ _ _ _ _ _ _ _ _ _ _ _ _ _ _ _ _ _ _ _ _ _ _ _ _ _ _ _ _ _ _ _ _ _ _ _ _ _ _ _ _ _ _ _ _ _ _ _ _ _ _ _ _ _ _ _ _ _ _ _ _ _ _ _ _ _ _ _ _ _ _ _ _ _ _ _ _ _ _ _ _ _ _ _ _ _ _ _ _ _ _ _ _ _ _ _ _ _ _ _ _ _ _ _ _ _ _ _ _ _ _ _ _ _ _ _ _ _ _ _ _ _ _ _ _ _ _ _ _ _ _ _ _ _ _ ?_)
        intro u61 u62 u63 u64 u65 u66 u67 u68 u69 u70 u71 u72 u73 u74 u75 u76 u77 u78 u79 u80 u81 u82 u83 u84 u85 wx hx
        have HXQ := Lib.hid hx
        clear hx
        go_wp2_with fail
        exact HRT.out _ _ _ _ _ _ _ _ _ _ _ _ _ _ _ _ _ _ _ _ _ _ _ _ _ _ _ _ _ _ _ _ _ _ _ _ _ _ _ _ _ _ _ _ _ _ _ _ _ _ _ _ _ _ _ _ _ _ _ _ _ _ _ _ _ _ _ _ _ _ _ _ _ ⟨HB.out, (HI.out.1.trans HX3.out).trans HXQ.out⟩
      by_cases q7 : 0 < i
      · obtain ⟨j, hj⟩ : ∃ j, i - 1 = j := ⟨_, rfl⟩
        have hjl : j < l.length := by omega
        obtain ⟨ad9, f9, t9, h9, hft9, m1, _, _, _⟩ := HL.out.at hjl
        injection h9 with h9
        subst h9
        have m1 := HX3.out.cell (HI.out.1.cell m1)
        have hj1 : (i : Int) - 1 = (j : Int) := by omega
        have HJI := Lib.hid (show i = j + 1 by omega)
        by_cases q8 : (a : Int) ≤ f9
        · have HB := Lib.hid (Su.valid_hop (h := h) hlt (by rw [hft]; exact .inr (.inr (.inr (.inr (.inr (.inr (.inr ⟨q7, by rw [hj, hft9]; exact q8⟩))))))))
          clear hft hn k1 k2 q4 q5 hA hpp g1 g2 d0 d2 hft9 hj
          go_wp2_with fail
          refine wp_atEnd (qv_back _ B wr.heap.size n c cc a b ad1 ad2 pp ha hb (HCE.out.1) (HCE.out.2.2.2.1) (HCE.out.2.2.2.2) (HCE.out.2.1) (HCE.out.2.2.1) (by omega) i j l.length e ad f9 (by omega) HJI.out hjl m1 (by omega) _ _ _ _ _ _ _ _ _ _ _ _ _ _ _ _ _ _ _ _ _ _ _ _ _ _ _ _ _ _ _ _ _ _ _ _ _ _ _ _ _ _ _ _ _ _ _ _ _ _ _ _ _ _ _ _ _ _ _ _ _ _ _ _ _ _ _ _ _ _ _ _ _ _ _ _ _ _ _ _ _ _ _ _ _ _ _ _ _ _ _ _ _ _ _ _ _ _ _ _ _ _ _ _ _ _ _ _ _ _ _ _ _ _ _ _ _ _ _ _ _ _ _ _ _ _ _ _ _ _ _ _ _ _ _ _ _ _ _ _ _ _ _ _ _ _ _ _ _ _ _ _ _ _ _ _ ?_)
          intro u61 u62 u63 u64 u65 u66 u67 u68 u69 u70 u71 u72 u73 u74 u75 u76 u77 u78 u79 u80 u81 u82 u83 u84 u85 wx hx
          have HXQ := Lib.hid hx
          clear hx
          go_wp2_with fail
          exact HRT.out _ _ _ _ _ _ _ _ _ _ _ _ _ _ _ _ _ _ _ _ _ _ _ _ _ _ _ _ _ _ _ _ _ _ _ _ _ _ _ _ _ _ _ _ _ _ _ _ _ _ _ _ _ _ _ _ _ _ _ _ _ _ _ _ _ _ _ _ _ _ _ _ _ ⟨HB.out, (HI.out.1.trans HX3.out).trans HXQ.out⟩
        · have HGOOD : Hid (¬ Su.badHop h l i (l.getD i (0, 0))) := Lib.hid (by
            rw [hft]
            unfold Su.badHop
            rw [hn, hj, hft9]
            simp only
            omega)
          clear hft hn k1 k2 q4 q5 hA hpp g1 g2 d0 d2 hft9 hj
          go_wp2_with fail
          refine wp_atEnd (qv_rise _ B wr.heap.size n c cc a b ad1 ad2 pp ha hb (HCE.out.1) (HCE.out.2.2.2.1) (HCE.out.2.2.2.2) (HCE.out.2.1) (HCE.out.2.2.1) (by omega) i j l.length e ad f9 (by omega) HJI.out hjl m1 (by omega) _ _ _ _ _ _ _ _ _ _ _ _ _ _ _ _ _ _ _ _ _ _ _ _ _ _ _ _ _ _ _ _ _ _ _ _ _ _ _ _ _ _ _ _ _ _ _ _ _ _ _ _ _ _ _ _ _ _ _ _ _ _ _ _ _ _ _ _ _ _ _ _ _ _ _ _ _ _ _ _ _ _ _ _ _ _ _ _ _ _ _ _ _ _ _ _ _ _ _ _ _ _ _ _ _ _ _ _ _ _ _ _ _ _ _ _ _ _ _ _ _ _ _ _ _ _ _ _ _ _ _ _ _ _ _ _ _ _ _ _ _ _ _ _ _ _ _ _ _ _ _ _ _ _ _ _ ?_)
          intro u61 u62 u63 u64 u65 u66 u67 u68 u69 u70 u71 u72 u73 u74 u75 u76 u77 u78 u79 u80 u81 u82 u83 u84 u85 wx hx
          have HXQ := Lib.hid hx
          clear hx
          go_wp2_with fail
          clear x2 m1 k1' k2' hj1
          go_roundw
          case rel => exact ⟨i + 1, by omega, by go_num, Lib.hid ⟨(HI.out.1.trans HX3.out).trans HXQ.out, fun k hk => by
            by_cases hki : k = i
            · rw [hki]; exact HGOOD.out
            · exact HI.out.2 k (by omega)⟩⟩
          case measure => simp [intOf]; omega
      · have HGOOD : Hid (¬ Su.badHop h l i (l.getD i (0, 0))) := Lib.hid (by
          rw [hft]
          unfold Su.badHop
          rw [hn]
          simp only
          omega)
        have HI0 := Lib.hid (show i = 0 by omega)
        clear hft hn k1 k2 q4 q5 hA hpp g1 g2 d0 d2
        go_wp2_with fail
        refine wp_atEnd (qv_first _ B wr.heap.size n c cc a b ad1 ad2 pp ha hb (HCE.out.1) (HCE.out.2.2.2.1) (HCE.out.2.2.2.2) (HCE.out.2.1) (HCE.out.2.2.1) (by omega) i HI0.out _ _ _ _ _ _ _ _ _ _ _ _ _ _ _ _ _ _ _ _ _ _ _ _ _ _ _ _ _ _ _ _ _ _ _ _ _ _ _ _ _ _ _ _ _ _ _ _ _ _ _ _ _ _ _ _ _ _ _ _ _ _ _ _ _ _ _ _ _ _ _ _ _ _ _ _ _ _ _ _ _ _ _ _ _ _ _ _ _ _ _ _ _ _ _ _ _ _ _ _ _ _ _ _ _ _ _ _ _ _ _ _ _ _ _ _ _ _ _ _ _ _ _ _ _ _ _ _ _ _ _ _ _ _ _ _ _ _ _ _ _ _ _ _ _ _ _ _ _ _ _ _ _ _ _ _ _ ?_)
        intro u61 u62 u63 u64 u65 u66 u67 u68 u69 u70 u71 u72 u73 u74 u75 u76 u77 u78 u79 u80 u81 u82 u83 u84 u85 wx hx
        have HXQ := Lib.hid hx
        clear hx
        go_wp2_with fail
        clear x2 k1' k2'
        go_roundw
        case rel => exact ⟨i + 1, by omega, by go_num, Lib.hid ⟨(HI.out.1.trans HX3.out).trans HXQ.out, fun k hk => by
          by_cases hki : k = i
          · rw [hki]; exact HGOOD.out
          · exact HI.out.2 k (by omega)⟩⟩
        case measure => simp [intOf]; omega
    · obtain rfl : i = l.length := by omega
      go_wp2_with fail
      exact HE.out _ _ _ _ _ _ _ _ _ _ _ _ _ _ _ _ _ _ _ _ _ _ _ _ _ _ _ _ _ _ _ _ _ _ _ _ _ _ _ _ _ _ _ _ _ _ _ _ _ _ _ _ _ _ _ _ _ _ _ _ _ _ _ _ _ _ _ _ _ _ _ _ _ wr HI.out

end Go.Proofs.YtenafgphaceidaaDoor

/- THE WALKS over Valid of the specification of layer 19: its loops, each a declaration of its own. -/
namespace Go.Proofs.YtenafgphaceidaaDoor
open Go.RowKit
noncomputable def must_all_code : Code := ((Tryd.f28.body.bind (loopOf 13)).getD .skip)
set_option maxRecDepth 1000000 in
set_option maxHeartbeats 16000000 in
theorem must_all (wr wo : World) (h : Su.Ha) (l : List (Int × Int)) (C SA : Option Addr) (B n d e : Nat) (hl3 : l.length ≤ 9223372036854775807) (hn12 : n ≤ 12) (hwo : wo = wr) (HK : Hid (Su.Ok h ∧ h.pr.length = n ∧ Su.check h = 0)) (HSO : Hid (Rs RI wo (.slice SA h.src.length d) h.src)) (HLO : Hid (RL wo (.slice C l.length e) l)) (HHO : Hid (Su.hopsOk h l)) (d1 : wo.cell? ⟨B, 1, none⟩ = some (.slice SA h.src.length d)) (d2 : wo.cell? ⟨B, 2, none⟩ = some (.int .i64 h.tgt)) (c0 c3 c4 c6 c7 c9 c10 c11 c12 c13 c14 c15 c16 c17 c18 c19 c20 c21 c22 c23 c24 c25 c26 c27 c28 c29 c30 c31 c32 c33 c34 c35 c36 c37 c38 c39 c40 c41 c42 c43 c44 c45 c46 c47 c48 c49 c50 c51 c52 c53 c54 c55 c56 c57 c58 c59 c60 c61 c62 c63 c64 c65 c66 c67 c68 c69 c70 c71 c72 c73 c74 c75 c76 c77 c78 c79 c80 c81 c82 c83 c84 c85 c86 c87 c88 c89 c90 c91 c92 c93 c94 c95 c96 c97 c98 c99 c100 c101 c102 c103 c104 c105 c106 c107 c108 c109 c110 c111 c112 c113 c114 c115 c116 c117 c118 c119 c120 c121 c122 c123 c124 c125 c126 c127 c128 c129 c130 c131 c132 c133 c134 c135 c136 c137 c138 c139 c140 c141 c142 c143 c144 c145 c146 c147 c148 c149 c150 c151 c152 c153 c154 c155 c156 c157 : Value) (df : List Deferred) (Q0 : Exit → Act → World → Prop)
    (hret : ∀ (u8 u9 u10 u87 u88 u89 u90 u91 u92 u93 u94 u95 u96 u97 u98 u99 u100 u101 u102 u103 u104 u105 u106 u107 u108 u109 u110 u111 u112 u113 u114 u115 u116 u117 u118 u119 u120 u121 u122 u123 u124 : Value) (wx : World), Su.valid h l = false ∧ wx = wo → Q0 .ret ⟨#[c0, .slice C l.length e, .pointer (some ⟨B, 0, none⟩), c3, .bool false, .int .i64 (n : Nat), c6, c7, u8, u9, u10, c11, c12, c13, c14, c15, c16, c17, c18, c19, c20, c21, c22, c23, c24, c25, c26, c27, c28, c29, c30, c31, c32, c33, c34, c35, c36, c37, c38, c39, c40, c41, c42, c43, c44, c45, c46, c47, c48, c49, c50, c51, c52, c53, c54, c55, c56, c57, c58, c59, c60, c61, c62, c63, c64, c65, c66, c67, c68, c69, c70, c71, c72, c73, c74, c75, c76, c77, c78, c79, c80, c81, c82, c83, c84, c85, c86, u87, u88, u89, u90, u91, u92, u93, u94, u95, u96, u97, u98, u99, u100, u101, u102, u103, u104, u105, u106, u107, u108, u109, u110, u111, u112, u113, u114, u115, u116, u117, u118, u119, u120, u121, u122, u123, u124, c125, c126, c127, c128, c129, c130, c131, c132, c133, c134, c135, c136, c137, c138, c139, c140, c141, c142, c143, c144, c145, c146, c147, c148, c149, c150, c151, c152, c153, c154, c155, c156, c157], df⟩ wx)
    (hexit : ∀ (u4 u8 u9 u10 u87 u88 u89 u90 u91 u92 u93 u94 u95 u96 u97 u98 u99 u100 u101 u102 u103 u104 u105 u106 u107 u108 u109 u110 u111 u112 u113 u114 u115 u116 u117 u118 u119 u120 u121 u122 u123 u124 : Value) (wx : World), (∀ a : Int, 0 ≤ a → a < (n : Int) → Su.mustTo (decide (a ∈ h.src)) l a l.length = true → a ≠ h.tgt → Su.nextOf l a ≠ none) ∧ wx = wo → Q0 (.exit 2) ⟨#[c0, .slice C l.length e, .pointer (some ⟨B, 0, none⟩), c3, u4, .int .i64 (n : Nat), c6, c7, u8, u9, u10, c11, c12, c13, c14, c15, c16, c17, c18, c19, c20, c21, c22, c23, c24, c25, c26, c27, c28, c29, c30, c31, c32, c33, c34, c35, c36, c37, c38, c39, c40, c41, c42, c43, c44, c45, c46, c47, c48, c49, c50, c51, c52, c53, c54, c55, c56, c57, c58, c59, c60, c61, c62, c63, c64, c65, c66, c67, c68, c69, c70, c71, c72, c73, c74, c75, c76, c77, c78, c79, c80, c81, c82, c83, c84, c85, c86, u87, u88, u89, u90, u91, u92, u93, u94, u95, u96, u97, u98, u99, u100, u101, u102, u103, u104, u105, u106, u107, u108, u109, u110, u111, u112, u113, u114, u115, u116, u117, u118, u119, u120, u121, u122, u123, u124, c125, c126, c127, c128, c129, c130, c131, c132, c133, c134, c135, c136, c137, c138, c139, c140, c141, c142, c143, c144, c145, c146, c147, c148, c149, c150, c151, c152, c153, c154, c155, c156, c157], df⟩ wx) :
    Code.wp Tryd.prog must_all_code Q0 ⟨#[c0, .slice C l.length e, .pointer (some ⟨B, 0, none⟩), c3, c4, .int .i64 (n : Nat), c6, c7, .int .i64 0, c9, c10, c11, c12, c13, c14, c15, c16, c17, c18, c19, c20, c21, c22, c23, c24, c25, c26, c27, c28, c29, c30, c31, c32, c33, c34, c35, c36, c37, c38, c39, c40, c41, c42, c43, c44, c45, c46, c47, c48, c49, c50, c51, c52, c53, c54, c55, c56, c57, c58, c59, c60, c61, c62, c63, c64, c65, c66, c67, c68, c69, c70, c71, c72, c73, c74, c75, c76, c77, c78, c79, c80, c81, c82, c83, c84, c85, c86, c87, c88, c89, c90, c91, c92, c93, c94, c95, c96, c97, c98, c99, c100, c101, c102, c103, c104, c105, c106, c107, c108, c109, c110, c111, c112, c113, c114, c115, c116, c117, c118, c119, c120, c121, c122, c123, c124, c125, c126, c127, c128, c129, c130, c131, c132, c133, c134, c135, c136, c137, c138, c139, c140, c141, c142, c143, c144, c145, c146, c147, c148, c149, c150, c151, c152, c153, c154, c155, c156, c157], df⟩ wr := by
  have HE := Lib.hid hexit
  clear hexit
  have HRT := Lib.hid hret
  clear hret
  conv => arg 2; whnf
  dsimp only
  subst hwo
  go_loop [8] (fun vi => ∃ i : Nat, i ≤ n ∧ vi = .int .i64 i ∧ Hid (∀ a : Int, 0 ≤ a → a < (i : Int) → Su.mustTo (decide (a ∈ h.src)) l a l.length = true → a ≠ h.tgt → Su.nextOf l a ≠ none)) (fun vi => n - (intOf vi).toNat)
  case atStart => exact ⟨0, Nat.zero_le _, rfl, Lib.hid fun a h1 h2 => by omega⟩
  case round =>
    obtain ⟨i, hi, rfl, HI⟩ := hrel
    by_cases hlt : i < n
    · go_wp2_with fail
      refine (rHas_any h.src i _ _ _ _ HSO.out).mono ?_
      rintro ee w1 ⟨rfl, rfl⟩
      obtain ⟨m0, hm0⟩ : ∃ m0, decide ((i : Int) ∈ h.src) = m0 := ⟨_, rfl⟩
      rw [hm0]
      have HM0 := Lib.hid hm0
      clear hm0
      go_wp2_with fail
      refine must_loop wo l C e i m0 hl3 HLO _ _ _ _ _ _ _ _ _ _ _ _ _ _ _ _ _ _ _ _ _ _ _ _ _ _ _ _ _ _ _ _ _ _ _ _ _ _ _ _ _ _ _ _ _ _ _ _ _ _ _ _ _ _ _ _ _ _ _ _ _ _ _ _ _ _ _ _ _ _ _ _ _ _ _ _ _ _ _ _ _ _ _ _ _ _ _ _ _ _ _ _ _ _ _ _ _ _ _ _ _ _ _ _ _ _ _ _ _ _ _ _ _ _ _ _ _ _ _ _ _ _ _ _ _ _ _ _ _ _ _ _ _ _ _ _ _ _ _ _ _ _ _ _ _ _ _ _ _ _ _ _ _ _ _ _ ?_
      rintro u9 u10 u96 u97 u98 u99 u100 u101 u102 u103 u104 u105 u106 u107 u108 u109 u110 u111 wx ⟨rfl, rfl⟩
      obtain ⟨b0, hb0⟩ : ∃ b0, Su.mustTo m0 l i l.length = b0 := ⟨_, rfl⟩
      rw [hb0]
      rw [← HM0.out] at hb0
      have HB0 := Lib.hid hb0
      clear hb0
      cases b0 with
      | false =>
        go_wp2_with fail
        go_round
        case rel => exact ⟨i + 1, by omega, by go_num, Lib.hid fun a h1 h2 h3 => by
          by_cases ha : a = (i : Int)
          · rw [ha, HB0.out] at h3; cases h3
          · exact HI.out a h1 (by omega) h3⟩
        case measure => simp [intOf]; omega
      | true =>
        by_cases ht : (i : Int) = h.tgt
        · have e1 : ((i : Int) != h.tgt) = false := by rw [ht]; simp
          have HTI := Lib.hid ht
          clear ht
          go_wp2_with fail
          go_round
          case rel => exact ⟨i + 1, by omega, by go_num, Lib.hid fun a h1 h2 h3 h4 => by
            by_cases ha : a = (i : Int)
            · exact absurd (ha.trans HTI.out) h4
            · exact HI.out a h1 (by omega) h3 h4⟩
          case measure => simp [intOf]; omega
        · have e1 : ((i : Int) != h.tgt) = true := by rw [bne_iff_ne]; exact ht
          have HTI := Lib.hid ht
          clear ht
          cases hnx : Su.nextOf l i with
          | none =>
            have HBAD := Lib.hid (And.intro (Su.must_bad HK.out.2.2 HHO.out HB0.out HTI.out hnx) hnx)
            clear hnx
            go_wp2_with fail
            refine (qNext_any l i _ _ HLO.out).mono ?_
            rintro ee w1 ⟨rfl, rfl⟩
            rw [HBAD.out.2, Option.getD_none]
            go_wp2_with fail
            exact HRT.out _ _ _ _ _ _ _ _ _ _ _ _ _ _ _ _ _ _ _ _ _ _ _ _ _ _ _ _ _ _ _ _ _ _ _ _ _ _ _ _ _ _ ⟨HBAD.out.1, rfl⟩
          | some b =>
            have hb0 : 0 ≤ b := (Su.next_in HHO.out hnx).2.1
            have HNX := Lib.hid hnx
            clear hnx
            go_wp2_with fail
            refine (qNext_any l i _ _ HLO.out).mono ?_
            rintro ee w1 ⟨rfl, rfl⟩
            rw [HNX.out, Option.getD_some]
            go_wp2_with fail
            go_round
            case rel => exact ⟨i + 1, by omega, by go_num, Lib.hid fun a h1 h2 h3 h4 => by
              by_cases ha : a = (i : Int)
              · rw [ha, HNX.out]; simp
              · exact HI.out a h1 (by omega) h3 h4⟩
            case measure => simp [intOf]; omega
    · obtain rfl : i = n := by omega
      go_wp2_with fail
      exact HE.out _ _ _ _ _ _ _ _ _ _ _ _ _ _ _ _ _ _ _ _ _ _ _ _ _ _ _ _ _ _ _ _ _ _ _ _ _ _ _ _ _ _ wo ⟨HI.out, rfl⟩

end Go.Proofs.YtenafgphaceidaaDoor

/- THE WALKS over Valid of the specification of layer 19: its loops, each a declaration of its own. -/
namespace Go.Proofs.YtenafgphaceidaaDoor
open Go.RowKit
noncomputable def go_all_code : Code := ((Tryd.f28.body.bind (loopOf 23)).getD .skip)
set_option maxRecDepth 1000000 in
set_option maxHeartbeats 16000000 in
theorem go_all (wr wo : World) (h : Su.Ha) (l : List (Int × Int)) (C : Option Addr) (B n e : Nat) (hl3 : l.length ≤ 9223372036854775807) (hn12 : n ≤ 12) (hwo : wo = wr) (HK : Hid (Su.Ok h ∧ h.pr.length = n ∧ Su.check h = 0)) (HLO : Hid (RL wo (.slice C l.length e) l)) (HHO : Hid (Su.hopsOk h l)) (HALL : Hid (∀ a : Int, 0 ≤ a → a < (h.pr.length : Int) → Su.mustTo (decide (a ∈ h.src)) l a l.length = true → a ≠ h.tgt → Su.nextOf l a ≠ none)) (d2 : wo.cell? ⟨B, 2, none⟩ = some (.int .i64 h.tgt)) (c0 c3 c4 c6 c7 c8 c9 c10 c12 c13 c14 c15 c16 c17 c18 c19 c20 c21 c22 c23 c24 c25 c26 c27 c28 c29 c30 c31 c32 c33 c34 c35 c36 c37 c38 c39 c40 c41 c42 c43 c44 c45 c46 c47 c48 c49 c50 c51 c52 c53 c54 c55 c56 c57 c58 c59 c60 c61 c62 c63 c64 c65 c66 c67 c68 c69 c70 c71 c72 c73 c74 c75 c76 c77 c78 c79 c80 c81 c82 c83 c84 c85 c86 c87 c88 c89 c90 c91 c92 c93 c94 c95 c96 c97 c98 c99 c100 c101 c102 c103 c104 c105 c106 c107 c108 c109 c110 c111 c112 c113 c114 c115 c116 c117 c118 c119 c120 c121 c122 c123 c124 c125 c126 c127 c128 c129 c130 c131 c132 c133 c134 c135 c136 c137 c138 c139 c140 c141 c142 c143 c144 c145 c146 c147 c148 c149 c150 c151 c152 c153 c154 c155 c156 c157 : Value) (df : List Deferred) (Q0 : Exit → Act → World → Prop)
    (hret : ∀ (u11 u12 u13 u125 u126 u127 u128 u129 u130 u131 u132 u133 u134 u135 u136 u137 u138 u139 u140 u141 u142 u143 u144 u145 u146 u147 u148 u149 u150 u151 u152 u153 u154 u155 u156 u157 : Value) (wx : World), Su.valid h l = false ∧ wx = wo → Q0 .ret ⟨#[c0, .slice C l.length e, .pointer (some ⟨B, 0, none⟩), c3, .bool false, .int .i64 (n : Nat), c6, c7, c8, c9, c10, u11, u12, u13, c14, c15, c16, c17, c18, c19, c20, c21, c22, c23, c24, c25, c26, c27, c28, c29, c30, c31, c32, c33, c34, c35, c36, c37, c38, c39, c40, c41, c42, c43, c44, c45, c46, c47, c48, c49, c50, c51, c52, c53, c54, c55, c56, c57, c58, c59, c60, c61, c62, c63, c64, c65, c66, c67, c68, c69, c70, c71, c72, c73, c74, c75, c76, c77, c78, c79, c80, c81, c82, c83, c84, c85, c86, c87, c88, c89, c90, c91, c92, c93, c94, c95, c96, c97, c98, c99, c100, c101, c102, c103, c104, c105, c106, c107, c108, c109, c110, c111, c112, c113, c114, c115, c116, c117, c118, c119, c120, c121, c122, c123, c124, u125, u126, u127, u128, u129, u130, u131, u132, u133, u134, u135, u136, u137, u138, u139, u140, u141, u142, u143, u144, u145, u146, u147, u148, u149, u150, u151, u152, u153, u154, u155, u156, u157], df⟩ wx)
    (hexit : ∀ (u4 u11 u12 u13 u125 u126 u127 u128 u129 u130 u131 u132 u133 u134 u135 u136 u137 u138 u139 u140 u141 u142 u143 u144 u145 u146 u147 u148 u149 u150 u151 u152 u153 u154 u155 u156 u157 : Value) (wx : World), (∀ j, j < l.length → Su.go l n (l.getD j (0, 0)).1 = h.tgt) ∧ wx = wo → Q0 (.exit 6) ⟨#[c0, .slice C l.length e, .pointer (some ⟨B, 0, none⟩), c3, u4, .int .i64 (n : Nat), c6, c7, c8, c9, c10, u11, u12, u13, c14, c15, c16, c17, c18, c19, c20, c21, c22, c23, c24, c25, c26, c27, c28, c29, c30, c31, c32, c33, c34, c35, c36, c37, c38, c39, c40, c41, c42, c43, c44, c45, c46, c47, c48, c49, c50, c51, c52, c53, c54, c55, c56, c57, c58, c59, c60, c61, c62, c63, c64, c65, c66, c67, c68, c69, c70, c71, c72, c73, c74, c75, c76, c77, c78, c79, c80, c81, c82, c83, c84, c85, c86, c87, c88, c89, c90, c91, c92, c93, c94, c95, c96, c97, c98, c99, c100, c101, c102, c103, c104, c105, c106, c107, c108, c109, c110, c111, c112, c113, c114, c115, c116, c117, c118, c119, c120, c121, c122, c123, c124, u125, u126, u127, u128, u129, u130, u131, u132, u133, u134, u135, u136, u137, u138, u139, u140, u141, u142, u143, u144, u145, u146, u147, u148, u149, u150, u151, u152, u153, u154, u155, u156, u157], df⟩ wx) :
    Code.wp Tryd.prog go_all_code Q0 ⟨#[c0, .slice C l.length e, .pointer (some ⟨B, 0, none⟩), c3, c4, .int .i64 (n : Nat), c6, c7, c8, c9, c10, .int .i64 0, c12, c13, c14, c15, c16, c17, c18, c19, c20, c21, c22, c23, c24, c25, c26, c27, c28, c29, c30, c31, c32, c33, c34, c35, c36, c37, c38, c39, c40, c41, c42, c43, c44, c45, c46, c47, c48, c49, c50, c51, c52, c53, c54, c55, c56, c57, c58, c59, c60, c61, c62, c63, c64, c65, c66, c67, c68, c69, c70, c71, c72, c73, c74, c75, c76, c77, c78, c79, c80, c81, c82, c83, c84, c85, c86, c87, c88, c89, c90, c91, c92, c93, c94, c95, c96, c97, c98, c99, c100, c101, c102, c103, c104, c105, c106, c107, c108, c109, c110, c111, c112, c113, c114, c115, c116, c117, c118, c119, c120, c121, c122, c123, c124, c125, c126, c127, c128, c129, c130, c131, c132, c133, c134, c135, c136, c137, c138, c139, c140, c141, c142, c143, c144, c145, c146, c147, c148, c149, c150, c151, c152, c153, c154, c155, c156, c157], df⟩ wr := by
  have HE := Lib.hid hexit
  clear hexit
  have HRT := Lib.hid hret
  clear hret
  conv => arg 2; whnf
  dsimp only
  subst hwo
  go_loop [11] (fun vi => ∃ k : Nat, k ≤ l.length ∧ vi = .int .i64 k ∧ Hid (∀ j, j < k → Su.go l n (l.getD j (0, 0)).1 = h.tgt)) (fun vi => l.length - (intOf vi).toNat)
  case atStart => exact ⟨0, Nat.zero_le _, rfl, Lib.hid fun j hj => absurd hj (Nat.not_lt_zero j)⟩
  case round =>
    obtain ⟨k, hk, rfl, HJ⟩ := hrel
    by_cases hlt2 : k < l.length
    · obtain ⟨ad, f, t, rfl, hft, k1, k2, _, _⟩ := HLO.out.at hlt2
      have hx : (f, t) ∈ l := by rw [← hft, List.getD_eq_getElem?_getD, List.getElem?_eq_getElem hlt2]; exact List.getElem_mem hlt2
      have hf0 : 0 ≤ f := by
        have := HHO.out k hlt2
        unfold Su.badHop at this
        rw [hft] at this
        simp only at this
        omega
      have HF := Lib.hid (And.intro hft hx)
      have hnn := Su.must_good HHO.out HALL.out hx
      have HNN := Lib.hid hnn
      clear hft hx hnn
      go_wp2_with fail
      refine walk_loop wo l (some ad) e B n f h.tgt hf0 hn12 d2 HLO (Lib.hid (Su.next_tgt HHO.out)) (Lib.hid fun a b hab => (Su.next_in HHO.out hab).2.1) HNN _ _ _ _ _ _ _ _ _ _ _ _ _ _ _ _ _ _ _ _ _ _ _ _ _ _ _ _ _ _ _ _ _ _ _ _ _ _ _ _ _ _ _ _ _ _ _ _ _ _ _ _ _ _ _ _ _ _ _ _ _ _ _ _ _ _ _ _ _ _ _ _ _ _ _ _ _ _ _ _ _ _ _ _ _ _ _ _ _ _ _ _ _ _ _ _ _ _ _ _ _ _ _ _ _ _ _ _ _ _ _ _ _ _ _ _ _ _ _ _ _ _ _ _ _ _ _ _ _ _ _ _ _ _ _ _ _ _ _ _ _ _ _ _ _ _ _ _ _ _ _ _ _ _ _ ?_
      rintro u12 u13 u136 u137 u138 u139 u140 u141 u142 u143 u144 u145 u146 u147 u148 u149 u150 u151 u152 u153 wx ⟨rfl, rfl⟩
      obtain ⟨y, hy⟩ : ∃ y, Su.go l n f = y := ⟨_, rfl⟩
      rw [hy]
      have HY := Lib.hid hy
      clear hy
      by_cases ht : y = h.tgt
      · have e1 : (y != h.tgt) = false := by rw [ht]; simp
        have HYT := Lib.hid ht
        clear ht
        go_wp2_with fail
        go_round
        case rel => exact ⟨k + 1, by omega, by go_num, Lib.hid fun j hj => by
          by_cases hjk : j = k
          · rw [hjk, HF.out.1]
            exact HY.out.trans HYT.out
          · exact HJ.out j (by omega)⟩
        case measure => simp [intOf]; omega
      · have e1 : (y != h.tgt) = true := by rw [bne_iff_ne]; exact ht
        have HBAD := Lib.hid (Su.valid_go (h := h) HF.out.2 (by rw [HK.out.2.1, HY.out]; exact ht))
        clear ht
        go_wp2_with fail
        exact HRT.out _ _ _ _ _ _ _ _ _ _ _ _ _ _ _ _ _ _ _ _ _ _ _ _ _ _ _ _ _ _ _ _ _ _ _ _ _ ⟨HBAD.out, rfl⟩
    · obtain rfl : k = l.length := by omega
      go_wp2_with fail
      exact HE.out _ _ _ _ _ _ _ _ _ _ _ _ _ _ _ _ _ _ _ _ _ _ _ _ _ _ _ _ _ _ _ _ _ _ _ _ _ wo ⟨HJ.out, rfl⟩

end Go.Proofs.YtenafgphaceidaaDoor

/- THE WALKS over Valid of the specification of layer 19: its loops, each a declaration of its own. -/
namespace Go.Proofs.YtenafgphaceidaaDoor
open Go.RowKit
set_option maxHeartbeats 16000000 in
set_option maxRecDepth 100000 in
theorem qValid_any (h : Su.Ha) (l : List (Int × Int)) (v u : Value) (w : World) (hv : RH w v h) (hu : RL w u l) (hc0 : Su.check h = 0) :
    Calls Tryd.prog 28 #[v, u] w fun e w' => e = .returned (.bool (Su.valid h l)) ∧ Ext w w' := by
  obtain ⟨A, SA, c, d, rfl, hG, hS, hl1, hl2, hb1, hb2⟩ := hv.open
  have hx0 := (Ext.refl w).alloc (.cells #[.slice A h.pr.length c, .slice SA h.src.length d, .int .i64 h.tgt] 25)
  have HX0 := Lib.hid hx0
  have HG := Lib.hid (Rs.ext (Rs.ext RI.ext) _ _ _ _ hx0 hG)
  have HS := Lib.hid (Rs.ext RI.ext _ _ _ _ hx0 hS)
  have HL := Lib.hid (RL.ext _ _ _ _ hx0 hu)
  obtain ⟨C, e, rfl, hl3⟩ := hu.form
  clear hv hG hS hx0 hu
  have hkk := Su.ok_of hc0
  obtain ⟨n, hn⟩ : ∃ n, h.pr.length = n := ⟨_, rfl⟩
  rw [hn] at HX0 HG HS HL hl1 ⊢
  have hn12 : n ≤ 12 := by have := hkk.few; omega
  have HK := Lib.hid (And.intro hkk (And.intro hn hc0))
  clear hkk hc0 hn
  go_enter Tryd.func28, Tryd.ntmps28
  go_wp2_with fail
  have e0 : (w.alloc (.cells #[.slice A n c, .slice SA h.src.length d, .int .i64 h.tgt] 25)).cell? ⟨w.heap.size, 0, none⟩ = some (.slice A n c) := by go_simp
  have e1 : (w.alloc (.cells #[.slice A n c, .slice SA h.src.length d, .int .i64 h.tgt] 25)).cell? ⟨w.heap.size, 1, none⟩ = some (.slice SA h.src.length d) := by go_simp
  have e2 : (w.alloc (.cells #[.slice A n c, .slice SA h.src.length d, .int .i64 h.tgt] 25)).cell? ⟨w.heap.size, 2, none⟩ = some (.int .i64 h.tgt) := by go_simp
  have HEC := Lib.hid (And.intro e0 (And.intro e1 e2))
  clear e0 e1 e2
  refine hops_loop _ _ h l A C w.heap.size n c e hl3 (Lib.hid (Ext.refl _)) HK HG HL (Lib.hid ⟨HEC.out.1, HEC.out.2.2⟩) _ _ _ _ _ _ _ _ _ _ _ _ _ _ _ _ _ _ _ _ _ _ _ _ _ _ _ _ _ _ _ _ _ _ _ _ _ _ _ _ _ _ _ _ _ _ _ _ _ _ _ _ _ _ _ _ _ _ _ _ _ _ _ _ _ _ _ _ _ _ _ _ _ _ _ _ _ _ _ _ _ _ _ _ _ _ _ _ _ _ _ _ _ _ _ _ _ _ _ _ _ _ _ _ _ _ _ _ _ _ _ _ _ _ _ _ _ _ _ _ _ _ _ _ _ _ _ _ _ _ _ _ _ _ _ _ _ _ _ _ _ _ _ _ _ _ _ _ _ _ _ _ _ _ _ _ ?_ ?_
  · rintro u6 u7 u17 u18 u19 u20 u21 u22 u23 u24 u25 u26 u27 u28 u29 u30 u31 u32 u33 u34 u35 u36 u37 u38 u39 u40 u41 u42 u43 u44 u45 u46 u47 u48 u49 u50 u51 u52 u53 u54 u55 u56 u57 u58 u59 u60 u61 u62 u63 u64 u65 u66 u67 u68 u69 u70 u71 u72 u73 u74 u75 u76 u77 u78 u79 u80 u81 u82 u83 u84 u85 u86 wx ⟨hval, hx⟩
    have HB := Lib.hid (And.intro hval hx)
    clear hval hx
    go_ret
    exact ⟨ret_bool HB.out.1.symm, HX0.out.trans HB.out.2⟩
  rintro u4 u6 u7 u17 u18 u19 u20 u21 u22 u23 u24 u25 u26 u27 u28 u29 u30 u31 u32 u33 u34 u35 u36 u37 u38 u39 u40 u41 u42 u43 u44 u45 u46 u47 u48 u49 u50 u51 u52 u53 u54 u55 u56 u57 u58 u59 u60 u61 u62 u63 u64 u65 u66 u67 u68 u69 u70 u71 u72 u73 u74 u75 u76 u77 u78 u79 u80 u81 u82 u83 u84 u85 u86 wo ⟨hx, hho⟩
  have d1 := hx.cell HEC.out.2.1
  have d2 := hx.cell HEC.out.2.2
  have HXO := Lib.hid hx
  have HHO := Lib.hid (show Su.hopsOk h l from hho)
  have HSO := Lib.hid (Rs.ext RI.ext _ _ _ _ hx HS.out)
  have HLO := Lib.hid (RL.ext _ _ _ _ hx HL.out)
  clear hx hho
  go_wp2_with fail
  refine must_all _ wo h l C SA w.heap.size n d e hl3 hn12 rfl HK HSO HLO HHO d1 d2 _ _ _ _ _ _ _ _ _ _ _ _ _ _ _ _ _ _ _ _ _ _ _ _ _ _ _ _ _ _ _ _ _ _ _ _ _ _ _ _ _ _ _ _ _ _ _ _ _ _ _ _ _ _ _ _ _ _ _ _ _ _ _ _ _ _ _ _ _ _ _ _ _ _ _ _ _ _ _ _ _ _ _ _ _ _ _ _ _ _ _ _ _ _ _ _ _ _ _ _ _ _ _ _ _ _ _ _ _ _ _ _ _ _ _ _ _ _ _ _ _ _ _ _ _ _ _ _ _ _ _ _ _ _ _ _ _ _ _ _ _ _ _ _ _ _ _ _ _ _ _ _ _ _ _ _ ?_ ?_
  · rintro u8 u9 u10 u87 u88 u89 u90 u91 u92 u93 u94 u95 u96 u97 u98 u99 u100 u101 u102 u103 u104 u105 u106 u107 u108 u109 u110 u111 u112 u113 u114 u115 u116 u117 u118 u119 u120 u121 u122 u123 u124 wx ⟨hval, rfl⟩
    have HB := Lib.hid hval
    clear hval
    go_ret
    exact ⟨ret_bool HB.out.symm, HX0.out.trans HXO.out⟩
  rintro u4 u8 u9 u10 u87 u88 u89 u90 u91 u92 u93 u94 u95 u96 u97 u98 u99 u100 u101 u102 u103 u104 u105 u106 u107 u108 u109 u110 u111 u112 u113 u114 u115 u116 u117 u118 u119 u120 u121 u122 u123 u124 wx ⟨hall, hwx⟩
  subst hwx
  rw [← HK.out.2.1] at hall
  have HALL := Lib.hid hall
  clear hall
  go_wp2_with fail
  refine go_all _ wx h l C w.heap.size n e hl3 hn12 rfl HK HLO HHO HALL d2 _ _ _ _ _ _ _ _ _ _ _ _ _ _ _ _ _ _ _ _ _ _ _ _ _ _ _ _ _ _ _ _ _ _ _ _ _ _ _ _ _ _ _ _ _ _ _ _ _ _ _ _ _ _ _ _ _ _ _ _ _ _ _ _ _ _ _ _ _ _ _ _ _ _ _ _ _ _ _ _ _ _ _ _ _ _ _ _ _ _ _ _ _ _ _ _ _ _ _ _ _ _ _ _ _ _ _ _ _ _ _ _ _ _ _ _ _ _ _ _ _ _ _ _ _ _ _ _ _ _ _ _ _ _ _ _ _ _ _ _ _ _ _ _ _ _ _ _ _ _ _ _ _ _ _ _ ?_ ?_
  · rintro u11 u12 u13 u125 u126 u127 u128 u129 u130 u131 u132 u133 u134 u135 u136 u137 u138 u139 u140 u141 u142 u143 u144 u145 u146 u147 u148 u149 u150 u151 u152 u153 u154 u155 u156 u157 wx ⟨hval, rfl⟩
    have HB := Lib.hid hval
    clear hval
    go_ret
    exact ⟨ret_bool HB.out.symm, HX0.out.trans HXO.out⟩
  rintro u4 u11 u12 u13 u125 u126 u127 u128 u129 u130 u131 u132 u133 u134 u135 u136 u137 u138 u139 u140 u141 u142 u143 u144 u145 u146 u147 u148 u149 u150 u151 u152 u153 u154 u155 u156 u157 wx ⟨hgo, hwx⟩
  subst hwx
  have hval : Su.valid h l = true := Su.valid_iff.2 ⟨HK.out.2.2, HHO.out, Su.must_send HK.out.1 HALL.out, fun x hx => by
    obtain ⟨j, hj, e⟩ := Su.mem_at hx
    rw [HK.out.2.1, ← e]
    exact hgo j hj⟩
  have HVAL := Lib.hid hval
  clear hval hgo
  go_wp2_with fail
  go_ret
  exact ⟨ret_bool HVAL.out.symm, HX0.out.trans HXO.out⟩
end Go.Proofs.YtenafgphaceidaaDoor

/- THE WALK over Cost of the specification of layer 19. -/
namespace Go.Proofs.YtenafgphaceidaaDoor
open Go.RowKit
noncomputable def qcost_add_code : Code := ((Tryd.f11.body.bind (regionOf 11)).getD .skip)
def qcost_add_dsts : List (Option Nat) := [some 27, some 28, some 29, some 30, some 31, some 32, some 33, some 34, some 35, some 36, some 37, some 38, some 39, some 40, some 41, some 42, some 43, some 44, some 7]
theorem qcost_add_apart : apartD qcost_add_dsts = true := by decide +kernel
set_option maxRecDepth 1000000 in
set_option maxHeartbeats 16000000 in
theorem qcost_add (wr : World) (B n cA cc aa bb k ln cl : Nat) (ad ad1 ad2 : Addr) (sm pp : Int) (hkl : k < ln) (han : aa < n) (hbn : bb < n) (hs : 0 ≤ sm ∧ sm ≤ 100000000000) (hp : 0 ≤ pp ∧ pp ≤ 100000000000) (b0 : wr.cell? ⟨B, 0, none⟩ = some (.slice (some ad1) n cA)) (x0 : wr.cell? (ad.add (k * 2)) = some (.int .i64 (aa : Int))) (x1 : wr.cell? ⟨(ad.add (k * 2)).block, (ad.add (k * 2)).off + 1, none⟩ = some (.int .i64 (bb : Int))) (g1 : wr.cell? (ad1.add aa) = some (.slice (some ad2) n cc)) (g2 : wr.cell? (ad2.add bb) = some (.int .i64 pp)) (c0 c3 c4 c5 c6 c9 c10 c11 c12 c13 c14 c15 c16 c17 c18 c19 c20 c21 c22 c23 c24 c25 c26 c27 c28 c29 c30 c31 c32 c33 c34 c35 c36 c37 c38 c39 c40 c41 c42 c43 c44 c45 c46 : Value) (df : List Deferred) (K : Act → World → Prop)
    (hK : ∀  (u27 u28 u29 u30 u31 u32 u33 u34 u35 u36 u37 u38 u39 u40 u41 u42 u43 u44 : Value) (wx : World), Ext wr wx → K ⟨#[c0, .slice (some ad) ln cl, .pointer (some ⟨B, 0, none⟩), c3, c4, c5, c6, .int .i64 (sm + pp), .int .i64 (k : Nat), c9, c10, c11, c12, c13, c14, c15, c16, c17, c18, c19, c20, c21, c22, c23, c24, c25, c26, u27, u28, u29, u30, u31, u32, u33, u34, u35, u36, u37, u38, u39, u40, u41, u42, u43, u44, c45, c46], df⟩ wx) :
    Code.wp Tryd.prog qcost_add_code (AtEnd K) ⟨#[c0, .slice (some ad) ln cl, .pointer (some ⟨B, 0, none⟩), c3, c4, c5, c6, .int .i64 sm, .int .i64 (k : Nat), c9, c10, c11, c12, c13, c14, c15, c16, c17, c18, c19, c20, c21, c22, c23, c24, c25, c26, c27, c28, c29, c30, c31, c32, c33, c34, c35, c36, c37, c38, c39, c40, c41, c42, c43, c44, c45, c46], df⟩ wr := by
  conv => arg 2; whnf
  refine region_inv (by kernel_rfl) [[], [], [1], [], [], [3, 4], [5], [6], [2, 7], [8], [], [], [10, 11], [12], [13], [9, 14], [15], [0, 16], [17, 0, 1, 2, 3, 4, 5, 6, 7, 8, 9, 10, 11, 12, 13, 14, 15, 16, 17]] (by kernel_rfl) [0, 1, 2, 3, 4, 5, 6, 7, 8, 9, 10, 11, 12, 13, 14, 15, 16, 17, 18] (by decide +kernel) (by decide +kernel) (by decide +kernel) (fun L a wc => InvO qcost_add_dsts [.int .i64 sm, .pointer (some ⟨B, 0, none⟩), .slice (some ad1) n cA, .slice (some ad) ln cl, .int .i64 (k : Nat), .pointer (some (ad.add (k * 2))), .pointer (some (ad.add (k * 2))), .int .i64 (aa : Int), .pointer (some (ad1.add aa)), .slice (some ad2) n cc, .slice (some ad) ln cl, .int .i64 (k : Nat), .pointer (some (ad.add (k * 2))), .pointer (some ⟨(ad.add (k * 2)).block, (ad.add (k * 2)).off + 1, none⟩), .int .i64 (bb : Int), .pointer (some (ad2.add bb)), .int .i64 pp, .int .i64 (sm + pp), .int .i64 (sm + pp)] ⟨#[c0, .slice (some ad) ln cl, .pointer (some ⟨B, 0, none⟩), c3, c4, c5, c6, .int .i64 sm, .int .i64 (k : Nat), c9, c10, c11, c12, c13, c14, c15, c16, c17, c18, c19, c20, c21, c22, c23, c24, c25, c26, c27, c28, c29, c30, c31, c32, c33, c34, c35, c36, c37, c38, c39, c40, c41, c42, c43, c44, c45, c46], df⟩ L a ∧ Hid (Ext wr wc)) ⟨InvO.start, Lib.hid ((Ext.refl wr).drew)⟩ ?_ ?_
  · refine ⟨?_, ?_, ?_, ?_, ?_, ?_, ?_, ?_, ?_, ?_, ?_, ?_, ?_, ?_, ?_, ?_, ?_, ?_, ?_, trivial⟩
    · -- 0 move
      rintro L a wc ⟨hv, HO⟩ hL hc hd
      exact wpOp_val rfl rfl (ex_move rfl ((hv.old 18 7 rfl (Bool.eq_false_iff.2 fun h => Bool.false_ne_true (hL.symm.trans (hc 18 h 0 (by decide))))).trans rfl)) ⟨hv.put qcost_add_apart 0 rfl (Nat.le_of_ble_eq_true rfl) (Nat.le_of_ble_eq_true rfl) rfl, HO⟩
    · -- 1 field
      rintro L a wc ⟨hv, HO⟩ hL hc hd
      exact wpOp_val rfl rfl (ex_field rfl ((hv.fixed 2 (by decide)).trans rfl) (by go_simp)) ⟨hv.put qcost_add_apart 1 rfl (Nat.le_of_ble_eq_true rfl) (Nat.le_of_ble_eq_true rfl) rfl, HO⟩
    · -- 2 load
      rintro L a wc ⟨hv, HO⟩ hL hc hd
      have h0 : wc.cell? ⟨B, 0, none⟩ = some (.slice (some ad1) n cA) := HO.out.cell b0
      exact wpOp_val rfl rfl (ex_load rfl (hv.get 1 rfl rfl (hd 1 (by decide))) (by go_simp)) ⟨hv.put qcost_add_apart 2 rfl (Nat.le_of_ble_eq_true rfl) (Nat.le_of_ble_eq_true rfl) rfl, HO⟩
    · -- 3 move
      rintro L a wc ⟨hv, HO⟩ hL hc hd
      exact wpOp_val rfl rfl (ex_move rfl ((hv.fixed 1 (by decide)).trans rfl)) ⟨hv.put qcost_add_apart 3 rfl (Nat.le_of_ble_eq_true rfl) (Nat.le_of_ble_eq_true rfl) rfl, HO⟩
    · -- 4 move
      rintro L a wc ⟨hv, HO⟩ hL hc hd
      exact wpOp_val rfl rfl (ex_move rfl ((hv.fixed 8 (by decide)).trans rfl)) ⟨hv.put qcost_add_apart 4 rfl (Nat.le_of_ble_eq_true rfl) (Nat.le_of_ble_eq_true rfl) rfl, HO⟩
    · -- 5 index
      rintro L a wc ⟨hv, HO⟩ hL hc hd
      have b1 : (0 : Int) ≤ (k : Int) := by omega
      have b2 : (k : Int) < (ln : Int) := by omega
      exact wpOp_val rfl rfl (ex_index rfl (hv.get 3 rfl rfl (hd 3 (by decide))) (hv.get 4 rfl rfl (hd 4 (by decide))) (by go_simp)) ⟨hv.put qcost_add_apart 5 rfl (Nat.le_of_ble_eq_true rfl) (Nat.le_of_ble_eq_true rfl) rfl, HO⟩
    · -- 6 field
      rintro L a wc ⟨hv, HO⟩ hL hc hd
      exact wpOp_val rfl rfl (ex_field rfl (hv.get 5 rfl rfl (hd 5 (by decide))) (by go_simp)) ⟨hv.put qcost_add_apart 6 rfl (Nat.le_of_ble_eq_true rfl) (Nat.le_of_ble_eq_true rfl) rfl, HO⟩
    · -- 7 load
      rintro L a wc ⟨hv, HO⟩ hL hc hd
      have h1 : wc.cell? (ad.add (k * 2)) = some (.int .i64 (aa : Int)) := HO.out.cell x0
      exact wpOp_val rfl rfl (ex_load rfl (hv.get 6 rfl rfl (hd 6 (by decide))) (by go_simp)) ⟨hv.put qcost_add_apart 7 rfl (Nat.le_of_ble_eq_true rfl) (Nat.le_of_ble_eq_true rfl) rfl, HO⟩
    · -- 8 index
      rintro L a wc ⟨hv, HO⟩ hL hc hd
      have b1 : (0 : Int) ≤ (aa : Int) := by omega
      have b2 : (aa : Int) < (n : Int) := by omega
      exact wpOp_val rfl rfl (ex_index rfl (hv.get 2 rfl rfl (hd 2 (by decide))) (hv.get 7 rfl rfl (hd 7 (by decide))) (by go_simp)) ⟨hv.put qcost_add_apart 8 rfl (Nat.le_of_ble_eq_true rfl) (Nat.le_of_ble_eq_true rfl) rfl, HO⟩
    · -- 9 load
      rintro L a wc ⟨hv, HO⟩ hL hc hd
      have h1 : wc.cell? (ad1.add aa) = some (.slice (some ad2) n cc) := HO.out.cell g1
      exact wpOp_val rfl rfl (ex_load rfl (hv.get 8 rfl rfl (hd 8 (by decide))) (by go_simp)) ⟨hv.put qcost_add_apart 9 rfl (Nat.le_of_ble_eq_true rfl) (Nat.le_of_ble_eq_true rfl) rfl, HO⟩
    · -- 10 move
      rintro L a wc ⟨hv, HO⟩ hL hc hd
      exact wpOp_val rfl rfl (ex_move rfl ((hv.fixed 1 (by decide)).trans rfl)) ⟨hv.put qcost_add_apart 10 rfl (Nat.le_of_ble_eq_true rfl) (Nat.le_of_ble_eq_true rfl) rfl, HO⟩
    · -- 11 move
      rintro L a wc ⟨hv, HO⟩ hL hc hd
      exact wpOp_val rfl rfl (ex_move rfl ((hv.fixed 8 (by decide)).trans rfl)) ⟨hv.put qcost_add_apart 11 rfl (Nat.le_of_ble_eq_true rfl) (Nat.le_of_ble_eq_true rfl) rfl, HO⟩
    · -- 12 index
      rintro L a wc ⟨hv, HO⟩ hL hc hd
      have b1 : (0 : Int) ≤ (k : Int) := by omega
      have b2 : (k : Int) < (ln : Int) := by omega
      exact wpOp_val rfl rfl (ex_index rfl (hv.get 10 rfl rfl (hd 10 (by decide))) (hv.get 11 rfl rfl (hd 11 (by decide))) (by go_simp)) ⟨hv.put qcost_add_apart 12 rfl (Nat.le_of_ble_eq_true rfl) (Nat.le_of_ble_eq_true rfl) rfl, HO⟩
    · -- 13 field
      rintro L a wc ⟨hv, HO⟩ hL hc hd
      exact wpOp_val rfl rfl (ex_field rfl (hv.get 12 rfl rfl (hd 12 (by decide))) (by go_simp)) ⟨hv.put qcost_add_apart 13 rfl (Nat.le_of_ble_eq_true rfl) (Nat.le_of_ble_eq_true rfl) rfl, HO⟩
    · -- 14 load
      rintro L a wc ⟨hv, HO⟩ hL hc hd
      have h1 : wc.cell? ⟨(ad.add (k * 2)).block, (ad.add (k * 2)).off + 1, none⟩ = some (.int .i64 (bb : Int)) := HO.out.cell x1
      exact wpOp_val rfl rfl (ex_load rfl (hv.get 13 rfl rfl (hd 13 (by decide))) (by go_simp)) ⟨hv.put qcost_add_apart 14 rfl (Nat.le_of_ble_eq_true rfl) (Nat.le_of_ble_eq_true rfl) rfl, HO⟩
    · -- 15 index
      rintro L a wc ⟨hv, HO⟩ hL hc hd
      have b1 : (0 : Int) ≤ (bb : Int) := by omega
      have b2 : (bb : Int) < (n : Int) := by omega
      exact wpOp_val rfl rfl (ex_index rfl (hv.get 9 rfl rfl (hd 9 (by decide))) (hv.get 14 rfl rfl (hd 14 (by decide))) (by go_simp)) ⟨hv.put qcost_add_apart 15 rfl (Nat.le_of_ble_eq_true rfl) (Nat.le_of_ble_eq_true rfl) rfl, HO⟩
    · -- 16 load
      rintro L a wc ⟨hv, HO⟩ hL hc hd
      have h1 : wc.cell? (ad2.add bb) = some (.int .i64 pp) := HO.out.cell g2
      exact wpOp_val rfl rfl (ex_load rfl (hv.get 15 rfl rfl (hd 15 (by decide))) (by go_simp)) ⟨hv.put qcost_add_apart 16 rfl (Nat.le_of_ble_eq_true rfl) (Nat.le_of_ble_eq_true rfl) rfl, HO⟩
    · -- 17 bin
      rintro L a wc ⟨hv, HO⟩ hL hc hd
      have u5 : IntKind.i64.wrap (sm + pp) = sm + pp := by rw [IntKind.wrap_i64]; omega
      exact wpOp_val rfl rfl (ex_bin rfl (hv.get 0 rfl rfl (hd 0 (by decide))) (hv.get 16 rfl rfl (hd 16 (by decide))) (by go_simp)) ⟨hv.put qcost_add_apart 17 rfl (Nat.le_of_ble_eq_true rfl) (Nat.le_of_ble_eq_true rfl) rfl, HO⟩
    · -- 18 assign
      rintro L a wc ⟨hv, HO⟩ hL hc hd
      exact wpOp_val rfl rfl (ex_assign rfl (hv.get 17 rfl rfl (hd 17 (by decide)))) ⟨hv.put qcost_add_apart 18 rfl (Nat.le_of_ble_eq_true rfl) (Nat.le_of_ble_eq_true rfl) rfl, HO⟩
  · rintro L a wc ⟨hv, HO⟩ hall
    show K a wc
    have ha := act_lit a
    rw [hv.size, hv.defers] at ha
    have hl : ∀ f : Nat → Value, ((List.range (⟨#[c0, .slice (some ad) ln cl, .pointer (some ⟨B, 0, none⟩), c3, c4, c5, c6, .int .i64 sm, .int .i64 (k : Nat), c9, c10, c11, c12, c13, c14, c15, c16, c17, c18, c19, c20, c21, c22, c23, c24, c25, c26, c27, c28, c29, c30, c31, c32, c33, c34, c35, c36, c37, c38, c39, c40, c41, c42, c43, c44, c45, c46], df⟩ : Act).tmps.size).map f).toArray = #[f 0, f 1, f 2, f 3, f 4, f 5, f 6, f 7, f 8, f 9, f 10, f 11, f 12, f 13, f 14, f 15, f 16, f 17, f 18, f 19, f 20, f 21, f 22, f 23, f 24, f 25, f 26, f 27, f 28, f 29, f 30, f 31, f 32, f 33, f 34, f 35, f 36, f 37, f 38, f 39, f 40, f 41, f 42, f 43, f 44, f 45, f 46] := fun _ => rfl
    rw [hl] at ha
    simp only [hv.fixed 0 (by decide), hv.fixed 1 (by decide), hv.fixed 2 (by decide), hv.fixed 3 (by decide), hv.fixed 4 (by decide), hv.fixed 5 (by decide), hv.fixed 6 (by decide), hv.fixed 8 (by decide), hv.fixed 9 (by decide), hv.fixed 10 (by decide), hv.fixed 11 (by decide), hv.fixed 12 (by decide), hv.fixed 13 (by decide), hv.fixed 14 (by decide), hv.fixed 15 (by decide), hv.fixed 16 (by decide), hv.fixed 17 (by decide), hv.fixed 18 (by decide), hv.fixed 19 (by decide), hv.fixed 20 (by decide), hv.fixed 21 (by decide), hv.fixed 22 (by decide), hv.fixed 23 (by decide), hv.fixed 24 (by decide), hv.fixed 25 (by decide), hv.fixed 26 (by decide), hv.fixed 45 (by decide), hv.fixed 46 (by decide), hv.get 18 (d := 7) rfl rfl (hall 18 (by decide))] at ha
    rw [ha]
    exact hK _ _ _ _ _ _ _ _ _ _ _ _ _ _ _ _ _ _ wc HO.out
noncomputable def qcost_loop_code : Code := ((Tryd.f11.body.bind (loopOf 11)).getD .skip)
set_option maxRecDepth 1000000 in
set_option maxHeartbeats 16000000 in
theorem qcost_loop (W0 wr : World) (h : Su.Ha) (l : List (Int × Int)) (A LA : Option Addr) (B n c e : Nat) (hl3 : l.length ≤ 9223372036854775807) (HL12 : Hid (l.length ≤ 12)) (HX : Hid (Ext W0 wr)) (HK : Hid (Su.Ok h ∧ h.pr.length = n ∧ True)) (HV : Hid (Su.valid h l = true)) (HG : Hid (Rs (Rs RI) W0 (.slice A n c) h.pr)) (HL : Hid (RL W0 (.slice LA l.length e) l)) (HD : Hid (W0.cell? ⟨B, 0, none⟩ = some (.slice A n c))) (c0 c3 c4 c5 c6 c9 c10 c11 c12 c13 c14 c15 c16 c17 c18 c19 c20 c21 c22 c23 c24 c25 c26 c27 c28 c29 c30 c31 c32 c33 c34 c35 c36 c37 c38 c39 c40 c41 c42 c43 c44 c45 c46 : Value) (df : List Deferred) (Q0 : Exit → Act → World → Prop)
    (hexit : ∀ (u7 u8 u21 u22 u23 u24 u25 u26 u27 u28 u29 u30 u31 u32 u33 u34 u35 u36 u37 u38 u39 u40 u41 u42 u43 u44 : Value) (wx : World), u7 = .int .i64 (Su.costTo h l l.length) ∧ Ext W0 wx → Q0 (.exit 0) ⟨#[c0, .slice LA l.length e, .pointer (some ⟨B, 0, none⟩), c3, c4, c5, c6, u7, u8, c9, c10, c11, c12, c13, c14, c15, c16, c17, c18, c19, c20, u21, u22, u23, u24, u25, u26, u27, u28, u29, u30, u31, u32, u33, u34, u35, u36, u37, u38, u39, u40, u41, u42, u43, u44, c45, c46], df⟩ wx) :
    Code.wp Tryd.prog qcost_loop_code Q0 ⟨#[c0, .slice LA l.length e, .pointer (some ⟨B, 0, none⟩), c3, c4, c5, c6, .int .i64 0, .int .i64 0, c9, c10, c11, c12, c13, c14, c15, c16, c17, c18, c19, c20, c21, c22, c23, c24, c25, c26, c27, c28, c29, c30, c31, c32, c33, c34, c35, c36, c37, c38, c39, c40, c41, c42, c43, c44, c45, c46], df⟩ wr := by
  have HE := Lib.hid hexit
  clear hexit
  conv => arg 2; whnf
  dsimp only
  go_loopw [7, 8] (fun vs vi wr => ∃ (k : Nat) (sm : Int), k ≤ l.length ∧ vi = .int .i64 k ∧ vs = .int .i64 sm ∧ (0 ≤ sm ∧ sm ≤ 1000000 * k) ∧ Hid (Ext W0 wr ∧ Su.costTo h l k = sm)) (fun _ vi _ => l.length - (intOf vi).toNat)
  case atStart => exact ⟨0, 0, Nat.zero_le _, rfl, rfl, by omega, Lib.hid ⟨HX.out, Su.costTo_zero h l⟩⟩
  case round =>
    obtain ⟨k, sm, hk, rfl, rfl, hs, HI⟩ := hrel
    by_cases hlt : k < l.length
    · obtain ⟨ad, f, t, rfl, hft, k1, k2, kb, kb2⟩ := HL.out.at hlt
      have k1' := HI.out.1.cell k1
      have k2' := HI.out.1.cell k2
      have hfine := Su.hop_fine HV.out hlt
      have hcs := Su.costTo_succ h l k
      rw [hft] at hfine hcs
      simp only at hfine hcs
      rw [HK.out.2.1] at hfine
      obtain ⟨⟨f1, f2⟩, ⟨t1, t2⟩, hp0, _⟩ := hfine
      obtain ⟨a, rfl⟩ : ∃ a : Nat, f = a := ⟨f.toNat, by omega⟩
      obtain ⟨b, rfl⟩ : ∃ b : Nat, t = b := ⟨t.toNat, by omega⟩
      have ha : a < n := by omega
      have hb : b < n := by omega
      obtain ⟨ad1, ad2, cc, hA, g1, g2⟩ := price_at HG.out HK.out.1 HK.out.2.1 ha hb
      have g1 := HI.out.1.cell g1
      have g2 := HI.out.1.cell g2
      have d0 : wr.cell? ⟨B, 0, none⟩ = some (.slice A n c) := HI.out.1.cell HD.out
      rw [hA] at d0
      have hpb := Su.price_bound HK.out.1 (a := a) (b := b) (by rw [HK.out.2.1]; exact ⟨f1, f2⟩) (by rw [HK.out.2.1]; exact ⟨t1, t2⟩)
      obtain ⟨pp, hpp⟩ : ∃ pp, Su.price h a b = pp := ⟨_, rfl⟩
      rw [hpp] at g2 hpb hcs hp0
      rw [HI.out.2] at hcs
      have HCS := Lib.hid hcs
      have hl12 : l.length ≤ 12 := HL12.out
      have HALL := Lib.hid (And.intro d0 (And.intro k1' (And.intro k2' (And.intro g1 g2))))
      clear hft kb kb2 hcs k1 k2 g1 g2 d0 hA hpp f1 f2 t1 t2 k1' k2'
      go_wp2_with fail
      refine wp_atEnd' (qcost_add wr B n c cc a b k l.length e ad ad1 ad2 sm pp hlt ha hb (by omega) (by omega) HALL.out.1 HALL.out.2.1 HALL.out.2.2.1 HALL.out.2.2.2.1 HALL.out.2.2.2.2 _ _ _ _ _ _ _ _ _ _ _ _ _ _ _ _ _ _ _ _ _ _ _ _ _ _ _ _ _ _ _ _ _ _ _ _ _ _ _ _ _ _ _ _ _ ?_)
      intro u27 u28 u29 u30 u31 u32 u33 u34 u35 u36 u37 u38 u39 u40 u41 u42 u43 u44 wx hx
      have HX2 := Lib.hid hx
      clear hx
      go_wp2_with fail
      go_roundw
      case rel => exact ⟨k + 1, sm + pp, by omega, by go_num, rfl, by omega, Lib.hid ⟨HI.out.1.trans HX2.out, HCS.out⟩⟩
      case measure => simp [intOf]; omega
    · obtain rfl : k = l.length := by omega
      go_wp2_with fail
      exact HE.out _ _ _ _ _ _ _ _ _ _ _ _ _ _ _ _ _ _ _ _ _ _ _ _ _ _ wr ⟨by rw [HI.out.2], HI.out.1⟩

/-- A new box of cells, as a row. -/
theorem box_new {W : World} (cs : Array Value) (T : TypeId) (hm : cs.size ≤ maxLen) (b : Nat) (hb : W.heap.size = b) : Owns W (W.alloc (.cells cs T)) [⟨.slice (some ⟨b, 0, none⟩) cs.size cs.size, T, 1, cs.size, cs.toList⟩] := by
  subst hb
  exact (Owns.start (L := [no]) W (by intro r hr; simp [no] at hr; subst hr; simp)).new 0 cs T hm
set_option maxHeartbeats 16000000 in
set_option maxRecDepth 100000 in
theorem qCost_any (h : Su.Ha) (l : List (Int × Int)) (v u : Value) (w : World) (hv : RH w v h) (hu : RL w u l) :
    Calls Tryd.prog 11 #[v, u] w fun e w' => e = .returned (.agg #[.int .i64 (Su.cost h l).1, .int .i64 (Su.cost h l).2]) ∧ Ext w w' := by
  have hvv := hv
  obtain ⟨A, SA, c, d, rfl, hG, hS, hl1, hl2, hb1, hb2⟩ := hv.open
  have hx0 := (Ext.refl w).alloc (.cells #[.slice A h.pr.length c, .slice SA h.src.length d, .int .i64 h.tgt] 25)
  have HX0 := Lib.hid hx0
  obtain ⟨LA, e, rfl, hl3⟩ := hu.form
  obtain ⟨n, hn⟩ : ∃ n, h.pr.length = n := ⟨_, rfl⟩
  rw [hn] at HX0 hx0 hG hl1 hvv ⊢
  have HO := Lib.hid (box_new (W := (w.alloc (.cells #[.slice A n c, .slice SA h.src.length d, .int .i64 h.tgt] 25))) #[.int .i64 0, .int .i64 0] 32 (by simp [maxLen]) (w.heap.size + 1) (by simp))
  have hx1 := hx0.alloc (.cells #[.int .i64 0, .int .i64 0] 32)
  have HX1 := Lib.hid hx1
  have HG := Lib.hid (Rs.ext (Rs.ext RI.ext) _ _ _ _ hx1 hG)
  have HS := Lib.hid (Rs.ext RI.ext _ _ _ _ hx1 hS)
  have HL := Lib.hid (RL.ext _ _ _ _ hx1 hu)
  have HV := Lib.hid (RH.ext _ _ _ _ hx1 hvv)
  have HN := Lib.hid hn
  clear hv hvv hG hS hx0 hu hn hx1
  by_cases h0 : Su.check h = 0
  case neg =>
    have e1 : (Su.check h != 0) = true := by rw [bne_iff_ne]; exact h0
    have HC := Lib.hid (Su.cost_err (l := l) h0)
    clear h0
    go_enter Tryd.func11, Tryd.ntmps11
    go_wp2_with fail
    refine (qCheck_any h _ _ HV.out).mono ?_
    rintro ee w1 ⟨rfl, hx1⟩
    have HO1 := Lib.hid (HO.out.next hx1)
    clear hx1
    have hc3 : w1.cell? ⟨w.heap.size + 1, 0, none⟩ = some (.int .i64 0) := HO1.out.cell 0 rfl 0 rfl
    have hc4 : w1.cell? ⟨w.heap.size + 1, 1, none⟩ = some (.int .i64 0) := HO1.out.cell 0 rfl 1 rfl
    have hf3 : w1.frozen? ⟨w.heap.size + 1, 0, none⟩ = false := HO1.out.frozen 0 rfl 0
    have hf4 : w1.frozen? ⟨w.heap.size + 1, 1, none⟩ = false := HO1.out.frozen 0 rfl 1
    go_wp2_with fail
    have hO7 := (HO1.out.store 0 rfl 0 (.int .i64 (0))).store 0 rfl 1 (.int .i64 (Su.check h))
    exact bodyPost_ret (v := .agg #[.int .i64 (0), .int .i64 (Su.check h)]) (by simp [results, Tryd.results11, go_sem, hc3, hc4]) rfl ⟨by rw [HC.out], HX0.out.trans hO7.ext⟩
  case pos =>
  have e1 : (Su.check h != 0) = false := by rw [h0]; rfl
  have HH0 := Lib.hid h0
  clear h0
  cases hval : Su.valid h l with
  | false =>
    have HC := Lib.hid (And.intro (Su.cost_bad HH0.out hval) hval)
    clear hval
    go_enter Tryd.func11, Tryd.ntmps11
    go_wp2_with fail
    refine (qCheck_any h _ _ HV.out).mono ?_
    rintro ee w1 ⟨rfl, hx1⟩
    have HXa := Lib.hid hx1
    have d0 : w1.cell? ⟨w.heap.size, 0, none⟩ = some (.slice A n c) := hx1.cell (by go_simp)
    have d1 : w1.cell? ⟨w.heap.size, 1, none⟩ = some (.slice SA h.src.length d) := hx1.cell (by go_simp)
    have d2 : w1.cell? ⟨w.heap.size, 2, none⟩ = some (.int .i64 h.tgt) := hx1.cell (by go_simp)
    clear hx1
    go_wp2_with fail
    clear d0 d1 d2
    refine (qValid_any h l _ _ _ (RH.ext _ _ _ _ HXa.out HV.out) (RL.ext _ _ _ _ HXa.out HL.out) HH0.out).mono ?_
    rintro ee w2 ⟨rfl, hx2⟩
    rw [HC.out.2]
    have HO2 := Lib.hid (HO.out.next (HXa.out.trans hx2))
    clear hx2
    have hc3 : w2.cell? ⟨w.heap.size + 1, 0, none⟩ = some (.int .i64 0) := HO2.out.cell 0 rfl 0 rfl
    have hc4 : w2.cell? ⟨w.heap.size + 1, 1, none⟩ = some (.int .i64 0) := HO2.out.cell 0 rfl 1 rfl
    have hf3 : w2.frozen? ⟨w.heap.size + 1, 0, none⟩ = false := HO2.out.frozen 0 rfl 0
    have hf4 : w2.frozen? ⟨w.heap.size + 1, 1, none⟩ = false := HO2.out.frozen 0 rfl 1
    go_wp2_with fail
    have hO7 := (HO2.out.store 0 rfl 0 (.int .i64 (0))).store 0 rfl 1 (.int .i64 (22))
    exact bodyPost_ret (v := .agg #[.int .i64 (0), .int .i64 (22)]) (by simp [results, Tryd.results11, go_sem, hc3, hc4]) rfl ⟨by rw [HC.out.1], HX0.out.trans hO7.ext⟩
  | true =>
    have HC := Lib.hid (And.intro (Su.cost_ok hval) hval)
    have hlen : l.length ≤ 12 := by
      have := Su.hops_few (Su.valid_iff.1 hval).2.1
      have := (Su.ok_of HH0.out).few
      omega
    have HL12 := Lib.hid hlen
    clear hval hlen
    go_enter Tryd.func11, Tryd.ntmps11
    go_wp2_with fail
    refine (qCheck_any h _ _ HV.out).mono ?_
    rintro ee w1 ⟨rfl, hx1⟩
    have HXa := Lib.hid hx1
    have d0 : w1.cell? ⟨w.heap.size, 0, none⟩ = some (.slice A n c) := hx1.cell (by go_simp)
    have d1 : w1.cell? ⟨w.heap.size, 1, none⟩ = some (.slice SA h.src.length d) := hx1.cell (by go_simp)
    have d2 : w1.cell? ⟨w.heap.size, 2, none⟩ = some (.int .i64 h.tgt) := hx1.cell (by go_simp)
    have HD0 := Lib.hid d0
    clear hx1
    go_wp2_with fail
    clear d0 d1 d2
    refine (qValid_any h l _ _ _ (RH.ext _ _ _ _ HXa.out HV.out) (RL.ext _ _ _ _ HXa.out HL.out) HH0.out).mono ?_
    rintro ee w2 ⟨rfl, hx2⟩
    rw [HC.out.2]
    have HXb := Lib.hid (HXa.out.trans hx2)
    clear hx2
    go_wp2_with fail
    refine qcost_loop _ _ h l A LA w.heap.size n c e hl3 HL12 HXb (Lib.hid ⟨Su.ok_of HH0.out, HN.out, trivial⟩) (Lib.hid HC.out.2) HG HL (Lib.hid (by go_simp)) _ _ _ _ _ _ _ _ _ _ _ _ _ _ _ _ _ _ _ _ _ _ _ _ _ _ _ _ _ _ _ _ _ _ _ _ _ _ _ _ _ _ _ _ _ ?_
    rintro u7 u8 u21 u22 u23 u24 u25 u26 u27 u28 u29 u30 u31 u32 u33 u34 u35 u36 u37 u38 u39 u40 u41 u42 u43 u44 w3 ⟨rfl, hx3⟩
    have HO3 := Lib.hid (HO.out.next hx3)
    clear hx3
    obtain ⟨sm, hsm⟩ : ∃ sm, Su.costTo h l l.length = sm := ⟨_, rfl⟩
    have HSM := Lib.hid hsm
    rw [hsm]
    clear hsm
    have hc3 : w3.cell? ⟨w.heap.size + 1, 0, none⟩ = some (.int .i64 0) := HO3.out.cell 0 rfl 0 rfl
    have hc4 : w3.cell? ⟨w.heap.size + 1, 1, none⟩ = some (.int .i64 0) := HO3.out.cell 0 rfl 1 rfl
    have hf3 : w3.frozen? ⟨w.heap.size + 1, 0, none⟩ = false := HO3.out.frozen 0 rfl 0
    have hf4 : w3.frozen? ⟨w.heap.size + 1, 1, none⟩ = false := HO3.out.frozen 0 rfl 1
    go_wp2_with fail
    have hO7 := (HO3.out.store 0 rfl 0 (.int .i64 (sm))).store 0 rfl 1 (.int .i64 (0))
    exact bodyPost_ret (v := .agg #[.int .i64 (sm), .int .i64 (0)]) (by simp [results, Tryd.results11, go_sem, hc3, hc4]) rfl ⟨by rw [HC.out.1, HSM.out], HX0.out.trans hO7.ext⟩
end Go.Proofs.YtenafgphaceidaaDoor

/- THE SUMS END; the example of the documentation of sums, worked out. -/
namespace Su
theorem hopsTo_some {rec : Int → Option (List UInt8)} {l : List (Int × Int)} {a : Int} {z : List UInt8} : ∀ m, (∀ k, k < m → (l.getD k (0, 0)).2 = a → ∃ r, rec (l.getD k (0, 0)).1 = some r) → ∃ V, hopsTo rec l a z m = some V
  | 0, _ => ⟨z, rfl⟩
  | m + 1, h => by
    obtain ⟨s, hs⟩ := hopsTo_some m fun k hk => h k (by omega)
    rw [hopsTo, hs, Option.bind_some]
    by_cases he : (l.getD m (0, 0)).2 = a
    · obtain ⟨r, hr⟩ := h m (Nat.lt_succ_self m) he
      exact ⟨Gf.sum s r, by rw [if_pos he, hr]; rfl⟩
    · exact ⟨s, by rw [if_neg he]⟩
/-- The sum of a house ends: what flows into it comes from further off. -/
theorem sumF_ends {h : Ha} {l : List (Int × Int)} (hv : valid h l = true) (coef : List UInt8) (ps : List (List UInt8)) (n : Nat) : ∀ (f j : Nat) (a : Int), j ≤ h.pr.length → h.pr.length + 1 - j ≤ f → (∀ s, s < j → go l s a ≠ h.tgt) → ∃ V, sumF h.src l coef ps n f a = some V
  | 0, j, a, h1, h2, _ => by omega
  | f + 1, j, a, h1, h2, h3 => by
    rw [sumF_succ]
    refine hopsTo_some _ fun k hk he => ?_
    have hx : l.getD k (0, 0) ∈ l := by rw [List.getD_eq_getElem?_getD, List.getElem?_eq_getElem hk]; exact List.getElem_mem hk
    obtain ⟨hc, ho, _, hg⟩ := valid_iff.1 hv
    have hnx := next_mem ho hx
    rw [he] at hnx
    have h4 : ∀ s, s < j + 1 → go l s (l.getD k (0, 0)).1 ≠ h.tgt := fun s hs => by
      cases s with
      | zero =>
        rw [go_zero]
        exact (hop_fine hv hk).2.2.2
      | succ s =>
        rw [go_add l _ 1 s, go_some (n := 0) (b := a) hnx]
        exact h3 s (by omega)
    have h5 : j + 1 ≤ h.pr.length := by
      rcases Nat.lt_or_ge h.pr.length (j + 1) with h6 | h6
      · exact absurd (hg _ hx) (h4 _ h6)
      · exact h6
    exact sumF_ends hv coef ps n f (j + 1) _ h5 (by omega) h4
theorem carry_term {h : Ha} {l : List (Int × Int)} {f : Nat} (hf : h.pr.length + 1 ≤ f) (coef : List UInt8) (ps : List (List UInt8)) (n : Nat) (hv : valid h l = true) : (∀ x ∈ l, ∃ V, sumF h.src l coef ps n f x.1 = some V) ∧ ∃ V, sumF h.src l coef ps n f h.tgt = some V :=
  ⟨fun x _ => sumF_ends hv coef ps n f 0 x.1 (Nat.zero_le _) (by omega) (fun s hs => absurd hs (Nat.not_lt_zero s)), sumF_ends hv coef ps n f 0 h.tgt (Nat.zero_le _) (by omega) (fun s hs => absurd hs (Nat.not_lt_zero s))⟩
def ex (src : List Int) : Ha := ⟨[[-1, -1, -1, -1], [4, -1, -1, 1], [4, -1, -1, 1], [4, -1, -1, -1]], src, 0⟩
def exT : List (Int × Int) := [(1, 3), (2, 3), (3, 0)]
def exS : List (Int × Int) := [(1, 0), (2, 0)]
def exO : List (List UInt8) := [[1], [1], [1]]
theorem ex_least : least (ex [1, 2, 1]) = (6, 0) := by decide +kernel
theorem ex_least3 : least (ex [3]) = (4, 0) := by decide +kernel
theorem ex_least0 : least (ex []) = (0, 0) := by decide +kernel
theorem ex_walk0 : (walkF (2 ^ (senders (ex [1, 2, 1])).length) (ways (ex [1, 2, 1])) 100 (2 ^ (senders (ex [1, 2, 1])).length - 1) (ex [1, 2, 1]).tgt.toNat []).isSome = true := by decide +kernel
theorem ex_walk : ∃ U, walkF (2 ^ (senders (ex [1, 2, 1])).length) (ways (ex [1, 2, 1])) 100 (2 ^ (senders (ex [1, 2, 1])).length - 1) (ex [1, 2, 1]).tgt.toNat [] = some U := Option.isSome_iff_exists.1 ex_walk0
theorem ex_tree : tree 100 (ex [1, 2, 1]) = (exT, 0) := by decide +kernel
theorem ex_cost : cost (ex [1, 2, 1]) exS = (8, 0) := by decide +kernel
theorem ex_carryS : carry 5 (ex [1, 2, 1]) exS [1, 2, 3] exO = ([[2], [2]], [0], 0) := by decide +kernel
theorem ex_carryT : carry 5 (ex [1, 2, 1]) exT [1, 2, 3] exO = ([[2], [2], [0]], [0], 0) := by decide +kernel
theorem ex_valid : valid (ex [1, 2, 1]) exT = true := by decide +kernel
theorem ex_valid2 : valid (ex [1, 2, 1]) (exT.take 2) = false := by decide +kernel
end Su
