/- What the program's functions do, step by step: part C of the texts for this claim; no condition beyond what each theorem states. -/
import Derived.Deep.AppendLies
import Derived.RegionTactic
import Derived.BigRegion
import Derived.Deep.CutRange
import Derived.Deep.CutBlock
import Derived.Deep.RegionLaw
import Derived.Deep.RegionHeld3
import Derived.Deep.Cut
import Derived.Deep.DeepCutAuto
import Derived.Laws.IdiomStrings
import Derived.Shelf.RegionOpenPlain
import Derived.WalkKit
import Derived.Deep.LoopGhost
import Derived.Test.YtggfkpalkdkbdaaDoorLoAFBunA
import Derived.Test.YtggfkpalkdkbdaaDoorLoAFBunB
/- THE WALKS over Size and Encode. -/
namespace Go.Proofs.YtggfkpalkdkbdaaDoor
open Go.RowKit
theorem cSize_any (d gl n : Int) (gs : List (List Int)) (G : Value) (w : World) (hG : Rs (Rs RI) w G gs) :
    Calls Tryd.prog 47 #[.agg #[.int .i64 d, G, .int .i64 gl], .int .i64 n] w fun e w' => e = .returned (.int .i64 (Cd.sizeOf d gl gs n)) ∧ Ext w w' := by
  have hx0 := (Ext.refl w).alloc (.cells #[.int .i64 d, G, .int .i64 gl] 24)
  have HX := Lib.hid (And.intro hx0 (Rs.ext (Rs.ext RI.ext) _ _ _ _ hx0 hG))
  obtain ⟨A, c, rfl, hl⟩ := hG.form
  clear hG hx0
  by_cases h1 : n < 0
  · have hz := Cd.sizeOf_no (d := d) (gl := gl) (gs := gs) (.inl h1)
    have HZ := Lib.hid hz
    clear hz
    go_enter Tryd.func47, Tryd.ntmps47
    go_wp2_with fail
    go_ret
    exact ⟨ret_int HZ.out.symm, HX.out.1⟩
  · by_cases h2 : 4096 < n
    · have hz := Cd.sizeOf_no (d := d) (gl := gl) (gs := gs) (.inr (.inl h2))
      have HZ := Lib.hid hz
      clear hz
      go_enter Tryd.func47, Tryd.ntmps47
      go_wp2_with fail
      go_ret
      exact ⟨ret_int HZ.out.symm, HX.out.1⟩
    · go_enter Tryd.func47, Tryd.ntmps47
      go_wp2_with fail
      refine (cCheck_any d gl gs _ _ HX.out.2).mono ?_
      rintro e w1 ⟨rfl, hx1⟩
      have hc0 : w1.cell? ⟨w.heap.size, 0, none⟩ = some (.int .i64 d) := hx1.cell (by go_simp)
      have HX1 := Lib.hid (HX.out.1.trans hx1)
      clear hx1
      by_cases h0 : Cd.check d gs gl = 0
      · have hk := Cd.check_ok h0
        have hz := Cd.sizeOf_ok (d := d) (gl := gl) (gs := gs) (n := n) (by omega) (by omega) h0
        have e1 : (Cd.check d gs gl != 0) = false := by rw [h0]; rfl
        have HZ := Lib.hid hz
        have e3 : d ≠ 0 := by omega
        clear hz h0
        go_wp2_with fail
        go_ret
        exact ⟨ret_int HZ.out.symm, HX1.out⟩
      · have hz := Cd.sizeOf_no (d := d) (gl := gl) (gs := gs) (n := n) (.inr (.inr h0))
        have e1 : (Cd.check d gs gl != 0) = true := by rw [bne_iff_ne]; exact h0
        have HZ := Lib.hid hz
        clear hz h0
        go_wp2_with fail
        go_ret
        exact ⟨ret_int HZ.out.symm, HX1.out⟩
theorem cEncode_no (d gl : Int) (gs : List (List Int)) (data : List UInt8) (G : Value) (w : World) (hT : Tab w) (hG : Rs (Rs RI) w G gs) (h0 : Cd.check d gs gl ≠ 0) :
    Calls Tryd.prog 46 #[.agg #[.int .i64 d, G, .int .i64 gl], .string (sb data)] w fun e w' => e = .returned (.tuple #[.slice none 0 0, .int .i64 (Cd.check d gs gl)]) ∧ Ext w w' := by
  have hx0 := (Ext.refl w).alloc (.cells #[.int .i64 d, G, .int .i64 gl] 24)
  have HX := Lib.hid (And.intro hx0 (Rs.ext (Rs.ext RI.ext) _ _ _ _ hx0 hG))
  have HT := Lib.hid (hT.ext hx0)
  obtain ⟨A, c, rfl, hl⟩ := hG.form
  have e1 : (Cd.check d gs gl != 0) = true := by rw [bne_iff_ne]; exact h0
  clear hG hx0 hT h0
  go_enter Tryd.func46, Tryd.ntmps46
  go_wp2_with fail
  refine (cRows_any d gl gs _ _ HT.out HX.out.2).mono ?_
  rintro e w1 ⟨v, rfl, hv, hx1⟩
  have HX1 := Lib.hid (HX.out.1.trans hx1)
  clear hx1 hv
  go_wp2_with fail
  go_ret2
  exact ⟨rfl, HX1.out⟩
theorem cEncode_big (d gl : Int) (gs : List (List Int)) (data : List UInt8) (G : Value) (w : World) (hT : Tab w) (hG : Rs (Rs RI) w G gs) (h0 : Cd.check d gs gl = 0) (hb : 4096 < data.length) (hl : data.length ≤ 9223372036854775807) :
    Calls Tryd.prog 46 #[.agg #[.int .i64 d, G, .int .i64 gl], .string (sb data)] w fun e w' => e = .returned (.tuple #[.slice none 0 0, .int .i64 2]) ∧ Ext w w' := by
  have hx0 := (Ext.refl w).alloc (.cells #[.int .i64 d, G, .int .i64 gl] 24)
  have HX := Lib.hid (And.intro hx0 (Rs.ext (Rs.ext RI.ext) _ _ _ _ hx0 hG))
  have HT := Lib.hid (hT.ext hx0)
  obtain ⟨A, c, rfl, _⟩ := hG.form
  have e1 : (Cd.check d gs gl != 0) = false := by rw [h0]; rfl
  clear hG hx0 hT h0
  go_enter Tryd.func46, Tryd.ntmps46
  go_wp2_with fail
  refine (cRows_any d gl gs _ _ HT.out HX.out.2).mono ?_
  rintro e w1 ⟨v, rfl, hv, hx1⟩
  have HX1 := Lib.hid (HX.out.1.trans hx1)
  clear hx1 hv
  go_wp2_with fail
  go_ret2
  exact ⟨rfl, HX1.out⟩
theorem bytes_zero (N : Nat) : (List.replicate N (Value.int .u8 0)) = (List.replicate N (0 : UInt8)).map bv := by rw [List.map_replicate]; rfl
theorem fill_cells {N : Nat} {data : List UInt8} : data.map bv ++ (List.replicate N (Value.int .u8 0)).drop data.length = (Cd.fill N data).map bv := by
  rw [Cd.fill, List.map_append, List.drop_replicate, bytes_zero]
/-- A part of a row of bytes reads as the part of the list. -/
theorem Rd.part {w : World} {g n size i d : Nat} {full : List UInt8} {A : Option Addr} (h : Rd w (some ⟨g, 0, none⟩) (full.map bv)) (hi : i < d)
    (hA : A = (if n = i * size then some ⟨g, 0, none⟩ else some ((⟨g, 0, none⟩ : Addr).add (i * size)))) (hn : n = d * size) : Rd w A ((Cd.cutAt size full i).map bv) := by
  by_cases hs : size = 0
  · have : Cd.cutAt size full i = [] := by rw [Cd.cutAt, hs]; simp
    rw [this]
    exact Rd.nil _ _
  · have h1 : (i + 1) * size ≤ d * size := Nat.mul_le_mul_right size hi
    rw [Nat.succ_mul] at h1
    rw [if_neg (by omega)] at hA
    subst hA
    intro k x hx
    rw [List.getElem?_map, Cd.cutAt, List.getElem?_take] at hx
    by_cases hk : k < size
    · rw [if_pos hk, List.getElem?_drop] at hx
      obtain ⟨ad, e1, e2, e3⟩ := h (i * size + k) x (by rw [List.getElem?_map]; exact hx)
      injection e1 with e1
      subst e1
      refine ⟨_, rfl, by rw [block_add]; exact e2, ?_⟩
      have ea : ∀ o i : Nat, (⟨g, o, none⟩ : Addr).add i = ⟨g, o + i, none⟩ := fun o i => by unfold Addr.add; split <;> simp_all
      have e4 : ((⟨g, 0, none⟩ : Addr).add (i * size)).add k = (⟨g, 0, none⟩ : Addr).add (i * size + k) := by rw [ea, ea, ea, Nat.add_assoc]
      rw [e4]; exact e3
    · rw [if_neg hk] at hx; cases hx
theorem info_u8s : (Tryd.prog.info? 5).map (·.size) = some 1 := by kernel_rfl
theorem Rs.of_rdS {w : World} {A : Option Addr} {c : Nat} {l : List (List UInt8)} (h : Rd w A (l.map sv)) (hl : l.length ≤ 9223372036854775807) : Rs RS w (.slice A l.length c) l :=
  ⟨A, c, rfl, hl, fun i x hi => by
    obtain ⟨ad, h1, _, h3⟩ := h i (sv x) (by rw [List.getElem?_map, hi]; rfl)
    exact ⟨ad, _, h1, h3, rfl⟩⟩
theorem Owns.older {w w2 wr : World} {L : List LRow} (h : Owns w2 wr L) (hx : Ext w w2) : Owns w wr L where
  ext := hx.trans h.ext
  ok i r hr := by
    have h1 := h.ok i r hr
    refine ⟨h1.1, ?_⟩
    rcases h1.2 with h2 | ⟨g, cap, cur, hv, hB, rest⟩
    · exact .inl h2
    · exact .inr ⟨g, cap, cur, hv, Nat.le_trans hx.size hB, rest⟩
  far := h.far
set_option maxRecDepth 100000 in
set_option maxHeartbeats 8000000 in
theorem cEncode_ok (d gl : Nat) (gs : List (List Int)) (data : List UInt8) (G : Value) (w : World) (hT : Tab w) (hG : Rs (Rs RI) w G gs) (h0 : Cd.check d gs gl = 0) (hb : data.length ≤ 4096) :
    Calls Tryd.prog 46 #[.agg #[.int .i64 d, G, .int .i64 gl], .string (sb data)] w fun e w' => ∃ v, e = .returned (.tuple #[v, .int .i64 0]) ∧ Rs RS w' v (Cd.encode d gl gs data) ∧ Owns w w' [⟨v, 9, 1, (Cd.encode d gl gs data).length, (Cd.encode d gl gs data).map sv⟩] := by
  have hx0 := (Ext.refl w).alloc (.cells #[.int .i64 d, G, .int .i64 gl] 24)
  have hk := Cd.check_ok h0
  have HX := Lib.hid (And.intro hx0 (Rs.ext (Rs.ext RI.ext) _ _ _ _ hx0 hG))
  have HT := Lib.hid (hT.ext hx0)
  obtain ⟨A, c, rfl, _⟩ := hG.form
  have e1 : (Cd.check d gs gl != 0) = false := by rw [h0]; rfl
  have HC := Lib.hid h0
  have hsz := Cd.size_le (d := d) (by omega) data.length
  have hge := Cd.size_ge (d := d) (by omega) data.length
  obtain ⟨sz, hsze⟩ : ∃ sz, Cd.sizeN d data.length = sz := ⟨_, rfl⟩
  have hso := Cd.sizeOf_nat (d := d) (gl := gl) (gs := gs) hb h0
  rw [hsze] at hsz hge hso
  obtain ⟨N, hN⟩ : ∃ N, d * sz = N := ⟨_, rfl⟩
  have hNle : N ≤ 65536 := by
    have := Nat.mul_le_mul (show d ≤ 16 by omega) hsz
    rw [← hN]
    omega
  have hmul : (d : Int) * (sz : Int) = (N : Int) := by rw [← hN, Int.natCast_mul]
  rw [hN] at hge
  obtain ⟨full, hfull⟩ : ∃ full, Cd.fill N data = full := ⟨_, rfl⟩
  have hfl : full.length = d * sz := by rw [← hfull, hN]; exact Cd.fill_len hge
  have hcuts : Cd.cuts d data = (List.range d).map (Cd.cutAt sz full) := by rw [Cd.cuts, hsze, hN, hfull]
  have HSO := Lib.hid hso
  have HF := Lib.hid (And.intro hfull (And.intro hfl (And.intro hcuts hN)))
  obtain ⟨i0, hi, hz0, hz1, hz2⟩ := info_parts info_u8
  have HZ2 := Lib.hid hz2
  clear hz2 hG hx0 hT h0 hfull hfl hcuts hN hso hsze
  go_enter Tryd.func46, Tryd.ntmps46
  go_wp2_with fail
  refine (cRows_any d gl gs _ _ HT.out HX.out.2).mono ?_
  rintro e w1 ⟨v, rfl, hv, hx1⟩
  obtain ⟨RA, cR, rfl, _⟩ := hv.form
  have hc0 : w1.cell? ⟨w.heap.size, 0, none⟩ = some (.int .i64 d) := hx1.cell (by go_simp)
  have hc1 : w1.cell? ⟨w.heap.size, 1, none⟩ = some (.slice A gs.length c) := hx1.cell (by go_simp)
  have hc2 : w1.cell? ⟨w.heap.size, 2, none⟩ = some (.int .i64 gl) := hx1.cell (by go_simp)
  have HX1 := Lib.hid (HX.out.1.trans hx1)
  have HT1 := Lib.hid (HT.out.ext hx1)
  have HG1 := Lib.hid (Rs.ext (Rs.ext RI.ext) _ _ _ _ hx1 HX.out.2)
  have HV := Lib.hid hv
  clear hx1 hv
  go_wp2_with fail
  clear hc1 hc2
  refine (cSize_any d gl data.length gs _ _ HG1.out).mono ?_
  rintro e w2 ⟨rfl, hx2⟩
  rw [HSO.out]
  have hc0' : w2.cell? ⟨w.heap.size, 0, none⟩ = some (.int .i64 d) := hx2.cell hc0
  have HX2 := Lib.hid (HX1.out.trans hx2)
  have HT2 := Lib.hid (HT1.out.ext hx2)
  have HV2 := Lib.hid (Rs.ext (Rs.ext RB.ext) _ _ _ _ hx2 HV.out)
  have HC0 := Lib.hid hc0'
  clear hx2 hc0
  go_wp2_with (first | (refine wpList_make_full _ rfl (.tmp 35) (.tmp 35) 48 rfl w2.heap.size 5 i0 (.int .u8 0) 1 Tryd.underlying48 hi hz0 hz1 _ _ _ _ N rfl rfl rfl rfl (by rw [HZ2.out]; omega) (by unfold maxLen; omega) (Nat.le_refl _) ?_; intro w3 hown hgrow; have hx3 : Ext w2 w3 := (Ext.refl w2).grown hgrow (fun k h => by cases h); have hO3 : Owns w2 w3 [⟨.slice (some ⟨w2.heap.size, 0, none⟩) N N, 5, 1, N, (madeCells (Value.int .u8 0).cells (N * 1)).toList⟩] := ((Owns.start w2 (L := []) (by simp)).behind hx3 hown); have HO3 := Lib.hid hO3; clear hown hgrow hx3 hO3) | (refine wpl_copy_str rfl (.tmp 37) (.tmp 38) 48 9 rfl Tryd.underlying48 info_u8s HO3.out 0 rfl rfl rfl hge ?_; intro w4 hO4; have HO4 := Lib.hid hO4; have hc4 : w4.cell? ⟨w.heap.size, 0, none⟩ = some (.int .i64 d) := hO4.ext.cell HC0.out; clear hO4))
  clear hc0' hc4
  have hO5 := HO4.out
  rw [show (madeCells (Value.int .u8 0).cells (N * 1)).toList = List.replicate N (Value.int .u8 0) from by rw [Nat.mul_one]; exact toList_madeCells_one _ _] at hO5
  have hO5' : Owns w2 w4 [⟨.slice (some ⟨w2.heap.size, 0, none⟩) N N, 5, 1, N, full.map bv⟩] := by
    rw [← HF.out.1, ← fill_cells]
    exact hO5
  have hO6 : Owns w2 w4 [⟨.slice (some ⟨w2.heap.size, 0, none⟩) N N, 5, 1, N, full.map bv⟩, nilRow 9, no] := (hO5'.wider.wider).put 1 (nilRow 9) hO5'.ext (nilRow_ok _ _ _) (fun _ _ _ _ _ _ => rfl) (fun _ _ _ _ => .inl rfl)
  have HO6 := Lib.hid hO6
  clear hO5 hO5' hO6
  go_loopw [10, 12, 42] (fun vp vi vx wr => ∃ (i ca : Nat) (B : Option Addr), i ≤ d ∧ vx = .int .i64 i ∧ vp = .slice B i ca ∧ Hid (Owns w2 wr [⟨.slice (some ⟨w2.heap.size, 0, none⟩) N N, 5, 1, N, full.map bv⟩, ⟨.slice B i ca, 9, 1, i, ((List.range i).map (Cd.cutAt sz full)).map sv⟩, no])) (fun _ _ vx _ => d - (intOf vx).toNat)
  case atStart => exact ⟨0, 0, none, Nat.zero_le _, rfl, rfl, HO6.out⟩
  case round =>
    obtain ⟨i, ca, B, hi2, rfl, rfl, HI⟩ := hrel
    by_cases hlt : i < d
    · obtain ⟨lo, hlo⟩ : ∃ lo, i * sz = lo := ⟨_, rfl⟩
      obtain ⟨hh, hhi⟩ : ∃ hh, (i + 1) * sz = hh := ⟨_, rfl⟩
      have q1 : (i : Int) * (sz : Int) = (lo : Int) := by rw [← hlo, Int.natCast_mul]
      have q2 : ((i : Int) + 1) * (sz : Int) = (hh : Int) := by rw [← hhi, Int.natCast_mul]; rfl
      have q3 : hh = lo + sz := by rw [← hhi, ← hlo, Nat.succ_mul]
      have q4 : hh ≤ N := by rw [← hhi, ← HF.out.2.2.2]; exact Nat.mul_le_mul_right sz hlt
      have q5 : hh - lo = sz := by omega
      have hcl := Cd.cutAt_len (size := sz) HF.out.2.1 hlt
      have hpart := fun (A : Option Addr) (hA : A = (if N = lo then some (⟨w2.heap.size, 0, none⟩ : Addr) else some ((⟨w2.heap.size, 0, none⟩ : Addr).add lo))) => Rd.part (n := N) (size := sz) (i := i) (d := d) (A := A) (HI.out.rd 0 rfl) hlt (by rw [hlo]; exact hA) HF.out.2.2.2.symm
      have hst : ((List.range (i + 1)).map (Cd.cutAt sz full)).map sv = ((List.range i).map (Cd.cutAt sz full)).map sv ++ [sv (Cd.cutAt sz full i)] := by simp [List.range_succ]
      obtain ⟨ct, hct⟩ : ∃ ct, Cd.cutAt sz full i = ct := ⟨_, rfl⟩
      rw [hct] at hcl hpart hst
      have HPART := Lib.hid hpart
      have HST := Lib.hid (And.intro hst (And.intro hcl q5))
      have hql : lo ≤ hh := by omega
      clear hpart hst hcl hlo hhi q3 q5 hct
      go_wp2_with (first | (refine wpl_part rfl 48 5 (.tmp 46) (.tmp 49) (.tmp 53) rfl Tryd.underlying48 info_u8s rfl rfl rfl hql q4 ?_; intro AA hAA; have hcv := str_u8 (w := wr) (c := N - lo) (n := hh - lo) (by rw [HST.out.2.2, HST.out.2.1]) (HPART.out AA hAA); clear hAA) | (have hB := HI.out.new 2 #[sv ct] 9 (by simp [maxLen]); refine wpl_append_owns (u := sv ct) 34 9 rfl (.tmp 45) (.tmp 56) rfl Tryd.underlying34 info_str rfl hB 1 rfl rfl rfl (hB.cell 2 rfl 0 rfl) rfl (by omega) (by decide) ?_; clear hB; intro g8 c8 w8 hO8 _))
      go_roundw
      case rel => exact ⟨i + 1, c8, _, by omega, by go_num, rfl, by rw [HST.out.1]; exact hO8.drop 2⟩
      case measure => simp [intOf]; omega
    · obtain rfl : i = d := by omega
      have hI := HI.out
      rw [← HF.out.2.2.1] at hI
      have hI2 := hI.wider.put 2 (nilRow 9) hI.ext (nilRow_ok _ _ _) (fun _ _ _ _ _ _ => rfl) (fun _ _ _ _ => .inl rfl)
      obtain ⟨parts, hparts⟩ : ∃ parts, Cd.cuts i data = parts := ⟨_, rfl⟩
      have hpl : parts.length = i := by rw [← hparts, Cd.cuts_len]
      have hps : ∀ p ∈ parts, p.length ≤ 140737488351232 := fun p hp => by
        rw [← hparts] at hp
        have h1 := Cd.cuts_all (by omega) data hp
        have h2 := Cd.size_le (d := i) (by omega) data.length
        omega
      rw [hparts] at hI2
      have HI2 := Lib.hid hI2
      have HP := Lib.hid (And.intro hparts (And.intro hpl hps))
      have hrl := Cd.rowsOf_len HC.out
      obtain ⟨R, hR⟩ : ∃ R, Cd.rowsOf (i : Int) gs (gl : Int) = R := ⟨_, rfl⟩
      have HV3 := HV2
      rw [hR] at HV3 hrl ⊢
      have HRR := Lib.hid hR
      clear hI hI2 hparts hpl hps hR
      go_wp2_with fail
      go_loopw [11, 61] (fun vo vx wr => ∃ (k co : Nat) (O : Option Addr), k ≤ R.length ∧ vx = .int .i64 k ∧ vo = .slice O k co ∧ Hid (Owns w2 wr [⟨.slice (some ⟨w2.heap.size, 0, none⟩) N N, 5, 1, N, full.map bv⟩, ⟨.slice B i ca, 9, 1, i, parts.map sv⟩, ⟨.slice O k co, 9, 1, k, (Cd.encRows (R.take k) parts).map sv⟩, no])) (fun _ vx _ => R.length - (intOf vx).toNat)
      case atStart => exact ⟨0, 0, none, Nat.zero_le _, rfl, rfl, HI2.out⟩
      case round =>
        obtain ⟨k, co, O, hk2, rfl, rfl, HJ⟩ := hrel
        by_cases hlt2 : k < R.length
        · obtain ⟨ad, u, rfl, hcell, hu⟩ := HV3.out.at (i := k) hlt2
          obtain ⟨RB', cRB, rfl, hrb⟩ := hu.form
          have hcell2 := HJ.out.ext.cell hcell
          have hurd := hu.rd
          have hst : (Cd.encRows (R.take (k + 1)) parts).map sv = (Cd.encRows (R.take k) parts).map sv ++ [sv (Gf.combS R[k] parts)] := by
            rw [Cd.encRows, List.take_succ_eq_append_getElem hlt2, List.map_append, List.map_append]; rfl
          have hrlen : R[k].length = i := by
            have hw := Cd.rowsOf_at (d := (i : Int)) (gl := (gl : Int)) (gs := gs) HC.out (k := k) (by rw [HRR.out]; exact hlt2)
            rw [HRR.out, List.getD_eq_getElem?_getD, List.getElem?_eq_getElem hlt2] at hw
            exact hw
          obtain ⟨r, hr⟩ : ∃ r, R[k] = r := ⟨_, rfl⟩
          rw [hr] at hst hurd hcell2 hrlen
          have HST := Lib.hid hst
          have HU := Lib.hid hurd
          have HRL := Lib.hid hrlen
          clear hst hurd hu hcell hr hrb hrlen
          go_wp2_with fail
          refine (combine_any r parts _ _ _ _ _ _ _ (HT2.out.ext HJ.out.ext) rfl HP.out.2.1.symm (by rw [HRL.out]; omega) HP.out.2.2 (HU.out.ext HJ.out.ext) (HJ.out.rd 1 rfl)).mono ?_
          rintro e w5 ⟨rfl, hx5⟩
          have HJ5 := Lib.hid (HJ.out.next hx5)
          clear hx5 hcell2
          go_wp2_with (have hB := HJ5.out.new 3 #[sv (Gf.combS r parts)] 9 (by simp [maxLen]); refine wpl_append_owns (u := sv (Gf.combS r parts)) 34 9 rfl (.tmp 71) (.tmp 73) rfl Tryd.underlying34 info_str rfl hB 2 rfl rfl rfl (hB.cell 3 rfl 0 rfl) rfl (by omega) (by decide) ?_; clear hB; intro g8 c8 w8 hO8 _)
          go_roundw
          case rel => exact ⟨k + 1, c8, _, by omega, by go_num, rfl, by rw [HST.out]; exact hO8.drop 3⟩
          case measure => simp [intOf]; omega
        · obtain rfl : k = R.length := by omega
          have hout : Rs RS wr (.slice O R.length co) (Cd.encode (i : Int) (gl : Int) gs data) := by
            have h1 := HJ.out.rd 2 rfl
            rw [List.take_length, ← HP.out.1, ← HRR.out] at h1
            have h2 := Cd.encode_len (i : Int) (gl : Int) gs data
            rw [HRR.out] at h2
            rw [← h2]
            exact Rs.of_rdS h1 (by rw [h2]; omega)
          have hxx : Owns w wr [⟨.slice O R.length co, 9, 1, (Cd.encode (i : Int) (gl : Int) gs data).length, (Cd.encode (i : Int) (gl : Int) gs data).map sv⟩] := by
            have h1 := HJ.out.older HX2.out
            have h2 := Cd.encode_len (i : Int) (gl : Int) gs data
            rw [HRR.out] at h2
            rw [List.take_length, ← HP.out.1, ← HRR.out] at h1
            rw [h2, ← HRR.out]
            exact h1.sublist (.cons _ (.cons _ (.cons_cons _ (List.nil_sublist _))))
          have HOUT := Lib.hid (And.intro hout hxx)
          clear hout hxx
          go_wp2_with fail
          go_ret2
          exact ⟨_, rfl, HOUT.out.1, HOUT.out.2⟩
/-- `Encode` of every chunk: its list is of the call's own. -/
theorem cEncode_own (d gl : Int) (gs : List (List Int)) (data : List UInt8) (G : Value) (w : World) (hT : Tab w) (hG : Rs (Rs RI) w G gs) (hl : data.length ≤ 9223372036854775807) :
    Calls Tryd.prog 46 #[.agg #[.int .i64 d, G, .int .i64 gl], .string (sb data)] w fun e w' => ∃ v, e = .returned (.tuple #[v, .int .i64 (Cd.encE d gl gs data)]) ∧ Rs RS w' v (Cd.encL d gl gs data) ∧ Owns w w' [⟨v, 9, 1, (Cd.encL d gl gs data).length, (Cd.encL d gl gs data).map sv⟩] := by
  have hnil : ∀ w', Ext w w' → Owns w w' [⟨.slice none 0 0, 9, 1, ([] : List (List UInt8)).length, ([] : List (List UInt8)).map sv⟩] := fun w' hx =>
    (Owns.start w (L := [⟨.slice none 0 0, 9, 1, 0, []⟩]) (by intro r hr; simp at hr; subst hr; exact ⟨rfl, rfl, rfl⟩)).next hx
  by_cases h0 : Cd.check d gs gl = 0
  · by_cases hb : data.length ≤ 4096
    · have hk := Cd.check_ok h0
      rw [Cd.encE_ok h0 hb, Cd.encL_ok h0 hb]
      obtain ⟨n, rfl⟩ : ∃ n : Nat, d = n := ⟨d.toNat, by omega⟩
      obtain ⟨m, rfl⟩ : ∃ m : Nat, gl = m := ⟨gl.toNat, by omega⟩
      exact cEncode_ok n m gs data G w hT hG h0 hb
    · rw [Cd.encE_big h0 (by omega), Cd.encL_big (by omega)]
      refine (cEncode_big d gl gs data G w hT hG h0 (by omega) hl).mono ?_
      rintro e w' ⟨rfl, hx⟩
      exact ⟨_, rfl, ⟨none, 0, rfl, by simp, fun i x h => by simp at h⟩, hnil w' hx⟩
  · rw [Cd.encE_no h0, Cd.encL_no h0]
    refine (cEncode_no d gl gs data G w hT hG h0).mono ?_
    rintro e w' ⟨rfl, hx⟩
    exact ⟨_, rfl, ⟨none, 0, rfl, by simp, fun i x h => by simp at h⟩, hnil w' hx⟩
/-- `Encode` of every chunk. -/
theorem cEncode_any (d gl : Int) (gs : List (List Int)) (data : List UInt8) (G : Value) (w : World) (hT : Tab w) (hG : Rs (Rs RI) w G gs) (hl : data.length ≤ 9223372036854775807) :
    Calls Tryd.prog 46 #[.agg #[.int .i64 d, G, .int .i64 gl], .string (sb data)] w fun e w' => ∃ v, e = .returned (.tuple #[v, .int .i64 (Cd.encE d gl gs data)]) ∧ Rs RS w' v (Cd.encL d gl gs data) ∧ Ext w w' :=
  (cEncode_own d gl gs data G w hT hG hl).mono fun _ _ ⟨v, h1, h2, h3⟩ => ⟨v, h1, h2, h3.ext⟩
end Go.Proofs.YtggfkpalkdkbdaaDoor

/- THE WALK over given of package locate. -/
namespace Lo
section
open Cd
variable {d gl n m : Int} {gs : List (List Int)} {pieces : List (List UInt8)}
/-- The error of a code and the given pieces. -/
def givE (d gl : Int) (gs : List (List Int)) (n m : Int) (pieces : List (List UInt8)) : Int :=
  if chkE d gl gs m ≠ 0 then chkE d gl gs m else if n < 0 ∨ 4096 < n ∨ pieces.length ≠ (rowsOf d gs gl).length then 1 else if badLen (sizeN d.toNat n.toNat) m.toNat pieces = true then 1 else 0
theorem givE_chk (h : chkE d gl gs m ≠ 0) : givE d gl gs n m pieces = chkE d gl gs m := if_pos h
theorem givE_arg (h : chkE d gl gs m = 0) (h2 : n < 0 ∨ 4096 < n ∨ pieces.length ≠ (rowsOf d gs gl).length) : givE d gl gs n m pieces = 1 := by unfold givE; rw [if_neg (by rw [h]; simp), if_pos h2]
theorem givE_len (h : chkE d gl gs m = 0) (h3 : badLen (sizeN d.toNat n.toNat) m.toNat pieces = true) : givE d gl gs n m pieces = 1 := by
  by_cases h2 : n < 0 ∨ 4096 < n ∨ pieces.length ≠ (rowsOf d gs gl).length
  · exact givE_arg h h2
  · unfold givE; rw [if_neg (by rw [h]; simp), if_neg h2, if_pos h3]
theorem givE_fine (h : chkE d gl gs m = 0) (h2 : ¬ (n < 0 ∨ 4096 < n ∨ pieces.length ≠ (rowsOf d gs gl).length)) (h3 : badLen (sizeN d.toNat n.toNat) m.toNat pieces = false) : givE d gl gs n m pieces = 0 := by
  unfold givE; rw [if_neg (by rw [h]; simp), if_neg h2, if_neg (by rw [h3]; simp)]
theorem givE_ok (h : givE d gl gs n m pieces = 0) : chkE d gl gs m = 0 ∧ 0 ≤ n ∧ n ≤ 4096 ∧ pieces.length = (rowsOf d gs gl).length ∧ badLen (sizeN d.toNat n.toNat) m.toNat pieces = false := by
  by_cases h0 : chkE d gl gs m = 0
  · by_cases h2 : n < 0 ∨ 4096 < n ∨ pieces.length ≠ (rowsOf d gs gl).length
    · rw [givE_arg h0 h2] at h; cases h
    · cases h3 : badLen (sizeN d.toNat n.toNat) m.toNat pieces with
      | true => rw [givE_len h0 h3] at h; cases h
      | false => exact ⟨h0, by omega, by omega, by omega, rfl⟩
  · rw [givE_chk h0] at h; exact absurd h h0
end
end Lo
namespace Go.Proofs.YtggfkpalkdkbdaaDoor
open Go.RowKit
set_option maxHeartbeats 8000000 in
set_option maxRecDepth 100000 in
theorem lGiven_any (d gl n m : Int) (gs : List (List Int)) (pieces : List (List UInt8)) (G : Value) (PA : Option Addr) (cp : Nat) (w : World) (hG : Rs (Rs RI) w G gs) (hP : Rs RS w (.slice PA pieces.length cp) pieces) :
    Calls Tryd.prog 33 #[.agg #[.int .i64 d, G, .int .i64 gl], .int .i64 n, .int .i64 m, .slice PA pieces.length cp] w fun e w' => e = .returned (.int .i64 (Lo.givE d gl gs n m pieces)) ∧ Ext w w' := by
  obtain ⟨GA, Gc, rfl, _⟩ := hG.form
  obtain ⟨ng, hng⟩ : ∃ ng, gs.length = ng := ⟨_, rfl⟩
  rw [hng] at hG ⊢
  have hB : Owns w (w.alloc (.cells #[.int .i64 d, .slice GA ng Gc, .int .i64 gl] 24)) [⟨.slice (some ⟨w.heap.size, 0, none⟩) 3 3, 24, 1, 3, [.int .i64 d, .slice GA ng Gc, .int .i64 gl]⟩] := (Owns.start w (L := [no]) (by intro r hr; simp at hr; subst hr; exact ⟨rfl, rfl, rfl⟩)).new 0 #[.int .i64 d, .slice GA ng Gc, .int .i64 gl] 24 (by simp [maxLen])
  have HG := Lib.hid hG
  have HB := Lib.hid hB
  clear hG hB hng
  have HP := Lib.hid (Rs.ext RS.ext _ _ _ _ HB.out.ext hP)
  clear hP
  obtain ⟨pl, hpl⟩ : ∃ pl, pieces.length = pl := ⟨_, rfl⟩
  rw [hpl] at HP ⊢
  have HPL := Lib.hid hpl
  clear hpl
  go_enter Tryd.func33, Tryd.ntmps33
  go_upto_region 1 with fail
  obtain ⟨C, hC⟩ : ∃ C, w.heap.size = C := ⟨_, rfl⟩
  rw [hC] at HB ⊢
  obtain ⟨w1, hw1⟩ : ∃ x, w.alloc (.cells #[.int .i64 d, .slice GA ng Gc, .int .i64 gl] 24) = x := ⟨_, rfl⟩
  rw [hw1] at HB HP ⊢
  clear hw1 hC
  have b0 : w1.cell? ⟨C, 0, none⟩ = some (.int .i64 d) := HB.out.cell 0 rfl 0 rfl
  have b1 : w1.cell? ⟨C, 1, none⟩ = some (.slice GA ng Gc) := HB.out.cell 0 rfl 1 rfl
  have b2 : w1.cell? ⟨C, 2, none⟩ = some (.int .i64 gl) := HB.out.cell 0 rfl 2 rfl
  have HCK := Lib.hid (lChecked_any d gl gs m _ w1 (Rs.ext (Rs.ext RI.ext) _ _ _ _ HB.out.ext HG.out))
  go_wp2_with fail
  refine HCK.out.mono ?_
  clear HCK
  rintro e w2 ⟨rfl, hx2⟩
  have HB2 := Lib.hid (HB.out.next hx2)
  have HP2 := Lib.hid (Rs.ext RS.ext _ _ _ _ hx2 HP.out)
  clear hx2 b0 b1 b2 HP
  obtain ⟨er, her⟩ : ∃ er, Lo.chkE d gl gs m = er := ⟨_, rfl⟩
  rw [her]
  have HER := Lib.hid her
  clear her
  by_cases h0 : er = 0
  case neg =>
    have hne : (er == 0) = false := by rw [beq_eq_false_iff_ne]; exact h0
    have hne2 : (er != 0) = true := by rw [bne_iff_ne]; exact h0
    have hr := Lo.givE_chk (n := n) (pieces := pieces) (show Lo.chkE d gl gs m ≠ 0 by rw [HER.out]; exact h0)
    rw [HER.out] at hr
    have HR := Lib.hid hr
    clear hr h0
    go_wp2_with fail
    go_ret
    exact ⟨by rw [HR.out]; rfl, HB2.out.ext⟩
  case pos =>
    subst h0
    obtain ⟨hck, hm0, hm1⟩ := Lo.chkE_ok HER.out
    obtain ⟨M, rfl⟩ : ∃ M : Nat, m = M := ⟨m.toNat, by omega⟩
    have hm2 : M < 2 ^ (Cd.rowsOf d gs gl).length := by omega
    have hpn : Cd.pieces d gs gl = ((Cd.rowsOf d gs gl).length : Int) := by rw [Cd.pieces_ok hck, ← Cd.rowsOf_len hck]
    have hn24 : (Cd.rowsOf d gs gl).length ≤ 24 := by have h1 := Cd.rowsOf_len hck; have h2 := Cd.check_ok hck; omega
    have HCH := Lib.hid hck
    clear hck hm0 hm1
    by_cases hn0 : n < 0
    · have hr := Lo.givE_arg (pieces := pieces) HER.out (Or.inl hn0)
      have HR := Lib.hid hr
      clear hr hpn
      go_wp2_with fail
      go_ret
      exact ⟨by rw [HR.out]; rfl, HB2.out.ext⟩
    · by_cases hn4 : 4096 < n
      · have hr := Lo.givE_arg (pieces := pieces) HER.out (Or.inr (Or.inl hn4))
        have HR := Lib.hid hr
        clear hr hpn
        go_wp2_with fail
        go_ret
        exact ⟨by rw [HR.out]; rfl, HB2.out.ext⟩
      · obtain ⟨L, hL⟩ : ∃ L, (Cd.rowsOf d gs gl).length = L := ⟨_, rfl⟩
        have hpc := cPieces_any d gl gs _ w2 (Rs.ext (Rs.ext RI.ext) _ _ _ _ HB2.out.ext HG.out)
        rw [hpn, hL] at hpc
        rw [hL] at hn24 hm2
        have HPC := Lib.hid hpc
        have HL := Lib.hid (And.intro hL hm2)
        obtain ⟨N, rfl⟩ : ∃ N : Nat, n = N := ⟨n.toNat, by omega⟩
        have hk := Cd.check_ok HCH.out
        obtain ⟨D, rfl⟩ : ∃ k : Nat, d = k := ⟨d.toNat, by omega⟩
        obtain ⟨g, rfl⟩ : ∃ k : Nat, gl = k := ⟨gl.toNat, by omega⟩
        have hso := Cd.sizeOf_nat (d := D) (gl := g) (gs := gs) (n := N) (by omega) HCH.out
        obtain ⟨sz, hsz⟩ : ∃ sz, Cd.sizeN D N = sz := ⟨_, rfl⟩
        rw [hsz] at hso
        have HSO := Lib.hid hso
        have HSZ := Lib.hid hsz
        have hm24 : M < 16777216 := Nat.lt_of_lt_of_le hm2 (Nat.pow_le_pow_right (by decide) hn24)
        have b0 : w2.cell? ⟨C, 0, none⟩ = some (.int .i64 D) := HB2.out.cell 0 rfl 0 rfl
        have b1 : w2.cell? ⟨C, 1, none⟩ = some (.slice GA ng Gc) := HB2.out.cell 0 rfl 1 rfl
        have b2 : w2.cell? ⟨C, 2, none⟩ = some (.int .i64 g) := HB2.out.cell 0 rfl 2 rfl
        clear hpc hpn hL hm2 hk hso hsz
        go_wp2_with fail
        refine HPC.out.mono ?_
        clear HPC
        rintro e w3 ⟨rfl, hx3⟩
        have HB3 := Lib.hid (HB2.out.next hx3)
        have HP3 := Lib.hid (Rs.ext RS.ext _ _ _ _ hx3 HP2.out)
        clear hx3 b0 b1 b2 HP2
        by_cases hpe : pl = L
        case neg =>
          have e3 : ((pl : Int) != (L : Int)) = true := by rw [bne_iff_ne]; omega
          have hr := Lo.givE_arg (n := (N : Int)) (pieces := pieces) HER.out (Or.inr (Or.inr (by rw [HPL.out, HL.out.1]; exact hpe)))
          have HR := Lib.hid hr
          clear hr
          go_wp2_with fail
          go_ret
          exact ⟨by rw [HR.out]; rfl, HB3.out.ext⟩
        case pos =>
          subst hpe
          have e3 : ((pl : Int) != (pl : Int)) = false := by simp
          go_wp2_with fail
          go_loopw [33] (fun vk wr => ∃ k : Nat, k ≤ pl ∧ vk = .int .i64 k ∧ Hid (Ext w3 wr ∧ ∀ j, j < k → Cd.bitAt M j = 1 → (pieces.getD j []).length = sz)) (fun vk _ => pl - (intOf vk).toNat)
          case atStart => exact ⟨0, Nat.zero_le _, rfl, Ext.refl _, fun j hj => absurd hj (by omega)⟩
          case round =>
            obtain ⟨k, hk2, rfl, HI⟩ := hrel
            have HP4 := Lib.hid (Rs.ext RS.ext _ _ _ _ HI.out.1 HP3.out)
            have HB4 := Lib.hid (HB3.out.next HI.out.1)
            by_cases hlt : k < pl
            · obtain ⟨pd, u, rfl, hpc, hu⟩ := HP4.out.at (i := k) (by rw [HPL.out]; exact hlt)
              have hu' : u = sv (pieces[k]'(by rw [HPL.out]; exact hlt)) := hu
              subst hu'
              have hgp : pieces.getD k [] = pieces[k]'(by rw [HPL.out]; exact hlt) := by rw [List.getD_eq_getElem?_getD, List.getElem?_eq_getElem (by rw [HPL.out]; exact hlt)]; rfl
              have hmm : bits .and .i64 ((M : Int) / 2 ^ k) 1 = ((Cd.bitAt M k : Nat) : Int) := by
                have hle : M / 2 ^ k ≤ M := Nat.div_le_self _ _
                have := odd64 (M / 2 ^ k) (by omega)
                rw [Cd.bitAt, ← this]
                simp
              obtain ⟨p, hp⟩ : ∃ p, pieces[k]'(by rw [HPL.out]; exact hlt) = p := ⟨_, rfl⟩
              rw [hp] at hpc hgp
              have HGP := Lib.hid hgp
              clear hgp hp hu
              by_cases hb : Cd.bitAt M k = 1
              · have HBT := Lib.hid hb
                rw [hb] at hmm
                have hcs := cSize_any D g N gs _ wr (Rs.ext (Rs.ext RI.ext) _ _ _ _ HB4.out.ext HG.out)
                rw [HSO.out] at hcs
                have HCS := Lib.hid hcs
                have b0 : wr.cell? ⟨C, 0, none⟩ = some (.int .i64 D) := HB4.out.cell 0 rfl 0 rfl
                have b1 : wr.cell? ⟨C, 1, none⟩ = some (.slice GA ng Gc) := HB4.out.cell 0 rfl 1 rfl
                have b2 : wr.cell? ⟨C, 2, none⟩ = some (.int .i64 g) := HB4.out.cell 0 rfl 2 rfl
                clear hb hcs
                go_wp2_with fail
                refine HCS.out.mono ?_
                clear HCS
                rintro e w5 ⟨rfl, hx5⟩
                have HX5 := Lib.hid hx5
                clear hx5 b0 b1 b2 hpc
                by_cases hps : p.length = sz
                · have e5 : ((p.length : Int) != (sz : Int)) = false := by rw [hps]; simp
                  have HPS := Lib.hid hps
                  clear hps
                  go_wp2_with fail
                  go_roundw
                  case rel => exact ⟨k + 1, by omega, by go_num, HI.out.1.trans HX5.out, fun j hj hbj => by
                    by_cases hjk : j = k
                    · rw [hjk, HGP.out, HPS.out]
                    · exact HI.out.2 j (by omega) hbj⟩
                  case measure => simp [intOf]; omega
                · have e5 : ((p.length : Int) != (sz : Int)) = true := by rw [bne_iff_ne]; omega
                  have hbl : Cd.badLen (Cd.sizeN ((D : Int)).toNat ((N : Int)).toNat) ((M : Int)).toNat pieces = true := by
                    rw [Int.toNat_natCast, Int.toNat_natCast, Int.toNat_natCast, Cd.badLen_iff]
                    exact ⟨k, by rw [HPL.out]; exact hlt, HBT.out, by rw [HGP.out, HSZ.out]; exact hps⟩
                  have HR := Lib.hid (Lo.givE_len HER.out hbl)
                  clear hps hbl
                  go_wp2_with fail
                  go_ret
                  exact ⟨by rw [HR.out]; rfl, HB4.out.ext.trans HX5.out⟩
              · have eb : (((Cd.bitAt M k : Nat) : Int) == 1) = false := by rw [beq_eq_false_iff_ne]; omega
                have HBT := Lib.hid hb
                clear hb
                go_wp2_with fail
                go_roundw
                case rel => exact ⟨k + 1, by omega, by go_num, HI.out.1, fun j hj hbj => by
                  by_cases hjk : j = k
                  · rw [hjk] at hbj; exact absurd hbj HBT.out
                  · exact HI.out.2 j (by omega) hbj⟩
                case measure => simp [intOf]; omega
            · obtain rfl : k = pl := by omega
              have hbl : Cd.badLen (Cd.sizeN ((D : Int)).toNat ((N : Int)).toNat) ((M : Int)).toNat pieces = false := by
                rw [Int.toNat_natCast, Int.toNat_natCast, Int.toNat_natCast, ← Bool.not_eq_true, Cd.badLen_iff]
                rintro ⟨j, h1, h2, h3⟩
                rw [HSZ.out] at h3
                exact h3 (HI.out.2 j (by rw [← HPL.out]; exact h1) h2)
              have HR := Lib.hid (Lo.givE_fine HER.out (by rw [HPL.out, HL.out.1]; omega) hbl)
              clear hbl
              go_wp2_with fail
              go_ret
              exact ⟨by rw [HR.out]; rfl, HB4.out.ext⟩
end Go.Proofs.YtggfkpalkdkbdaaDoor

/- CLASH in plain terms: the least set that does not fit, in the program's order and in the specification's. No program in sight. -/
namespace Lo
open Cd
/-- The least element in which two sets differ is in the first one. -/
def Bef (a b : Nat) : Prop := ∃ i, bitAt a i = 1 ∧ bitAt b i = 0 ∧ ∀ j, j < i → bitAt a j = bitAt b j
theorem Bef.irrefl {a : Nat} : ¬ Bef a a := fun ⟨i, h1, h2, _⟩ => by omega
theorem Bef.trans {a b c : Nat} (h : Bef a b) (k : Bef b c) : Bef a c := by
  obtain ⟨i, a1, a2, a3⟩ := h
  obtain ⟨j, b1, b2, b3⟩ := k
  rcases Nat.lt_trichotomy i j with e | e | e
  · exact ⟨i, a1, by rw [← b3 i e]; exact a2, fun x hx => (a3 x hx).trans (b3 x (by omega))⟩
  · subst e; omega
  · exact ⟨j, by rw [a3 j e]; exact b1, b2, fun x hx => (a3 x (by omega)).trans (b3 x hx)⟩
theorem least_bit {p : Nat → Prop} [DecidablePred p] (h : ∃ i, p i) : ∃ i, p i ∧ ∀ j, j < i → ¬ p j := by
  obtain ⟨i, hi⟩ := h
  induction i using Nat.strongRecOn with
  | _ i ih =>
    by_cases hj : ∃ j, j < i ∧ p j
    · obtain ⟨j, h1, h2⟩ := hj
      exact ih j h1 h2
    · exact ⟨i, hi, fun j h1 h2 => hj ⟨j, h1, h2⟩⟩
theorem bef_or {a b : Nat} (h : a ≠ b) : Bef a b ∨ Bef b a := by
  have hex : ∃ i, bitAt a i ≠ bitAt b i := by
    by_cases he : ∃ i, bitAt a i ≠ bitAt b i
    · exact he
    · exfalso
      refine h (bits_eq (max a b) a b (Nat.lt_of_lt_of_le Nat.lt_two_pow_self (Nat.pow_le_pow_right (by decide) (by omega))) (Nat.lt_of_lt_of_le Nat.lt_two_pow_self (Nat.pow_le_pow_right (by decide) (by omega))) fun i => ?_)
      by_cases h1 : bitAt a i = bitAt b i
      · exact h1
      · exact absurd ⟨i, h1⟩ he
  obtain ⟨i, h1, h2⟩ := least_bit hex
  have h3 : ∀ j, j < i → bitAt a j = bitAt b j := fun j hj => by
    by_cases e : bitAt a j = bitAt b j
    · exact e
    · exact absurd e (h2 j hj)
  rcases bit_two a i with ha | ha
  · rcases bit_two b i with hb | hb
    · omega
    · exact Or.inr ⟨i, hb, ha, fun j hj => (h3 j hj).symm⟩
  · rcases bit_two b i with hb | hb
    · exact Or.inl ⟨i, ha, hb, h3⟩
    · omega
/-- The order of the sets that are searched. -/
def Lt (a b : Nat) : Prop := num a < num b ∨ (num a = num b ∧ Bef a b)
theorem Lt.irrefl {a : Nat} : ¬ Lt a a := fun h => by
  rcases h with h | ⟨_, h⟩
  · omega
  · exact h.irrefl
theorem Lt.trans {a b c : Nat} (h : Lt a b) (k : Lt b c) : Lt a c := by
  rcases h with h | ⟨h1, h2⟩
  · rcases k with k | ⟨k1, _⟩
    · exact Or.inl (by omega)
    · exact Or.inl (by omega)
  · rcases k with k | ⟨k1, k2⟩
    · exact Or.inl (by omega)
    · exact Or.inr ⟨by omega, h2.trans k2⟩
theorem lt_or {a b : Nat} (h : a ≠ b) : Lt a b ∨ Lt b a := by
  rcases Nat.lt_trichotomy (num a) (num b) with e | e | e
  · exact Or.inl (Or.inl e)
  · rcases bef_or h with f | f
    · exact Or.inl (Or.inr ⟨e, f⟩)
    · exact Or.inr (Or.inr ⟨e.symm, f⟩)
  · exact Or.inr (Or.inl e)
/-- A part that was taken stays below the rest. -/
theorem set_div {i : Nat} : ∀ (l : List Nat), (∀ z ∈ l, i ≤ z) → 2 ^ i ∣ toSet l
  | [], _ => ⟨0, by simp [toSet]⟩
  | y :: l, h => by
    rw [toSet_cons]
    exact Nat.dvd_add (Nat.pow_dvd_pow 2 (h y List.mem_cons_self)) (set_div l fun z hz => h z (List.mem_cons_of_mem _ hz))
theorem bit_low {t i q j : Nat} (hj : j < i) : bitAt (t + 2 ^ i * q) j = bitAt t j := by
  obtain ⟨d, rfl⟩ : ∃ d, i = j + (d + 1) := ⟨i - j - 1, by omega⟩
  unfold bitAt
  rw [Nat.pow_add, Nat.mul_assoc, Nat.add_mul_div_left _ _ (Nat.pow_pos (by decide)), Nat.pow_succ]
  have : 2 ^ d * 2 * q = 2 * (2 ^ d * q) := by rw [Nat.mul_comm (2 ^ d) 2, Nat.mul_assoc]
  rw [this]
  omega
theorem takes_low {m N left i taken x j : Nat} (h : x ∈ takes m N left i taken) (hj : j < i) : bitAt x j = bitAt taken j := by
  unfold takes at h
  obtain ⟨l, hl, rfl⟩ := List.mem_map.mp h
  obtain ⟨h1, _⟩ := (mem_ch _ _ _).mp hl
  obtain ⟨q, hq⟩ := set_div l fun z hz => (mem_els.mp (h1.subset hz)).1
  rw [hq]
  exact bit_low hj
theorem bit_add {t i : Nat} (h : t < 2 ^ i) : bitAt (t + 2 ^ i) i = 1 := by
  unfold bitAt
  have h0 : 0 < 2 ^ i := Nat.pow_pos (by decide)
  have : (t + 2 ^ i) / 2 ^ i = 1 := by
    rw [Nat.add_div_right _ h0, Nat.div_eq_of_lt h]
  rw [this]
theorem takes_up {m N : Nat} : ∀ (d i left taken : Nat), N - i = d → taken < 2 ^ i → (takes m N left i taken).Pairwise Bef
  | d, i, 0, taken, _, _ => by rw [takes_zero]; exact List.pairwise_singleton _ _
  | 0, i, left + 1, taken, h, _ => by
    have : takes m N (left + 1) i taken = [] := by
      unfold takes
      rw [els_end (by omega)]; rfl
    rw [this]; exact List.Pairwise.nil
  | d + 1, i, left + 1, taken, h, ht => by
    have ht2 : taken < 2 ^ (i + 1) := by rw [Nat.pow_succ]; omega
    have hta : taken + 2 ^ i < 2 ^ (i + 1) := by rw [Nat.pow_succ]; omega
    by_cases hb : bitAt m i = 1
    · rw [takes_yes (by omega) hb, List.pairwise_append]
      refine ⟨takes_up d (i + 1) left _ (by omega) hta, takes_up d (i + 1) (left + 1) _ (by omega) ht2, fun x hx y hy => ⟨i, ?_, ?_, fun j hj => ?_⟩⟩
      · rw [takes_low hx (Nat.lt_succ_self i), bit_add ht]
      · rw [takes_low hy (Nat.lt_succ_self i), bit_above ht (Nat.le_refl _)]
      · rw [takes_low hx (by omega), takes_low hy (by omega)]
        have := bit_low (t := taken) (q := 1) hj
        rwa [Nat.mul_one] at this
    · rw [takes_no (by omega) hb]
      exact takes_up d (i + 1) (left + 1) _ (by omega) ht2
theorem parts_lt {m N most : Nat} (hm : m < 2 ^ N) (hN : N ≤ 16) : (parts m N most).Pairwise Lt := by
  have hnum : ∀ t, Sub t m → (els t N 0).length = num t := fun t ht => num_is (Nat.lt_of_le_of_lt (sub_le ht) hm) hN
  unfold parts
  rw [List.pairwise_flatMap]
  constructor
  · intro n _
    refine (List.pairwise_iff_forall_sublist.mpr fun {a b} hab => ?_)
    have ha := (mem_takes hm).mp (hab.subset List.mem_cons_self)
    have hb := (mem_takes hm).mp (hab.subset (List.mem_cons_of_mem _ List.mem_cons_self))
    have hbef := List.pairwise_iff_forall_sublist.mp (takes_up (m := m) (N := N) N 0 n 0 rfl (by decide)) hab
    rw [hnum a ha.1] at ha
    rw [hnum b hb.1] at hb
    exact Or.inr ⟨by rw [ha.2, hb.2], hbef⟩
  · refine (List.pairwise_lt_range (n := min most (els m N 0).length + 1)).imp fun {a b} hab s hs t ht => ?_
    have h1 := (mem_takes hm).mp hs
    have h2 := (mem_takes hm).mp ht
    rw [hnum s h1.1] at h1
    rw [hnum t h2.1] at h2
    exact Or.inl (by omega)
section
variable {bad : Nat → Bool} {m N : Nat}
/-- The least set that does not fit. -/
def Least (bad : Nat → Bool) (m x : Nat) : Prop := x ≠ 0 ∧ Sub x m ∧ bad x = true ∧ ∀ z, z ≠ 0 → Sub z m → bad z = true → z = x ∨ Lt x z
theorem Least.one {x y : Nat} (h : Least bad m x) (k : Least bad m y) : x = y := by
  rcases h.2.2.2 y k.1 k.2.1 k.2.2.1 with e | e
  · exact e.symm
  · rcases k.2.2.2 x h.1 h.2.1 h.2.2.1 with f | f
    · exact f
    · exact absurd (e.trans f) Lt.irrefl
/-- The program's search hits the least one. -/
theorem clash_hit (hm : m < 2 ^ N) (hN : N ≤ 16) {pre : List Nat} {t s : Nat} (hp : pre ++ [t] <+: parts m N (num m)) (hs : ∀ z, Sub z m → z ≠ 0 → num z < s → bad z = false) (hpre : ∀ z ∈ pre, ¬ (num z = s ∧ bad z = true)) (ht : num t = s) (hb : bad t = true) (h0 : s ≠ 0) : Least bad m t := by
  have hnum : ∀ t, Sub t m → (els t N 0).length = num t := fun t ht => num_is (Nat.lt_of_le_of_lt (sub_le ht) hm) hN
  obtain ⟨rest, hr⟩ := hp
  have hmem : t ∈ parts m N (num m) := by rw [← hr]; simp
  have hsub := ((mem_parts hm).mp hmem).1
  have hup := parts_lt (most := num m) hm hN
  rw [← hr, List.append_assoc] at hup
  refine ⟨fun e => by rw [e, num_zero] at ht; exact h0 ht.symm, hsub, hb, fun z hz hzs hzb => ?_⟩
  have hzm : z ∈ parts m N (num m) := (mem_parts hm).mpr ⟨hzs, by rw [hnum z hzs]; exact num_sub hzs⟩
  rcases Nat.lt_trichotomy (num z) s with e | e | e
  · rw [hs z hzs hz e] at hzb; cases hzb
  · rw [← hr, List.append_assoc] at hzm
    rcases List.mem_append.mp hzm with h | h
    · exact absurd ⟨e, hzb⟩ (hpre z h)
    · rcases List.mem_cons.mp h with h | h
      · exact Or.inl h
      · have := (List.pairwise_append.mp hup).2.1
        exact Or.inr ((List.pairwise_cons.mp this).1 z h)
  · exact Or.inr (Or.inl (by omega))
/-- The program's search behind all sets of a size. -/
theorem clash_next (hm : m < 2 ^ N) (hN : N ≤ 16) {s : Nat} (hs : ∀ z, Sub z m → z ≠ 0 → num z < s → bad z = false) (hall : ∀ z ∈ parts m N (num m), ¬ (num z = s ∧ bad z = true)) : ∀ z, Sub z m → z ≠ 0 → num z < s + 1 → bad z = false := fun z hz h0 hn => by
  rcases Nat.lt_succ_iff_lt_or_eq.mp hn with e | e
  · exact hs z hz h0 e
  · have := hall z ((mem_parts hm).mpr ⟨hz, by rw [num_is (Nat.lt_of_le_of_lt (sub_le hz) hm) hN]; exact num_sub hz⟩)
    cases hb : bad z with
    | false => rfl
    | true => exact absurd ⟨e, hb⟩ this
/-- What stands in the specification's variable, behind all sets below K. -/
def Best (bad : Nat → Bool) (m K b : Nat) : Prop := (b = 0 ∧ ∀ z, z ≠ 0 → z < K → Sub z m → bad z = false) ∨ (b ≠ 0 ∧ Sub b m ∧ bad b = true ∧ ∀ z, z ≠ 0 → z < K → Sub z m → bad z = true → z = b ∨ Lt b z)
theorem best_start : Best bad m 1 0 := Or.inl ⟨rfl, fun z h1 h2 _ => by omega⟩
theorem best_keep {K b : Nat} (h : Best bad m K b) (hk : Sub K m → bad K = true → b ≠ 0 ∧ Lt b K) : Best bad m (K + 1) b := by
  rcases h with ⟨h1, h2⟩ | ⟨h1, h2, h3, h4⟩
  · refine Or.inl ⟨h1, fun z hz hzk hs => ?_⟩
    rcases Nat.lt_succ_iff_lt_or_eq.mp hzk with e | e
    · exact h2 z hz e hs
    · subst e
      cases hb : bad z with
      | false => rfl
      | true => exact absurd h1 (hk hs hb).1
  · refine Or.inr ⟨h1, h2, h3, fun z hz hzk hs hb => ?_⟩
    rcases Nat.lt_succ_iff_lt_or_eq.mp hzk with e | e
    · exact h4 z hz e hs hb
    · subst e
      exact Or.inr (hk hs hb).2
theorem best_take {K b : Nat} (hK : K ≠ 0) (h : Best bad m K b) (hs : Sub K m) (hb : bad K = true) (hl : b = 0 ∨ Lt K b) : Best bad m (K + 1) K := by
  refine Or.inr ⟨hK, hs, hb, fun z hz hzk hzs hzb => ?_⟩
  rcases Nat.lt_succ_iff_lt_or_eq.mp hzk with e | e
  · rcases h with ⟨h1, h2⟩ | ⟨h1, h2, h3, h4⟩
    · rw [h2 z hz e hzs] at hzb; cases hzb
    · rcases hl with hl | hl
      · exact absurd hl h1
      · rcases h4 z hz e hzs hzb with f | f
        · rw [f]; exact Or.inr hl
        · exact Or.inr (hl.trans f)
  · exact Or.inl e
theorem best_end {b : Nat} (h : Best bad m (m + 1) b) : (b = 0 ∧ ∀ z, z ≠ 0 → Sub z m → bad z = false) ∨ Least bad m b := by
  rcases h with ⟨h1, h2⟩ | ⟨h1, h2, h3, h4⟩
  · exact Or.inl ⟨h1, fun z hz hs => h2 z hz (by have := sub_le hs; omega) hs⟩
  · exact Or.inr ⟨h1, h2, h3, fun z hz hs => h4 z hz (by have := sub_le hs; omega) hs⟩
end
/-- The specification's before. -/
def befF : Nat → Nat → Nat → Bool
  | 0, _, _ => false
  | n + 1, a, b => if a = b then false else if a % 2 ≠ b % 2 then decide (a % 2 = 1) else befF n (a / 2) (b / 2)
theorem befF_iff : ∀ (n a b : Nat), a < 2 ^ n → b < 2 ^ n → (befF n a b = true ↔ Bef a b)
  | 0, a, b, ha, hb => by
    have ha0 : a = 0 := by simpa using ha
    have hb0 : b = 0 := by simpa using hb
    subst ha0 hb0
    exact ⟨(fun h => by cases h), fun h => absurd h Bef.irrefl⟩
  | n + 1, a, b, ha, hb => by
    rw [befF]
    by_cases he : a = b
    · rw [if_pos he, he]
      exact ⟨(fun h => by cases h), fun h => absurd h Bef.irrefl⟩
    · rw [if_neg he]
      by_cases h0 : a % 2 ≠ b % 2
      · rw [if_pos h0, decide_eq_true_iff]
        constructor
        · intro h1
          exact ⟨0, by rw [bit_zero]; exact h1, by rw [bit_zero]; omega, fun j hj => by omega⟩
        · rintro ⟨i, h1, h2, h3⟩
          cases i with
          | zero => rw [bit_zero] at h1; exact h1
          | succ i =>
            have := h3 0 (by omega)
            rw [bit_zero, bit_zero] at this
            exact absurd this h0
      · rw [if_neg h0, befF_iff n (a / 2) (b / 2) (by rw [Nat.pow_succ] at ha; omega) (by rw [Nat.pow_succ] at hb; omega)]
        constructor
        · rintro ⟨i, h1, h2, h3⟩
          refine ⟨i + 1, by rw [bit_succ]; exact h1, by rw [bit_succ]; exact h2, fun j hj => ?_⟩
          cases j with
          | zero => rw [bit_zero, bit_zero]; omega
          | succ j => rw [bit_succ, bit_succ]; exact h3 j (by omega)
        · rintro ⟨i, h1, h2, h3⟩
          cases i with
          | zero => rw [bit_zero] at h1 h2; omega
          | succ i =>
            refine ⟨i, by rw [← bit_succ]; exact h1, by rw [← bit_succ]; exact h2, fun j hj => ?_⟩
            rw [← bit_succ, ← bit_succ]
            exact h3 (j + 1) (by omega)
end Lo

/- THE SPECIFICATION'S RANK of rows, in plain terms: it is the number of columns exactly if the rows span all. -/
namespace Cd
open Gf
/-- A row from which a multiple of another one was taken, so that it is 0 at a place. -/
def lessR (r o : List UInt8) (a : Nat) : List UInt8 := (List.range r.length).map fun k => r.getD k 0 ^^^ mul (mul (r.getD a 0) (inv (o.getD a 0))) (o.getD k 0)
theorem lessR_len (r o : List UInt8) (a : Nat) : (lessR r o a).length = r.length := by simp [lessR]
theorem lessR_get {r o : List UInt8} {a k : Nat} (h : k < r.length) : (lessR r o a).getD k 0 = r.getD k 0 ^^^ mul (mul (r.getD a 0) (inv (o.getD a 0))) (o.getD k 0) := getD_map_range _ _ h
theorem lessR_zero {r o : List UInt8} {a : Nat} (h : a < r.length) (ho : o.getD a 0 ≠ 0) : (lessR r o a).getD a 0 = 0 := by
  rw [lessR_get h, mul_assoc, inv_mul ho, mul_one]
  exact UInt8.xor_self
theorem lessR_keep {r o : List UInt8} {a j : Nat} (h : j < r.length) (hr : r.getD j 0 = 0) (ho : o.getD j 0 = 0) : (lessR r o a).getD j 0 = 0 := by
  rw [lessR_get h, hr, ho, mul_zero]
  exact UInt8.xor_self
/-- The first row of the first k that is not 0 at a place. -/
def pivTo (l : List (List UInt8)) (a : Nat) : Nat → Option Nat
  | 0 => none
  | k + 1 => match pivTo l a k with
    | some p => some p
    | none => if (l.getD k []).getD a 0 = 0 then none else some k
theorem pivTo_old {l : List (List UInt8)} {a k p : Nat} (h : pivTo l a k = some p) : pivTo l a (k + 1) = some p := by rw [pivTo, h]
theorem pivTo_no {l : List (List UInt8)} {a k : Nat} (h : pivTo l a k = none) (h2 : (l.getD k []).getD a 0 = 0) : pivTo l a (k + 1) = none := by rw [pivTo, h]; exact if_pos h2
theorem pivTo_yes {l : List (List UInt8)} {a k : Nat} (h : pivTo l a k = none) (h2 : (l.getD k []).getD a 0 ≠ 0) : pivTo l a (k + 1) = some k := by rw [pivTo, h]; exact if_neg h2
theorem pivTo_spec {l : List (List UInt8)} {a p : Nat} : ∀ {k : Nat}, pivTo l a k = some p → p < k ∧ (l.getD p []).getD a 0 ≠ 0
  | 0, h => by cases h
  | k + 1, h => by
    cases hk : pivTo l a k with
    | some q =>
      rw [pivTo_old hk] at h
      injection h with h
      subst h
      have := pivTo_spec hk
      exact ⟨by omega, this.2⟩
    | none =>
      by_cases h2 : (l.getD k []).getD a 0 = 0
      · rw [pivTo_no hk h2] at h; cases h
      · rw [pivTo_yes hk h2] at h
        injection h with h
        subst h
        exact ⟨by omega, h2⟩
theorem pivTo_none {l : List (List UInt8)} {a : Nat} : ∀ {k : Nat}, pivTo l a k = none → ∀ j, j < k → (l.getD j []).getD a 0 = 0
  | 0, _, j, hj => by omega
  | k + 1, h, j, hj => by
    cases hk : pivTo l a k with
    | some q => rw [pivTo_old hk] at h; cases h
    | none =>
      by_cases h2 : (l.getD k []).getD a 0 = 0
      · by_cases hjk : j = k
        · rw [hjk]; exact h2
        · exact pivTo_none hk j (by omega)
      · rw [pivTo_yes hk h2] at h; cases h
theorem pivTo_mono {l : List (List UInt8)} {a p k : Nat} (h : pivTo l a k = some p) : ∀ {m : Nat}, k ≤ m → pivTo l a m = some p
  | 0, hm => by
    obtain rfl : k = 0 := by omega
    exact h
  | m + 1, hm => by
    by_cases he : k = m + 1
    · rw [← he]; exact h
    · exact pivTo_old (pivTo_mono h (by omega))
/-- The rows but p, of the first m. -/
def restTo (l : List (List UInt8)) (p a : Nat) : Nat → List (List UInt8)
  | 0 => []
  | m + 1 => if m = p then restTo l p a m else restTo l p a m ++ [lessR (l.getD m []) (l.getD p []) a]
theorem restTo_skip (l : List (List UInt8)) (p a : Nat) : restTo l p a (p + 1) = restTo l p a p := by rw [restTo, if_pos rfl]
theorem restTo_next {l : List (List UInt8)} {p a m : Nat} (h : m ≠ p) : restTo l p a (m + 1) = restTo l p a m ++ [lessR (l.getD m []) (l.getD p []) a] := by rw [restTo, if_neg h]
theorem restTo_mem {l : List (List UInt8)} {p a : Nat} {x : List UInt8} : ∀ {m : Nat}, x ∈ restTo l p a m ↔ ∃ k, k < m ∧ k ≠ p ∧ x = lessR (l.getD k []) (l.getD p []) a
  | 0 => by simp [restTo]
  | m + 1 => by
    by_cases h : m = p
    · subst h
      rw [restTo_skip, restTo_mem]
      constructor
      · rintro ⟨k, h1, h2, h3⟩; exact ⟨k, by omega, h2, h3⟩
      · rintro ⟨k, h1, h2, h3⟩; exact ⟨k, by omega, h2, h3⟩
    · rw [restTo_next h, List.mem_append, List.mem_singleton, restTo_mem]
      constructor
      · rintro (⟨k, h1, h2, h3⟩ | h3)
        · exact ⟨k, by omega, h2, h3⟩
        · exact ⟨m, by omega, h, h3⟩
      · rintro ⟨k, h1, h2, h3⟩
        by_cases hk : k = m
        · subst hk; exact .inr h3
        · exact .inl ⟨k, by omega, h2, h3⟩
theorem restTo_len (l : List (List UInt8)) (p a : Nat) : ∀ m, (restTo l p a m).length ≤ m
  | 0 => Nat.le_refl _
  | m + 1 => by
    have ih := restTo_len l p a m
    by_cases h : m = p
    · subst h; rw [restTo_skip]; omega
    · rw [restTo_next h]; simp; omega
/-- The rows that are left, and the rank, after the first a columns. -/
def rankTo (l : List (List UInt8)) : Nat → List (List UInt8) × Nat
  | 0 => (l, 0)
  | a + 1 => match pivTo (rankTo l a).1 a (rankTo l a).1.length with
    | none => rankTo l a
    | some p => (restTo (rankTo l a).1 p a (rankTo l a).1.length, (rankTo l a).2 + 1)
def rankR (l : List (List UInt8)) (n : Nat) : Nat := (rankTo l n).2
theorem rankTo_no {l : List (List UInt8)} {a : Nat} (h : pivTo (rankTo l a).1 a (rankTo l a).1.length = none) : rankTo l (a + 1) = rankTo l a := by rw [rankTo, h]
theorem rankTo_yes {l : List (List UInt8)} {a p : Nat} (h : pivTo (rankTo l a).1 a (rankTo l a).1.length = some p) : rankTo l (a + 1) = (restTo (rankTo l a).1 p a (rankTo l a).1.length, (rankTo l a).2 + 1) := by rw [rankTo, h]
theorem rankTo_le (l : List (List UInt8)) : ∀ a, (rankTo l a).2 ≤ a
  | 0 => Nat.le_refl _
  | a + 1 => by
    have ih := rankTo_le l a
    cases h : pivTo (rankTo l a).1 a (rankTo l a).1.length with
    | none => rw [rankTo_no h]; omega
    | some p => rw [rankTo_yes h]; show _ + 1 ≤ _; omega
theorem rankTo_size (l : List (List UInt8)) : ∀ a, (rankTo l a).1.length ≤ l.length
  | 0 => Nat.le_refl _
  | a + 1 => by
    have ih := rankTo_size l a
    cases h : pivTo (rankTo l a).1 a (rankTo l a).1.length with
    | none => rw [rankTo_no h]; exact ih
    | some p =>
      rw [rankTo_yes h]
      have := restTo_len (rankTo l a).1 p a (rankTo l a).1.length
      show (restTo _ _ _ _).length ≤ _
      omega
theorem getD_mem {α : Type} {l : List α} {k : Nat} {x : α} (h : k < l.length) : l.getD k x ∈ l := by
  rw [List.getD_eq_getElem?_getD, List.getElem?_eq_getElem h]
  exact List.getElem_mem h
/-- The rows that are left have n elements, and are 0 ahead of the column. -/
theorem rankTo_zero {l : List (List UInt8)} {n : Nat} (hl : ∀ r ∈ l, r.length = n) : ∀ a, a ≤ n → ∀ r ∈ (rankTo l a).1, r.length = n ∧ ∀ j, j < a → r.getD j 0 = 0
  | 0, _, r, hr => ⟨hl r hr, fun j hj => by omega⟩
  | a + 1, ha, r, hr => by
    have ih := rankTo_zero hl a (by omega)
    cases h : pivTo (rankTo l a).1 a (rankTo l a).1.length with
    | none =>
      rw [rankTo_no h] at hr
      refine ⟨(ih r hr).1, fun j hj => ?_⟩
      by_cases hja : j = a
      · obtain ⟨k, hk, rfl⟩ := List.getElem_of_mem hr
        have := pivTo_none h k hk
        rw [List.getD_eq_getElem?_getD (l := (rankTo l a).1), List.getElem?_eq_getElem hk] at this
        rw [hja]
        exact this
      · exact (ih r hr).2 j (by omega)
    | some p =>
      rw [rankTo_yes h] at hr
      obtain ⟨k, h1, h2, rfl⟩ := restTo_mem.1 hr
      obtain ⟨p1, p2⟩ := pivTo_spec h
      have i1 := ih _ (getD_mem h1 (x := []))
      have i2 := ih _ (getD_mem p1 (x := []))
      refine ⟨by rw [lessR_len]; exact i1.1, fun j hj => ?_⟩
      by_cases hja : j = a
      · subst hja
        exact lessR_zero (by rw [i1.1]; omega) p2
      · exact lessR_keep (by rw [i1.1]; omega) (i1.2 j (by omega)) (i2.2 j (by omega))
theorem span_zero {n a : Nat} {L : List (List UInt8)} {v : Nat → UInt8} (hz : ∀ x ∈ L, x.getD a 0 = 0) (h : SpanL n L v) (ha : a < n) : v a = 0 := by
  obtain ⟨c, hc⟩ := h
  rw [hc a ha]
  refine sm_zero fun j hj => ?_
  show mul (c j) (vec (L.getD j []) a) = 0
  have : vec (L.getD j []) a = 0 := hz _ (getD_mem hj)
  rw [this, mul_zero]
/-- The unit vectors from a column on are combinations. -/
def UF (n : Nat) (L : List (List UInt8)) (a : Nat) : Prop := ∀ q, a ≤ q → q < n → SpanL n L (unit q)
theorem UF_none {n a : Nat} {L : List (List UInt8)} (hz : ∀ x ∈ L, x.getD a 0 = 0) (ha : a < n) : ¬ UF n L a := fun h => by
  have h1 := span_zero hz (h a (Nat.le_refl _) ha) ha
  rw [unit, if_pos rfl] at h1
  exact absurd h1 (by decide)
theorem SpanL.zero {n : Nat} {L : List (List UInt8)} {v : Nat → UInt8} (h : ∀ i, i < n → v i = 0) : SpanL n L v := InSpan.zero n _ _ h
theorem SpanL.sum {n : Nat} {L : List (List UInt8)} (c : Nat → UInt8) (us : Nat → Nat → UInt8) (k : Nat) (h : ∀ j, j < k → SpanL n L (us j)) : SpanL n L fun i => sm k fun j => mul (c j) (us j i) := InSpan.sum c us k h
theorem UF_back {n a p : Nat} {L : List (List UInt8)} (hL : ∀ r ∈ L, r.length = n ∧ ∀ j, j < a → r.getD j 0 = 0) (ha : a < n) (hp : p < L.length) (hp2 : (L.getD p []).getD a 0 ≠ 0) (h : UF n (restTo L p a L.length) (a + 1)) : UF n L a := by
  have hrest : ∀ x ∈ restTo L p a L.length, SpanL n L (vec x) := fun x hx => by
    obtain ⟨k, h1, h2, rfl⟩ := restTo_mem.1 hx
    refine ((SpanL.mem (getD_mem h1 (x := []))).add ((SpanL.mem (getD_mem hp (x := []))).smul (mul ((L.getD k []).getD a 0) (inv ((L.getD p []).getD a 0))))).congr fun i hi => ?_
    exact lessR_get (by rw [(hL _ (getD_mem h1)).1]; exact hi)
  have hup : ∀ q, a + 1 ≤ q → q < n → SpanL n L (unit q) := fun q h1 h2 => (h q h1 h2).trans hrest
  intro q h1 h2
  by_cases hq : q = a
  · subst hq
    obtain ⟨P, hP⟩ : ∃ P, L.getD p [] = P := ⟨_, rfl⟩
    have hPL : SpanL n L (vec P) := by rw [← hP]; exact SpanL.mem (getD_mem hp)
    have hPz := (hL _ (getD_mem hp (x := []))).2
    rw [hP] at hp2 hPz
    have hw := SpanL.sum (n := n) (L := L) (fun j => P.getD j 0) (fun j => if q + 1 ≤ j then unit j else fun _ => 0) n fun j hj => by
      by_cases hjq : q + 1 ≤ j
      · rw [if_pos hjq]; exact hup j hjq hj
      · rw [if_neg hjq]; exact SpanL.zero fun _ _ => rfl
    refine ((hPL.add hw).smul (inv (P.getD q 0))).congr fun i hi => ?_
    have e : sm n (fun j => mul (P.getD j 0) ((if q + 1 ≤ j then unit j else fun _ => 0) i)) = if q + 1 ≤ i then P.getD i 0 else 0 := by
      rw [sm_one (p := i) _ hi fun j _ hne => by
        split
        · rw [unit, if_neg (Ne.symm hne), mul_zero]
        · rw [mul_zero]]
      split
      · rw [unit, if_pos rfl, mul_one]
      · rw [mul_zero]
    rw [e]
    show unit q i = mul (inv (P.getD q 0)) (P.getD i 0 ^^^ _)
    by_cases h3 : q + 1 ≤ i
    · rw [if_pos h3, UInt8.xor_self, mul_zero, unit, if_neg (by omega)]
    · rw [if_neg h3, UInt8.xor_zero]
      by_cases h4 : i = q
      · subst h4
        rw [inv_mul hp2, unit, if_pos rfl]
      · rw [hPz i (by omega), mul_zero, unit, if_neg h4]
  · exact hup q (by omega) h2
theorem rest_split {n a p : Nat} {L : List (List UInt8)} (hL : ∀ r ∈ L, r.length = n) {x : List UInt8} (hx : x ∈ L) : ∃ c, SpanL n (restTo L p a L.length) fun i => vec x i ^^^ mul c ((L.getD p []).getD i 0) := by
  obtain ⟨k, hk, rfl⟩ := List.getElem_of_mem hx
  have e : L[k] = L.getD k [] := by rw [List.getD_eq_getElem?_getD, List.getElem?_eq_getElem hk]; rfl
  rw [e]
  by_cases hkp : k = p
  · subst hkp
    refine ⟨1, SpanL.zero fun i _ => ?_⟩
    rw [one_mul]
    exact UInt8.xor_self
  · refine ⟨mul ((L.getD k []).getD a 0) (inv ((L.getD p []).getD a 0)), (SpanL.mem (restTo_mem.2 ⟨k, hk, hkp, rfl⟩)).congr fun i hi => ?_⟩
    exact (lessR_get (by rw [hL _ (getD_mem hk)]; exact hi)).symm
theorem SpanL.rest {n a p : Nat} {L : List (List UInt8)} (hL : ∀ r ∈ L, r.length = n) {u : Nat → UInt8} (h : SpanL n L u) : ∃ c, SpanL n (restTo L p a L.length) fun i => u i ^^^ mul c ((L.getD p []).getD i 0) := by
  obtain ⟨c, hc⟩ := h
  have hd : ∃ d : Nat → UInt8, ∀ k, k < L.length → SpanL n (restTo L p a L.length) fun i => vec (L.getD k []) i ^^^ mul (d k) ((L.getD p []).getD i 0) := by
    refine ⟨fun k => if hk : k < L.length then (rest_split (p := p) (a := a) hL (getD_mem hk (x := []))).choose else 0, fun k hk => ?_⟩
    simp only [hk, ↓reduceDIte]
    exact (rest_split (p := p) (a := a) hL (getD_mem hk (x := []))).choose_spec
  obtain ⟨d, hd⟩ := hd
  refine ⟨sm L.length fun k => mul (c k) (d k), (SpanL.sum c _ L.length hd).congr fun i hi => ?_⟩
  show u i ^^^ mul _ _ = _
  rw [hc i hi, mul_comm (sm _ _), sm_mul, ← sm_add]
  refine sm_congr fun k _ => ?_
  rw [mul_xor]
  congr 1
  rw [mul_comm ((L.getD p []).getD i 0), mul_assoc]
theorem UF_next {n a p : Nat} {L : List (List UInt8)} (hL : ∀ r ∈ L, r.length = n) (ha : a < n) (hp2 : (L.getD p []).getD a 0 ≠ 0) (h : UF n L a) : UF n (restTo L p a L.length) (a + 1) := by
  intro q h1 h2
  obtain ⟨c, hc⟩ := SpanL.rest (p := p) (a := a) hL (h q (by omega) h2)
  have hz := span_zero (a := a) (fun x hx => by
    obtain ⟨k, k1, k2, rfl⟩ := restTo_mem.1 hx
    exact lessR_zero (by rw [hL _ (getD_mem k1)]; exact ha) hp2) hc ha
  have h0 : unit q a = 0 := by rw [unit, if_neg (by omega)]
  simp only [h0] at hz
  rw [UInt8.zero_xor] at hz
  have hc0 : c = 0 := Classical.byContradiction fun hne => mul_ne_zero hne hp2 hz
  subst hc0
  refine hc.congr fun i _ => ?_
  rw [zero_mul, UInt8.xor_zero]
theorem UF_all {n : Nat} {L : List (List UInt8)} : UF n L 0 ↔ ∀ v, SpanL n L v := by
  constructor
  · intro h v
    refine (SpanL.sum v (fun j => unit j) n fun j hj => h j (Nat.zero_le _) hj).congr fun i hi => ?_
    rw [sm_one (p := i) _ hi fun j _ hne => by rw [unit, if_neg (Ne.symm hne), mul_zero], unit, if_pos rfl, mul_one]
  · intro h q _ _
    exact h _
theorem rank_full {n : Nat} {L : List (List UInt8)} (hL : ∀ r ∈ L, r.length = n) : ∀ a, a ≤ n → (rankTo L a).2 = a → (UF n L 0 ↔ UF n (rankTo L a).1 a)
  | 0, _, _ => Iff.rfl
  | a + 1, ha, hr => by
    have hle := rankTo_le L a
    have hz := rankTo_zero hL a (by omega)
    cases h : pivTo (rankTo L a).1 a (rankTo L a).1.length with
    | none =>
      rw [rankTo_no h] at hr
      omega
    | some p =>
      rw [rankTo_yes h] at hr ⊢
      have ih := rank_full hL a (by omega) (by simpa using hr)
      obtain ⟨p1, p2⟩ := pivTo_spec h
      rw [ih]
      exact ⟨fun h2 => UF_next (fun r hr => (hz r hr).1) (by omega) p2 h2, fun h2 => UF_back hz (by omega) p1 p2 h2⟩
theorem rank_of {n : Nat} {L : List (List UInt8)} (hL : ∀ r ∈ L, r.length = n) (hU : UF n L 0) : ∀ a, a ≤ n → (rankTo L a).2 = a
  | 0, _ => rfl
  | a + 1, ha => by
    have ih := rank_of hL hU a (by omega)
    have hz := rankTo_zero hL a (by omega)
    have h2 := (rank_full hL a (by omega) ih).1 hU
    cases h : pivTo (rankTo L a).1 a (rankTo L a).1.length with
    | none =>
      exfalso
      refine UF_none (fun x hx => ?_) (show a < n by omega) h2
      obtain ⟨k, hk, rfl⟩ := List.getElem_of_mem hx
      have := pivTo_none h k hk
      rw [List.getD_eq_getElem?_getD (l := (rankTo L a).1), List.getElem?_eq_getElem hk] at this
      exact this
    | some p =>
      rw [rankTo_yes h]
      show _ + 1 = _
      rw [ih]
/-- THE RANK IS THE NUMBER OF COLUMNS EXACTLY IF THE ROWS SPAN ALL. -/
theorem rank_iff {n : Nat} {L : List (List UInt8)} (hL : ∀ r ∈ L, r.length = n) : rankR L n = n ↔ (stairs n L).length = n := by
  rw [stairs_iff hL, ← UF_all]
  constructor
  · intro h
    rw [rank_full hL n (Nat.le_refl _) h]
    intro q h1 h2
    omega
  · intro h
    exact rank_of hL h n (Nat.le_refl _)
attribute [irreducible] rankTo restTo pivTo lessR
end Cd

/- AGREE in plain terms: rows with bytes have a common solution. No program in sight. -/
namespace Lo
open Gf Cd
/-- A row and its bytes. -/
abbrev Row := List UInt8 × List UInt8
def lessP (p r : Row) (a : Nat) : Row := (lessR r.1 p.1 a, sum r.2 (scale (mul (r.1.getD a 0) (inv (p.1.getD a 0))) p.2))
def zeroL (s : List UInt8) : Bool := s.all (· == 0)
def agreeF : Nat → List Row → Bool
  | 0, _ => true
  | _ + 1, [] => true
  | n + 1, p :: l => if firstNZ p.1 = p.1.length then zeroL p.2 && agreeF n l else agreeF n (l.map fun r => lessP p r (firstNZ p.1))
def agree (l : List Row) : Bool := agreeF l.length l
theorem zeroL_iff {s : List UInt8} : zeroL s = true ↔ ∀ x, s.getD x 0 = 0 := by
  unfold zeroL
  rw [List.all_eq_true]
  constructor
  · intro h x
    rcases Nat.lt_or_ge x s.length with hx | hx
    · rw [List.getD_eq_getElem?_getD, List.getElem?_eq_getElem hx]
      exact eq_of_beq (h _ (List.getElem_mem hx))
    · exact getD_out hx
  · intro h x hx
    obtain ⟨i, hi, rfl⟩ := List.getElem_of_mem hx
    have := h i
    rw [List.getD_eq_getElem?_getD, List.getElem?_eq_getElem hi] at this
    exact beq_iff_eq.mpr this
theorem xor_back (a b : UInt8) : (a ^^^ b) ^^^ b = a := by rw [UInt8.xor_assoc, UInt8.xor_self, UInt8.xor_zero]
theorem ext_len {s t : List UInt8} (h : s.length = t.length) (hg : ∀ x, x < s.length → s.getD x 0 = t.getD x 0) : s = t := by
  refine List.ext_getElem h fun i h1 h2 => ?_
  have := hg i h1
  rwa [List.getD_eq_getElem?_getD, List.getElem?_eq_getElem h1, List.getD_eq_getElem?_getD, List.getElem?_eq_getElem h2] at this
/-- A row of zeros fits if its bytes are zeros. -/
theorem fits_zero {d L : Nat} {D : Nat → Nat → UInt8} {p : Row} (h1 : p.1.length = d) (h2 : p.2.length = L) (hz : firstNZ p.1 = p.1.length) : Fits d L D p.1 p.2 ↔ zeroL p.2 = true := by
  have h0 : ∀ j, j < d → p.1.getD j 0 = 0 := fun j hj => firstNZ_before p.1 j (by omega)
  have hs : ∀ x, sm d (fun i => mul (p.1.getD i 0) (D i x)) = 0 := fun x => sm_zero fun j hj => by rw [h0 j hj, zero_mul]
  rw [zeroL_iff]
  constructor
  · intro h x
    rcases Nat.lt_or_ge x L with hx | hx
    · rw [h.2 x hx, hs]
    · exact getD_out (by omega)
  · exact fun h => ⟨h2, fun x _ => by rw [h x, hs]⟩
/-- The data that fit a row besides, at one place. -/
def turn (d a : Nat) (p : Row) (D : Nat → Nat → UInt8) : Nat → Nat → UInt8 := fun i x =>
  if i = a then mul (inv (p.1.getD a 0)) (p.2.getD x 0 ^^^ sm d fun i => if i = a then 0 else mul (p.1.getD i 0) (D i x)) else D i x
theorem turn_fits {d L a : Nat} {p : Row} (D : Nat → Nat → UInt8) (ha : a < d) (hp : p.1.getD a 0 ≠ 0) (h2 : p.2.length = L) : Fits d L (turn d a p D) p.1 p.2 := by
  refine ⟨h2, fun x hx => ?_⟩
  have e : sm d (fun i => mul (p.1.getD i 0) (turn d a p D i x)) = sm d (fun i => (if i = a then mul (p.1.getD a 0) (turn d a p D a x) else 0) ^^^ (if i = a then 0 else mul (p.1.getD i 0) (D i x))) := by
    refine sm_congr fun i hi => ?_
    by_cases h : i = a
    · rw [if_pos h, if_pos h, h, UInt8.xor_zero]
    · rw [if_neg h, if_neg h, UInt8.zero_xor]
      unfold turn
      rw [if_neg h]
  rw [e, sm_add, sm_one (p := a) _ ha (fun j _ hj => if_neg hj), if_pos rfl]
  unfold turn
  rw [if_pos rfl, ← mul_assoc, mul_inv hp, one_mul]
  exact (xor_back _ _).symm
theorem turn_same {d L a : Nat} {p : Row} {D : Nat → Nat → UInt8} {r q : List UInt8} (h : Fits d L D r q) (hz : r.getD a 0 = 0) : Fits d L (turn d a p D) r q :=
  ⟨h.1, fun x hx => by
    rw [h.2 x hx]
    refine sm_congr fun i hi => ?_
    by_cases e : i = a
    · rw [e, hz, zero_mul, zero_mul]
    · unfold turn
      rw [if_neg e]⟩
theorem lessP_fits {d L a : Nat} {p r : Row} {D : Nat → Nat → UInt8} (hr1 : r.1.length = d) (hp : Fits d L D p.1 p.2) (h : Fits d L D r.1 r.2) : Fits d L D (lessP p r a).1 (lessP p r a).2 :=
  h.plus hp _ fun i hi => lessR_get (by omega)
theorem lessP_back {d L a : Nat} {p r : Row} {D : Nat → Nat → UInt8} (hr1 : r.1.length = d) (hr2 : r.2.length = L) (hp : Fits d L D p.1 p.2) (h : Fits d L D (lessP p r a).1 (lessP p r a).2) : Fits d L D r.1 r.2 := by
  have h1 := h.plus hp (mul (r.1.getD a 0) (inv (p.1.getD a 0))) (t := r.1) fun i hi => by
    show r.1.getD i 0 = (lessR r.1 p.1 a).getD i 0 ^^^ _
    rw [lessR_get (by omega), xor_back]
  have e : sum (lessP p r a).2 (scale (mul (r.1.getD a 0) (inv (p.1.getD a 0))) p.2) = r.2 := by
    have hl : (sum r.2 (scale (mul (r.1.getD a 0) (inv (p.1.getD a 0))) p.2)).length = L := by rw [sum_len, scale_len, hr2, hp.1]; simp
    refine ext_len (by rw [sum_len]; show max (sum r.2 _).length _ = _; rw [hl, scale_len, hp.1, hr2]; simp) fun x hx => ?_
    rw [sum_get]
    show (sum r.2 _).getD x 0 ^^^ _ = _
    rw [sum_get, xor_back]
  rwa [e] at h1
theorem agreeF_iff {d L : Nat} : ∀ (n : Nat) (l : List Row), l.length ≤ n → (∀ r ∈ l, r.1.length = d ∧ r.2.length = L) → (agreeF n l = true ↔ ∃ D, ∀ r ∈ l, Fits d L D r.1 r.2)
  | 0, l, hn, _ => by
    have : l = [] := List.eq_nil_of_length_eq_zero (by omega)
    subst this
    exact ⟨fun _ => ⟨fun _ _ => 0, fun r hr => by cases hr⟩, fun _ => rfl⟩
  | n + 1, [], _, _ => ⟨fun _ => ⟨fun _ _ => 0, fun r hr => by cases hr⟩, fun _ => rfl⟩
  | n + 1, p :: l, hn, hl => by
    have hp := hl p List.mem_cons_self
    have hl2 : ∀ r ∈ l, r.1.length = d ∧ r.2.length = L := fun r hr => hl r (List.mem_cons_of_mem _ hr)
    have hln : l.length ≤ n := by simpa using hn
    rw [agreeF]
    by_cases hz : firstNZ p.1 = p.1.length
    · rw [if_pos hz, Bool.and_eq_true, agreeF_iff n l hln hl2]
      constructor
      · rintro ⟨h0, D, hD⟩
        refine ⟨D, fun r hr => ?_⟩
        rcases List.mem_cons.mp hr with rfl | hr
        · exact (fits_zero hp.1 hp.2 hz).mpr h0
        · exact hD r hr
      · rintro ⟨D, hD⟩
        exact ⟨(fits_zero hp.1 hp.2 hz).mp (hD p List.mem_cons_self), D, fun r hr => hD r (List.mem_cons_of_mem _ hr)⟩
    · rw [if_neg hz]
      have ha : firstNZ p.1 < p.1.length := by have := firstNZ_le p.1; omega
      have hpa := firstNZ_at p.1 ha
      have hl3 : ∀ r ∈ l.map (fun r => lessP p r (firstNZ p.1)), r.1.length = d ∧ r.2.length = L := fun r hr => by
        obtain ⟨r0, h0, rfl⟩ := List.mem_map.mp hr
        refine ⟨by show (lessR _ _ _).length = d; rw [lessR_len]; exact (hl2 r0 h0).1, ?_⟩
        show (sum _ _).length = L
        rw [sum_len, scale_len, (hl2 r0 h0).2, hp.2]; simp
      rw [agreeF_iff n _ (by rw [List.length_map]; exact hln) hl3]
      constructor
      · rintro ⟨D, hD⟩
        refine ⟨turn d (firstNZ p.1) p D, fun r hr => ?_⟩
        have hpf : Fits d L (turn d (firstNZ p.1) p D) p.1 p.2 := turn_fits D (by omega) hpa hp.2
        rcases List.mem_cons.mp hr with rfl | hr
        · exact hpf
        · have h1 := hD _ (List.mem_map.mpr ⟨r, hr, rfl⟩)
          have h2 := turn_same (p := p) (a := firstNZ p.1) h1 (lessR_zero (by rw [(hl2 r hr).1]; omega) hpa)
          exact lessP_back (hl2 r hr).1 (hl2 r hr).2 hpf h2
      · rintro ⟨D, hD⟩
        refine ⟨D, fun r hr => ?_⟩
        obtain ⟨r0, h0, rfl⟩ := List.mem_map.mp hr
        exact lessP_fits (hl2 r0 h0).1 (hD p List.mem_cons_self) (hD r0 (List.mem_cons_of_mem _ h0))
theorem agree_iff {d L : Nat} {l : List Row} (hl : ∀ r ∈ l, r.1.length = d ∧ r.2.length = L) : agree l = true ↔ ∃ D, ∀ r ∈ l, Fits d L D r.1 r.2 := agreeF_iff _ l (Nat.le_refl _) hl
end Lo

/- FIT of the specification in plain terms: the rank does not grow exactly if the rows have a common solution. No program in sight. -/
namespace Lo
open Gf Cd
def glue (r : Row) : List UInt8 := r.1 ++ r.2
def rowN (l : List Row) (k : Nat) : Row := l.getD k ([], [])
theorem rowN_mem {l : List Row} {k : Nat} (h : k < l.length) : rowN l k ∈ l := getD_mem h
theorem fst_getD {l : List Row} {k : Nat} (h : k < l.length) : (l.map Prod.fst).getD k [] = (rowN l k).1 := by
  unfold rowN
  rw [List.getD_eq_getElem?_getD, List.getElem?_map, List.getD_eq_getElem?_getD, List.getElem?_eq_getElem h]; rfl
theorem glue_getD {l : List Row} {k : Nat} (h : k < l.length) : (l.map glue).getD k [] = glue (rowN l k) := by
  unfold rowN
  rw [List.getD_eq_getElem?_getD, List.getElem?_map, List.getD_eq_getElem?_getD, List.getElem?_eq_getElem h]; rfl
/-- All rows have d numbers and L bytes. -/
def Wide (d L : Nat) (l : List Row) : Prop := ∀ r ∈ l, r.1.length = d ∧ r.2.length = L
theorem glue_lo {d a : Nat} {r : Row} (h : r.1.length = d) (ha : a < d) : (glue r).getD a 0 = r.1.getD a 0 := by
  unfold glue
  rw [List.getD_eq_getElem?_getD, List.getElem?_append_left (by omega), ← List.getD_eq_getElem?_getD]
theorem glue_hi {d x : Nat} {r : Row} (h : r.1.length = d) : (glue r).getD (d + x) 0 = r.2.getD x 0 := by
  unfold glue
  rw [List.getD_eq_getElem?_getD, List.getElem?_append_right (by omega), ← List.getD_eq_getElem?_getD]
  congr 1
  omega
theorem piv_glue {d L a : Nat} {l : List Row} (hl : Wide d L l) (ha : a < d) : ∀ k, k ≤ l.length → pivTo (l.map glue) a k = pivTo (l.map Prod.fst) a k
  | 0, _ => by rw [pivTo, pivTo]
  | k + 1, hk => by
    have ih := piv_glue hl ha k (by omega)
    rw [pivTo, pivTo, ih, fst_getD (by omega), glue_getD (by omega), glue_lo (hl _ (rowN_mem (by omega))).1 ha]
/-- The rows that are left behind a pivot. -/
def restRow (l : List Row) (p a : Nat) : Nat → List Row
  | 0 => []
  | m + 1 => if m = p then restRow l p a m else restRow l p a m ++ [lessP (rowN l p) (rowN l m) a]
theorem less_fst (p r : Row) (a : Nat) : (lessP p r a).1 = lessR r.1 p.1 a := rfl
theorem less_glue {d L a : Nat} {p r : Row} (hp : p.1.length = d ∧ p.2.length = L) (hr : r.1.length = d ∧ r.2.length = L) (ha : a < d) : glue (lessP p r a) = lessR (glue r) (glue p) a := by
  have h1 : (glue (lessP p r a)).length = d + L := by
    unfold glue lessP
    rw [List.length_append, lessR_len, hr.1]
    show d + (sum _ _).length = _
    rw [sum_len, scale_len, hr.2, hp.2]; simp
  have h2 : (glue r).length = d + L := by unfold glue; rw [List.length_append, hr.1, hr.2]
  refine ext_len (by rw [h1, lessR_len, h2]) fun k hk => ?_
  rw [lessR_get (by omega), glue_lo hr.1 ha, glue_lo hp.1 ha]
  have hl1 : (lessP p r a).1.length = d := by rw [less_fst, lessR_len, hr.1]
  rcases Nat.lt_or_ge k d with hkd | hkd
  · rw [glue_lo hl1 hkd, glue_lo hr.1 hkd, glue_lo hp.1 hkd, less_fst, lessR_get (by omega)]
  · obtain ⟨x, rfl⟩ : ∃ x, k = d + x := ⟨k - d, by omega⟩
    rw [glue_hi hl1, glue_hi hr.1, glue_hi hp.1]
    show (sum _ _).getD x 0 = _
    rw [sum_get, scale_get _ _ (by omega)]
theorem rest_fst {l : List Row} {p a : Nat} (hp : p < l.length) : ∀ m, m ≤ l.length → restTo (l.map Prod.fst) p a m = (restRow l p a m).map Prod.fst
  | 0, _ => by rw [restTo, restRow]; rfl
  | m + 1, hm => by
    have ih := rest_fst (a := a) hp m (by omega)
    rw [restRow]
    by_cases h : m = p
    · subst h; rw [restTo_skip, ih, if_pos rfl]
    · rw [restTo_next h, ih, if_neg h, List.map_append, fst_getD (by omega), fst_getD hp]; rfl
theorem rest_glue {d L : Nat} {l : List Row} {p a : Nat} (hl : Wide d L l) (ha : a < d) (hp : p < l.length) : ∀ m, m ≤ l.length → restTo (l.map glue) p a m = (restRow l p a m).map glue
  | 0, _ => by rw [restTo, restRow]; rfl
  | m + 1, hm => by
    have ih := rest_glue hl ha hp m (by omega)
    rw [restRow]
    by_cases h : m = p
    · subst h; rw [restTo_skip, ih, if_pos rfl]
    · rw [restTo_next h, ih, if_neg h, List.map_append, glue_getD (by omega), glue_getD hp, List.map_cons, List.map_nil, less_glue (hl _ (rowN_mem hp)) (hl _ (rowN_mem (by omega))) ha]
theorem mem_rest {l : List Row} {p a : Nat} {r : Row} : ∀ {m : Nat}, r ∈ restRow l p a m ↔ ∃ k, k < m ∧ k ≠ p ∧ r = lessP (rowN l p) (rowN l k) a
  | 0 => by simp [restRow]
  | m + 1 => by
    rw [restRow]
    by_cases h : m = p
    · rw [if_pos h, mem_rest]
      constructor
      · rintro ⟨k, h1, h2, h3⟩; exact ⟨k, by omega, h2, h3⟩
      · rintro ⟨k, h1, h2, h3⟩; exact ⟨k, by omega, h2, h3⟩
    · rw [if_neg h, List.mem_append, mem_rest, List.mem_singleton]
      constructor
      · rintro (⟨k, h1, h2, h3⟩ | h3)
        · exact ⟨k, by omega, h2, h3⟩
        · exact ⟨m, by omega, h, h3⟩
      · rintro ⟨k, h1, h2, h3⟩
        rcases Nat.lt_succ_iff_lt_or_eq.mp h1 with h4 | h4
        · exact Or.inl ⟨k, h4, h2, h3⟩
        · rw [h4] at h3; exact Or.inr h3
theorem rest_wide {d L p a : Nat} {l : List Row} (hl : Wide d L l) (hp : p < l.length) : Wide d L (restRow l p a l.length) := fun r hr => by
  obtain ⟨k, h1, _, rfl⟩ := mem_rest.mp hr
  refine ⟨by rw [less_fst, lessR_len]; exact (hl _ (rowN_mem h1)).1, ?_⟩
  show (sum _ _).length = L
  rw [sum_len, scale_len, (hl _ (rowN_mem h1)).2, (hl _ (rowN_mem hp)).2]; simp
/-- Rows have a common solution. -/
def Con (d L : Nat) (l : List Row) : Prop := ∃ D, ∀ r ∈ l, Fits d L D r.1 r.2
theorem rest_con {d L p a : Nat} {l : List Row} (hl : Wide d L l) (ha : a < d) (hp : p < l.length) (hpa : (rowN l p).1.getD a 0 ≠ 0) : Con d L l ↔ Con d L (restRow l p a l.length) := by
  have hpw := hl _ (rowN_mem hp)
  constructor
  · rintro ⟨D, hD⟩
    refine ⟨D, fun r hr => ?_⟩
    obtain ⟨k, h1, _, rfl⟩ := mem_rest.mp hr
    exact lessP_fits (hl _ (rowN_mem h1)).1 (hD _ (rowN_mem hp)) (hD _ (rowN_mem h1))
  · rintro ⟨D, hD⟩
    refine ⟨turn d a (rowN l p) D, fun r hr => ?_⟩
    have hpf : Fits d L (turn d a (rowN l p) D) (rowN l p).1 (rowN l p).2 := turn_fits D ha hpa hpw.2
    obtain ⟨k, hk, rfl⟩ := List.getElem_of_mem hr
    have e : l[k] = rowN l k := by unfold rowN; rw [List.getD_eq_getElem?_getD, List.getElem?_eq_getElem hk]; rfl
    rw [e]
    by_cases hkp : k = p
    · rw [hkp]; exact hpf
    · have hkw := hl _ (rowN_mem hk)
      have h1 := hD _ (mem_rest.mpr ⟨k, hk, hkp, rfl⟩)
      exact lessP_back hkw.1 hkw.2 hpf (turn_same (p := rowN l p) (a := a) h1 (lessR_zero (by rw [hkw.1]; exact ha) hpa))
/-- Behind the first a columns both ranks are the same, and the rows that are left are those of one list. -/
theorem rank_pair {d L : Nat} {l : List Row} (hl : Wide d L l) : ∀ a, a ≤ d → ∃ l' : List Row, Wide d L l' ∧ (rankTo (l.map Prod.fst) a).1 = l'.map Prod.fst ∧ (rankTo (l.map glue) a).1 = l'.map glue ∧ (rankTo (l.map glue) a).2 = (rankTo (l.map Prod.fst) a).2 ∧ (Con d L l ↔ Con d L l')
  | 0, _ => ⟨l, hl, by rw [rankTo], by rw [rankTo], by rw [rankTo, rankTo], Iff.rfl⟩
  | a + 1, ha => by
    obtain ⟨l', h1, h2, h3, h4, h5⟩ := rank_pair hl a (by omega)
    have hp := piv_glue h1 (show a < d by omega) l'.length (Nat.le_refl _)
    cases h : pivTo (l'.map Prod.fst) a l'.length with
    | none =>
      refine ⟨l', h1, ?_, ?_, ?_, h5⟩
      · rw [rankTo_no (by rw [h2, List.length_map]; exact h)]; exact h2
      · rw [rankTo_no (by rw [h3, List.length_map, hp]; exact h)]; exact h3
      · rw [rankTo_no (by rw [h3, List.length_map, hp]; exact h), rankTo_no (by rw [h2, List.length_map]; exact h)]; exact h4
    | some p =>
      obtain ⟨hpl, hpa⟩ := pivTo_spec h
      rw [fst_getD hpl] at hpa
      refine ⟨restRow l' p a l'.length, rest_wide h1 hpl, ?_, ?_, ?_, h5.trans (rest_con h1 (by omega) hpl hpa)⟩
      · rw [rankTo_yes (by rw [h2, List.length_map]; exact h), h2, List.length_map]
        exact rest_fst hpl _ (Nat.le_refl _)
      · rw [rankTo_yes (by rw [h3, List.length_map, hp]; exact h), h3, List.length_map]
        exact rest_glue h1 (by omega) hpl _ (Nat.le_refl _)
      · rw [rankTo_yes (by rw [h3, List.length_map, hp]; exact h), rankTo_yes (by rw [h2, List.length_map]; exact h)]
        show _ + 1 = _ + 1
        rw [h4]
theorem rank_up (l : List (List UInt8)) (a : Nat) : ∀ k, (rankTo l a).2 ≤ (rankTo l (a + k)).2
  | 0 => Nat.le_refl _
  | k + 1 => by
    have ih := rank_up l a k
    rw [← Nat.add_assoc]
    cases h : pivTo (rankTo l (a + k)).1 (a + k) (rankTo l (a + k)).1.length with
    | none => rw [rankTo_no h]; exact ih
    | some p => rw [rankTo_yes h]; show _ ≤ _ + 1; omega
theorem piv_none {l : List (List UInt8)} {a : Nat} : ∀ {k : Nat}, (∀ j, j < k → (l.getD j []).getD a 0 = 0) → pivTo l a k = none
  | 0, _ => by rw [pivTo]
  | k + 1, h => pivTo_no (piv_none fun j hj => h j (by omega)) (h k (by omega))
/-- The rank stays behind a column exactly if the rows that are left are 0 there. -/
theorem rank_stays (l : List (List UInt8)) (a : Nat) : ∀ k, (rankTo l (a + k)).2 = (rankTo l a).2 ↔ ∀ r ∈ (rankTo l a).1, ∀ x, x < k → r.getD (a + x) 0 = 0 := by
  have key : ∀ k, (∀ r ∈ (rankTo l a).1, ∀ x, x < k → r.getD (a + x) 0 = 0) → rankTo l (a + k) = rankTo l a := by
    intro k
    induction k with
    | zero => intro _; rfl
    | succ k ih =>
      intro h
      have h1 := ih fun r hr x hx => h r hr x (by omega)
      rw [← Nat.add_assoc, rankTo_no, h1]
      rw [h1]
      exact piv_none fun j hj => h _ (getD_mem hj) k (by omega)
  intro k
  constructor
  · induction k with
    | zero => intro _ r _ x hx; omega
    | succ k ih =>
      intro h r hr x hx
      have hup := rank_up l a k
      have hstep := rank_up l (a + k) 1
      have h' : (rankTo l (a + k + 1)).2 = (rankTo l a).2 := h
      have h1 : (rankTo l (a + k)).2 = (rankTo l a).2 := by omega
      have hz := ih h1
      by_cases hxk : x = k
      · subst hxk
        have he := key x hz
        cases hp : pivTo (rankTo l (a + x)).1 (a + x) (rankTo l (a + x)).1.length with
        | none =>
          rw [he] at hp
          obtain ⟨i, hi, rfl⟩ := List.getElem_of_mem hr
          have := pivTo_none hp i hi
          rwa [List.getD_eq_getElem?_getD (l := (rankTo l a).1), List.getElem?_eq_getElem hi] at this
        | some p =>
          rw [rankTo_yes hp] at h'
          have h2 : (rankTo l (a + x)).2 + 1 = (rankTo l a).2 := h'
          omega
      · exact hz r hr x (by omega)
  · intro h; rw [key k h]
theorem fit_iff {d L : Nat} {l : List Row} (hl : Wide d L l) : rankR (l.map Prod.fst) d = rankR (l.map glue) (d + L) ↔ Con d L l := by
  obtain ⟨l', h1, h2, h3, h4, h5⟩ := rank_pair hl d (Nat.le_refl _)
  unfold rankR
  rw [← h4, h5, eq_comm, rank_stays, h3]
  have hz : ∀ r ∈ l', ∀ j, j < d → r.1.getD j 0 = 0 := fun r hr => by
    have hw : ∀ q ∈ l.map Prod.fst, q.length = d := fun q hq => by
      obtain ⟨r0, h0, rfl⟩ := List.mem_map.mp hq
      exact (hl r0 h0).1
    have := rankTo_zero hw d (Nat.le_refl _) r.1 (by rw [h2]; exact List.mem_map.mpr ⟨r, hr, rfl⟩)
    exact this.2
  have hf : ∀ r ∈ l', firstNZ r.1 = r.1.length := fun r hr => by
    have h6 := firstNZ_le r.1
    rcases Nat.lt_or_ge (firstNZ r.1) r.1.length with h7 | h7
    · exact absurd (hz r hr _ (by rw [(h1 r hr).1] at h7; exact h7)) (firstNZ_at _ h7)
    · omega
  constructor
  · intro h
    refine ⟨fun _ _ => 0, fun r hr => (fits_zero (h1 r hr).1 (h1 r hr).2 (hf r hr)).mpr (zeroL_iff.mpr fun x => ?_)⟩
    rcases Nat.lt_or_ge x L with hx | hx
    · have := h _ (List.mem_map.mpr ⟨r, hr, rfl⟩) x hx
      rwa [glue_hi (h1 r hr).1] at this
    · exact getD_out (by rw [(h1 r hr).2]; exact hx)
  · rintro ⟨D, hD⟩ q hq x hx
    obtain ⟨r, hr, rfl⟩ := List.mem_map.mp hq
    rw [glue_hi (h1 r hr).1]
    exact zeroL_iff.mp ((fits_zero (h1 r hr).1 (h1 r hr).2 (hf r hr)).mp (hD r hr)) x
theorem agree_fit {d L : Nat} {l : List Row} (hl : Wide d L l) : agree l = decide (rankR (l.map Prod.fst) d = rankR (l.map glue) (d + L)) := by
  rw [Bool.eq_iff_iff, decide_eq_true_iff, fit_iff hl, agree_iff hl]
  exact Iff.rfl
end Lo

/- CODES, in plain terms: what decoding says of pieces of which one was turned. -/
namespace Cd
open Gf Go.Proofs.YtggfkpalkdkbdaaDoor
variable {d gl : Int} {gs : List (List Int)}
theorem chunk_len (h : check d gs gl = 0) {n m : Nat} (hc : can d gl gs (m : Int) = true) {pieces : List (List UInt8)} (hp : ∀ k, k < (rowsOf d gs gl).length → bitAt m k = 1 → (pieces.getD k []).length = sizeN d.toNat n) : (chunkOf d gl gs n m pieces).length = n := by
  have hk := check_ok h
  have hl : (solved d gl gs m pieces).flatten.length = d.toNat * sizeN d.toNat n := by
    have h1 := solved_len d gl gs m pieces
    have h2 : ∀ p ∈ solved d gl gs m pieces, p.length = sizeN d.toNat n := fun p hp' => by
      obtain ⟨i, hi, rfl⟩ := List.getElem_of_mem hp'
      have := solved_even h hc hp (i := i) (by omega)
      rw [List.getD_eq_getElem?_getD, List.getElem?_eq_getElem hi] at this
      exact this
    have h3 : ∀ (l : List (List UInt8)) (c : Nat), (∀ p ∈ l, p.length = c) → l.flatten.length = l.length * c := by
      intro l c
      induction l with
      | nil => intro _; simp
      | cons x r ih =>
        intro hx
        rw [List.flatten_cons, List.length_append, ih fun p hp => hx p (by simp [hp]), hx x (by simp), List.length_cons, Nat.succ_mul]
        omega
    rw [h3 _ _ h2, h1]
  have := size_ge (d := d.toNat) (by omega) n
  unfold chunkOf
  rw [List.length_take]
  omega
end Cd

/- LOCATE AND CODES in plain terms: decoding finds; what fits a chunk. No program in sight. -/
namespace Lo
open Gf Cd
variable {d gl : Int} {gs : List (List Int)} {n m : Nat} {pieces : List (List UInt8)}
/-- What decoding finds. -/
def decO (d gl : Int) (gs : List (List Int)) (n : Nat) (pieces : List (List UInt8)) (t : Nat) : Option (List UInt8) := if decE d gl gs (n : Int) (t : Int) pieces = 0 then some (decS d gl gs (n : Int) (t : Int) pieces) else none
/-- A piece is that of a chunk. -/
def okO (d gl : Int) (gs : List (List Int)) (n : Nat) (pieces : List (List UInt8)) (s : List UInt8) (k : Nat) : Bool := decide (s.length = n) && (encode d gl gs s).getD k [] == pieces.getD k []
theorem decE_zero {n : Int} {m : Nat} (h : decE d gl gs n (m : Int) pieces = 0) : check d gs gl = 0 ∧ badArgs d gl gs n (m : Int) pieces = false ∧ badLen (sizeN d.toNat n.toNat) m pieces = false ∧ can d gl gs (m : Int) = true ∧ badOne m (encode d gl gs (chunkOf d gl gs n.toNat m pieces)) pieces = false := by
  by_cases h0 : check d gs gl = 0
  · cases h1 : badArgs d gl gs n (m : Int) pieces with
    | true => rw [decE_arg h0 h1] at h; cases h
    | false =>
      cases h2 : badLen (sizeN d.toNat n.toNat) m pieces with
      | true => rw [decE_len h0 h1 h2] at h; cases h
      | false =>
        cases h3 : can d gl gs (m : Int) with
        | false => rw [decE_lost h0 h1 h2 h3] at h; cases h
        | true =>
          cases h4 : badOne m (encode d gl gs (chunkOf d gl gs n.toNat m pieces)) pieces with
          | true => rw [decE_bad h0 h1 h2 h3 h4] at h; cases h
          | false => exact ⟨h0, rfl, rfl, rfl, rfl⟩
  · rw [decE_no h0] at h; exact absurd h h0
theorem bit_in {t N k : Nat} (ht : t < 2 ^ N) (hk : bitAt t k = 1) : k < N := by
  rcases Nat.lt_or_ge k N with h | h
  · exact h
  · rw [bit_above ht h] at hk; cases hk
theorem decodes (h : check d gs gl = 0) (hm : m < 2 ^ (rowsOf d gs gl).length) (hpl : pieces.length = (rowsOf d gs gl).length) (hn : n ≤ 4096) (hsz : ∀ k, k < pieces.length → bitAt m k = 1 → (pieces.getD k []).length = sizeN d.toNat n) :
    Decodes (fun t => can d gl gs (t : Int)) (decO d gl gs n pieces) (okO d gl gs n pieces) m := by
  have hfind : ∀ t s, Sub t m → decO d gl gs n pieces t = some s → can d gl gs (t : Int) = true ∧ s.length = n ∧ ∀ k, bitAt t k = 1 → (encode d gl gs s).getD k [] = pieces.getD k [] := fun t s ht he => by
    unfold decO at he
    split at he
    · next h0 =>
      have hs := Option.some.inj he
      obtain ⟨_, a2, a3, a4, a5⟩ := decE_zero h0
      rw [decS_ok h0] at hs
      rw [Int.toNat_natCast] at hs a3 a5
      rw [Int.toNat_natCast] at hs
      rw [hs] at a5
      have htl := Nat.lt_of_le_of_lt (sub_le ht) hm
      refine ⟨a4, ?_, fun k hk => ?_⟩
      · rw [← hs]
        exact chunk_len h a4 fun k hk hb => hsz k (by omega) (ht k hb)
      · have hkl := bit_in htl hk
        by_cases e : (encode d gl gs s).getD k [] = pieces.getD k []
        · exact e
        · have := badOne_iff.mpr ⟨k, by omega, hk, e⟩
          rw [a5] at this; cases this
    · cases he
  refine ⟨fun t s ht he => ?_, fun t t2 s ht ht2 he hc hk => ?_⟩
  · obtain ⟨a1, a2, a3⟩ := hfind t s ht he
    refine ⟨a1, fun k hk => ?_⟩
    unfold okO
    rw [decide_eq_true a2, a3 k hk]
    simp
  · obtain ⟨_, a2, _⟩ := hfind t2 s ht2 he
    have hp : ∀ k, k < (rowsOf d gs gl).length → bitAt t k = 1 → pieces.getD k [] = (encode d gl gs s).getD k [] := fun k _ hb => by
      have h1 := hk k hb
      unfold okO at h1
      rw [Bool.and_eq_true] at h1
      exact (eq_of_beq h1.2).symm
    have h2 := dec_enc h hc (pieces := pieces) (data := s) (by omega) hpl hp
    rw [a2] at h2
    unfold decO
    rw [if_pos h2.1, h2.2]
/-- The rows of a set, with their bytes. -/
def some_ (R pieces : List (List UInt8)) (m : Nat) : List Row := (els m R.length 0).map fun k => (R.getD k [], pieces.getD k [])
theorem some_wide (h : check d gs gl = 0) {L : Nat} (hsz : ∀ k, k < (rowsOf d gs gl).length → bitAt m k = 1 → (pieces.getD k []).length = L) : Wide d.toNat L (some_ (rowsOf d gs gl) pieces m) := fun r hr => by
  obtain ⟨k, hk, rfl⟩ := List.mem_map.mp hr
  obtain ⟨_, h1, h2⟩ := mem_els.mp hk
  exact ⟨rowsOf_at h h1, hsz k h1 h2⟩
end Lo

/- ROWS WITH BYTES in memory; THE WALK over some of package locate. -/
namespace Lo
open Cd
theorem els_snoc (m k : Nat) : els m (k + 1) 0 = els m k 0 ++ (if bitAt m k = 1 then [k] else []) := by
  unfold els
  rw [Nat.sub_zero, Nat.sub_zero, List.range'_concat, List.filter_append]
  congr 1
  by_cases h : bitAt m k = 1
  · rw [if_pos h]; simp [h]
  · rw [if_neg h]; simp [h]
theorem els_le (m k : Nat) : (els m k 0).length ≤ k := by
  unfold els
  exact Nat.le_trans (List.length_filter_le _ _) (by simp)
end Lo
namespace Go.Proofs.YtggfkpalkdkbdaaDoor
open Go.RowKit
/-- A row with its bytes, and the slice that bears its numbers. -/
abbrev LV := Lo.Row × Value
def lcells (l : List LV) : List Value := l.flatMap fun x => [x.2, sv x.1.2]
theorem lcells_snoc (l : List LV) (y : LV) : lcells (l ++ [y]) = lcells l ++ [y.2, sv y.1.2] := by simp [lcells]
theorem lcells_len (l : List LV) : (lcells l).length = l.length * 2 := by
  induction l with
  | nil => rfl
  | cons x l ih =>
    show ([x.2, sv x.1.2] ++ lcells l).length = _
    rw [List.length_append, ih, List.length_cons]
    simp; omega
theorem lcells_at : ∀ (l : List LV) (i : Nat) (x : LV), l[i]? = some x → (lcells l)[i * 2]? = some x.2 ∧ (lcells l)[i * 2 + 1]? = some (sv x.1.2)
  | [], i, x, h => by simp at h
  | y :: l, 0, x, h => by simp at h; subst h; exact ⟨rfl, rfl⟩
  | y :: l, i + 1, x, h => by
    have h1 := lcells_at l i x (by simpa using h)
    rw [show (i + 1) * 2 = i * 2 + 1 + 1 by omega]
    exact h1
/-- Rows with their bytes, read. -/
def RRo (w : World) (v : Value) (l : List Lo.Row) : Prop :=
  ∃ (A : Option Addr) (c : Nat), v = .slice A l.length c ∧ l.length ≤ 9223372036854775807 ∧ ∀ i r, l[i]? = some r → ∃ g F, A = some ⟨g, 0, none⟩ ∧ w.cell? ⟨g, i * 2, none⟩ = some F ∧ w.cell? ⟨g, i * 2 + 1, none⟩ = some (sv r.2) ∧ Rs RB w F r.1
theorem RRo.ext : Stable RRo := fun _ _ _ _ hx ⟨A, c, e, hl, h⟩ => ⟨A, c, e, hl, fun i r hi => by
  obtain ⟨ad, F, h1, h2, h3, h4⟩ := h i r hi
  exact ⟨ad, F, h1, hx.cell h2, hx.cell h3, Rs.ext RB.ext _ _ _ _ hx h4⟩⟩
theorem RRo.form {w : World} {v : Value} {l : List Lo.Row} (h : RRo w v l) : ∃ A c, v = .slice A l.length c ∧ l.length ≤ 9223372036854775807 := by
  obtain ⟨A, c, e, hl, _⟩ := h
  exact ⟨A, c, e, hl⟩
theorem RRo.nil (w : World) : RRo w (.slice none 0 0) [] := ⟨none, 0, rfl, by simp, fun i r h => by simp at h⟩
theorem RRo.at {w : World} {A : Option Addr} {n c : Nat} {l : List Lo.Row} (h : RRo w (.slice A n c) l) {i : Nat} (hi : i < l.length) : ∃ g F, A = some ⟨g, 0, none⟩ ∧ w.cell? ⟨g, i * 2, none⟩ = some F ∧ w.cell? ⟨g, i * 2 + 1, none⟩ = some (sv l[i].2) ∧ Rs RB w F l[i].1 := by
  obtain ⟨A', c', e, _, h⟩ := h
  injection e with e1 e2 e3
  subst e1
  exact h i _ (List.getElem?_eq_getElem hi)
/-- Rows that a call's own variable names; what they bear stood before. -/
structure LAt (w0 W : World) (A : Option Addr) (c : Nat) (xs : List LV) : Prop where
  owns : Owns w0 W [⟨.slice A xs.length c, 105, 2, xs.length, lcells xs⟩]
  ok : ∀ y ∈ xs, Rs RB w0 y.2 y.1.1
theorem LAt.next {w0 W W' : World} {A : Option Addr} {c : Nat} {xs : List LV} (h : LAt w0 W A c xs) (hx : Ext W W') : LAt w0 W' A c xs := ⟨h.owns.next hx, h.ok⟩
theorem LAt.rs {w0 W : World} {A : Option Addr} {c : Nat} {x : List LV} (h : LAt w0 W A c x) (hl : x.length ≤ 1000000) : RRo W (.slice A x.length c) (x.map (·.1)) := by
  have hr := h.owns.row 0 rfl
  refine ⟨A, c, by rw [List.length_map], by rw [List.length_map]; omega, fun i r hi => ?_⟩
  rw [List.getElem?_map] at hi
  obtain ⟨y, hy, rfl⟩ := Option.map_eq_some_iff.1 hi
  obtain ⟨c0, c1⟩ := lcells_at x i y hy
  have hil : i < x.length := (List.getElem?_eq_some_iff.1 hy).1
  rcases hr.2 with ⟨_, h0⟩ | ⟨g, cap, cur, hv, _⟩
  · omega
  · injection hv with e1 e2 e3
    subst e1
    have k0 := hr.cellAt (g := g) (i * 2) (by omega)
    have k1 := hr.cellAt (g := g) (i * 2 + 1) (by omega)
    exact ⟨g, y.2, rfl, k0.trans c0, k1.trans c1, Rs.ext RB.ext _ _ _ _ h.owns.ext (h.ok y (List.mem_of_getElem? hy))⟩
theorem info_lrow : (Tryd.prog.info? 105).map (fun i => (i.zero, i.size, i.bytes)) = some (some (.agg #[.slice none 0 0, .string ⟨#[]⟩]), 2, 40) := by kernel_rfl
set_option maxRecDepth 100000 in
/-- 'l = append(l, r)' of rows, the variable no box. -/
theorem wpl_append_lrow {w0 w : World} {A : Option Addr} {c : Nat} {x : List LV} {y : LV} {ops : Array Oper} {rest : List Oper} {o : Oper} {a : Act} {Q : Exit → Act → World → Prop} (hgd : o.guard = none) (s z : Operand)
    (ho : o.op = .call { callee := .builtin .append, args := #[s, z], argTypes := #[80, 80] })
    (h : LAt w0 w A c x) (hs : a.eval s = .slice A x.length c) {g0 : Nat} (hx : a.eval z = .slice (some ⟨g0, 0, none⟩) 1 1) (h0 : w.cell? ⟨g0, 0, none⟩ = some y.2) (h1 : w.cell? ⟨g0, 1, none⟩ = some (sv y.1.2))
    (hf : Rs RB w0 y.2 y.1.1) (hm : x.length < 1000000)
    (hK : ∀ g cap w', Hid (LAt w0 w' (some ⟨g, 0, none⟩) cap (x ++ [y])) → wpList Tryd.prog ops Q rest (a.put o.dst (.slice (some ⟨g, 0, none⟩) (x.length + 1) cap)) w') :
    wpList Tryd.prog ops Q (o :: rest) a w := by
  refine wpList_plain hgd fun K hK' => ?_
  obtain ⟨FA, fc, hFv, _⟩ := hf.form
  have hnews : ∀ j u, [y.2, sv y.1.2][j]? = some u → w.cell? ((⟨g0, 0, none⟩ : Addr).add j) = some u := fun j u hj => by
    match j, hj with
    | 0, hj => simp at hj; subst hj; exact h0
    | 1, hj => simp at hj; subst hj; exact h1
  have hone : ∀ u ∈ [y.2, sv y.1.2], u.oneCell' = true := fun u hu => by
    simp at hu
    rcases hu with rfl | rfl
    · rw [hFv]; rfl
    · rfl
  obtain ⟨i, hi0, hiz, hi1, hi2⟩ := info_parts info_lrow
  have hown := h.owns.row 0 rfl
  obtain ⟨g, cap, w', hr, r1, r2, r3, r4⟩ := run_append_lies (P := Tryd.prog) w 80 o.type w0.heap.size 105 i _ 2 40 Tryd.underlying80 hi0 hiz hi1 hi2 rfl (by decide) _ _ _ hown ⟨g0, 0, none⟩ 1 1 [y.2, sv y.1.2] rfl hnews hone (by decide) (by unfold maxLen; omega) (by omega) h.owns.ext.size _ rfl
  rw [← lcells_snoc] at r1
  have hx1 : Ext w0 w' := h.owns.ext.grown r2 (fun k hk => own_ge hown k hk)
  have hlen : (x ++ [y]).length = x.length + 1 := by simp
  have hO2 : Owns w0 w' [⟨.slice (some ⟨g, 0, none⟩) (x.length + 1) cap, 105, 2, x.length + 1, lcells (x ++ [y])⟩] :=
    h.owns.put 0 ⟨.slice (some ⟨g, 0, none⟩) (x.length + 1) cap, 105, 2, x.length + 1, lcells (x ++ [y])⟩ hx1 r1 (fun j r hj hrr g' hg' => by
      match j, hj, hrr with
      | j + 1, _, hrr => simp at hrr) (fun j r hj hrr => by
      match j, hj, hrr with
      | j + 1, _, hrr => simp at hrr)
  have hT : LAt w0 w' (some ⟨g, 0, none⟩) cap (x ++ [y]) := by
    refine ⟨by rw [hlen]; exact hO2, fun q hq => ?_⟩
    rcases List.mem_append.1 hq with hq | hq
    · exact h.ok q hq
    · rw [List.mem_singleton.1 hq]; exact hf
  unfold Oper.wp execOp
  simp only [ho, resolve, invoke, builtin, Sem.run_bind, Sem.run_pure, Result.andThen_ok, List.map_toArray, List.map_cons, List.map_nil, hs, hx, hr]
  exact hK' _ _ (hK g cap w' (Lib.hid hT))
set_option maxHeartbeats 8000000 in
set_option maxRecDepth 100000 in
theorem lSome_any (R pieces : List (List UInt8)) (M : Nat) (RA PA : Option Addr) (rn rc pl cp : Nat) (w : World) (hR : Rs (Rs RB) w (.slice RA rn rc) R) (hrn : R.length = rn) (hP : Rs RS w (.slice PA pl cp) pieces) (hpl : pieces.length = pl) (hle : rn ≤ pl) (hM : M < 16777216) (hn : rn ≤ 24) :
    Calls Tryd.prog 41 #[.slice RA rn rc, .slice PA pl cp, .int .i64 M] w fun e w' => ∃ v, e = .returned v ∧ RRo w' v (Lo.some_ R pieces M) ∧ (Lo.some_ R pieces M = [] → v = .slice none 0 0) ∧ Ext w w' := by
  have HR := Lib.hid (And.intro hR hrn)
  have HP := Lib.hid (And.intro hP hpl)
  clear hR hrn hP hpl
  have hL0 : LAt w w none 0 [] := ⟨Owns.start w (L := [⟨.slice none 0 0, 105, 2, 0, []⟩]) (by intro r hr; simp at hr; subst hr; exact ⟨rfl, rfl, rfl⟩), by simp⟩
  go_enter Tryd.func41, Tryd.ntmps41
  go_wp2_with fail
  go_loopw [7, 12] (fun vl vk wr => ∃ (k : Nat) (A : Option Addr) (c n : Nat) (xs : List LV), k ≤ rn ∧ vk = .int .i64 k ∧ vl = .slice A n c ∧ Hid ((xs = [] → A = none ∧ c = 0) ∧ LAt w wr A c xs ∧ xs.length = n ∧ xs.map (·.1) = (Lo.els M k 0).map fun j => (R.getD j [], pieces.getD j []))) (fun _ vk _ => rn - (intOf vk).toNat)
  case atStart => exact ⟨0, none, 0, 0, [], Nat.zero_le _, rfl, rfl, fun _ => ⟨rfl, rfl⟩, hL0, rfl, rfl⟩
  case round =>
    obtain ⟨k, A, c, n, xs, hk2, rfl, rfl, HI⟩ := hrel
    by_cases hlt : k < rn
    · obtain ⟨pd, u, rfl, hpc, hu⟩ := HP.out.1.at (i := k) (by rw [HP.out.2]; omega)
      have hu' : u = sv (pieces[k]'(by rw [HP.out.2]; omega)) := hu
      subst hu'
      obtain ⟨rd, F, rfl, hrc, hF⟩ := HR.out.1.at (i := k) (by rw [HR.out.2]; exact hlt)
      have hgp : pieces.getD k [] = pieces[k]'(by rw [HP.out.2]; omega) := by rw [List.getD_eq_getElem?_getD, List.getElem?_eq_getElem (by rw [HP.out.2]; omega)]; rfl
      have hgr : R.getD k [] = R[k]'(by rw [HR.out.2]; exact hlt) := by rw [List.getD_eq_getElem?_getD, List.getElem?_eq_getElem (by rw [HR.out.2]; exact hlt)]; rfl
      have hmm : bits .and .i64 ((M : Int) / 2 ^ k) 1 = ((Cd.bitAt M k : Nat) : Int) := by
        have hle : M / 2 ^ k ≤ M := Nat.div_le_self _ _
        have := odd64 (M / 2 ^ k) (by omega)
        rw [Cd.bitAt, ← this]
        simp
      obtain ⟨p, hp⟩ : ∃ p, pieces[k]'(by rw [HP.out.2]; omega) = p := ⟨_, rfl⟩
      obtain ⟨r, hr⟩ : ∃ r, R[k]'(by rw [HR.out.2]; exact hlt) = r := ⟨_, rfl⟩
      rw [hp] at hpc hgp
      rw [hr] at hF hgr
      have hpc2 := HI.out.2.1.owns.ext.cell hpc
      have hrc2 := HI.out.2.1.owns.ext.cell hrc
      obtain ⟨FA, fn, rfl, hfl⟩ := hF.form
      have HG := Lib.hid (And.intro hgp (And.intro hgr hF))
      clear hgp hp hu hgr hr hF hpc hrc
      have hel := Lo.els_snoc M k
      have hnx := Lo.els_le M k
      have hxl : n = (Lo.els M k 0).length := by
        have := congrArg List.length HI.out.2.2.2
        rw [List.length_map, List.length_map] at this
        rw [← HI.out.2.2.1, this]
      by_cases hb : Cd.bitAt M k = 1
      · rw [if_pos hb] at hel
        rw [hb] at hmm
        have HEL := Lib.hid hel
        clear hb hel
        go_wp2_with (refine wpl_append_lrow (y := ((r, p), .slice FA r.length fn)) rfl _ _ rfl (HI.out.2.1.next ((Ext.refl _).alloc _)) (by rw [HI.out.2.2.1]; rfl) (g0 := wr.heap.size) rfl (by go_simp) (by go_simp) HG.out.2.2 (by rw [HI.out.2.2.1]; omega) ?_; intro g cap w' HL)
        go_roundw
        case rel => exact ⟨k + 1, _, _, _, xs ++ [((r, p), .slice FA r.length fn)], by omega, by go_num, rfl, fun h => absurd h (by simp), HL.out, by simp, by rw [HEL.out, List.map_append, List.map_append, HI.out.2.2.2, List.map_singleton, List.map_singleton, HG.out.1, HG.out.2.1]⟩
        case measure => simp [intOf]; omega
      · have eb : (((Cd.bitAt M k : Nat) : Int) == 1) = false := by rw [beq_eq_false_iff_ne]; omega
        rw [if_neg hb, List.append_nil] at hel
        have HEL := Lib.hid hel
        clear hb hel
        go_wp2_with fail
        go_roundw
        case rel => exact ⟨k + 1, _, _, _, xs, by omega, by go_num, rfl, HI.out.1, HI.out.2.1, HI.out.2.2.1, by rw [HEL.out]; exact HI.out.2.2.2⟩
        case measure => simp [intOf]; omega
    · obtain rfl : k = rn := by omega
      have hxl : n = (Lo.els M k 0).length := by
        have := congrArg List.length HI.out.2.2.2
        rw [List.length_map, List.length_map] at this
        rw [← HI.out.2.2.1, this]
      have hnx := Lo.els_le M k
      have hrs := HI.out.2.1.rs (by rw [HI.out.2.2.1]; omega)
      rw [HI.out.2.2.2, HI.out.2.2.1] at hrs
      have hso : Lo.some_ R pieces M = (Lo.els M k 0).map fun j => (R.getD j [], pieces.getD j []) := by unfold Lo.some_; rw [HR.out.2]
      have HS := Lib.hid (And.intro hrs hso)
      clear hrs hso
      go_wp2_with fail
      go_ret
      refine ⟨_, rfl, by rw [HS.out.2]; exact HS.out.1, fun h => ?_, HI.out.2.1.owns.ext⟩
      rw [HS.out.2, ← HI.out.2.2.2, List.map_eq_nil_iff] at h
      have h2 := HI.out.1 h
      have h3 := HI.out.2.2.1
      rw [h] at h3
      rw [h2.1, h2.2, ← h3]
      rfl
end Go.Proofs.YtggfkpalkdkbdaaDoor

/- A DRAWN REGION BY AN INVARIANT, with slots that it reads and writes. -/
namespace Go.Proofs.YtggfkpalkdkbdaaDoor
open Go.RowKit
/-- As Inv, and a slot whose operation is not done is as it was. -/
structure InvO (dsts : List (Option Nat)) (vals : List Value) (a0 : Act) (L : Nat → Bool) (a : Act) : Prop where
  inv : Inv dsts vals a0 L a
  old : ∀ i t, dsts[i]? = some (some t) → L i = false → a.eval (.tmp t) = a0.eval (.tmp t)
theorem InvO.start {dsts : List (Option Nat)} {vals : List Value} {a0 : Act} : InvO dsts vals a0 (fun _ => false) a0 := ⟨Inv.start, fun _ _ _ _ => rfl⟩
theorem InvO.put {dsts : List (Option Nat)} {vals : List Value} {a0 a : Act} {L : Nat → Bool} (h : InvO dsts vals a0 L a) (hap : apartD dsts = true) (i : Nat) {d : Nat} {v : Value} (hd : dsts[i]? = some (some d)) (hds : d < a0.tmps.size) (hi : i < vals.length) {vals' : List Value} (hv : vals' = vals.set i v) : InvO dsts vals' a0 (upd L i) (a.put (some d) v) := by
  refine ⟨h.inv.put hap i hd hds hi hv, ?_⟩
  intro j t hj hL
  unfold upd at hL
  split at hL
  · cases hL
  · rename_i hji
    rw [eval_put_ne]
    · exact h.old j t hj hL
    · rintro rfl
      exact hji (apartD_spec hap hj hd)
theorem InvO.reset {dsts : List (Option Nat)} {vals : List Value} {a0 a : Act} {L : Nat → Bool} (h : InvO dsts vals a0 L a) (i : Nat) (hL : L i = false) (v : Value) : InvO dsts (vals.set i v) a0 L a := ⟨h.inv.reset i hL v, h.old⟩
theorem InvO.get {dsts : List (Option Nat)} {vals : List Value} {a0 a : Act} {L : Nat → Bool} (h : InvO dsts vals a0 L a) (i : Nat) {d : Nat} {v : Value} (hd : dsts[i]? = some (some d)) (hv : vals[i]? = some v) (hL : L i = true) : a.eval (.tmp d) = v := h.inv.get i hd hv hL
theorem InvO.fixed {dsts : List (Option Nat)} {vals : List Value} {a0 a : Act} {L : Nat → Bool} (h : InvO dsts vals a0 L a) (t : Nat) (ht : dsts.contains (some t) = false) : a.eval (.tmp t) = a0.eval (.tmp t) := h.inv.fixed t ht
theorem InvO.size {dsts : List (Option Nat)} {vals : List Value} {a0 a : Act} {L : Nat → Bool} (h : InvO dsts vals a0 L a) : a.tmps.size = a0.tmps.size := h.inv.size
theorem InvO.defers {dsts : List (Option Nat)} {vals : List Value} {a0 a : Act} {L : Nat → Bool} (h : InvO dsts vals a0 L a) : a.defers = a0.defers := h.inv.defers
end Go.Proofs.YtggfkpalkdkbdaaDoor

/- THE DRAWN REGIONS of the closure less of agree (package locate). -/
namespace Go.Proofs.YtggfkpalkdkbdaaDoor
open Go.RowKit
theorem InvO.skip {dsts : List (Option Nat)} {vals : List Value} {a0 a : Act} {L : Nat → Bool} (h : InvO dsts vals a0 L a) (i : Nat) (hd : dsts[i]? = some none) : InvO dsts vals a0 (upd L i) a := by
  refine ⟨h.inv.skip i hd, ?_⟩
  intro j t hj hL
  unfold upd at hL
  split at hL
  · cases hL
  · exact h.old j t hj hL
theorem Owns.two3 {w0 w : World} {r s : LRow} {L : List LRow} (h : Owns w0 w (r :: s :: L)) : Owns w0 w.drew (r :: s :: no :: L) := by
  have h3 := h.drew.wider
  refine h3.perm ?_
  have e : (r :: s :: L) ++ [no] = r :: s :: (L ++ [no]) := by simp
  rw [e]
  exact List.Perm.cons _ (List.Perm.cons _ (List.perm_append_comm (l₁ := L) (l₂ := [no])))
theorem Owns.one1 {w0 w : World} {L : List LRow} (h : Owns w0 w L) : Owns w0 w.drew (no :: L) :=
  h.drew.wider.perm (List.perm_append_comm (l₁ := L) (l₂ := [no]))
theorem ex_build1 {P : Program} {o : Oper} {a : Act} {w : World} {t : TypeId} {k : Nat} {x : Operand} {u r : Value} (ho : o.op = .build t #[(k, x)]) (hx : a.eval x = u) (hr : (Instr.build t #[(k, u)]).run P w = .ok r w) : (execOp a.eval o).run P w = .ok (.value r) w := by
  unfold execOp
  rw [ho]
  simp [hx, hr, Result.andThen]
theorem lo_alloc {P : Program} {w w' : World} {a : Act} {o : Oper} {t : TypeId} {v : Value} (ho : o.op = .alloc t) (hr : (Instr.alloc t true (.tuple #[])).run P w = .ok v w') : (execOp a.eval o).run P w = .ok (.value v) w' := by
  unfold execOp
  simp only [ho, hr, Sem.run_bind, Sem.run_pure, Result.andThen_ok]
theorem xor_u8 (y z : UInt8) : bits .xor .u8 ((y.toNat : Nat) : Int) ((z.toNat : Nat) : Int) = (((y ^^^ z).toNat : Nat) : Int) := by
  rw [u8_xor_nat _ _ (Gf.lt8 _) (Gf.lt8 _), UInt8.toNat_xor]
theorem gscale_len (c : UInt8) (s : List UInt8) : (Gf.scale c s).length = s.length := by simp [Gf.scale]
theorem gScale_sb (q : UInt8) (s : List UInt8) (w : World) (hT : Tab w) (hs : s.length ≤ 1000000) : Calls Tryd.prog 70 #[bv q, .string (sb s)] w fun e w' => e = .returned (.string (sb (Gf.scale q s))) ∧ Ext w w' := by
  have h := scale_any q (sb s) w hT (by rw [size_sb]; omega)
  rw [bl_sb] at h
  exact h
theorem gSum_sb (s t : List UInt8) (w : World) (hs : s.length ≤ 1000000) (ht : t.length ≤ 1000000) : Calls Tryd.prog 69 #[.string (sb s), .string (sb t)] w fun e w' => e = .returned (.string (sb (Gf.sum s t))) ∧ Ext w w' := by
  have h := sum_any (sb s) (sb t) w (by rw [size_sb]; omega) (by rw [size_sb]; omega)
  rw [bl_sb, bl_sb] at h
  exact h
noncomputable def le2_code : Code := ((Tryd.f67.body.bind (regionOf 2)).getD .skip)
def le2_dsts : List (Option Nat) := [some 20, some 21, some 22, some 23, some 24, some 25, some 26, some 27, some 10, none]
theorem le2_apart : apartD le2_dsts = true := by decide +kernel
set_option maxRecDepth 1000000 in
set_option maxHeartbeats 16000000 in
theorem le2 (w0 wr : World) (B E : Nat) (fb : UInt8) (s q : List UInt8) (LL : List LRow) (HOO : Hid (Owns w0 wr LL)) (HT : Hid (Tab w0)) (HS : Hid (s.length ≤ 1000000 ∧ q.length ≤ 1000000)) (HE : Hid (∀ (W : World) (R0 : LRow), Owns w0 W (R0 :: LL) → W.cell? ⟨B, 1, none⟩ = some (.string (sb s)) ∧ W.cell? ⟨E, 1, none⟩ = some (.string (sb q)))) (c0 c1 c2 c3 c6 c7 c8 c10 c11 c12 c13 c14 c15 c16 c17 c18 c19 c20 c21 c22 c23 c24 c25 c26 c27 c28 c29 c30 c31 c32 c33 c34 c35 c36 c37 c38 c39 c40 c41 c42 c43 c44 c45 c46 c47 c48 c49 c50 c51 : Value) (df : List Deferred) (K : Act → World → Prop)
    (hK : ∀ (gO : Nat) (u20 u21 u22 u23 u24 u25 u26 u27 : Value) (wx : World), Owns w0 wx (⟨.slice (some ⟨gO, 0, none⟩) 2 2, 105, 1, 2, [.slice none 0 0, .string (sb (Gf.sum s (Gf.scale fb q)))]⟩ :: LL) → K ⟨#[c0, c1, c2, c3, .pointer (some ⟨B, 0, none⟩), .pointer (some ⟨E, 0, none⟩), c6, c7, c8, bv fb, .pointer (some ⟨gO, 0, none⟩), c11, c12, c13, c14, c15, c16, c17, c18, c19, u20, u21, u22, u23, u24, u25, u26, u27, c28, c29, c30, c31, c32, c33, c34, c35, c36, c37, c38, c39, c40, c41, c42, c43, c44, c45, c46, c47, c48, c49, c50, c51], df⟩ wx) :
    Code.wp Tryd.prog le2_code (AtEnd K) ⟨#[c0, c1, c2, c3, .pointer (some ⟨B, 0, none⟩), .pointer (some ⟨E, 0, none⟩), c6, c7, c8, bv fb, c10, c11, c12, c13, c14, c15, c16, c17, c18, c19, c20, c21, c22, c23, c24, c25, c26, c27, c28, c29, c30, c31, c32, c33, c34, c35, c36, c37, c38, c39, c40, c41, c42, c43, c44, c45, c46, c47, c48, c49, c50, c51], df⟩ wr := by
  conv => arg 2; whnf
  refine region_inv (by kernel_rfl) [[], [0], [], [], [3], [2, 4], [1, 5, 5], [6], [], [8, 7, 6, 0, 1, 2, 3, 4, 5, 6, 7, 8]] (by kernel_rfl) [0, 1, 2, 3, 4, 5, 6, 7, 8, 9] (by decide +kernel) (by decide +kernel) (by decide +kernel) (fun L a wc => ∃ (gO : Nat), InvO le2_dsts [.pointer (some ⟨B, 1, none⟩), .string (sb s), bv fb, .pointer (some ⟨E, 1, none⟩), .string (sb q), .string (sb (Gf.scale fb q)), .string (sb (Gf.sum s (Gf.scale fb q))), .agg #[.slice none 0 0, .string (sb (Gf.sum s (Gf.scale fb q)))], .pointer (some ⟨gO, 0, none⟩), undef] ⟨#[c0, c1, c2, c3, .pointer (some ⟨B, 0, none⟩), .pointer (some ⟨E, 0, none⟩), c6, c7, c8, bv fb, c10, c11, c12, c13, c14, c15, c16, c17, c18, c19, c20, c21, c22, c23, c24, c25, c26, c27, c28, c29, c30, c31, c32, c33, c34, c35, c36, c37, c38, c39, c40, c41, c42, c43, c44, c45, c46, c47, c48, c49, c50, c51], df⟩ L a ∧ Hid (Owns w0 wc ((if L 8 = true then (if L 9 = true then ⟨.slice (some ⟨gO, 0, none⟩) 2 2, 105, 1, 2, [.slice none 0 0, .string (sb (Gf.sum s (Gf.scale fb q)))]⟩ else ⟨.slice (some ⟨gO, 0, none⟩) 2 2, 105, 1, 2, [.slice none 0 0, .string ⟨#[]⟩]⟩) else no) :: LL))) ⟨0, InvO.start, Lib.hid HOO.out.one1⟩ ?_ ?_
  · refine ⟨?_, ?_, ?_, ?_, ?_, ?_, ?_, ?_, ?_, ?_, trivial⟩
    ·
      rintro L a wc ⟨gO, hv, HO⟩ hL hc hd
      exact wpOp_val rfl rfl (ex_field rfl ((hv.fixed 4 (by decide)).trans rfl) (by go_simp)) ⟨gO, hv.put le2_apart 0 rfl (lb rfl) (lb rfl) rfl, HO⟩
    ·
      rintro L a wc ⟨gO, hv, HO⟩ hL hc hd
      have h0 : wc.cell? ⟨B, 1, none⟩ = some (.string (sb s)) := (HE.out _ _ HO.out).1
      exact wpOp_val rfl rfl (ex_load rfl (hv.get 0 rfl rfl (hd 0 (by decide))) (by go_simp)) ⟨gO, hv.put le2_apart 1 rfl (lb rfl) (lb rfl) rfl, HO⟩
    ·
      rintro L a wc ⟨gO, hv, HO⟩ hL hc hd
      exact wpOp_val rfl rfl (ex_move rfl ((hv.fixed 9 (by decide)).trans rfl)) ⟨gO, hv.put le2_apart 2 rfl (lb rfl) (lb rfl) rfl, HO⟩
    ·
      rintro L a wc ⟨gO, hv, HO⟩ hL hc hd
      exact wpOp_val rfl rfl (ex_field rfl ((hv.fixed 5 (by decide)).trans rfl) (by go_simp)) ⟨gO, hv.put le2_apart 3 rfl (lb rfl) (lb rfl) rfl, HO⟩
    ·
      rintro L a wc ⟨gO, hv, HO⟩ hL hc hd
      have h0 : wc.cell? ⟨E, 1, none⟩ = some (.string (sb q)) := (HE.out _ _ HO.out).2
      exact wpOp_val rfl rfl (ex_load rfl (hv.get 3 rfl rfl (hd 3 (by decide))) (by go_simp)) ⟨gO, hv.put le2_apart 4 rfl (lb rfl) (lb rfl) rfl, HO⟩
    ·
      rintro L a wc ⟨gO, hv, HO⟩ hL hc hd
      refine wpOp_call (R := fun v w1 => v = .string (sb (Gf.scale fb q)) ∧ Ext wc w1) rfl rfl (ex_call rfl rfl (map2c (hv.get 2 rfl rfl (hd 2 (by decide))) (hv.get 4 rfl rfl (hd 4 (by decide)))) (enters_of Tryd.func70 (by kernel_rfl) rfl _ _)) ((gScale_sb fb q wc (HT.out.ext HO.out.ext) HS.out.2).mono (fun e w' h => ⟨_, h.1, rfl, h.2⟩)) ?_
      rintro v w' ⟨rfl, hx⟩
      exact ⟨gO, hv.put le2_apart 5 rfl (lb rfl) (lb rfl) rfl, Lib.hid (HO.out.next hx)⟩
    ·
      rintro L a wc ⟨gO, hv, HO⟩ hL hc hd
      refine wpOp_call (R := fun v w1 => v = .string (sb (Gf.sum s (Gf.scale fb q))) ∧ Ext wc w1) rfl rfl (ex_call rfl rfl (map2c (hv.get 1 rfl rfl (hd 1 (by decide))) (hv.get 5 rfl rfl (hd 5 (by decide)))) (enters_of Tryd.func69 (by kernel_rfl) rfl _ _)) ((gSum_sb s (Gf.scale fb q) wc HS.out.1 (by rw [gscale_len]; exact HS.out.2)).mono (fun e w' h => ⟨_, h.1, rfl, h.2⟩)) ?_
      rintro v w' ⟨rfl, hx⟩
      exact ⟨gO, hv.put le2_apart 6 rfl (lb rfl) (lb rfl) rfl, Lib.hid (HO.out.next hx)⟩
    ·
      rintro L a wc ⟨gO, hv, HO⟩ hL hc hd
      have hB : (Instr.build 105 #[(1, .string (sb (Gf.sum s (Gf.scale fb q))))]).run Tryd.prog wc = .ok (.agg #[.slice none 0 0, .string (sb (Gf.sum s (Gf.scale fb q)))]) wc := by go_simp
      exact wpOp_val rfl rfl (ex_build1 rfl (hv.get 6 rfl rfl (hd 6 (by decide))) hB) ⟨gO, hv.put le2_apart 7 rfl (lb rfl) (lb rfl) rfl, HO⟩
    ·
      rintro L a wc ⟨gO, hv, HO⟩ hL hc hd
      have n9 : L 9 = false := Bool.eq_false_iff.2 fun h => Bool.false_ne_true (hL.symm.trans (hc 9 h 8 (by decide)))
      have h := HO.out
      rw [if_neg (show ¬ (L 8 = true) from by simp [hL])] at h
      have h2 := h.new 0 #[.slice none 0 0, .string ⟨#[]⟩] 105 (by simp [maxLen])
      have hA : (Instr.alloc 105 true (.tuple #[])).run Tryd.prog wc = .ok (.pointer (some ⟨wc.heap.size, 0, none⟩)) (wc.alloc (.cells #[.slice none 0 0, .string ⟨#[]⟩] 105)) := by go_simp
      have h3 : Owns w0 (wc.alloc (.cells #[.slice none 0 0, .string ⟨#[]⟩] 105)) ((if upd L 8 8 = true then (if upd L 8 9 = true then ⟨.slice (some ⟨wc.heap.size, 0, none⟩) 2 2, 105, 1, 2, [.slice none 0 0, .string (sb (Gf.sum s (Gf.scale fb q)))]⟩ else ⟨.slice (some ⟨wc.heap.size, 0, none⟩) 2 2, 105, 1, 2, [.slice none 0 0, .string ⟨#[]⟩]⟩) else no) :: LL) := by rw [if_pos (show upd L 8 8 = true from by simp [upd]), if_neg (show ¬ (upd L 8 9 = true) from by simp [upd, n9])]; exact h2
      exact wpOp_value rfl rfl (lo_alloc rfl hA) ⟨wc.heap.size, hv.put le2_apart 8 rfl (lb rfl) (lb rfl) rfl, Lib.hid h3⟩
    ·
      rintro L a wc ⟨gO, hv, HO⟩ hL hc hd
      have h8 : L 8 = true := hd 8 (by decide)
      have h7 : L 7 = true := hd 7 (by decide)
      have h := HO.out
      rw [if_pos h8, if_neg (show ¬ (L 9 = true) from by simp [hL])] at h
      have e0 := h.cell 0 rfl 0 rfl
      have e1 := h.cell 0 rfl 1 rfl
      have f0 : wc.frozen? ⟨gO, 0, none⟩ = false := h.frozen 0 rfl 0
      have f1 : wc.frozen? ⟨gO, 1, none⟩ = false := h.frozen 0 rfl 1
      have hS := (h.store 0 rfl 0 (.slice none 0 0)).store 0 rfl 1 (.string (sb (Gf.sum s (Gf.scale fb q))))
      have h3 : Owns w0 ((wc.setCell ⟨gO, 0, none⟩ (.slice none 0 0)).setCell ⟨gO, 1, none⟩ (.string (sb (Gf.sum s (Gf.scale fb q))))) ((if upd L 9 8 = true then (if upd L 9 9 = true then ⟨.slice (some ⟨gO, 0, none⟩) 2 2, 105, 1, 2, [.slice none 0 0, .string (sb (Gf.sum s (Gf.scale fb q)))]⟩ else ⟨.slice (some ⟨gO, 0, none⟩) 2 2, 105, 1, 2, [.slice none 0 0, .string ⟨#[]⟩]⟩) else no) :: LL) := by rw [if_pos (show upd L 9 8 = true from by simp [upd, h8]), if_pos (show upd L 9 9 = true from by simp [upd])]; exact hS
      exact wpOp_skip rfl rfl rfl (ex_store (w' := (wc.setCell ⟨gO, 0, none⟩ (.slice none 0 0)).setCell ⟨gO, 1, none⟩ (.string (sb (Gf.sum s (Gf.scale fb q))))) rfl (hv.get 8 rfl rfl h8) (hv.get 7 rfl rfl h7) (by go_simp)) ⟨gO, hv.skip 9 rfl, Lib.hid h3⟩
  · rintro L a wc ⟨gO, hv, HO⟩ hall
    show K a wc
    have ha := act_n rl52 hv.size hv.defers rfl
    simp +decide only [hv.fixed, hv.get 8 (d := 10) rfl rfl (hall 8 (by decide))] at ha
    rw [ha]
    have hO := HO.out
    rw [if_pos (hall 8 (by decide)), if_pos (hall 9 (by decide))] at hO
    exact hK gO _ _ _ _ _ _ _ _ wc hO
noncomputable def le6_code : Code := ((Tryd.f67.body.bind (regionOf 6)).getD .skip)
def le6_dsts : List (Option Nat) := [some 36, some 37, some 38, some 39, some 40, some 41, some 42, some 43, some 44, some 45, some 46, some 47, some 48, some 49, none]
theorem le6_apart : apartD le6_dsts = true := by decide +kernel
set_option maxRecDepth 1000000 in
set_option maxHeartbeats 16000000 in
theorem le6 (w0 wr : World) (O k N na cN cF : Nat) (FA : Option Addr) (fd : Addr) (v1 : Value) (fs : List Value) (LL : List LRow) (E : Nat) (fb x y z : UInt8) (HZ : Hid (x ^^^ Gf.mul fb y = z)) (HT : Hid (Tab w0)) (HE : Hid (∀ (W : World) (R0 R1 R2 : LRow), Owns w0 W (R0 :: R1 :: R2 :: LL) → W.cell? ⟨E, 0, none⟩ = some (.slice (some fd) N cN) ∧ W.cell? (fd.add k) = some (bv y))) (hkN : k < N) (ha0 : na ≤ 1000) (HOO : Hid (Owns w0 wr (⟨.slice (some ⟨O, 0, none⟩) 2 2, 105, 1, 2, [.slice FA na cF, v1]⟩ :: ⟨.slice FA na cF, 5, 1, na, fs⟩ :: LL))) (c0 c1 c2 c3 c4 c6 c7 c8 c13 c14 c15 c16 c17 c18 c19 c20 c21 c22 c23 c24 c25 c26 c27 c28 c29 c30 c31 c32 c33 c34 c35 c36 c37 c38 c39 c40 c41 c42 c43 c44 c45 c46 c47 c48 c49 c50 c51 : Value) (df : List Deferred) (K : Act → World → Prop)
    (hK : ∀ (g7 k7 : Nat) (u36 u37 u38 u39 u40 u41 u42 u43 u44 u45 u46 u47 u48 u49 : Value) (wx : World), Owns w0 wx (⟨.slice (some ⟨O, 0, none⟩) 2 2, 105, 1, 2, [.slice (some ⟨g7, 0, none⟩) (na + 1) k7, v1]⟩ :: ⟨.slice (some ⟨g7, 0, none⟩) (na + 1) k7, 5, 1, na + 1, fs ++ [bv z]⟩ :: LL) → K ⟨#[c0, c1, c2, c3, c4, .pointer (some ⟨E, 0, none⟩), c6, c7, c8, bv fb, .pointer (some ⟨O, 0, none⟩), .int .i64 (k : Nat), bv x, c13, c14, c15, c16, c17, c18, c19, c20, c21, c22, c23, c24, c25, c26, c27, c28, c29, c30, c31, c32, c33, c34, c35, u36, u37, u38, u39, u40, u41, u42, u43, u44, u45, u46, u47, u48, u49, c50, c51], df⟩ wx) :
    Code.wp Tryd.prog le6_code (AtEnd K) ⟨#[c0, c1, c2, c3, c4, .pointer (some ⟨E, 0, none⟩), c6, c7, c8, bv fb, .pointer (some ⟨O, 0, none⟩), .int .i64 (k : Nat), bv x, c13, c14, c15, c16, c17, c18, c19, c20, c21, c22, c23, c24, c25, c26, c27, c28, c29, c30, c31, c32, c33, c34, c35, c36, c37, c38, c39, c40, c41, c42, c43, c44, c45, c46, c47, c48, c49, c50, c51], df⟩ wr := by
  conv => arg 2; whnf
  refine region_inv (by kernel_rfl) [[], [0], [], [], [], [4], [], [5, 6], [7], [3, 8], [2, 9], [10], [1, 11, 9], [0, 1, 2, 3, 4, 5, 6, 7, 8, 9, 10, 11, 12], [13, 12, 12, 0, 1, 2, 3, 4, 5, 6, 7, 8, 9, 10, 11, 12]] (by kernel_rfl) [0, 1, 2, 3, 4, 5, 6, 7, 8, 9, 10, 11, 12, 13, 14] (by decide +kernel) (by decide +kernel) (by decide +kernel) (fun L a wc => ∃ (g6 : Nat) (g7 : Nat) (k7 : Nat), InvO le6_dsts [.pointer (some ⟨O, 0, none⟩), .slice FA na cF, bv x, bv fb, .pointer (some ⟨E, 0, none⟩), .slice (some fd) N cN, .int .i64 (k : Nat), .pointer (some (fd.add k)), bv y, bv (Gf.mul fb y), bv z, .slice (some ⟨g6, 0, none⟩) 1 1, .slice (some ⟨g7, 0, none⟩) (na + 1) k7, .pointer (some ⟨O, 0, none⟩), undef] ⟨#[c0, c1, c2, c3, c4, .pointer (some ⟨E, 0, none⟩), c6, c7, c8, bv fb, .pointer (some ⟨O, 0, none⟩), .int .i64 (k : Nat), bv x, c13, c14, c15, c16, c17, c18, c19, c20, c21, c22, c23, c24, c25, c26, c27, c28, c29, c30, c31, c32, c33, c34, c35, c36, c37, c38, c39, c40, c41, c42, c43, c44, c45, c46, c47, c48, c49, c50, c51], df⟩ L a ∧ Hid (Owns w0 wc ((if L 14 = true then ⟨.slice (some ⟨O, 0, none⟩) 2 2, 105, 1, 2, [.slice (some ⟨g7, 0, none⟩) (na + 1) k7, v1]⟩ else ⟨.slice (some ⟨O, 0, none⟩) 2 2, 105, 1, 2, [.slice FA na cF, v1]⟩) :: (if L 12 = true then ⟨.slice (some ⟨g7, 0, none⟩) (na + 1) k7, 5, 1, na + 1, fs ++ [bv z]⟩ else ⟨.slice FA na cF, 5, 1, na, fs⟩) :: (if L 11 = true then ⟨.slice (some ⟨g6, 0, none⟩) 1 1, 5, 1, 1, [bv z]⟩ else no) :: LL))) ⟨0, 0, 0, InvO.start, Lib.hid (HOO.out.two3)⟩ ?_ ?_
  · refine ⟨?_, ?_, ?_, ?_, ?_, ?_, ?_, ?_, ?_, ?_, ?_, ?_, ?_, ?_, ?_, trivial⟩
    ·
      rintro L a wc ⟨g6, g7, k7, hv, HO⟩ hL hc hd
      exact wpOp_val rfl rfl (ex_field rfl ((hv.fixed 10 (by decide)).trans rfl) (by go_simp)) ⟨g6, g7, k7, hv.put le6_apart 0 rfl (lb rfl) (lb rfl) rfl, HO⟩
    ·
      rintro L a wc ⟨g6, g7, k7, hv, HO⟩ hL hc hd
      have n14 : L 14 = false := Bool.eq_false_iff.2 fun h => Bool.false_ne_true (hL.symm.trans (hc 12 (hc 14 h 12 (by decide)) 1 (by decide)))
      have h := HO.out
      rw [if_neg (show ¬ (L 14 = true) from by simp [n14])] at h
      have e1 : wc.cell? ⟨O, 0, none⟩ = some (.slice FA na cF) := h.cell 0 rfl 0 rfl
      exact wpOp_val rfl rfl (ex_load rfl (hv.get 0 rfl rfl (hd 0 (by decide))) (by go_simp)) ⟨g6, g7, k7, hv.put le6_apart 1 rfl (lb rfl) (lb rfl) rfl, HO⟩
    ·
      rintro L a wc ⟨g6, g7, k7, hv, HO⟩ hL hc hd
      exact wpOp_val rfl rfl (ex_move rfl ((hv.fixed 12 (by decide)).trans rfl)) ⟨g6, g7, k7, hv.put le6_apart 2 rfl (lb rfl) (lb rfl) rfl, HO⟩
    ·
      rintro L a wc ⟨g6, g7, k7, hv, HO⟩ hL hc hd
      exact wpOp_val rfl rfl (ex_move rfl ((hv.fixed 9 (by decide)).trans rfl)) ⟨g6, g7, k7, hv.put le6_apart 3 rfl (lb rfl) (lb rfl) rfl, HO⟩
    ·
      rintro L a wc ⟨g6, g7, k7, hv, HO⟩ hL hc hd
      exact wpOp_val rfl rfl (ex_field rfl ((hv.fixed 5 (by decide)).trans rfl) (by go_simp)) ⟨g6, g7, k7, hv.put le6_apart 4 rfl (lb rfl) (lb rfl) rfl, HO⟩
    ·
      rintro L a wc ⟨g6, g7, k7, hv, HO⟩ hL hc hd
      have h0 : wc.cell? ⟨E, 0, none⟩ = some (.slice (some fd) N cN) := (HE.out _ _ _ _ HO.out).1
      exact wpOp_val rfl rfl (ex_load rfl (hv.get 4 rfl rfl (hd 4 (by decide))) (by go_simp)) ⟨g6, g7, k7, hv.put le6_apart 5 rfl (lb rfl) (lb rfl) rfl, HO⟩
    ·
      rintro L a wc ⟨g6, g7, k7, hv, HO⟩ hL hc hd
      exact wpOp_val rfl rfl (ex_move rfl ((hv.fixed 11 (by decide)).trans rfl)) ⟨g6, g7, k7, hv.put le6_apart 6 rfl (lb rfl) (lb rfl) rfl, HO⟩
    ·
      rintro L a wc ⟨g6, g7, k7, hv, HO⟩ hL hc hd
      have u1 : (0 : Int) ≤ (k : Int) := by omega
      have u2 : (k : Int) < (N : Int) := by omega
      exact wpOp_val rfl rfl (ex_index rfl (hv.get 5 rfl rfl (hd 5 (by decide))) (hv.get 6 rfl rfl (hd 6 (by decide))) (by go_simp)) ⟨g6, g7, k7, hv.put le6_apart 7 rfl (lb rfl) (lb rfl) rfl, HO⟩
    ·
      rintro L a wc ⟨g6, g7, k7, hv, HO⟩ hL hc hd
      have h0 : wc.cell? (fd.add k) = some (bv y) := (HE.out _ _ _ _ HO.out).2
      exact wpOp_val rfl rfl (ex_load rfl (hv.get 7 rfl rfl (hd 7 (by decide))) (by go_simp)) ⟨g6, g7, k7, hv.put le6_apart 8 rfl (lb rfl) (lb rfl) rfl, HO⟩
    ·
      rintro L a wc ⟨g6, g7, k7, hv, HO⟩ hL hc hd
      refine wpOp_call (R := fun v w1 => v = bv (Gf.mul fb y) ∧ wc = w1) rfl rfl (ex_call rfl rfl (map2c (hv.get 3 rfl rfl (hd 3 (by decide))) (hv.get 8 rfl rfl (hd 8 (by decide)))) (enters_of Tryd.func68 (by kernel_rfl) rfl _ _)) ((mul_u8 fb y wc (HT.out.ext HO.out.ext)).mono (fun e w' h => ⟨_, h.1, rfl, h.2⟩)) ?_
      rintro v w' ⟨rfl, rfl⟩
      exact ⟨g6, g7, k7, hv.put le6_apart 9 rfl (lb rfl) (lb rfl) rfl, HO⟩
    ·
      rintro L a wc ⟨g6, g7, k7, hv, HO⟩ hL hc hd
      have hxr : bits .xor .u8 ((x.toNat : Nat) : Int) (((Gf.mul fb y).toNat : Nat) : Int) = ((z.toNat : Nat) : Int) := by rw [← HZ.out]; exact xor_u8 x (Gf.mul fb y)
      exact wpOp_val rfl rfl (ex_bin rfl (hv.get 2 rfl rfl (hd 2 (by decide))) (hv.get 9 rfl rfl (hd 9 (by decide))) (by go_simp)) ⟨g6, g7, k7, hv.put le6_apart 10 rfl (lb rfl) (lb rfl) rfl, HO⟩
    ·
      rintro L a wc ⟨g6, g7, k7, hv, HO⟩ hL hc hd
      have h := HO.out
      rw [if_neg (show ¬ (L 11 = true) from by simp [hL])] at h
      have hn := h.new 2 #[bv z] 5 (by simp [maxLen])
      exact wpOp_value rfl rfl (ex_build rfl Tryd.underlying48 info_u8 (hv.get 10 rfl rfl (hd 10 (by decide))) rfl) ⟨wc.heap.size, g7, k7, hv.put le6_apart 11 rfl (lb rfl) (lb rfl) rfl, Lib.hid (by rw [if_pos (show upd L 11 11 = true from by simp [upd])]; exact hn)⟩
    ·
      rintro L a wc ⟨g6, g7, k7, hv, HO⟩ hL hc hd
      have n14 : L 14 = false := Bool.eq_false_iff.2 fun h => Bool.false_ne_true (hL.symm.trans (hc 14 h 12 (by decide)))
      have h11 : L 11 = true := hd 11 (by decide)
      have h := HO.out
      rw [if_neg (show ¬ (L 14 = true) from by simp [n14]), if_neg (show ¬ (L 12 = true) from by simp [hL]), if_pos h11] at h
      refine wpOp_append rfl rfl 48 5 rfl Tryd.underlying48 info_u8 rfl h 1 rfl (hv.get 1 rfl rfl (hd 1 (by decide))) (hv.get 11 rfl rfl h11) (h.cell 2 rfl 0 rfl) rfl (by omega) (by decide) ?_
      intro gg cc w2 hO2
      have hv := hv.reset 12 hL (.slice (some ⟨gg, 0, none⟩) (na + 1) cc)
      exact ⟨g6, gg, cc, hv.put le6_apart 12 rfl (lb rfl) (lb rfl) rfl, Lib.hid (by rw [if_neg (show ¬ (upd L 12 14 = true) from by simp [upd, n14]), if_pos (show upd L 12 12 = true from by simp [upd]), if_pos (show upd L 12 11 = true from by simp [upd, h11])]; exact hO2)⟩
    ·
      rintro L a wc ⟨g6, g7, k7, hv, HO⟩ hL hc hd
      exact wpOp_val rfl rfl (ex_field rfl ((hv.fixed 10 (by decide)).trans rfl) (by go_simp)) ⟨g6, g7, k7, hv.put le6_apart 13 rfl (lb rfl) (lb rfl) rfl, HO⟩
    ·
      rintro L a wc ⟨g6, g7, k7, hv, HO⟩ hL hc hd
      have h12 : L 12 = true := hd 12 (by decide)
      have h := HO.out
      rw [if_neg (show ¬ (L 14 = true) from by simp [hL]), if_pos h12] at h
      have k1 := h.cell 0 rfl 0 rfl
      have q1 := h.frozen 0 rfl 0
      have hs := h.store 0 rfl 0 (.slice (some ⟨g7, 0, none⟩) (na + 1) k7)
      exact wpOp_skip rfl rfl rfl (ex_store (w' := wc.setCell ⟨O, 0, none⟩ (.slice (some ⟨g7, 0, none⟩) (na + 1) k7)) rfl (hv.get 13 rfl rfl (hd 13 (by decide))) (hv.get 12 rfl rfl h12) (by go_simp)) ⟨g6, g7, k7, hv.skip 14 rfl, Lib.hid (by rw [if_pos (show upd L 14 14 = true from by simp [upd]), if_pos (show upd L 14 12 = true from by simp [upd, h12])]; exact hs)⟩
  · rintro L a wc ⟨g6, g7, k7, hv, HO⟩ hall
    show K a wc
    have ha := act_n rl52 hv.size hv.defers rfl
    simp +decide only [hv.fixed] at ha
    rw [ha]
    have hO := HO.out
    rw [if_pos (hall 14 (by decide)), if_pos (hall 12 (by decide))] at hO
    exact hK g7 k7 _ _ _ _ _ _ _ _ _ _ _ _ _ _ wc (hO.sublist (by simp))
end Go.Proofs.YtggfkpalkdkbdaaDoor

/- THE WALK over collect, with pieces. -/
namespace Go.Proofs.YtggfkpalkdkbdaaDoor
open Go.RowKit
/-- What collect returns: stairs, if they are as wide as the rows. -/
def ColOut (n : Nat) (rows : List (List UInt8)) (m : Nat) (pieces : List (List UInt8)) (w : World) (e : Ending) (w' : World) : Prop :=
  ∃ P, e = .returned (.pointer (if (Cd.col n rows m pieces).1.length = n then some ⟨P, 0, none⟩ else none)) ∧ StairsOut w w' P (Cd.col n rows m pieces).1 (Cd.col n rows m pieces).2 n
set_option maxRecDepth 100000 in
set_option maxHeartbeats 4000000 in
/-- `collect` of pieces, in a good case: some rows, and a set of them. -/
theorem cCollect_pieces (d m : Nat) (rows pieces : List (List UInt8)) (V : Value) (PA : Option Addr) (cp : Nat) (w : World) (hT : Tab w) (hR : Rs (Rs RB) w V rows) (hl : ∀ r ∈ rows, r.length = d) (hd : 0 < d) (hd2 : d ≤ 16) (hn : 0 < rows.length) (hn2 : rows.length ≤ 24) (hm : m < 2 ^ rows.length) (hP : Rs RS w (.slice PA pieces.length cp) pieces) (hpl : pieces.length = rows.length) (hpm : ∀ p ∈ pieces, p.length ≤ 140737488351232) :
    Calls Tryd.prog 48 #[V, .int .i64 m, .slice PA pieces.length cp] w fun e w' => ColOut d rows m pieces w e w' := by
  have HT := Lib.hid hT
  have HR := Lib.hid hR
  have HL := Lib.hid hl
  have HP := Lib.hid hP
  have HPM := Lib.hid hpm
  obtain ⟨pd, _, rfl, _, _⟩ := hP.at (i := 0) (by omega)
  obtain ⟨A, c, rfl, hl63⟩ := hR.form
  obtain ⟨ad0, u0, rfl, hcell0, hu0⟩ := hR.at hn
  obtain ⟨B0, c0, rfl, _⟩ := hu0.form
  have hd0 := hl _ (List.getElem_mem hn)
  rw [hd0] at hcell0
  have hm24 : m < 16777216 := Nat.lt_of_lt_of_le hm (Nat.pow_le_pow_right (by omega) hn2)
  have hcell0' : w.cell? ad0 = some (.slice B0 d c0) := by rw [← hcell0]; simp [Addr.add]
  have e1 : ((rows.length : Int) == 0) = false := by rw [beq_eq_false_iff_ne]; omega
  have e2 : (wrap64 (2 ^ rows.length) ≤ (m : Int)) = False := by
    rw [wrap_pow _ (by omega)]
    exact eq_false (by omega)
  have e3 : ¬ rows = [] := by intro h; rw [h] at hn; simp at hn
  have hS0 := Lib.hid (StairsOut.start (w := w) (n := d))
  clear hT hR hl hu0 hd0 hcell0 hP hpm
  go_enter Tryd.func48, Tryd.ntmps48
  go_wp2_with fail
  clear hcell0'
  go_loopw [36] (fun vi wr => ∃ k : Nat, k ≤ rows.length ∧ vi = .int .i64 k ∧ Hid (StairsOut w wr w.heap.size (Cd.colTo d rows m pieces k).1 (Cd.colTo d rows m pieces k).2 d ∧ ∀ q ∈ (Cd.colTo d rows m pieces k).2, q.length ≤ 140737488351232)) (fun vi _ => rows.length - (intOf vi).toNat)
  case atStart => exact ⟨0, Nat.zero_le _, rfl, hS0.out, fun q hq => by cases hq⟩
  case round =>
    obtain ⟨k, hk, rfl, HI⟩ := hrel
    by_cases hlt : k < rows.length
    · have hx := HI.out.1.ext
      obtain ⟨ad, u, ead, hcell, hu⟩ := HR.out.at hlt
      injection ead with ead
      subst ead
      have hrl := HL.out _ (List.getElem_mem hlt)
      obtain ⟨B, cB, rfl, hlB⟩ := hu.form
      have hbd := hu.rd
      rw [hrl] at hcell
      have hcr := Cd.colTo_rows (n := d) (rows := rows) m pieces k (by omega)
      have hgood := Cd.stairs_good (n := d) (L := Cd.pickTo rows m k) (fun r hr => HL.out r (Cd.pickTo_mem hr))
      rw [← hcr] at hgood
      have hcell' := hx.cell hcell
      have hmm : bits .and .i64 ((m : Int) / 2 ^ k) 1 = ((Cd.bitAt m k : Nat) : Int) := by
        have hle : m / 2 ^ k ≤ m := Nat.div_le_self _ _
        have := odd64 (m / 2 ^ k) (by omega)
        rw [Cd.bitAt, ← this]
        simp
      have hyes := fun h1 h2 => Cd.colTo_yes (n := d) (rows := rows) (m := m) (pieces := pieces) (k := k) h1 h2
      have hno := fun h => Cd.colTo_no (n := d) (rows := rows) (m := m) (pieces := pieces) (k := k) h
      have hgr : rows.getD k [] = rows[k] := by rw [List.getD_eq_getElem?_getD, List.getElem?_eq_getElem hlt]; rfl
      have hgp : pieces.getD k [] = pieces[k]'(by omega) := by rw [List.getD_eq_getElem?_getD, List.getElem?_eq_getElem (by omega)]; rfl
      obtain ⟨pd', up, epd, hpc, hup⟩ := HP.out.at (i := k) (by omega)
      injection epd with epd
      subst epd
      have hup' : up = sv (pieces[k]'(by omega)) := hup
      subst hup'
      have hpc2 := hx.cell hpc
      have hpk := HPM.out _ (List.getElem_mem (show k < pieces.length by omega))
      rw [hgr, hgp] at hyes
      obtain ⟨pc, hpce⟩ : ∃ pc, pieces[k]'(by omega) = pc := ⟨_, rfl⟩
      rw [hpce] at hyes hpc2 hpk
      obtain ⟨r, hr⟩ : ∃ r, rows[k] = r := ⟨_, rfl⟩
      rw [hr] at hyes hrl hbd
      obtain ⟨S, hS⟩ : ∃ S, (Cd.colTo d rows m pieces k).1 = S := ⟨_, rfl⟩
      obtain ⟨Ps, hPs⟩ : ∃ Ps, (Cd.colTo d rows m pieces k).2 = Ps := ⟨_, rfl⟩
      have hO := HI.out.1
      have hPl := HI.out.2
      rw [hS, hPs] at hO hyes
      rw [hS] at hgood hno
      rw [hPs] at hPl
      have HCE := Lib.hid (And.intro hS hPs)
      have HPL := Lib.hid hPl
      have HNO := Lib.hid hno
      obtain ⟨X, Y, cX, cY, b0, b1, b2, _, _, _⟩ := hO.look
      have HO := Lib.hid hO
      have HGG := Lib.hid hgood
      have hsl : S.length ≤ d := hgood.2
      have HY := Lib.hid hyes
      have HB := Lib.hid hbd
      clear hgood hO hyes hcell hu hbd hr hS hPs hPl hno hgr hgp hpc hpce hcr hup HP
      by_cases hb : Cd.bitAt m k = 1
      · rw [hb] at hmm
        by_cases hlS : S.length < d
        · go_wp2_with fail
          go_quiet (fail)
          go_wp2_with fail
          obtain ⟨bd, rfl, _, _⟩ := HB.out.at (k := 0) (by simp; omega)
          rw [← hrl]
          refine (cAdd_any w _ w.heap.size S Ps r pc bd cB HT.out (HB.out.ext (HO.out.ext.drewN nq)) (by omega) (by omega) (by rw [hrl]; exact HO.out.next ((Ext.refl wr).drewN nq)) (by rw [hrl]; exact HGG.out.1) (by omega) HPL.out hpk).mono ?_
          rintro e w2 ⟨rfl, ho⟩
          rw [hrl]
          have hnx := HY.out hb hlS
          rw [hrl, ← hnx] at ho
          have hev := addTo_parts (S := S) (r := r) (M := 140737488351232) HPL.out hpk
          rw [← hnx] at hev
          have HEV := Lib.hid hev
          clear hnx hev
          have HO2 := Lib.hid ho
          clear ho
          go_wp2_with fail
          go_roundw
          case rel => exact ⟨k + 1, by omega, by go_num, HO2.out, HEV.out⟩
          case measure => simp [intOf]; omega
        · have hst := HNO.out (fun h => hlS h.2)
          have HST := Lib.hid hst
          clear hst
          go_wp2_with fail
          go_quiet (fail)
          go_wp2_with fail
          go_roundw
          case rel => exact ⟨k + 1, by omega, by go_num, by rw [HST.out]; exact ⟨HI.out.1.next ((Ext.refl wr).drewN nq), HI.out.2⟩⟩
          case measure => simp [intOf]; omega
      · have hst := HNO.out (fun h => hb h.1)
        have HST := Lib.hid hst
        have eb : (((Cd.bitAt m k : Nat) : Int) == 1) = false := by rw [beq_eq_false_iff_ne]; omega
        clear hst
        go_wp2_with fail
        go_quiet (fail)
        go_wp2_with fail
        go_roundw
        case rel => exact ⟨k + 1, by omega, by go_num, by rw [HST.out]; exact ⟨HI.out.1.next ((Ext.refl wr).drewN nq), HI.out.2⟩⟩
        case measure => simp [intOf]; omega
    · obtain rfl : k = rows.length := by omega
      have hO := HI.out.1
      have hpk : Cd.colTo d rows m pieces rows.length = Cd.col d rows m pieces := rfl
      rw [hpk] at hO
      have hcr := Cd.colTo_rows (n := d) (rows := rows) m pieces rows.length (Nat.le_refl _)
      rw [hpk] at hcr
      have hgood := Cd.stairs_good (n := d) (L := Cd.pick rows m) (fun r hr => HL.out r (Cd.pickTo_mem hr))
      rw [show Gf.stairs d (Cd.pick rows m) = (Cd.col d rows m pieces).1 from hcr.symm] at hgood
      obtain ⟨S, hS⟩ : ∃ S, (Cd.col d rows m pieces).1 = S := ⟨_, rfl⟩
      rw [hS] at hO hgood
      have hsl : S.length ≤ d := hgood.2
      obtain ⟨X, Y, cX, cY, b0, b1, b2, _, _, _⟩ := hO.look
      have HO := Lib.hid hO
      have HS := Lib.hid hS
      clear hO hS hgood hpk hcr
      by_cases hlS : S.length < d
      · go_wp2_with fail
        go_quiet (fail)
        go_wp2_with fail
        go_ret
        refine ⟨w.heap.size, ?_, ?_⟩
        · rw [HS.out, if_neg (by omega)]; rfl
        · rw [HS.out]; exact HO.out.next ((Ext.refl wr).drewN nq)
      · go_wp2_with fail
        go_quiet (fail)
        go_wp2_with fail
        go_ret
        refine ⟨w.heap.size, ?_, ?_⟩
        · rw [HS.out, if_pos (by omega)]; rfl
        · rw [HS.out]; exact HO.out.next ((Ext.refl wr).drewN nq)
end Go.Proofs.YtggfkpalkdkbdaaDoor

/- THE WALK over solve. -/
namespace Cd
theorem solTo_le {M : Nat} {T Ps : List (List UInt8)} {n : Nat} (h : ∀ q ∈ Ps, q.length ≤ M) : ∀ j i, ((solTo T Ps n j).getD i []).length ≤ M
  | 0, i => by
    have : (List.replicate n ([] : List UInt8)).getD i [] = [] := by
      rw [List.getD_eq_getElem?_getD, List.getElem?_replicate]
      split <;> rfl
    rw [solTo, this]
    simp
  | j + 1, i => by
    have ih := solTo_le (T := T) (n := n) h j
    rw [solTo]
    by_cases hk : Gf.firstNZ (T.getD (T.length - 1 - j) []) < (solTo T Ps n j).length
    · rw [getD_set hk]
      split
      · refine solRow_le ?_ ih _
        rw [List.getD_eq_getElem?_getD]
        cases hp : Ps[T.length - 1 - j]? with
        | none => simp
        | some q => exact h q (List.mem_of_getElem? hp)
      · exact ih i
    · rw [List.set_eq_of_length_le (by omega)]
      exact ih i
theorem solTo_next {T Ps : List (List UInt8)} {n j k : Nat} {r : List UInt8} {a : Nat} {p : List UInt8} (hk : T.length - 1 - j = k) (hr : T.getD k [] = r) (ha : Gf.firstNZ r = a) (hp : Ps.getD k [] = p) :
    solTo T Ps n (j + 1) = (solTo T Ps n j).set a (solRow r a (solTo T Ps n j) p r.length) := by
  rw [solTo, hk, hr, ha, hp]
end Cd
namespace Go.Proofs.YtggfkpalkdkbdaaDoor
open Go.RowKit
/-- Stairs that are read. -/
def StairsRd (w : World) (P : Nat) (T Ps : List (List UInt8)) (n : Nat) : Prop :=
  ∃ (A B : Option Addr) (cA cB : Nat), w.cell? ⟨P, 0, none⟩ = some (.slice A T.length cA) ∧ w.cell? ⟨P, 1, none⟩ = some (.slice B Ps.length cB) ∧ w.cell? ⟨P, 2, none⟩ = some (.int .i64 n) ∧ Rs (Rs RB) w (.slice A T.length cA) T ∧ Rs RS w (.slice B Ps.length cB) Ps
theorem StairsRd.ext {w w' : World} {P n : Nat} {T Ps : List (List UInt8)} (h : StairsRd w P T Ps n) (hx : Ext w w') : StairsRd w' P T Ps n := by
  obtain ⟨A, B, cA, cB, h1, h2, h3, h4, h5⟩ := h
  exact ⟨A, B, cA, cB, hx.cell h1, hx.cell h2, hx.cell h3, Rs.ext (Rs.ext RB.ext) _ _ _ _ hx h4, Rs.ext RS.ext _ _ _ _ hx h5⟩
theorem sv_nil : (Value.string ByteArray.empty) = sv [] := rfl
set_option maxRecDepth 100000 in
set_option maxHeartbeats 8000000 in
theorem cSolve_any (w : World) (P n : Nat) (T Ps : List (List UInt8)) (hT : Tab w) (hS : StairsRd w P T Ps n) (hn : n ≤ 16) (hTri : Cd.Tri n T) (hPl : Ps.length = n) (hM : ∀ q ∈ Ps, q.length ≤ 140737488351232) :
    Calls Tryd.prog 83 #[.pointer (some ⟨P, 0, none⟩)] w fun e w' => ∃ v, e = .returned v ∧ Rs RS w' v (Cd.sol T Ps n) ∧ Ext w w' := by
  obtain ⟨A, B, cA, cB, h0, h1, h2, hA, hB⟩ := hS
  have hlen := hTri.len
  have HT := Lib.hid hT
  have HA := Lib.hid hA
  have HB := Lib.hid hB
  have HTri := Lib.hid hTri
  have HM := Lib.hid hM
  rw [hlen] at h0
  rw [hPl] at h1
  have HC := Lib.hid (And.intro h0 (And.intro h1 h2))
  obtain ⟨i0, hi, hz0, hz1, hz2⟩ := info_parts info_str
  have HZ2 := Lib.hid hz2
  have HL := Lib.hid (And.intro hlen hPl)
  clear hT hA hB hTri hM hz2 hlen hPl
  go_enter Tryd.func83, Tryd.ntmps83
  go_wp2_with (refine wpList_make_full _ rfl (.tmp 12) (.tmp 12) 34 rfl w.heap.size 9 i0 (.string ByteArray.empty) 1 Tryd.underlying34 hi hz0 hz1 _ _ _ _ n rfl rfl rfl rfl (by rw [HZ2.out]; omega) (by unfold maxLen; omega) (Nat.le_refl _) ?_; intro w3 hown hgrow; have hx3 : Ext w w3 := (Ext.refl w).grown hgrow (fun k h => by cases h); have hO3 : Owns w w3 [⟨.slice (some ⟨w.heap.size, 0, none⟩) n n, 9, 1, n, (madeCells (Value.string ByteArray.empty).cells (n * 1)).toList⟩] := ((Owns.start w (L := []) (by simp)).behind hx3 hown); have HO3 := Lib.hid hO3; have h0' : w3.cell? ⟨P, 0, none⟩ = some (.slice A n cA) := hx3.cell HC.out.1; have h1' : w3.cell? ⟨P, 1, none⟩ = some (.slice B n cB) := hx3.cell HC.out.2.1; clear hown hgrow hx3 hO3)
  clear h0 h1 h2 h0' h1'
  have hO4 : Owns w w3 [⟨.slice (some ⟨w.heap.size, 0, none⟩) n n, 9, 1, n, (Cd.solTo T Ps n 0).map sv⟩] := by
    have h := HO3.out
    rw [Nat.mul_one] at h
    have e : (madeCells (Value.string ByteArray.empty).cells n).toList = (Cd.solTo T Ps n 0).map sv := by
      rw [Cd.solTo, List.map_replicate, ← sv_nil]
      exact toList_madeCells_one _ _
    rw [e] at h
    exact h
  have HO4 := Lib.hid hO4
  clear hO4
  go_loopw [4] (fun vk wr => ∃ (j : Nat) (k : Int), j ≤ n ∧ vk = .int .i64 k ∧ k = (n : Int) - 1 - j ∧ Hid (Owns w wr [⟨.slice (some ⟨w.heap.size, 0, none⟩) n n, 9, 1, n, (Cd.solTo T Ps n j).map sv⟩])) (fun vk _ => (intOf vk + 1).toNat)
  case atStart => exact ⟨0, _, Nat.zero_le _, rfl, by omega, HO4.out⟩
  case round =>
    obtain ⟨j, kk, hj, rfl, hkk, HI⟩ := hrel
    by_cases hlt : j < n
    · obtain ⟨k, rfl⟩ : ∃ k : Nat, kk = k := ⟨kk.toNat, by omega⟩
      have hkn : k < n := by omega
      have hkT : T.length - 1 - j = k := by rw [HL.out.1]; omega
      have hx := HI.out.ext
      have c0 : wr.cell? ⟨P, 0, none⟩ = some (.slice A n cA) := hx.cell HC.out.1
      have c1 : wr.cell? ⟨P, 1, none⟩ = some (.slice B n cB) := hx.cell HC.out.2.1
      obtain ⟨ad, u, rfl, hcell, hu⟩ := HA.out.at (i := k) (by rw [HL.out.1]; exact hkn)
      obtain ⟨RB', cRB, rfl, hrb⟩ := hu.form
      obtain ⟨bd, u2, rfl, hcell2, hu2⟩ := HB.out.at (i := k) (by rw [HL.out.2]; exact hkn)
      have hu2' : u2 = sv (Ps[k]'(by rw [HL.out.2]; exact hkn)) := hu2
      subst hu2'
      have hgr : T.getD k [] = T[k]'(by rw [HL.out.1]; exact hkn) := by rw [List.getD_eq_getElem?_getD, List.getElem?_eq_getElem (by rw [HL.out.1]; exact hkn)]; rfl
      have hgp : Ps.getD k [] = Ps[k]'(by rw [HL.out.2]; exact hkn) := by rw [List.getD_eq_getElem?_getD, List.getElem?_eq_getElem (by rw [HL.out.2]; exact hkn)]; rfl
      have hpm := HM.out _ (List.getElem_mem (show k < Ps.length by rw [HL.out.2]; exact hkn))
      have hw := HTri.out.wide k hkn
      have hf := HTri.out.first k hkn
      have hurd := hu.rd
      have hcr := hx.cell hcell
      have hcp := hx.cell hcell2
      rw [hgr] at hw hf
      obtain ⟨r, hr⟩ : ∃ r, T[k]'(by rw [HL.out.1]; exact hkn) = r := ⟨_, rfl⟩
      obtain ⟨p, hp⟩ : ∃ p, Ps[k]'(by rw [HL.out.2]; exact hkn) = p := ⟨_, rfl⟩
      rw [hr] at hw hf hurd hcr hgr
      rw [hp] at hcp hpm hgp
      have hnx := Cd.solTo_next (n := n) hkT hgr hf hgp
      have hle := Cd.solTo_le (T := T) (n := n) HM.out j
      have hsl := Cd.solTo_len T Ps n j
      obtain ⟨out, hout⟩ : ∃ out, Cd.solTo T Ps n j = out := ⟨_, rfl⟩
      rw [hout] at hnx hle hsl
      have hO := HI.out
      rw [hout] at hO
      have HNX := Lib.hid hnx
      have HLE := Lib.hid hle
      have HSL := Lib.hid hsl
      have HU := Lib.hid hurd
      have HO := Lib.hid hO
      have HWF := Lib.hid (And.intro hw hf)
      rw [hw] at hcr
      have HKK := Lib.hid (And.intro hkk hkT)
      have hcall := cFirst_any r RB' cRB wr (hurd.ext hx) (by omega)
      rw [Cd.first_eq, hf, hw] at hcall
      have HCALL := Lib.hid hcall
      clear hcall hw
      clear hnx hle hsl hurd hu hout hO hr hp hgr hgp hcell hcell2 hu2 hrb hx hf hkk hkT
      go_wp2_with fail
      refine HCALL.out.mono ?_
      rintro e w' ⟨rfl, rfl⟩
      go_wp2_with fail
      clear hcr hcp c0 c1
      go_loopw [5, 47] (fun vp vx w2 => ∃ i : Nat, i ≤ n ∧ vx = .int .i64 i ∧ vp = sv (Cd.solRow r k out p i) ∧ Hid (Owns w w2 [⟨.slice (some ⟨w.heap.size, 0, none⟩) n n, 9, 1, n, out.map sv⟩])) (fun _ vx _ => n - (intOf vx).toNat)
      case atStart => exact ⟨0, Nat.zero_le _, rfl, rfl, HO.out⟩
      case round =>
        obtain ⟨i, hi2, rfl, rfl, HJ⟩ := hrel
        by_cases hli : i < n
        · obtain ⟨rd, rfl, _, hrc⟩ := (HU.out.ext HJ.out.ext).at (k := i) (by rw [List.length_map, HWF.out.1]; exact hli)
          rw [List.getElem_map] at hrc
          have hri : r.getD i 0 = r[i]'(by rw [HWF.out.1]; exact hli) := by rw [List.getD_eq_getElem?_getD, List.getElem?_eq_getElem (by rw [HWF.out.1]; exact hli)]; rfl
          obtain ⟨x, hx⟩ : ∃ x, r[i]'(by rw [HWF.out.1]; exact hli) = x := ⟨_, rfl⟩
          rw [hx] at hrc hri
          have hno : ¬ (i ≠ k ∧ x ≠ 0) → Cd.solRow r k out p (i + 1) = Cd.solRow r k out p i := fun h => Cd.solRow_no (by rw [hri]; exact h)
          have hyes : i ≠ k → x ≠ 0 → Cd.solRow r k out p (i + 1) = Gf.sum (Cd.solRow r k out p i) (Gf.scale x (out.getD i [])) := fun h1 h2 => by
            have := Cd.solRow_yes (r := r) (a := k) (out := out) (p := p) (i := i) h1 (by rw [hri]; exact h2)
            rw [hri] at this
            exact this
          have hle1 := Cd.solRow_le (r := r) (a := k) hpm HLE.out i
          have hle2 := HLE.out i
          have hoc : wr.cell? ⟨w.heap.size, i, none⟩ = some (sv (out.getD i [])) := HJ.out.cell 0 rfl i (by rw [List.getElem?_map, List.getD_eq_getElem?_getD, List.getElem?_eq_getElem (by rw [HSL.out]; exact hli)]; rfl)
          have HNO := Lib.hid hno
          have HYES := Lib.hid hyes
          clear hno hyes hri hx
          obtain ⟨S, hS⟩ : ∃ S, Cd.solRow r k out p i = S := ⟨_, rfl⟩
          obtain ⟨o, ho⟩ : ∃ o, out.getD i [] = o := ⟨_, rfl⟩
          rw [hS] at HNO HYES hle1 ⊢
          rw [ho] at HYES hle2 hoc
          clear hS ho
          by_cases hik : i = k
          · have e1 : ((i : Int) != (k : Int)) = false := by rw [hik]; simp
            have hst := HNO.out (fun h => h.1 hik)
            have HST := Lib.hid hst
            clear hst hik
            go_wp2_with fail
            go_roundw
            case rel => exact ⟨i + 1, by omega, by go_num, by rw [HST.out], HJ.out⟩
            case measure => simp [intOf]; omega
          · have e1 : ((i : Int) != (k : Int)) = true := by rw [bne_iff_ne]; omega
            by_cases hx0 : x = 0
            · have hst := HNO.out (fun h => h.2 hx0)
              have HST := Lib.hid hst
              clear hst hik
              subst hx0
              go_wp2_with fail
              go_roundw
              case rel => exact ⟨i + 1, by omega, by go_num, by rw [HST.out], HJ.out⟩
              case measure => simp [intOf]; omega
            · have e2 : ((x.toNat : Int) != 0) = true := by
                rw [bne_iff_ne]
                intro h
                have h2 : x.toNat = 0 := by omega
                exact hx0 (UInt8.toNat_inj.1 h2)
              have hst := HYES.out hik hx0
              have HST := Lib.hid hst
              clear hst hik hx0
              go_wp2_with fail
              refine (scale_any x (sb o) _ (HT.out.ext HJ.out.ext) (by rw [size_sb]; exact hle2)).mono ?_
              rintro e w5 ⟨rfl, hx5⟩
              have HJ5 := Lib.hid (HJ.out.next hx5)
              clear hx5 hoc hrc
              go_wp2_with fail
              refine (sum_any (sb S) (sb (Gf.scale x o)) _ (by rw [size_sb]; exact hle1) (by rw [size_sb, Cd.scale_len]; exact hle2)).mono ?_
              rintro e w6 ⟨rfl, hx6⟩
              have HJ6 := Lib.hid (HJ5.out.next hx6)
              clear hx6
              go_wp2_with fail
              go_roundw
              case rel => exact ⟨i + 1, by omega, by go_num, by rw [HST.out], HJ6.out⟩
              case measure => simp [intOf]; omega
        · obtain rfl : i = n := by omega
          have hf9 : wr.frozen? ⟨w.heap.size, k, none⟩ = false := HJ.out.frozen 0 rfl k
          have hoc : wr.cell? ⟨w.heap.size, k, none⟩ = some (sv (out.getD k [])) := HJ.out.cell 0 rfl k (by rw [List.getElem?_map, List.getD_eq_getElem?_getD, List.getElem?_eq_getElem (by rw [HSL.out]; exact hkn)]; rfl)
          go_wp2_with fail
          go_roundw
          case rel => exact ⟨j + 1, _, by omega, rfl, by have := HKK.out.1; omega, by rw [HNX.out, List.map_set, HWF.out.1]; exact HJ.out.store 0 rfl k _⟩
          case measure => (have := HKK.out.1; simp [intOf]) <;> omega
    · obtain rfl : j = n := by omega
      have hrs : Rs RS wr (.slice (some ⟨w.heap.size, 0, none⟩) j j) (Cd.sol T Ps j) := by
        have h1 := HI.out.rd 0 rfl
        have h2 : (Cd.solTo T Ps j j).length = j := Cd.solTo_len _ _ _ _
        have h3 := Rs.of_rdS (c := j) h1 (by omega)
        rw [h2] at h3
        rw [Cd.sol, HL.out.1]
        exact h3
      have HRS := Lib.hid (And.intro hrs HI.out.ext)
      have hkk2 : kk = -1 := by omega
      subst hkk2
      clear hrs
      go_wp2_with fail
      go_ret
      exact ⟨_, rfl, HRS.out.1, HRS.out.2⟩
end Go.Proofs.YtggfkpalkdkbdaaDoor

/- THE WALK over sorted: its drawn region. -/
namespace Go.Proofs.YtggfkpalkdkbdaaDoor
open Go.RowKit
/-- Stairs that are put in order: what is there so far. -/
def SortOut (w0 w : World) (B : Nat) (S Ps : List (List UInt8)) (o : List Nat) (n : Nat) : Prop :=
  ∃ (X Y : Option Addr) (cX cY : Nat) (vs : List Value), vs.length = o.length ∧ (∀ i, i < o.length → Rs RB w0 (vs.getD i undef) (S.getD (o.getD i 0) [])) ∧
    Owns w0 w [⟨.slice (some ⟨B, 0, none⟩) 1 1, 122, 3, 1, [.slice X o.length cX, .slice Y o.length cY, .int .i64 n]⟩, ⟨.slice X o.length cX, 48, 1, o.length, vs⟩, ⟨.slice Y o.length cY, 9, 1, o.length, (Cd.byOrd Ps o).map sv⟩]
theorem SortOut.ext {w0 w : World} {B n : Nat} {S Ps : List (List UInt8)} {o : List Nat} (h : SortOut w0 w B S Ps o n) : Ext w0 w := by
  obtain ⟨X, Y, cX, cY, vs, _, _, h⟩ := h
  exact h.ext
theorem SortOut.start {w : World} {n : Nat} {S Ps : List (List UInt8)} : SortOut w (w.alloc (.cells #[.slice none 0 0, .slice none 0 0, .int .i64 n] 122)) w.heap.size S Ps [] n := by
  refine ⟨none, none, 0, 0, [], rfl, (fun i hi => absurd hi (by simp)), ?_⟩
  have h1 := (Owns.start w (L := [no, nilRow 48, nilRow 9]) (by intro r hr; simp [no, nilRow] at hr; rcases hr with rfl | rfl | rfl <;> simp)).new 0 #[.slice none 0 0, .slice none 0 0, .int .i64 n] 122 (by simp [maxLen])
  exact h1.one3
theorem SortOut.push {w0 w : World} {B n k cX cY : Nat} {X Y : Option Addr} {S Ps : List (List UInt8)} {o : List Nat} {vs : List Value} {v : Value} {Z Z' : LRow} (hl : vs.length = o.length) (hv : ∀ i, i < o.length → Rs RB w0 (vs.getD i undef) (S.getD (o.getD i 0) [])) (hk : Rs RB w0 v (S.getD k []))
    (h : Owns w0 w [⟨.slice (some ⟨B, 0, none⟩) 1 1, 122, 3, 1, [.slice X (o.length + 1) cX, .slice Y (o.length + 1) cY, .int .i64 n]⟩, ⟨.slice X (o.length + 1) cX, 48, 1, o.length + 1, vs ++ [v]⟩, ⟨.slice Y (o.length + 1) cY, 9, 1, o.length + 1, (Cd.byOrd Ps o).map sv ++ [sv (Ps.getD k [])]⟩, Z, Z']) : SortOut w0 w B S Ps (o ++ [k]) n := by
  refine ⟨X, Y, cX, cY, vs ++ [v], by simp [hl], fun i hi => ?_, ?_⟩
  · rw [Cd.getD_app, Cd.getD_app, hl]
    by_cases hik : i = o.length
    · rw [if_pos hik, if_pos hik]; exact hk
    · rw [if_neg hik, if_neg hik]; exact hv i (by simp at hi; omega)
  · have h2 := h.sublist (L' := [_, _, _]) (List.sublist_append_left [_, _, _] [Z, Z'])
    have e : (Cd.byOrd Ps (o ++ [k])).map sv = (Cd.byOrd Ps o).map sv ++ [sv (Ps.getD k [])] := by simp [Cd.byOrd]
    rw [List.length_append, e]
    exact h2
theorem SortOut.look {w0 w : World} {B n : Nat} {S Ps : List (List UInt8)} {o : List Nat} (h : SortOut w0 w B S Ps o n) : StairsRd w B (Cd.byOrd S o) (Cd.byOrd Ps o) n := by
  obtain ⟨X, Y, cX, cY, vs, hl, hv, hO⟩ := h
  have e1 : (Cd.byOrd S o).length = o.length := Cd.byOrd_len _ _
  have e2 : (Cd.byOrd Ps o).length = o.length := Cd.byOrd_len _ _
  have hlen : o.length ≤ 9223372036854775807 := by
    have h1 := (hO.row 1 rfl)
    rcases h1.2 with ⟨_, h0⟩ | ⟨g, cap, cur, _, _, _, hc, hm, _, _⟩
    · omega
    · unfold maxLen at hm; omega
  refine ⟨X, Y, cX, cY, ?_, ?_, hO.cell 0 rfl 2 rfl, ?_, ?_⟩
  · rw [e1]; exact hO.cell 0 rfl 0 rfl
  · rw [e2]; exact hO.cell 0 rfl 1 rfl
  · refine ⟨X, cX, rfl, by rw [e1]; exact hlen, fun i x hx => ?_⟩
    have hi : i < o.length := by rw [← e1]; exact (List.getElem?_eq_some_iff.1 hx).1
    have hg : x = S.getD (o.getD i 0) [] := by
      have := Cd.byOrd_get (S := S) hi
      rw [List.getD_eq_getElem?_getD, hx] at this
      exact this
    obtain ⟨ad, h1, h2, h3⟩ := hO.rd 1 rfl i (vs.getD i undef) (by rw [List.getD_eq_getElem?_getD, List.getElem?_eq_getElem (by omega)]; rfl)
    exact ⟨ad, _, h1, h3, by rw [hg]; exact Rs.ext RB.ext _ _ _ _ hO.ext (hv i hi)⟩
  · have h1 := Rs.of_rdS (c := cY) (hO.rd 2 rfl) (by rw [e2]; exact hlen)
    rw [e2] at h1 ⊢
    exact h1
noncomputable def sorted_region_code : Code := ((Tryd.f49.body.bind (regionOf 9)).getD .skip)
def sorted_region_dsts : List (Option Nat) := [some 34, some 35, some 36, some 37, some 38, some 39, some 40, some 41, some 42, some 43, some 44, some 45, some 46, some 47, some 48, some 49, some 50, some 51, some 52, some 53, some 54, some 55, some 56, some 57, none, some 58, some 59, none]
theorem sorted_region_apart : apartD sorted_region_dsts = true := by decide +kernel
set_option maxRecDepth 1000000 in
set_option maxHeartbeats 16000000 in
theorem sorted_region (w wr : World) (P n k cRB cX cY cB : Nat) (RB X Y : Option Addr) (bd : Addr) (p : List UInt8) (S Ps : List (List UInt8)) (o : List Nat) (vs : List Value) (HC : Hid (w.cell? ⟨P, 1, none⟩ = some (.slice (some bd) n cB) ∧ w.cell? (bd.add k) = some (sv p))) (HOO : Hid (Owns w wr.drew [⟨.slice (some ⟨w.heap.size, 0, none⟩) 1 1, 122, 3, 1, [.slice X o.length cX, .slice Y o.length cY, .int .i64 n]⟩, ⟨.slice X o.length cX, 48, 1, o.length, vs⟩, ⟨.slice Y o.length cY, 9, 1, o.length, (Cd.byOrd Ps o).map sv⟩, no, no])) (hol : o.length ≤ 32) (hkn : k < n) (HVL : Hid (vs.length = o.length ∧ ∀ i, i < o.length → Rs Go.Proofs.YtggfkpalkdkbdaaDoor.RB w (vs.getD i undef) (S.getD (o.getD i 0) []))) (HU : Hid (Rs Go.Proofs.YtggfkpalkdkbdaaDoor.RB w (.slice RB n cRB) (S.getD k []))) (HGP : Hid (Ps.getD k [] = p)) (c1 c2 c4 c7 c8 c9 c10 c11 c12 c13 c14 c15 c16 c17 c18 c19 c20 c21 c22 c23 c24 c25 c26 c27 c28 c29 c30 c31 c32 c33 c34 c35 c36 c37 c38 c39 c40 c41 c42 c43 c44 c45 c46 c47 c48 c49 c50 c51 c52 c53 c54 c55 c56 c57 c58 c59 c60 c61 c62 c63 : Value) (df : List Deferred) (K : Act → World → Prop)
    (hK : ∀ (u34 u35 u36 u37 u38 u39 u40 u41 u42 u43 u44 u45 u46 u47 u48 u49 u50 u51 u52 u53 u54 u55 u56 u57 u58 u59 : Value) (wx : World), Hid (SortOut w wx w.heap.size S Ps (o ++ [k]) n) → K ⟨#[.pointer (some ⟨P, 0, none⟩), c1, c2, .pointer (some ⟨w.heap.size, 0, none⟩), c4, .int .i64 k, .slice RB n cRB, c7, c8, c9, c10, c11, c12, c13, c14, c15, c16, c17, c18, c19, c20, c21, c22, c23, c24, c25, c26, c27, c28, c29, c30, c31, c32, c33, u34, u35, u36, u37, u38, u39, u40, u41, u42, u43, u44, u45, u46, u47, u48, u49, u50, u51, u52, u53, u54, u55, u56, u57, u58, u59, c60, c61, c62, c63], df⟩ wx) :
    Code.wp Tryd.prog sorted_region_code (AtEnd K) ⟨#[.pointer (some ⟨P, 0, none⟩), c1, c2, .pointer (some ⟨w.heap.size, 0, none⟩), c4, .int .i64 k, .slice RB n cRB, c7, c8, c9, c10, c11, c12, c13, c14, c15, c16, c17, c18, c19, c20, c21, c22, c23, c24, c25, c26, c27, c28, c29, c30, c31, c32, c33, c34, c35, c36, c37, c38, c39, c40, c41, c42, c43, c44, c45, c46, c47, c48, c49, c50, c51, c52, c53, c54, c55, c56, c57, c58, c59, c60, c61, c62, c63], df⟩ wr := by
  conv => arg 2; whnf
  refine region_inv (by kernel_rfl) [[], [], [], [2], [3], [4], [], [6], [5, 7], [], [9], [10], [11], [], [13], [14], [15], [], [16, 17], [18], [19], [12, 20, 8], [0, 0, 2, 3, 4, 5, 6, 7, 8, 12, 16, 19, 21], [22, 0, 2, 3, 4, 5, 6, 7, 8, 12, 16, 19, 21], [23, 8, 21, 0, 2, 3, 4, 5, 6, 7, 8, 12, 16, 19, 21], [1, 0, 1, 2, 3, 4, 5, 6, 7, 8, 9, 10, 11, 12, 13, 14, 15, 16, 17, 18, 19, 20, 21, 22, 23, 24], [25, 0, 1, 2, 3, 4, 5, 6, 7, 8, 9, 10, 11, 12, 13, 14, 15, 16, 17, 18, 19, 20, 21, 22, 23, 24], [26, 21, 24, 0, 1, 2, 3, 4, 5, 6, 7, 8, 9, 10, 11, 12, 13, 14, 15, 16, 17, 18, 19, 20, 21, 22, 23, 24]] (by kernel_rfl) [0, 1, 2, 3, 4, 5, 6, 7, 8, 9, 10, 11, 12, 13, 14, 15, 16, 17, 18, 19, 20, 21, 22, 23, 24, 25, 26, 27] (by decide +kernel) (by decide +kernel) (by decide +kernel) (fun L a wc => ∃ g7 g8 k8 g20 g21 k21 : Nat, Inv sorted_region_dsts [.pointer (some ⟨w.heap.size, 0, none⟩), .pointer (some ⟨w.heap.size, 0, none⟩), .pointer (some ⟨w.heap.size, 0, none⟩), .pointer (some ⟨w.heap.size, 0, none⟩), .pointer (some ⟨w.heap.size, 0, none⟩), .slice X o.length cX, .slice RB n cRB, .slice (some ⟨g7, 0, none⟩) 1 1, .slice (some ⟨g8, 0, none⟩) (o.length + 1) k8, .pointer (some ⟨w.heap.size, 0, none⟩), .pointer (some ⟨w.heap.size, 0, none⟩), .pointer (some ⟨w.heap.size, 1, none⟩), .slice Y o.length cY, .pointer (some ⟨P, 0, none⟩), .pointer (some ⟨P, 0, none⟩), .pointer (some ⟨P, 1, none⟩), .slice (some bd) n cB, .int .i64 k, .pointer (some (bd.add k)), sv p, .slice (some ⟨g20, 0, none⟩) 1 1, .slice (some ⟨g21, 0, none⟩) (o.length + 1) k21, .pointer (some ⟨w.heap.size, 0, none⟩), .pointer (some ⟨w.heap.size, 0, none⟩), undef, .pointer (some ⟨w.heap.size, 0, none⟩), .pointer (some ⟨w.heap.size, 1, none⟩), undef] ⟨#[.pointer (some ⟨P, 0, none⟩), c1, c2, .pointer (some ⟨w.heap.size, 0, none⟩), c4, .int .i64 k, .slice RB n cRB, c7, c8, c9, c10, c11, c12, c13, c14, c15, c16, c17, c18, c19, c20, c21, c22, c23, c24, c25, c26, c27, c28, c29, c30, c31, c32, c33, c34, c35, c36, c37, c38, c39, c40, c41, c42, c43, c44, c45, c46, c47, c48, c49, c50, c51, c52, c53, c54, c55, c56, c57, c58, c59, c60, c61, c62, c63], df⟩ L a ∧ Hid (Owns w wc [⟨.slice (some ⟨w.heap.size, 0, none⟩) 1 1, 122, 3, 1, [if L 24 = true then .slice (some ⟨g8, 0, none⟩) (o.length + 1) k8 else .slice X o.length cX, if L 27 = true then .slice (some ⟨g21, 0, none⟩) (o.length + 1) k21 else .slice Y o.length cY, .int .i64 n]⟩, (if L 8 = true then ⟨.slice (some ⟨g8, 0, none⟩) (o.length + 1) k8, 48, 1, o.length + 1, vs ++ [.slice RB n cRB]⟩ else ⟨.slice X o.length cX, 48, 1, o.length, vs⟩), (if L 21 = true then ⟨.slice (some ⟨g21, 0, none⟩) (o.length + 1) k21, 9, 1, o.length + 1, (Cd.byOrd Ps o).map sv ++ [sv p]⟩ else ⟨.slice Y o.length cY, 9, 1, o.length, (Cd.byOrd Ps o).map sv⟩), (if L 7 = true then ⟨.slice (some ⟨g7, 0, none⟩) 1 1, 48, 1, 1, [.slice RB n cRB]⟩ else no), (if L 20 = true then ⟨.slice (some ⟨g20, 0, none⟩) 1 1, 9, 1, 1, [sv p]⟩ else no)])) ⟨0, 0, 0, 0, 0, 0, Inv.start, HOO⟩ ?_ ?_
  · refine ⟨?_, ?_, ?_, ?_, ?_, ?_, ?_, ?_, ?_, ?_, ?_, ?_, ?_, ?_, ?_, ?_, ?_, ?_, ?_, ?_, ?_, ?_, ?_, ?_, ?_, ?_, ?_, ?_, trivial⟩
    ·
      rintro L a wc ⟨g7, g8, k8, g20, g21, k21, hv, HO⟩ hL hc hd
      exact wpOp_value rfl rfl (ex_move rfl ((hv.fixed 3 (by decide)).trans rfl)) ⟨g7, g8, k8, g20, g21, k21, hv.put sorted_region_apart 0 rfl (lb rfl) (lb rfl) rfl, HO⟩
    ·
      rintro L a wc ⟨g7, g8, k8, g20, g21, k21, hv, HO⟩ hL hc hd
      exact wpOp_value rfl rfl (ex_move rfl ((hv.fixed 3 (by decide)).trans rfl)) ⟨g7, g8, k8, g20, g21, k21, hv.put sorted_region_apart 1 rfl (lb rfl) (lb rfl) rfl, HO⟩
    ·
      rintro L a wc ⟨g7, g8, k8, g20, g21, k21, hv, HO⟩ hL hc hd
      exact wpOp_value rfl rfl (ex_move rfl ((hv.fixed 3 (by decide)).trans rfl)) ⟨g7, g8, k8, g20, g21, k21, hv.put sorted_region_apart 2 rfl (lb rfl) (lb rfl) rfl, HO⟩
    ·
      rintro L a wc ⟨g7, g8, k8, g20, g21, k21, hv, HO⟩ hL hc hd
      exact wpOp_value rfl rfl (ex_nil rfl (hv.get 2 rfl rfl (hd 2 (by decide)))) ⟨g7, g8, k8, g20, g21, k21, hv.put sorted_region_apart 3 rfl (lb rfl) (lb rfl) rfl, HO⟩
    ·
      rintro L a wc ⟨g7, g8, k8, g20, g21, k21, hv, HO⟩ hL hc hd
      exact wpOp_value rfl rfl (ex_field rfl (hv.get 3 rfl rfl (hd 3 (by decide))) (by go_simp)) ⟨g7, g8, k8, g20, g21, k21, hv.put sorted_region_apart 4 rfl (lb rfl) (lb rfl) rfl, HO⟩
    ·
      rintro L a wc ⟨g7, g8, k8, g20, g21, k21, hv, HO⟩ hL hc hd
      have n24 : L 24 = false := Bool.eq_false_iff.2 fun h => Bool.false_ne_true (hL.symm.trans (hc 24 h 5 (by decide)))
      have e0 : wc.cell? ⟨w.heap.size, 0, none⟩ = some (.slice X o.length cX) := by have h := HO.out.cell 0 rfl 0 rfl; rw [if_neg (by simp [n24])] at h; exact h
      exact wpOp_value rfl rfl (ex_load rfl (hv.get 4 rfl rfl (hd 4 (by decide))) (by go_simp)) ⟨g7, g8, k8, g20, g21, k21, hv.put sorted_region_apart 5 rfl (lb rfl) (lb rfl) rfl, HO⟩
    ·
      rintro L a wc ⟨g7, g8, k8, g20, g21, k21, hv, HO⟩ hL hc hd
      exact wpOp_value rfl rfl (ex_move rfl ((hv.fixed 6 (by decide)).trans rfl)) ⟨g7, g8, k8, g20, g21, k21, hv.put sorted_region_apart 6 rfl (lb rfl) (lb rfl) rfl, HO⟩
    ·
      rintro L a wc ⟨g7, g8, k8, g20, g21, k21, hv, HO⟩ hL hc hd
      have n7 := hL
      have hn := HO.out.new 3 #[.slice RB n cRB] 48 (by simp [maxLen])
      exact wpOp_value rfl rfl (ex_build rfl Tryd.underlying76 info_bytes (hv.get 6 rfl rfl (hd 6 (by decide))) rfl) ⟨wc.heap.size, g8, k8, g20, g21, k21, hv.put sorted_region_apart 7 rfl (lb rfl) (lb rfl) rfl, Lib.hid hn⟩
    ·
      rintro L a wc ⟨g7, g8, k8, g20, g21, k21, hv, HO⟩ hL hc hd
      refine wpOp_append rfl rfl 76 48 rfl Tryd.underlying76 info_bytes rfl HO.out 1 (congrArg some (if_neg (by simp [hL]))) (hv.get 5 rfl rfl (hd 5 (by decide))) (hv.get 7 rfl rfl (hd 7 (by decide))) (HO.out.cell 3 (congrArg some (if_pos (hd 7 (by decide)))) 0 rfl) rfl (by omega) (by decide) ?_
      intro gg cc w2 hO2
      have n24 : L 24 = false := Bool.eq_false_iff.2 fun h => Bool.false_ne_true (hL.symm.trans (hc 24 h 8 (by decide)))
      have e24 : (if L 24 = true then (.slice (some ⟨g8, 0, none⟩) (o.length + 1) k8 : Value) else .slice X o.length cX) = (if L 24 = true then .slice (some ⟨gg, 0, none⟩) (o.length + 1) cc else .slice X o.length cX) := by rw [if_neg (by simp [n24]), if_neg (by simp [n24])]
      rw [e24] at hO2
      exact ⟨g7, gg, cc, g20, g21, k21, hv.put sorted_region_apart 8 rfl (lb rfl) (lb rfl) rfl, Lib.hid hO2⟩
    ·
      rintro L a wc ⟨g7, g8, k8, g20, g21, k21, hv, HO⟩ hL hc hd
      exact wpOp_value rfl rfl (ex_move rfl ((hv.fixed 3 (by decide)).trans rfl)) ⟨g7, g8, k8, g20, g21, k21, hv.put sorted_region_apart 9 rfl (lb rfl) (lb rfl) rfl, HO⟩
    ·
      rintro L a wc ⟨g7, g8, k8, g20, g21, k21, hv, HO⟩ hL hc hd
      exact wpOp_value rfl rfl (ex_nil rfl (hv.get 9 rfl rfl (hd 9 (by decide)))) ⟨g7, g8, k8, g20, g21, k21, hv.put sorted_region_apart 10 rfl (lb rfl) (lb rfl) rfl, HO⟩
    ·
      rintro L a wc ⟨g7, g8, k8, g20, g21, k21, hv, HO⟩ hL hc hd
      exact wpOp_value rfl rfl (ex_field rfl (hv.get 10 rfl rfl (hd 10 (by decide))) (by go_simp)) ⟨g7, g8, k8, g20, g21, k21, hv.put sorted_region_apart 11 rfl (lb rfl) (lb rfl) rfl, HO⟩
    ·
      rintro L a wc ⟨g7, g8, k8, g20, g21, k21, hv, HO⟩ hL hc hd
      have n27 : L 27 = false := Bool.eq_false_iff.2 fun h => Bool.false_ne_true (hL.symm.trans (hc 27 h 12 (by decide)))
      have e1 : wc.cell? ⟨w.heap.size, 1, none⟩ = some (.slice Y o.length cY) := by have h := HO.out.cell 0 rfl 1 rfl; rw [if_neg (by simp [n27])] at h; exact h
      exact wpOp_value rfl rfl (ex_load rfl (hv.get 11 rfl rfl (hd 11 (by decide))) (by go_simp)) ⟨g7, g8, k8, g20, g21, k21, hv.put sorted_region_apart 12 rfl (lb rfl) (lb rfl) rfl, HO⟩
    ·
      rintro L a wc ⟨g7, g8, k8, g20, g21, k21, hv, HO⟩ hL hc hd
      exact wpOp_value rfl rfl (ex_move rfl ((hv.fixed 0 (by decide)).trans rfl)) ⟨g7, g8, k8, g20, g21, k21, hv.put sorted_region_apart 13 rfl (lb rfl) (lb rfl) rfl, HO⟩
    ·
      rintro L a wc ⟨g7, g8, k8, g20, g21, k21, hv, HO⟩ hL hc hd
      exact wpOp_value rfl rfl (ex_nil rfl (hv.get 13 rfl rfl (hd 13 (by decide)))) ⟨g7, g8, k8, g20, g21, k21, hv.put sorted_region_apart 14 rfl (lb rfl) (lb rfl) rfl, HO⟩
    ·
      rintro L a wc ⟨g7, g8, k8, g20, g21, k21, hv, HO⟩ hL hc hd
      exact wpOp_value rfl rfl (ex_field rfl (hv.get 14 rfl rfl (hd 14 (by decide))) (by go_simp)) ⟨g7, g8, k8, g20, g21, k21, hv.put sorted_region_apart 15 rfl (lb rfl) (lb rfl) rfl, HO⟩
    ·
      rintro L a wc ⟨g7, g8, k8, g20, g21, k21, hv, HO⟩ hL hc hd
      have cP : wc.cell? ⟨P, 1, none⟩ = some (.slice (some bd) n cB) := HO.out.ext.cell HC.out.1
      exact wpOp_value rfl rfl (ex_load rfl (hv.get 15 rfl rfl (hd 15 (by decide))) (by go_simp)) ⟨g7, g8, k8, g20, g21, k21, hv.put sorted_region_apart 16 rfl (lb rfl) (lb rfl) rfl, HO⟩
    ·
      rintro L a wc ⟨g7, g8, k8, g20, g21, k21, hv, HO⟩ hL hc hd
      exact wpOp_value rfl rfl (ex_move rfl ((hv.fixed 5 (by decide)).trans rfl)) ⟨g7, g8, k8, g20, g21, k21, hv.put sorted_region_apart 17 rfl (lb rfl) (lb rfl) rfl, HO⟩
    ·
      rintro L a wc ⟨g7, g8, k8, g20, g21, k21, hv, HO⟩ hL hc hd
      have b1 : (0 : Int) ≤ (k : Int) := by omega
      have b2 : (k : Int) < (n : Int) := by omega
      exact wpOp_value rfl rfl (ex_index rfl (hv.get 16 rfl rfl (hd 16 (by decide))) (hv.get 17 rfl rfl (hd 17 (by decide))) (by go_simp)) ⟨g7, g8, k8, g20, g21, k21, hv.put sorted_region_apart 18 rfl (lb rfl) (lb rfl) rfl, HO⟩
    ·
      rintro L a wc ⟨g7, g8, k8, g20, g21, k21, hv, HO⟩ hL hc hd
      have cQ : wc.cell? (bd.add k) = some (sv p) := HO.out.ext.cell HC.out.2
      exact wpOp_value rfl rfl (ex_load rfl (hv.get 18 rfl rfl (hd 18 (by decide))) (by go_simp)) ⟨g7, g8, k8, g20, g21, k21, hv.put sorted_region_apart 19 rfl (lb rfl) (lb rfl) rfl, HO⟩
    ·
      rintro L a wc ⟨g7, g8, k8, g20, g21, k21, hv, HO⟩ hL hc hd
      have n20 := hL
      have hn := HO.out.new 4 #[sv p] 9 (by simp [maxLen])
      exact wpOp_value rfl rfl (ex_build rfl Tryd.underlying34 info_str (hv.get 19 rfl rfl (hd 19 (by decide))) rfl) ⟨g7, g8, k8, wc.heap.size, g21, k21, hv.put sorted_region_apart 20 rfl (lb rfl) (lb rfl) rfl, Lib.hid hn⟩
    ·
      rintro L a wc ⟨g7, g8, k8, g20, g21, k21, hv, HO⟩ hL hc hd
      refine wpOp_append rfl rfl 34 9 rfl Tryd.underlying34 info_str rfl HO.out 2 (congrArg some (if_neg (by simp [hL]))) (hv.get 12 rfl rfl (hd 12 (by decide))) (hv.get 20 rfl rfl (hd 20 (by decide))) (HO.out.cell 4 (congrArg some (if_pos (hd 20 (by decide)))) 0 rfl) rfl (by omega) (by decide) ?_
      intro gg cc w2 hO2
      have n27 : L 27 = false := Bool.eq_false_iff.2 fun h => Bool.false_ne_true (hL.symm.trans (hc 27 h 21 (by decide)))
      have e27 : (if L 27 = true then (.slice (some ⟨g21, 0, none⟩) (o.length + 1) k21 : Value) else .slice Y o.length cY) = (if L 27 = true then .slice (some ⟨gg, 0, none⟩) (o.length + 1) cc else .slice Y o.length cY) := by rw [if_neg (by simp [n27]), if_neg (by simp [n27])]
      rw [e27] at hO2
      exact ⟨g7, g8, k8, g20, gg, cc, hv.put sorted_region_apart 21 rfl (lb rfl) (lb rfl) rfl, Lib.hid hO2⟩
    ·
      rintro L a wc ⟨g7, g8, k8, g20, g21, k21, hv, HO⟩ hL hc hd
      exact wpOp_value rfl rfl (ex_nil rfl (hv.get 0 rfl rfl (hd 0 (by decide)))) ⟨g7, g8, k8, g20, g21, k21, hv.put sorted_region_apart 22 rfl (lb rfl) (lb rfl) rfl, HO⟩
    ·
      rintro L a wc ⟨g7, g8, k8, g20, g21, k21, hv, HO⟩ hL hc hd
      exact wpOp_value rfl rfl (ex_field rfl (hv.get 22 rfl rfl (hd 22 (by decide))) (by go_simp)) ⟨g7, g8, k8, g20, g21, k21, hv.put sorted_region_apart 23 rfl (lb rfl) (lb rfl) rfl, HO⟩
    ·
      rintro L a wc ⟨g7, g8, k8, g20, g21, k21, hv, HO⟩ hL hc hd
      have f0 : wc.frozen? ⟨w.heap.size, 0, none⟩ = false := HO.out.frozen 0 rfl 0
      have n27 : L 27 = false := Bool.eq_false_iff.2 fun h => Bool.false_ne_true (hL.symm.trans (hc 27 h 24 (by decide)))
      have e0 : wc.cell? ⟨w.heap.size, 0, none⟩ = some (if L 24 = true then .slice (some ⟨g8, 0, none⟩) (o.length + 1) k8 else .slice X o.length cX) := HO.out.cell 0 rfl 0 rfl
      have hst := HO.out.store 0 rfl 0 (.slice (some ⟨g8, 0, none⟩) (o.length + 1) k8)
      exact wpOp_skip rfl rfl rfl (ex_store rfl (hv.get 23 rfl rfl (hd 23 (by decide))) (hv.get 8 rfl rfl (hd 8 (by decide))) (by go_simp)) ⟨g7, g8, k8, g20, g21, k21, hv.skip 24 rfl, Lib.hid hst⟩
    ·
      rintro L a wc ⟨g7, g8, k8, g20, g21, k21, hv, HO⟩ hL hc hd
      exact wpOp_value rfl rfl (ex_nil rfl (hv.get 1 rfl rfl (hd 1 (by decide)))) ⟨g7, g8, k8, g20, g21, k21, hv.put sorted_region_apart 25 rfl (lb rfl) (lb rfl) rfl, HO⟩
    ·
      rintro L a wc ⟨g7, g8, k8, g20, g21, k21, hv, HO⟩ hL hc hd
      exact wpOp_value rfl rfl (ex_field rfl (hv.get 25 rfl rfl (hd 25 (by decide))) (by go_simp)) ⟨g7, g8, k8, g20, g21, k21, hv.put sorted_region_apart 26 rfl (lb rfl) (lb rfl) rfl, HO⟩
    ·
      rintro L a wc ⟨g7, g8, k8, g20, g21, k21, hv, HO⟩ hL hc hd
      have f1 : wc.frozen? ⟨w.heap.size, 1, none⟩ = false := HO.out.frozen 0 rfl 1
      have e1 : wc.cell? ⟨w.heap.size, 1, none⟩ = some (if L 27 = true then .slice (some ⟨g21, 0, none⟩) (o.length + 1) k21 else .slice Y o.length cY) := HO.out.cell 0 rfl 1 rfl
      have hst := HO.out.store 0 rfl 1 (.slice (some ⟨g21, 0, none⟩) (o.length + 1) k21)
      exact wpOp_skip rfl rfl rfl (ex_store rfl (hv.get 26 rfl rfl (hd 26 (by decide))) (hv.get 21 rfl rfl (hd 21 (by decide))) (by go_simp)) ⟨g7, g8, k8, g20, g21, k21, hv.skip 27 rfl, Lib.hid hst⟩
  · rintro L a wc ⟨g7, g8, k8, g20, g21, k21, hv, HO⟩ hall
    show K a wc
    have ha := act_n rl64 hv.size hv.defers rfl
    simp +decide only [hv.fixed] at ha
    rw [ha]
    have hO := HO.out
    simp only [hall 7 (by decide), hall 8 (by decide), hall 20 (by decide), hall 21 (by decide), hall 24 (by decide), hall 27 (by decide), if_true] at hO
    exact hK _ _ _ _ _ _ _ _ _ _ _ _ _ _ _ _ _ _ _ _ _ _ _ _ _ _ _ (Lib.hid (SortOut.push (S := S) (Ps := Ps) (k := k) HVL.out.1 HVL.out.2 HU.out (by rw [HGP.out]; exact hO)))
end Go.Proofs.YtggfkpalkdkbdaaDoor

/- THE WALK over sorted. -/
namespace Go.Proofs.YtggfkpalkdkbdaaDoor
open Go.RowKit
theorem wp_atEnd' {P : Program} {c : Code} {Q : Exit → Act → World → Prop} {a : Act} {w : World} (h : Code.wp P c (AtEnd fun a w => Q .normal a w) a w) : Code.wp P c Q a w :=
  Code.wp_mono (fun e a w hr => by
    cases e with
    | normal => exact hr
    | _ => exact (hr : False).elim) h
set_option maxRecDepth 100000 in
set_option maxHeartbeats 8000000 in
theorem cSorted_any (w : World) (P n : Nat) (S Ps : List (List UInt8)) (hT : Tab w) (hS : StairsRd w P S Ps n) (hn : n ≤ 16) (hst : Gf.Stairs n S) (hl : S.length = n) (hPl : Ps.length = n) (hM : ∀ q ∈ Ps, q.length ≤ 140737488351232) (hTri : Cd.Tri n (Cd.byOrd S (Cd.ordTo S n))) :
    Calls Tryd.prog 49 #[.pointer (some ⟨P, 0, none⟩)] w fun e w' => ∃ v, e = .returned v ∧ Rs RS w' v (Cd.sol (Cd.byOrd S (Cd.ordTo S n)) (Cd.byOrd Ps (Cd.ordTo S n)) n) ∧ Ext w w' := by
  obtain ⟨A, B, cA, cB, h0, h1, h2, hA, hB⟩ := hS
  have HT := Lib.hid hT
  have HA := Lib.hid hA
  have HB := Lib.hid hB
  have HST := Lib.hid hst
  have HM := Lib.hid hM
  have HTri := Lib.hid hTri
  rw [hl] at h0
  rw [hPl] at h1
  have HC := Lib.hid (And.intro h0 (And.intro h1 h2))
  have HL := Lib.hid (And.intro hl hPl)
  have HS0 := Lib.hid (SortOut.start (w := w) (n := n) (S := S) (Ps := Ps))
  have h2' : (w.alloc (.cells #[.slice none 0 0, .slice none 0 0, .int .i64 n] 122)).cell? ⟨P, 2, none⟩ = some (.int .i64 n) := ((Ext.refl w).alloc _).cell h2
  clear hT hA hB hM hTri hl hPl hst
  go_enter Tryd.func49, Tryd.ntmps49
  go_wp2_with fail
  clear h0 h1 h2 h2'
  go_loopw [17] (fun va wr => ∃ a : Nat, a ≤ n ∧ va = .int .i64 a ∧ Hid (SortOut w wr w.heap.size S Ps (Cd.ordTo S a) n)) (fun va _ => n - (intOf va).toNat)
  case atStart => exact ⟨0, Nat.zero_le _, rfl, HS0.out⟩
  case round =>
    obtain ⟨a, ha, rfl, HI⟩ := hrel
    by_cases hlt : a < n
    · have c0 : wr.cell? ⟨P, 0, none⟩ = some (.slice A n cA) := HI.out.ext.cell HC.out.1
      go_wp2_with fail
      clear c0
      go_loopw [25] (fun vk wr => ∃ k : Nat, k ≤ n ∧ vk = .int .i64 k ∧ Hid (SortOut w wr w.heap.size S Ps (Cd.ordTo S a ++ Cd.atTo S a k) n)) (fun vk _ => n - (intOf vk).toNat)
      case atStart => exact ⟨0, Nat.zero_le _, rfl, by rw [Cd.atTo_zero, List.append_nil]; exact HI.out⟩
      case round =>
        obtain ⟨k, hk, rfl, HJ⟩ := hrel
        by_cases hltk : k < n
        · obtain ⟨o, ho⟩ : ∃ o, Cd.ordTo S a ++ Cd.atTo S a k = o := ⟨_, rfl⟩
          have hJ := HJ.out
          have hol : o.length ≤ 32 := by
            have q1 := (Cd.ordTo_spec HST.out HL.out.1 a (by omega)).1
            have q2 : (Cd.atTo S a k).length ≤ k := by
              have := List.length_filter_le (fun i => Gf.firstNZ (S.getD i []) == a) (List.range k)
              rw [List.length_range] at this
              exact this
            rw [← ho, List.length_append]
            omega
          rw [ho] at hJ
          have hx := hJ.ext
          obtain ⟨ad, u, rfl, hcell, hu⟩ := HA.out.at (i := k) (by rw [HL.out.1]; exact hltk)
          obtain ⟨RB', cRB, rfl, hrb⟩ := hu.form
          have hgr : S.getD k [] = S[k]'(by rw [HL.out.1]; exact hltk) := by rw [List.getD_eq_getElem?_getD, List.getElem?_eq_getElem (by rw [HL.out.1]; exact hltk)]; rfl
          have hw := HST.out.len _ (List.getElem_mem (show k < S.length by rw [HL.out.1]; exact hltk))
          have hcr := hx.cell hcell
          have hurd := hu.rd
          obtain ⟨r, hr⟩ : ∃ r, S[k]'(by rw [HL.out.1]; exact hltk) = r := ⟨_, rfl⟩
          rw [hr] at hw hcr hgr hurd hu
          have hcall := cFirst_any r RB' cRB wr (hurd.ext hx) (by omega)
          rw [Cd.first_eq, hw] at hcall
          rw [hw] at hcr hu
          have hyes := fun h => Cd.atTo_yes (S := S) (a := a) (k := k) h
          have hno := fun h => Cd.atTo_no (S := S) (a := a) (k := k) h
          rw [hgr] at hyes hno
          obtain ⟨f, hf⟩ : ∃ f, Gf.firstNZ r = f := ⟨_, rfl⟩
          rw [hf] at hcall hyes hno
          have HCALL := Lib.hid hcall
          have HY := Lib.hid hyes
          have HN := Lib.hid hno
          have HU := Lib.hid hu
          have HGR := Lib.hid hgr
          have HJ2 := Lib.hid hJ
          have HO := Lib.hid ho
          clear hcall hyes hno hu hgr hJ hw hurd hr hf hrb hcell ho
          by_cases hfa : f = a
          · have e1 : ((f : Int) == (a : Int)) = true := by rw [hfa]; simp
            have hst := HY.out hfa
            have HST2 := Lib.hid hst
            obtain ⟨X, Y, cX, cY, vs, hvl, hv, hOO⟩ := HJ2.out
            obtain ⟨bd, u2, rfl, hcell2, hu2⟩ := HB.out.at (i := k) (by rw [HL.out.2]; exact hltk)
            have hu2' : u2 = sv (Ps[k]'(by rw [HL.out.2]; exact hltk)) := hu2
            subst hu2'
            have hgp : Ps.getD k [] = Ps[k]'(by rw [HL.out.2]; exact hltk) := by rw [List.getD_eq_getElem?_getD, List.getElem?_eq_getElem (by rw [HL.out.2]; exact hltk)]; rfl
            have hcp := hx.cell hcell2
            obtain ⟨p, hp⟩ : ∃ p, Ps[k]'(by rw [HL.out.2]; exact hltk) = p := ⟨_, rfl⟩
            rw [hp] at hcp hgp hcell2
            have HPC := Lib.hid hcell2
            have c1 : wr.cell? ⟨P, 1, none⟩ = some (.slice (some bd) n cB) := hx.cell HC.out.2.1
            have t0 : wr.cell? ⟨w.heap.size, 0, none⟩ = some (.slice X o.length cX) := hOO.cell 0 rfl 0 rfl
            have t1 : wr.cell? ⟨w.heap.size, 1, none⟩ = some (.slice Y o.length cY) := hOO.cell 0 rfl 1 rfl
            have HOO := Lib.hid hOO.wider.wider.drew
            have HVL := Lib.hid (And.intro hvl hv)
            have HGP := Lib.hid hgp
            have HX := Lib.hid hx
            clear hst hfa hvl hv hOO hcell2 hu2 hgp hp hx
            go_wp2_with fail
            refine HCALL.out.mono ?_
            rintro e w' ⟨rfl, rfl⟩
            clear hcr
            go_wp2_with fail
            have HCC := Lib.hid (And.intro HC.out.2.1 HPC.out)
            refine wp_atEnd' (sorted_region w wr P n k cRB cX cY cB RB' X Y bd p S Ps o vs HCC HOO hol hltk HVL (Lib.hid (by rw [HGR.out]; exact HU.out)) HGP _ _ _ _ _ _ _ _ _ _ _ _ _ _ _ _ _ _ _ _ _ _ _ _ _ _ _ _ _ _ _ _ _ _ _ _ _ _ _ _ _ _ _ _ _ _ _ _ _ _ _ _ _ _ _ _ _ _ _ _ _ _ ?_)
            intro u34 u35 u36 u37 u38 u39 u40 u41 u42 u43 u44 u45 u46 u47 u48 u49 u50 u51 u52 u53 u54 u55 u56 u57 u58 u59 wx hS9
            dsimp only
            clear t0 t1 c1 hcp
            go_wp2_with fail
            go_roundw
            case rel => exact ⟨k + 1, by omega, by go_num, by rw [HST2.out, ← List.append_assoc, HO.out]; exact hS9⟩
            case measure => simp [intOf]; omega
          · have e1 : ((f : Int) == (a : Int)) = false := by rw [beq_eq_false_iff_ne]; omega
            have hst := HN.out hfa
            have HST2 := Lib.hid hst
            clear hst hfa hx
            go_wp2_with fail
            refine HCALL.out.mono ?_
            rintro e w' ⟨rfl, rfl⟩
            clear hcr
            go_wp2_with fail
            go_roundw
            case rel => exact ⟨k + 1, by omega, by go_num, by rw [HST2.out, HO.out]; exact HJ2.out⟩
            case measure => simp [intOf]; omega
        · obtain rfl : k = n := by omega
          have hj := HJ.out
          have e9 : Cd.ordTo S a ++ Cd.atTo S a k = Cd.ordTo S (a + 1) := by rw [Cd.ordTo_succ, HL.out.1]
          rw [e9] at hj
          have HJ3 := Lib.hid hj
          clear hj e9
          go_wp2_with fail
          go_roundw
          case rel => exact ⟨a + 1, by omega, by go_num, HJ3.out⟩
          case measure => simp [intOf]; omega
    · obtain rfl : a = n := by omega
      have hlook := HI.out.look
      have hol := Cd.byOrd_len Ps (Cd.ordTo S a)
      have ho1 := (Cd.ordTo_spec HST.out HL.out.1 a (Nat.le_refl _)).1
      have hcall := cSolve_any wr w.heap.size a _ _ (HT.out.ext HI.out.ext) hlook hn HTri.out (by rw [hol, ho1]) (fun q hq => by
        obtain ⟨j, hj, rfl⟩ := List.mem_map.1 hq
        rw [List.getD_eq_getElem?_getD]
        cases hp : Ps[j]? with
        | none => simp
        | some q => exact HM.out q (List.mem_of_getElem? hp))
      have HCALL := Lib.hid hcall
      have HX := Lib.hid HI.out.ext
      clear hlook hol ho1 hcall
      go_wp2_with fail
      refine HCALL.out.mono ?_
      rintro e w2 ⟨v, rfl, hv, hx⟩
      have HV := Lib.hid (And.intro hv (HX.out.trans hx))
      clear hv hx
      go_wp2_with fail
      go_ret
      exact ⟨v, rfl, HV.out.1, HV.out.2⟩
end Go.Proofs.YtggfkpalkdkbdaaDoor

/- THE WALK over the closure less of agree (package locate). -/
namespace Go.Proofs.YtggfkpalkdkbdaaDoor
open Go.RowKit
theorem results_cell1L {P : Program} {fn : Func} {a : Tmp} {t : TypeId} (h : fn.results = #[.cell a t]) {tmps : Array Value} {ad : Addr} {v : Value} {w : World} (ha : tmps.getD a undef = .pointer (some ad)) (hl : (loadVar t ad).run P w = .ok v w) :
    (results fn tmps).run P w = .ok v w := by
  rw [Array.getD_eq_getD_getElem?] at ha
  simp [results, h, asAddr, ha, hl]
theorem getD_of_at {l : List UInt8} {k : Nat} (h : k < l.length) : l.getD k 0 = l[k] := by rw [List.getD_eq_getElem?_getD, List.getElem?_eq_getElem h]; rfl
set_option maxHeartbeats 8000000 in
set_option maxRecDepth 100000 in
theorem lLess_any (r p : Lo.Row) (a d : Nat) (F G : Value) (w : World) (hT : Tab w) (hF : Rs RB w F r.1) (hG : Rs RB w G p.1) (h1 : r.1.length = d) (h2 : p.1.length = d) (ha : a < d) (hd : d ≤ 1000) (h3 : r.2.length ≤ 1000000) (h4 : p.2.length ≤ 1000000) :
    Calls Tryd.prog 67 #[.agg #[F, sv r.2], .agg #[G, sv p.2], .int .i64 (a : Nat), bv (Gf.inv (p.1.getD a 0))] w fun e w' => ∃ V, e = .returned (.agg #[V, sv (Lo.lessP p r a).2]) ∧ Rs RB w' V (Lo.lessP p r a).1 ∧ (∀ b, V.ownBlock = some b → w.heap.size ≤ b) ∧ Ext w w' := by
  obtain ⟨rc, rs⟩ := r
  obtain ⟨pc, ps⟩ := p
  simp only at hF hG h1 h2 h3 h4 ⊢
  obtain ⟨FA, fc, rfl, _⟩ := hF.form
  obtain ⟨GA, gc, rfl, _⟩ := hG.form
  rw [h1] at hF ⊢
  rw [h2] at hG ⊢
  have hO : Owns w (((w.alloc (.cells #[.slice FA d fc, sv rs] 105)).alloc (.cells #[.slice GA d gc, sv ps] 105)).alloc (.cells #[.slice none 0 0, .string ⟨#[]⟩] 105)) [⟨.slice none 0 0, 5, 1, 0, []⟩, ⟨.slice (some ⟨((w.alloc (.cells #[.slice FA d fc, sv rs] 105)).alloc (.cells #[.slice GA d gc, sv ps] 105)).heap.size, 0, none⟩) 2 2, 105, 1, 2, [.slice none 0 0, .string ⟨#[]⟩]⟩, ⟨.slice (some ⟨w.heap.size, 0, none⟩) 2 2, 105, 1, 2, [.slice FA d fc, sv rs]⟩, ⟨.slice (some ⟨(w.alloc (.cells #[.slice FA d fc, sv rs] 105)).heap.size, 0, none⟩) 2 2, 105, 1, 2, [.slice GA d gc, sv ps]⟩] :=
    (((Owns.start w (L := [⟨.slice none 0 0, 5, 1, 0, []⟩, no, no, no]) (by intro r hr; simp at hr; rcases hr with rfl | rfl <;> exact ⟨rfl, rfl, rfl⟩)).new 2 #[.slice FA d fc, sv rs] 105 (by simp [maxLen])).new 3 #[.slice GA d gc, sv ps] 105 (by simp [maxLen])).new 1 #[.slice none 0 0, .string ⟨#[]⟩] 105 (by simp [maxLen])
  rw [World.size_alloc, World.size_alloc] at hO
  obtain ⟨x, hx⟩ : ∃ x, rc.getD a 0 = x := ⟨_, rfl⟩
  obtain ⟨iv, hiv⟩ : ∃ iv, Gf.inv (pc.getD a 0) = iv := ⟨_, rfl⟩
  rw [hiv]
  have HF := Lib.hid (And.intro hF hG)
  have HT := Lib.hid hT
  have HL := Lib.hid (And.intro h1 h2)
  have HS := Lib.hid (And.intro h3 h4)
  have HV := Lib.hid (And.intro hx hiv)
  have HO := Lib.hid hO
  clear hF hG hT hO h3 h4 hx hiv
  go_enter Tryd.func67, Tryd.ntmps67
  go_upto_region 1 with fail
  obtain ⟨Bq, hB⟩ : ∃ B, w.heap.size = B := ⟨_, rfl⟩
  obtain ⟨Eq, hE⟩ : ∃ E, Bq + 1 = E := ⟨_, rfl⟩
  obtain ⟨Hq, hH⟩ : ∃ H, Eq + 1 = H := ⟨_, rfl⟩
  rw [hB, hE, hH] at HO
  rw [hB]
  try rw [hE]
  try rw [hH]
  obtain ⟨w1, hw1⟩ : ∃ x, (((w.alloc (.cells #[.slice FA d fc, sv rs] 105)).alloc (.cells #[.slice GA d gc, sv ps] 105)).alloc (.cells #[.slice none 0 0, .string ⟨#[]⟩] 105)) = x := ⟨_, rfl⟩
  rw [hw1] at HO ⊢
  have HB := Lib.hid hB
  clear hw1 hB hE hH
  obtain ⟨fa, u0, rfl, hc0, hu0⟩ := HF.out.1.at (i := a) (by rw [HL.out.1]; exact ha)
  have hu' : u0 = bv (rc[a]'(by rw [HL.out.1]; exact ha)) := hu0
  subst hu'
  have hxa : rc[a]'(by rw [HL.out.1]; exact ha) = x := by rw [← getD_of_at]; exact HV.out.1
  rw [hxa] at hc0
  replace hc0 := HO.out.ext.cell hc0
  have b0 : w1.cell? ⟨Bq, 0, none⟩ = some (.slice (some fa) d fc) := HO.out.cell 2 rfl 0 rfl
  have b1 : w1.cell? ⟨Bq, 1, none⟩ = some (sv rs) := HO.out.cell 2 rfl 1 rfl
  have HM := Lib.hid (mul_u8 x iv w1 (HT.out.ext HO.out.ext))
  have u1 : (0 : Int) ≤ (a : Int) := by omega
  have u2 : (a : Int) < (d : Int) := by omega
  clear hu0 hxa
  go_upto_region 2 with fail
  refine HM.out.mono ?_
  rintro e w' ⟨rfl, rfl⟩
  obtain ⟨fb, hfb⟩ : ∃ fb, Gf.mul x iv = fb := ⟨_, rfl⟩
  rw [hfb]
  have HFB := Lib.hid hfb
  clear hfb b0 b1 hc0 HM
  have HE2 : Hid (∀ (W : World) (R0 : LRow), Owns w W (R0 :: [⟨.slice none 0 0, 5, 1, 0, []⟩, ⟨.slice (some ⟨Hq, 0, none⟩) 2 2, 105, 1, 2, [.slice none 0 0, .string ⟨#[]⟩]⟩, ⟨.slice (some ⟨Bq, 0, none⟩) 2 2, 105, 1, 2, [.slice (some fa) d fc, sv rs]⟩, ⟨.slice (some ⟨Eq, 0, none⟩) 2 2, 105, 1, 2, [.slice GA d gc, sv ps]⟩]) → W.cell? ⟨Bq, 1, none⟩ = some (.string (sb rs)) ∧ W.cell? ⟨Eq, 1, none⟩ = some (.string (sb ps))) := Lib.hid fun W R0 h => ⟨h.cell 3 rfl 1 rfl, h.cell 4 rfl 1 rfl⟩
  go_upto_region 2 with fail
  refine wp_atEnd' (le2 w w1 Bq Eq fb rs ps _ HO HT HS HE2 _ _ _ _ _ _ _ _ _ _ _ _ _ _ _ _ _ _ _ _ _ _ _ _ _ _ _ _ _ _ _ _ _ _ _ _ _ _ _ _ _ _ _ _ _ _ _ _ _ _ _ ?_)
  rintro gO u20 u21 u22 u23 u24 u25 u26 u27 w2 hO2
  obtain ⟨s2, hs2⟩ : ∃ s, Gf.sum rs (Gf.scale fb ps) = s := ⟨_, rfl⟩
  rw [hs2] at hO2
  have HS2 := Lib.hid hs2
  have HO2 := Lib.hid hO2
  have b0 : w2.cell? ⟨Bq, 0, none⟩ = some (.slice (some fa) d fc) := hO2.cell 3 rfl 0 rfl
  clear hO2 hs2 HE2
  go_wp2_with fail
  clear b0
  go_loopw [31] (fun vk wr => ∃ (k : Nat) (A : Option Addr) (c : Nat), k ≤ d ∧ vk = .int .i64 (k : Nat) ∧ Hid (Owns w wr (⟨.slice (some ⟨gO, 0, none⟩) 2 2, 105, 1, 2, [.slice A k c, .string (sb s2)]⟩ :: ⟨.slice A k c, 5, 1, k, ((List.range k).map fun j => rc.getD j 0 ^^^ Gf.mul fb (pc.getD j 0)).map bv⟩ :: [⟨.slice (some ⟨Hq, 0, none⟩) 2 2, 105, 1, 2, [.slice none 0 0, .string ⟨#[]⟩]⟩, ⟨.slice (some ⟨Bq, 0, none⟩) 2 2, 105, 1, 2, [.slice (some fa) d fc, sv rs]⟩, ⟨.slice (some ⟨Eq, 0, none⟩) 2 2, 105, 1, 2, [.slice GA d gc, sv ps]⟩]))) (fun vk _ => d - (intOf vk).toNat)
  case atStart => exact ⟨0, none, 0, Nat.zero_le _, rfl, HO2.out⟩
  case round =>
    obtain ⟨k, A, c, hk2, rfl, HI⟩ := hrel
    by_cases hlt : k < d
    · obtain ⟨fa', u0, e1, hc0, hu0⟩ := HF.out.1.at (i := k) (by rw [HL.out.1]; exact hlt)
      injection e1 with e1
      subst e1
      have hu' : u0 = bv (rc[k]'(by rw [HL.out.1]; exact hlt)) := hu0
      subst hu'
      obtain ⟨ga, u1', rfl, hc1, hu1⟩ := HF.out.2.at (i := k) (by rw [HL.out.2]; exact hlt)
      have hu'' : u1' = bv (pc[k]'(by rw [HL.out.2]; exact hlt)) := hu1
      subst hu''
      have hxa : rc.getD k 0 = rc[k]'(by rw [HL.out.1]; exact hlt) := getD_of_at _
      have hya : pc.getD k 0 = pc[k]'(by rw [HL.out.2]; exact hlt) := getD_of_at _
      obtain ⟨y0, hy0⟩ : ∃ y, rc[k]'(by rw [HL.out.1]; exact hlt) = y := ⟨_, rfl⟩
      obtain ⟨y1, hy1⟩ : ∃ y, pc[k]'(by rw [HL.out.2]; exact hlt) = y := ⟨_, rfl⟩
      rw [hy0] at hc0 hxa
      rw [hy1] at hc1 hya
      obtain ⟨z, hz⟩ : ∃ z, y0 ^^^ Gf.mul fb y1 = z := ⟨_, rfl⟩
      have hc2 := HI.out.ext.cell hc0
      have HE6 : Hid (∀ (W : World) (R0 R1 R2 : LRow), Owns w W (R0 :: R1 :: R2 :: [⟨.slice (some ⟨Hq, 0, none⟩) 2 2, 105, 1, 2, [.slice none 0 0, .string ⟨#[]⟩]⟩, ⟨.slice (some ⟨Bq, 0, none⟩) 2 2, 105, 1, 2, [.slice (some fa) d fc, sv rs]⟩, ⟨.slice (some ⟨Eq, 0, none⟩) 2 2, 105, 1, 2, [.slice (some ga) d gc, sv ps]⟩]) → W.cell? ⟨Eq, 0, none⟩ = some (.slice (some ga) d gc) ∧ W.cell? (ga.add k) = some (bv y1)) := Lib.hid fun W R0 R1 R2 h => ⟨h.cell 5 rfl 0 rfl, h.ext.cell hc1⟩
      have HZ := Lib.hid hz
      have HQ := Lib.hid (And.intro hxa hya)
      have v1 : (0 : Int) ≤ (k : Int) := by omega
      have v2 : (k : Int) < (d : Int) := by omega
      clear hu0 hu1 hc0 hc1 hy0 hy1 hxa hya hz
      go_upto_region 6 with fail
      refine wp_atEnd' (le6 w wr gO k d k gc c A ga _ _ _ Eq fb y0 y1 z HZ HT HE6 hlt (by omega) HI _ _ _ _ _ _ _ _ _ _ _ _ _ _ _ _ _ _ _ _ _ _ _ _ _ _ _ _ _ _ _ _ _ _ _ _ _ _ _ _ _ _ _ _ _ _ _ _ _ ?_)
      rintro g7 k7 u36 u37 u38 u39 u40 u41 u42 u43 u44 u45 u46 u47 u48 u49 wx hOx
      have HOX := Lib.hid hOx
      clear hOx HE6 hc2
      go_wp2_with fail
      go_roundw
      case rel => exact ⟨k + 1, _, k7, by omega, by go_num, by rw [List.range_succ, List.map_append, List.map_append, List.map_singleton, List.map_singleton, HQ.out.1, HQ.out.2, HZ.out]; exact HOX.out⟩
      case measure => simp [intOf]; omega
    · obtain rfl : k = d := by omega
      have hO := HI.out
      have o0 := hO.cell 0 rfl 0 rfl
      have o1 := hO.cell 0 rfl 1 rfl
      have q0 := hO.cell 2 rfl 0 rfl
      have q1 := hO.cell 2 rfl 1 rfl
      have f0 : wr.frozen? ⟨Hq, 0, none⟩ = false := hO.frozen 2 rfl 0
      have f1 : wr.frozen? ⟨Hq, 1, none⟩ = false := hO.frozen 2 rfl 1
      have hS := (hO.store 2 rfl 0 (.slice A k c)).store 2 rfl 1 (.string (sb s2))
      have HSS := Lib.hid hS
      clear hO hS
      go_wp2_with fail
      have r0 := HSS.out.cell 2 rfl 0 rfl
      have r1 := HSS.out.cell 2 rfl 1 rfl
      have hrd := HSS.out.rd 1 rfl
      have hrs := Rs.of_rd (c := c) hrd (by simp; omega)
      rw [List.length_map, List.length_range] at hrs
      have hlo := ((HSS.out.row 1 rfl).lt)
      have hlp : Lo.lessP (pc, ps) (rc, rs) a = ((List.range k).map fun j => rc.getD j 0 ^^^ Gf.mul fb (pc.getD j 0), s2) := by
        unfold Lo.lessP Cd.lessR
        simp only
        rw [HV.out.1, HV.out.2, HFB.out, HS2.out, HL.out.1]
      rw [hlp]
      refine bodyPost_ret (results_cell1L (v := .agg #[.slice A k c, .string (sb s2)]) rfl rfl ?_) rfl ?_
      · go_simp
      · exact ⟨_, rfl, hrs, fun b hb => (hlo b hb).1, HSS.out.ext⟩
end Go.Proofs.YtggfkpalkdkbdaaDoor

/- THE WALKS over what agree (package locate) calls: IndexFunc and ContainsFunc at bytes, Clone at rows; a text as bytes. -/
namespace Go.Proofs.YtggfkpalkdkbdaaDoor
open Go.RowKit
theorem loRetB {b c : Bool} (h : b = c) : Ending.returned (.bool b) = .returned (.bool c) := by rw [h]
/-- What IndexFunc returns. -/
def Idx8 (l : List UInt8) (p : UInt8 → Bool) (w : World) (e : Ending) (w' : World) : Prop := ∃ z : Int, e = .returned (.int .i64 z) ∧ (0 ≤ z ↔ ∃ x ∈ l, p x = true) ∧ (0 ≤ z → ∃ i : Nat, z = i ∧ i < l.length ∧ p (l.getD i 0) = true ∧ ∀ j, j < i → p (l.getD j 0) = false) ∧ w = w'
theorem sIndexFunc8_any (l : List UInt8) (p : UInt8 → Bool) (B : Option Addr) (n c : Nat) (F : FuncId) (cap : Array Value) (w : World) (hB : Rs RB w (.slice B n c) l) (hE : ∀ args w, (callFunc F args).run Tryd.prog w = .ok (.enter F args) w)
    (hF : ∀ x, Calls Tryd.prog F (#[bv x] ++ cap) w fun e w'' => e = .returned (.bool (p x)) ∧ w = w'') :
    Calls Tryd.prog 71 #[.slice B n c, .func (.func F) #[] cap] w fun e w' => Idx8 l p w e w' := by
  have hn := hB.len
  obtain ⟨_, _, e0, hl⟩ := hB.form
  have HB := Lib.hid hB
  have HN := Lib.hid hn
  have HF := Lib.hid hF
  have hl2 : n ≤ 9223372036854775807 := by omega
  clear hB hn e0 hl hF
  go_enter Tryd.func71, Tryd.ntmps71
  go_wp2_with fail
  go_loop [8] (fun vi => ∃ i : Nat, i ≤ n ∧ vi = .int .i64 i ∧ Hid (∀ j, j < i → p (l.getD j 0) = false)) (fun vi => n - (intOf vi).toNat)
  case atStart => exact ⟨0, Nat.zero_le _, rfl, Lib.hid fun j hj => absurd hj (Nat.not_lt_zero j)⟩
  case round =>
    obtain ⟨i, hi, rfl, HJ⟩ := hrel
    by_cases hlt : i < n
    · have hll : i < l.length := by rw [← HN.out]; exact hlt
      obtain ⟨ad, u, rfl, hc, hu⟩ := HB.out.at hll
      have hu : u = bv _ := hu
      subst hu
      have hgd := getD_of_at hll
      obtain ⟨y, hy⟩ : ∃ y, l[i] = y := ⟨_, rfl⟩
      rw [hy] at hc hgd
      have hm : y ∈ l := by rw [← hy]; exact List.getElem_mem hll
      have HM := Lib.hid (And.intro hgd hm)
      have HLL := Lib.hid hll
      clear hgd hm hy
      cases hp : p y with
      | true =>
        have hd : (0 ≤ (i : Int) ↔ ∃ x ∈ l, p x = true) := ⟨fun _ => ⟨y, HM.out.2, hp⟩, fun _ => by omega⟩
        have HD := Lib.hid hd
        have HP := Lib.hid hp
        clear hd hp
        go_wp2_with fail
        refine (HF.out y).mono ?_
        rintro e w1 ⟨rfl, rfl⟩
        rw [HP.out]
        go_wp2_with fail
        go_ret
        exact ⟨_, rfl, HD.out, fun _ => ⟨i, rfl, HLL.out, by rw [HM.out.1]; exact HP.out, HJ.out⟩, rfl⟩
      | false =>
        have HP := Lib.hid hp
        clear hp
        go_wp2_with fail
        refine (HF.out y).mono ?_
        rintro e w1 ⟨rfl, rfl⟩
        rw [HP.out]
        go_wp2_with fail
        go_round
        case rel => exact ⟨i + 1, by omega, by go_num, Lib.hid fun j hj => by
          by_cases hji : j = i
          · rw [hji, HM.out.1]; exact HP.out
          · exact HJ.out j (by omega)⟩
        case measure => simp [intOf]; omega
    · obtain rfl : i = n := by omega
      have hd : (0 ≤ (-1 : Int) ↔ ∃ x ∈ l, p x = true) := by
        refine ⟨fun h => by omega, fun ⟨x, hm, hp⟩ => ?_⟩
        obtain ⟨j, hj, rfl⟩ := List.getElem_of_mem hm
        have := HJ.out j (by rw [HN.out]; exact hj)
        rw [getD_of_at hj, hp] at this
        cases this
      have HD := Lib.hid hd
      clear hd
      go_wp2_with fail
      go_ret
      exact ⟨_, rfl, HD.out, fun h => by omega, rfl⟩
theorem sContainsFunc8_any (l : List UInt8) (p : UInt8 → Bool) (B : Option Addr) (n c : Nat) (F : FuncId) (cap : Array Value) (w : World) (hB : Rs RB w (.slice B n c) l) (hE : ∀ args w, (callFunc F args).run Tryd.prog w = .ok (.enter F args) w)
    (hF : ∀ x, Calls Tryd.prog F (#[bv x] ++ cap) w fun e w'' => e = .returned (.bool (p x)) ∧ w = w'') :
    Calls Tryd.prog 73 #[.slice B n c, .func (.func F) #[] cap] w fun e w' => e = .returned (.bool (decide (∃ x ∈ l, p x = true))) ∧ w = w' := by
  have HB := Lib.hid hB
  have HF := Lib.hid hF
  clear hB hF
  go_enter Tryd.func73, Tryd.ntmps73
  go_wp2_with fail
  refine (sIndexFunc8_any l p B n c F cap _ HB.out hE HF.out).mono ?_
  rintro e w1 ⟨z, rfl, hz, _, rfl⟩
  have hz2 : decide (0 ≤ z) = decide (∃ x ∈ l, p x = true) := decide_eq_decide.2 hz
  have HZ := Lib.hid hz2
  clear hz hz2
  go_wp2_with fail
  go_ret
  exact ⟨ret_bool HZ.out, rfl⟩

theorem lNz2 (x : UInt8) (w : World) : Calls Tryd.prog 72 (#[bv x] ++ #[]) w fun e w'' => e = .returned (.bool (x != 0)) ∧ w = w'' := by
  by_cases h : x = 0
  · subst h
    go_enter Tryd.func72, Tryd.ntmps72
    go_wp2_with fail
    go_ret
    exact ⟨rfl, rfl⟩
  · have hb : ((x.toNat : Int) != 0) = true := by
      rw [bne_iff_ne]
      intro e
      exact h (UInt8.toNat_inj.1 (by have : x.toNat = 0 := by omega
                                     exact this))
    have hx : (x != 0) = true := by rw [bne_iff_ne]; exact h
    rw [hx]
    clear h hx
    go_enter Tryd.func72, Tryd.ntmps72
    go_wp2_with fail
    go_ret
    exact ⟨loRetB (by simp), rfl⟩
theorem entLo2 : ∀ args w, (callFunc 72 args).run Tryd.prog w = .ok (.enter 72 args) w := enters_of Tryd.func72 (by kernel_rfl) rfl
theorem lNz3 (x : UInt8) (w : World) : Calls Tryd.prog 74 (#[bv x] ++ #[]) w fun e w'' => e = .returned (.bool (x != 0)) ∧ w = w'' := by
  by_cases h : x = 0
  · subst h
    go_enter Tryd.func74, Tryd.ntmps74
    go_wp2_with fail
    go_ret
    exact ⟨rfl, rfl⟩
  · have hb : ((x.toNat : Int) != 0) = true := by
      rw [bne_iff_ne]
      intro e
      exact h (UInt8.toNat_inj.1 (by have : x.toNat = 0 := by omega
                                     exact this))
    have hx : (x != 0) = true := by rw [bne_iff_ne]; exact h
    rw [hx]
    clear h hx
    go_enter Tryd.func74, Tryd.ntmps74
    go_wp2_with fail
    go_ret
    exact ⟨loRetB (by simp), rfl⟩
theorem entLo3 : ∀ args w, (callFunc 74 args).run Tryd.prog w = .ok (.enter 74 args) w := enters_of Tryd.func74 (by kernel_rfl) rfl
theorem text_bytes (ps : List UInt8) (w : World) (hl : ps.length ≤ 1000000) : ∃ (c : Nat) (w' : World), (convert 9 48 (.string (sb ps))).run Tryd.prog w = .ok (.slice (some ⟨w.heap.size, 0, none⟩) ps.length c) w' ∧ Rs RB w' (.slice (some ⟨w.heap.size, 0, none⟩) ps.length c) ps ∧ Ext w w' := by
  have h := run_bytes_of_string (P := Tryd.prog) w 9 48 5 (sb ps) (by kernel_rfl) (by kernel_rfl) (by kernel_rfl)
  rw [size_sb] at h
  refine ⟨_, _, h, ?_, (Ext.refl w).drew.alloc _⟩
  refine Rs.of_rd (fun i v hi => ?_) (by omega)
  rw [List.getElem?_map] at hi
  obtain ⟨x, hx, rfl⟩ := Option.map_eq_some_iff.1 hi
  refine ⟨_, rfl, ?_⟩
  rw [Addr.add_lit, Nat.zero_add]
  have hsz : w.drew.heap.size = w.heap.size := rfl
  rw [← hsz, World.cell?_alloc_mark, bytesRow_at _ _ _ (by simpa [sb] using (List.getElem?_eq_some_iff.1 hx).1)]
  have := (List.getElem?_eq_some_iff.1 hx).2
  simp [sb, bv, this]
end Go.Proofs.YtggfkpalkdkbdaaDoor

/- THE WALK over Clone at rows; agree's own list. -/
namespace Go.Proofs.YtggfkpalkdkbdaaDoor
open Go.RowKit
theorem rro_list {w : World} {g c n : Nat} {l : List Lo.Row} (h : RRo w (.slice (some ⟨g, 0, none⟩) n c) l) : ∃ xs : List LV, xs.map (·.1) = l ∧ ∀ i y, xs[i]? = some y → w.cell? ⟨g, i * 2, none⟩ = some y.2 ∧ w.cell? ⟨g, i * 2 + 1, none⟩ = some (sv y.1.2) ∧ Rs RB w y.2 y.1.1 := by
  have hp : ∀ i : Fin l.length, ∃ F, w.cell? ⟨g, i.1 * 2, none⟩ = some F ∧ w.cell? ⟨g, i.1 * 2 + 1, none⟩ = some (sv l[i.1].2) ∧ Rs RB w F l[i.1].1 := fun i => by
    obtain ⟨g', F, e, h1, h2, h3⟩ := h.at i.2
    injection e with e
    injection e with e
    subst e
    exact ⟨F, h1, h2, h3⟩
  refine ⟨List.ofFn fun i : Fin l.length => (l[i.1], Classical.choose (hp i)), ?_, fun i y hy => ?_⟩
  · apply List.ext_getElem
    · simp
    · intro i h1 h2
      simp
  · obtain ⟨hi, rfl⟩ := List.getElem?_eq_some_iff.1 hy
    rw [List.getElem_ofFn]
    rw [List.length_ofFn] at hi
    exact Classical.choose_spec (hp ⟨i, hi⟩)
theorem lcells_mem {xs : List LV} {u : Value} (h : u ∈ lcells xs) : ∃ y ∈ xs, u = y.2 ∨ u = sv y.1.2 := by
  unfold lcells at h
  rw [List.mem_flatMap] at h
  obtain ⟨y, hy, h⟩ := h
  simp at h
  exact ⟨y, hy, h⟩
theorem lcells_get {xs : List LV} {j : Nat} {u : Value} (h : (lcells xs)[j]? = some u) : ∃ i y, xs[i]? = some y ∧ (j = i * 2 ∧ u = y.2 ∨ j = i * 2 + 1 ∧ u = sv y.1.2) := by
  have hj := (List.getElem?_eq_some_iff.1 h).1
  rw [lcells_len] at hj
  have hi : j / 2 < xs.length := by omega
  obtain ⟨h0, h1⟩ := lcells_at xs (j / 2) xs[j / 2] (List.getElem?_eq_getElem hi)
  refine ⟨j / 2, xs[j / 2], List.getElem?_eq_getElem hi, ?_⟩
  rcases Nat.mod_two_eq_zero_or_one j with e | e
  · left
    refine ⟨by omega, ?_⟩
    rw [show j / 2 * 2 = j by omega, h] at h0
    injection h0
  · right
    refine ⟨by omega, ?_⟩
    rw [show j / 2 * 2 + 1 = j by omega, h] at h1
    injection h1
set_option maxRecDepth 100000 in
/-- 'append(new, rows...)'. -/
theorem wpl_append_lall {w0 w : World} {ops : Array Oper} {rest : List Oper} {o : Oper} {a : Act} {Q : Exit → Act → World → Prop} (hgd : o.guard = none) (s z : Operand)
    (ho : o.op = .call { callee := .builtin .append, args := #[s, z], argTypes := #[80, 80] })
    {g0 : Nat} (hs : a.eval s = .slice (some ⟨g0, 0, none⟩) 0 0) (hO : Owns w0 w [⟨.slice (some ⟨g0, 0, none⟩) 0 0, 105, 1, 0, []⟩]) {g n c : Nat} (hx : a.eval z = .slice (some ⟨g, 0, none⟩) n c) (xs : List LV) (hl : xs.length = n)
    (hc : ∀ i y, xs[i]? = some y → w.cell? ⟨g, i * 2, none⟩ = some y.2 ∧ w.cell? ⟨g, i * 2 + 1, none⟩ = some (sv y.1.2) ∧ Rs RB w y.2 y.1.1) (hm : 0 < n) (hn : n ≤ 1000000)
    (hK : ∀ g' cap w', Hid (Owns w0 w' [⟨.slice (some ⟨g', 0, none⟩) n cap, 105, 2, n, lcells xs⟩] ∧ w.grownBy w' (some g0) ∧ (g' = g0 ∨ g' = w.heap.size)) → wpList Tryd.prog ops Q rest (a.put o.dst (.slice (some ⟨g', 0, none⟩) n cap)) w') :
    wpList Tryd.prog ops Q (o :: rest) a w := by
  refine wpList_plain hgd fun K hK' => ?_
  have hnews : ∀ j u, (lcells xs)[j]? = some u → w.cell? ((⟨g, 0, none⟩ : Addr).add j) = some u := fun j u hj => by
    obtain ⟨i, y, hy, h⟩ := lcells_get hj
    rw [Addr.add_lit, Nat.zero_add]
    rcases h with ⟨rfl, rfl⟩ | ⟨rfl, rfl⟩
    · exact (hc i y hy).1
    · exact (hc i y hy).2.1
  have hone : ∀ u ∈ lcells xs, u.oneCell' = true := fun u hu => by
    obtain ⟨y, hy, h⟩ := lcells_mem hu
    obtain ⟨i, hi⟩ := List.getElem?_of_mem hy
    obtain ⟨FA, fc, hFv, _⟩ := (hc i y hi).2.2.form
    rcases h with rfl | rfl
    · rw [hFv]; rfl
    · rfl
  obtain ⟨i, hi0, hiz, hi1, hi2⟩ := info_parts info_lrow
  have hown : w.ownsRow w0.heap.size 105 2 (.slice (some ⟨g0, 0, none⟩) 0 0) 0 [] := by
    have h := hO.row 0 rfl
    refine ⟨rfl, ?_⟩
    rcases h.2 with ⟨e, _⟩ | ⟨g1, cap, cur, e, h1, h2, h3, h4, h5, h6⟩
    · cases e
    · injection e with e1 e2 e3
      subst e3
      exact .inr ⟨g1, 0, cur, by rw [e1], h1, h2, h3, h4, by omega, by simp⟩
  obtain ⟨g', cap, w', hr, r1, r2, r3, r4⟩ := run_append_lies (P := Tryd.prog) w 80 o.type w0.heap.size 105 i _ 2 40 Tryd.underlying80 hi0 hiz hi1 hi2 rfl (by decide) _ _ _ hown ⟨g, 0, none⟩ n c (lcells xs) (by rw [lcells_len, hl]) hnews hone hm (by unfold maxLen; omega) (by omega) hO.ext.size _ rfl
  rw [List.nil_append, Nat.zero_add] at r1
  rw [Nat.zero_add] at hr
  have hx1 : Ext w0 w' := hO.ext.grown r2 (fun k hk => own_ge hown k hk)
  have hO2 : Owns w0 w' [⟨.slice (some ⟨g', 0, none⟩) n cap, 105, 2, n, lcells xs⟩] :=
    hO.put 0 ⟨.slice (some ⟨g', 0, none⟩) n cap, 105, 2, n, lcells xs⟩ hx1 r1 (fun j r hj hrr g' hg' => by
      match j, hj, hrr with
      | j + 1, _, hrr => simp at hrr) (fun j r hj hrr => by
      match j, hj, hrr with
      | j + 1, _, hrr => simp at hrr)
  unfold Oper.wp execOp
  simp only [ho, resolve, invoke, builtin, Sem.run_bind, Sem.run_pure, Result.andThen_ok, List.map_toArray, List.map_cons, List.map_nil, hs, hx, hr]
  exact hK' _ _ (hK g' cap w' (Lib.hid ⟨hO2, r2, by
    rcases r3 with r3 | r3
    · injection r3 with r3
      exact .inl r3.symm
    · exact .inr r3⟩))
/-- agree's own list. -/
structure AgAt (w0 W : World) (g n c : Nat) (xs : List LV) : Prop where
  owns : Owns w0 W [⟨.slice (some ⟨g, 0, none⟩) n c, 105, 2, n, lcells xs⟩]
  len : xs.length = n
  ok : ∀ y ∈ xs, Rs RB W y.2 y.1.1 ∧ y.2.ownBlock ≠ some g
theorem AgAt.next {w0 W W' : World} {g n c : Nat} {xs : List LV} (h : AgAt w0 W g n c xs) (hx : Ext W W') : AgAt w0 W' g n c xs := ⟨h.owns.next hx, h.len, fun y hy => ⟨Rs.ext RB.ext _ _ _ _ hx (h.ok y hy).1, (h.ok y hy).2⟩⟩
theorem rs_lt {w : World} {v : Value} {l : List UInt8} (h : Rs RB w v l) (hl : 0 < l.length) {b : Nat} (hb : v.ownBlock = some b) : b < w.heap.size := by
  obtain ⟨A, c, rfl, _, h⟩ := h
  obtain ⟨ad, u, rfl, hc, _⟩ := h 0 _ (List.getElem?_eq_getElem hl)
  have h1 := lt_of_cell hc
  have hb2 : (ad.add 0).block = ad.block := by
    obtain ⟨x, y, z⟩ := ad
    cases z <;> rfl
  rw [hb2] at h1
  injection hb with hb
  subst hb
  exact h1
set_option maxRecDepth 100000 in
theorem lClone_any (l : List Lo.Row) (g n c : Nat) (w : World) (h : RRo w (.slice (some ⟨g, 0, none⟩) n c) l) (hl : l.length = n) (hn : 0 < n) (hn2 : n ≤ 1000000) (hw : ∀ r ∈ l, 0 < r.1.length) :
    Calls Tryd.prog 66 #[.slice (some ⟨g, 0, none⟩) n c] w fun e w' => ∃ g' c' xs, e = .returned (.slice (some ⟨g', 0, none⟩) n c') ∧ xs.map (·.1) = l ∧ AgAt w w' g' n c' xs := by
  obtain ⟨xs, hxl, hxc⟩ := rro_list h
  have hlen : xs.length = n := by rw [← hl, ← hxl, List.length_map]
  have hO0 : Owns w (w.alloc (.cells #[] 105)) [⟨.slice (some ⟨w.heap.size, 0, none⟩) 0 0, 105, 1, 0, []⟩] := (Owns.start w (L := [no]) (by intro r hr; simp at hr; subst hr; exact ⟨rfl, rfl, rfl⟩)).new 0 #[] 105 (by simp [maxLen])
  have hc2 : ∀ i y, xs[i]? = some y → (w.alloc (.cells #[] 105)).cell? ⟨g, i * 2, none⟩ = some y.2 ∧ (w.alloc (.cells #[] 105)).cell? ⟨g, i * 2 + 1, none⟩ = some (sv y.1.2) ∧ Rs RB (w.alloc (.cells #[] 105)) y.2 y.1.1 := fun i y hy =>
    ⟨hO0.ext.cell (hxc i y hy).1, hO0.ext.cell (hxc i y hy).2.1, Rs.ext RB.ext _ _ _ _ hO0.ext (hxc i y hy).2.2⟩
  have HO0 := Lib.hid hO0
  have HC2 := Lib.hid hc2
  have HX := Lib.hid hxc
  have HXL := Lib.hid hxl
  have HW := Lib.hid hw
  have he : ∀ w : World, (binOp .eql 80 (.slice (some ⟨g, 0, none⟩) n c) (.slice none 0 0)).run Tryd.prog w = .ok (.bool false) w := fun _ => rfl
  clear hO0 hc2 hxc h hl hw hxl
  go_enter Tryd.func66, Tryd.ntmps66
  go_wp2_with (refine wpl_append_lall rfl (.tmp 5) (.tmp 6) rfl rfl HO0.out rfl xs hlen HC2.out hn hn2 ?_; intro g1 c1 w3 H3)
  go_ret
  refine ⟨g1, c1, xs, rfl, HXL.out, H3.out.1, hlen, fun y hy => ?_⟩
  obtain ⟨i, hi⟩ := List.getElem?_of_mem hy
  have h1 := (HX.out i y hi).2.2
  refine ⟨Rs.ext RB.ext _ _ _ _ H3.out.1.ext h1, fun e => ?_⟩
  have hlt := rs_lt h1 (by
    have : y.1 ∈ l := by rw [← HXL.out]; exact List.mem_map.2 ⟨y, hy, rfl⟩
    exact HW.out _ this) e
  rcases H3.out.2.2 with rfl | h3
  · omega
  · rw [h3, World.size_alloc] at hlt; omega
end Go.Proofs.YtggfkpalkdkbdaaDoor

/- THE DRAWN REGION of agree (package locate). -/
namespace Go.Proofs.YtggfkpalkdkbdaaDoor
open Go.RowKit
theorem lo_far {w : World} {a b : Addr} (u : Value) (h : b.block ≠ a.block) : (w.setCell a u).cell? b = w.cell? b := by
  unfold World.cell?
  rw [heap_setCell_other w a b.block u (fun e => h e)]
theorem rsb_set {w : World} {g k : Nat} {u v : Value} {xs : List UInt8} (h : Rs RB w v xs) (hf : v.ownBlock ≠ some g) : Rs RB (w.setCell ⟨g, k, none⟩ u) v xs := by
  obtain ⟨A, c, rfl, hl, h⟩ := h
  refine ⟨A, c, rfl, hl, fun i x hi => ?_⟩
  obtain ⟨ad, u, rfl, h2, h3⟩ := h i x hi
  exact ⟨ad, u, rfl, by rw [lo_far _ (by rw [block_add]; exact fun e => hf (congrArg some e))]; exact h2, h3⟩
theorem lcells_set : ∀ (l : List LV) (i : Nat) (y : LV), i < l.length → ((lcells l).set (i * 2) y.2).set (i * 2 + 1) (sv y.1.2) = lcells (l.set i y)
  | [], i, y, h => by simp at h
  | x :: l, 0, y, h => rfl
  | x :: l, i + 1, y, h => by
    have h1 := lcells_set l i y (by simpa using h)
    rw [show (i + 1) * 2 = i * 2 + 1 + 1 by omega]
    show x.2 :: sv x.1.2 :: ((lcells l).set (i * 2) y.2).set (i * 2 + 1) (sv y.1.2) = _
    rw [h1]
    rfl
theorem AgAt.set {w0 W : World} {g n c : Nat} {xs : List LV} (h : AgAt w0 W g n c xs) (s : Nat) {y : LV} (hy : xs[s]? = some y) (q : Lo.Row) (V : Value) (hV : Rs RB W V q.1) (hb : V.ownBlock ≠ some g) : AgAt w0 ((W.setCell ⟨g, s * 2, none⟩ V).setCell ⟨g, s * 2 + 1, none⟩ (.string (sb q.2))) g n c (xs.set s (q, V)) := by
  have hlt := (List.getElem?_eq_some_iff.1 hy).1
  refine ⟨?_, by rw [List.length_set]; exact h.len, fun z hz => ?_⟩
  · have h2 := (h.owns.store 0 rfl (s * 2) V).store 0 rfl (s * 2 + 1) (.string (sb q.2))
    have h3 := lcells_set xs s (q, V) hlt
    rw [← h3]
    exact h2
  · have hz2 : Rs RB W z.2 z.1.1 ∧ z.2.ownBlock ≠ some g := by
      rcases List.mem_or_eq_of_mem_set hz with h4 | h4
      · exact h.ok z h4
      · rw [h4]; exact ⟨hV, hb⟩
    exact ⟨rsb_set (rsb_set hz2.1 hz2.2) hz2.2, hz2.2⟩
theorem entLo1 : ∀ args w, (callFunc 67 args).run Tryd.prog w = .ok (.enter 67 args) w := enters_of Tryd.func67 (by kernel_rfl) rfl
noncomputable def ag14_code : Code := ((Tryd.f40.body.bind (regionOf 14)).getD .skip)
def ag14_dsts : List (Option Nat) := [some 42, some 43, some 44, some 45, some 46, some 47, some 48, some 49, some 50, some 51, some 52, some 53, none]
theorem ag14_apart : apartD ag14_dsts = true := by decide +kernel
set_option maxRecDepth 1000000 in
set_option maxHeartbeats 16000000 in
theorem ag14 (w0 wr : World) (g n c o m mc k s E at_ yn yc pn pc : Nat) (YA PA : Option Addr) (xs : List LV) (yr ys ps : List UInt8) (q : Lo.Row) (iv : UInt8) (HSS : Hid (o + k * 2 = s * 2)) (HY : Hid (xs[s]? = some (((yr, ys) : Lo.Row), Value.slice YA yn yc))) (hkm : k < m) (HAT : Hid (AgAt w0 wr g n c xs)) (HE : Hid (wr.cell? ⟨E, 0, none⟩ = some (.slice PA pn pc) ∧ wr.cell? ⟨E, 1, none⟩ = some (.string (sb ps))))
  (HC : Hid (∀ w1 : World, Ext wr w1 → Calls Tryd.prog 67 #[.agg #[.slice YA yn yc, .string (sb ys)], .agg #[.slice PA pn pc, .string (sb ps)], .int .i64 (at_ : Nat), bv iv] w1 fun e w' => ∃ V, e = .returned (.agg #[V, .string (sb q.2)]) ∧ Rs RB w' V q.1 ∧ V.ownBlock ≠ some g ∧ Ext w1 w')) (c1 c2 c7 c9 c10 c11 c12 c13 c14 c15 c16 c17 c18 c19 c20 c21 c22 c23 c24 c25 c26 c27 c28 c29 c30 c31 c32 c33 c34 c35 c36 c37 c38 c39 c40 c41 c42 c43 c44 c45 c46 c47 c48 c49 c50 c51 c52 c53 c54 : Value) (df : List Deferred) (K : Act → World → Prop)
    (hK : ∀ (V : Value) (u42 u43 u44 u45 u46 u47 u48 u49 u50 u51 u52 u53 : Value) (wx : World), (AgAt w0 wx g n c (xs.set s (q, V)) ∧ ∀ (ad : Addr) (u : Value), ad.block ≠ g → wr.cell? ad = some u → wx.cell? ad = some u) → K ⟨#[.slice (some ⟨g, o, none⟩) m mc, c1, c2, .func (.func 67) #[] #[], .pointer (some ⟨E, 0, none⟩), .int .i64 (at_ : Nat), bv iv, c7, .int .i64 (k : Nat), c9, c10, c11, c12, c13, c14, c15, c16, c17, c18, c19, c20, c21, c22, c23, c24, c25, c26, c27, c28, c29, c30, c31, c32, c33, c34, c35, c36, c37, c38, c39, c40, c41, u42, u43, u44, u45, u46, u47, u48, u49, u50, u51, u52, u53, c54], df⟩ wx) :
    Code.wp Tryd.prog ag14_code (AtEnd K) ⟨#[.slice (some ⟨g, o, none⟩) m mc, c1, c2, .func (.func 67) #[] #[], .pointer (some ⟨E, 0, none⟩), .int .i64 (at_ : Nat), bv iv, c7, .int .i64 (k : Nat), c9, c10, c11, c12, c13, c14, c15, c16, c17, c18, c19, c20, c21, c22, c23, c24, c25, c26, c27, c28, c29, c30, c31, c32, c33, c34, c35, c36, c37, c38, c39, c40, c41, c42, c43, c44, c45, c46, c47, c48, c49, c50, c51, c52, c53, c54], df⟩ wr := by
  conv => arg 2; whnf
  refine region_inv (by kernel_rfl) [[], [], [], [], [], [3, 4], [5], [], [], [], [2, 6, 7, 8, 9], [0, 1, 0, 1, 2, 3, 4, 5, 6, 7, 8, 9, 10], [11, 10, 10, 0, 1, 2, 3, 4, 5, 6, 7, 8, 9, 10]] (by kernel_rfl) [0, 1, 2, 3, 4, 5, 6, 7, 8, 9, 10, 11, 12] (by decide +kernel) (by decide +kernel) (by decide +kernel) (fun L a wc => ∃ (V : Value), InvO ag14_dsts [.slice (some ⟨g, o, none⟩) m mc, .int .i64 (k : Nat), .func (.func 67) #[] #[], .slice (some ⟨g, o, none⟩) m mc, .int .i64 (k : Nat), .pointer (some ⟨g, o + k * 2, none⟩), .agg #[.slice YA yn yc, .string (sb ys)], .agg #[.slice PA pn pc, .string (sb ps)], .int .i64 (at_ : Nat), bv iv, .agg #[V, .string (sb q.2)], .pointer (some ⟨g, o + k * 2, none⟩), undef] ⟨#[.slice (some ⟨g, o, none⟩) m mc, c1, c2, .func (.func 67) #[] #[], .pointer (some ⟨E, 0, none⟩), .int .i64 (at_ : Nat), bv iv, c7, .int .i64 (k : Nat), c9, c10, c11, c12, c13, c14, c15, c16, c17, c18, c19, c20, c21, c22, c23, c24, c25, c26, c27, c28, c29, c30, c31, c32, c33, c34, c35, c36, c37, c38, c39, c40, c41, c42, c43, c44, c45, c46, c47, c48, c49, c50, c51, c52, c53, c54], df⟩ L a ∧ Hid ((L 12 = false → Ext wr wc ∧ (L 10 = true → Rs RB wc V q.1 ∧ V.ownBlock ≠ some g)) ∧ (L 12 = true → AgAt w0 wc g n c (xs.set s (q, V)) ∧ ∀ (ad : Addr) (u : Value), ad.block ≠ g → wr.cell? ad = some u → wc.cell? ad = some u))) ⟨undef, InvO.start, Lib.hid ⟨fun _ => ⟨(Ext.refl wr).drew, fun h => by cases h⟩, fun h => by cases h⟩⟩ ?_ ?_
  · refine ⟨?_, ?_, ?_, ?_, ?_, ?_, ?_, ?_, ?_, ?_, ?_, ?_, ?_, trivial⟩
    ·
      rintro L a wc ⟨V, hv, HO⟩ hL hc hd
      exact wpOp_val rfl rfl (ex_move rfl ((hv.fixed 0 (by decide)).trans rfl)) ⟨V, hv.put ag14_apart 0 rfl (lb rfl) (lb rfl) rfl, HO⟩
    ·
      rintro L a wc ⟨V, hv, HO⟩ hL hc hd
      exact wpOp_val rfl rfl (ex_move rfl ((hv.fixed 8 (by decide)).trans rfl)) ⟨V, hv.put ag14_apart 1 rfl (lb rfl) (lb rfl) rfl, HO⟩
    ·
      rintro L a wc ⟨V, hv, HO⟩ hL hc hd
      exact wpOp_val rfl rfl (ex_move rfl ((hv.fixed 3 (by decide)).trans rfl)) ⟨V, hv.put ag14_apart 2 rfl (lb rfl) (lb rfl) rfl, HO⟩
    ·
      rintro L a wc ⟨V, hv, HO⟩ hL hc hd
      exact wpOp_val rfl rfl (ex_move rfl ((hv.fixed 0 (by decide)).trans rfl)) ⟨V, hv.put ag14_apart 3 rfl (lb rfl) (lb rfl) rfl, HO⟩
    ·
      rintro L a wc ⟨V, hv, HO⟩ hL hc hd
      exact wpOp_val rfl rfl (ex_move rfl ((hv.fixed 8 (by decide)).trans rfl)) ⟨V, hv.put ag14_apart 4 rfl (lb rfl) (lb rfl) rfl, HO⟩
    ·
      rintro L a wc ⟨V, hv, HO⟩ hL hc hd
      have u1 : (0 : Int) ≤ (k : Int) := by omega
      have u2 : (k : Int) < (m : Int) := by omega
      exact wpOp_val rfl rfl (ex_index rfl (hv.get 3 rfl rfl (hd 3 (by decide))) (hv.get 4 rfl rfl (hd 4 (by decide))) (by go_simp)) ⟨V, hv.put ag14_apart 5 rfl (lb rfl) (lb rfl) rfl, HO⟩
    ·
      rintro L a wc ⟨V, hv, HO⟩ hL hc hd
      have n12 : L 12 = false := Bool.eq_false_iff.2 fun h => Bool.false_ne_true (hL.symm.trans (hc 12 h 6 (by decide)))
      have hX := (HO.out.1 n12).1
      have hA := HAT.out.next hX
      have hl := lcells_at _ _ _ HY.out
      have b0 : wc.cell? ⟨g, o + k * 2, none⟩ = some (.slice YA yn yc) := by rw [HSS.out]; exact hA.owns.cell 0 rfl _ hl.1
      have b1 : wc.cell? ⟨g, o + k * 2 + 1, none⟩ = some (.string (sb ys)) := by rw [HSS.out]; exact hA.owns.cell 0 rfl _ hl.2
      exact wpOp_val rfl rfl (ex_load rfl (hv.get 5 rfl rfl (hd 5 (by decide))) (by go_simp)) ⟨V, hv.put ag14_apart 6 rfl (lb rfl) (lb rfl) rfl, HO⟩
    ·
      rintro L a wc ⟨V, hv, HO⟩ hL hc hd
      have n12 : L 12 = false := Bool.eq_false_iff.2 fun h => Bool.false_ne_true (hL.symm.trans (hc 12 h 7 (by decide)))
      have hX := (HO.out.1 n12).1
      have b0 := hX.cell HE.out.1
      have b1 := hX.cell HE.out.2
      exact wpOp_val rfl rfl (ex_load rfl ((hv.fixed 4 (by decide)).trans rfl) (by go_simp)) ⟨V, hv.put ag14_apart 7 rfl (lb rfl) (lb rfl) rfl, HO⟩
    ·
      rintro L a wc ⟨V, hv, HO⟩ hL hc hd
      exact wpOp_val rfl rfl (ex_move rfl ((hv.fixed 5 (by decide)).trans rfl)) ⟨V, hv.put ag14_apart 8 rfl (lb rfl) (lb rfl) rfl, HO⟩
    ·
      rintro L a wc ⟨V, hv, HO⟩ hL hc hd
      exact wpOp_val rfl rfl (ex_move rfl ((hv.fixed 6 (by decide)).trans rfl)) ⟨V, hv.put ag14_apart 9 rfl (lb rfl) (lb rfl) rfl, HO⟩
    ·
      rintro L a wc ⟨V, hv, HO⟩ hL hc hd
      have n12 : L 12 = false := Bool.eq_false_iff.2 fun h => Bool.false_ne_true (hL.symm.trans (hc 12 h 10 (by decide)))
      have hX := (HO.out.1 n12).1
      refine wpOp_call (R := fun v w1 => ∃ V2, v = .agg #[V2, .string (sb q.2)] ∧ Rs RB w1 V2 q.1 ∧ V2.ownBlock ≠ some g ∧ Ext wc w1) rfl rfl (ex_call rfl (hv.get 2 rfl rfl (hd 2 (by decide))) (by simp only [List.map_toArray, List.map_cons, List.map_nil, (hv.get 6 rfl rfl (hd 6 (by decide))), (hv.get 7 rfl rfl (hd 7 (by decide))), (hv.get 8 rfl rfl (hd 8 (by decide))), (hv.get 9 rfl rfl (hd 9 (by decide)))]; rfl) (entLo1 _ _)) ((HC.out wc hX).mono (fun e w' h => by obtain ⟨V2, rfl, h1, h2, h3⟩ := h; exact ⟨_, rfl, V2, rfl, h1, h2, h3⟩)) ?_
      rintro v w' ⟨V2, rfl, hr, hb, hx⟩
      exact ⟨V2, hv.put ag14_apart 10 rfl (lb rfl) (lb rfl) rfl, Lib.hid ⟨fun _ => ⟨hX.trans hx, fun _ => ⟨hr, hb⟩⟩, fun h => absurd (show L 12 = true from h) (by rw [n12]; decide)⟩⟩
    ·
      rintro L a wc ⟨V, hv, HO⟩ hL hc hd
      have u1 : (0 : Int) ≤ (k : Int) := by omega
      have u2 : (k : Int) < (m : Int) := by omega
      exact wpOp_val rfl rfl (ex_index rfl (hv.get 0 rfl rfl (hd 0 (by decide))) (hv.get 1 rfl rfl (hd 1 (by decide))) (by go_simp)) ⟨V, hv.put ag14_apart 11 rfl (lb rfl) (lb rfl) rfl, HO⟩
    ·
      rintro L a wc ⟨V, hv, HO⟩ hL hc hd
      have h10 : L 10 = true := hd 10 (by decide)
      have hw := HO.out.1 hL
      have hA := HAT.out.next hw.1
      have hV := hw.2 h10
      have hS := hA.set s (y := ((((yr, ys) : Lo.Row), Value.slice YA yn yc) : LV)) HY.out q V hV.1 hV.2
      have f0 : wc.frozen? ⟨g, o + k * 2, none⟩ = false := hA.owns.frozen 0 rfl _
      have f1 : wc.frozen? ⟨g, o + k * 2 + 1, none⟩ = false := hA.owns.frozen 0 rfl _
      have hl := lcells_at _ _ _ HY.out
      have b0 : wc.cell? ⟨g, o + k * 2, none⟩ = some (.slice YA yn yc) := by rw [HSS.out]; exact hA.owns.cell 0 rfl _ hl.1
      have b1 : wc.cell? ⟨g, o + k * 2 + 1, none⟩ = some (.string (sb ys)) := by rw [HSS.out]; exact hA.owns.cell 0 rfl _ hl.2
      have e2 : (wc.setCell ⟨g, o + k * 2, none⟩ V).setCell ⟨g, o + k * 2 + 1, none⟩ (.string (sb q.2)) = (wc.setCell ⟨g, s * 2, none⟩ V).setCell ⟨g, s * 2 + 1, none⟩ (.string (sb q.2)) := by rw [HSS.out]
      have hfar : ∀ (ad : Addr) (u : Value), ad.block ≠ g → wr.cell? ad = some u → ((wc.setCell ⟨g, s * 2, none⟩ V).setCell ⟨g, s * 2 + 1, none⟩ (.string (sb q.2))).cell? ad = some u := fun ad u hb hc => by rw [lo_far _ hb, lo_far _ hb]; exact hw.1.cell hc
      obtain ⟨FA, fc, hFv, _⟩ := hV.1.form
      exact wpOp_skip rfl rfl rfl (ex_store (w' := (wc.setCell ⟨g, o + k * 2, none⟩ V).setCell ⟨g, o + k * 2 + 1, none⟩ (.string (sb q.2))) rfl (hv.get 11 rfl rfl (hd 11 (by decide))) (hv.get 10 rfl rfl h10) (by rw [hFv]; go_simp)) ⟨V, hv.skip 12 rfl, Lib.hid ⟨fun h => absurd h (by simp [upd]), fun _ => by rw [e2]; exact ⟨hS, hfar⟩⟩⟩
  · rintro L a wc ⟨V, hv, HO⟩ hall
    show K a wc
    have ha := act_n rl55 hv.size hv.defers rfl
    simp +decide only [hv.fixed] at ha
    rw [ha]
    exact hK V _ _ _ _ _ _ _ _ _ _ _ _ wc (HO.out.2 (hall 12 (by decide)))
end Go.Proofs.YtggfkpalkdkbdaaDoor
