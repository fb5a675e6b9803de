/- THE WALKS over Size and Encode. -/
import Derived.Test.YtgkohfmgdejkpaaDoorEncW
namespace Go.Proofs.YtgkohfmgdejkpaaDoor
open Go.RowKit
theorem cSize_any (d gl n : Int) (gs : List (List Int)) (G : Value) (w : World) (hG : Rs (Rs RI) w G gs) :
    Calls Tryd.prog 15 #[.agg #[.int .i64 d, G, .int .i64 gl], .int .i64 n] w fun e w' => e = .returned (.int .i64 (Cd.sizeOf d gl gs n)) ∧ Ext w w' := by
  have hx0 := (Ext.refl w).alloc (.cells #[.int .i64 d, G, .int .i64 gl] 24)
  have HX := Lib.hid (And.intro hx0 (Rs.ext (Rs.ext RI.ext) _ _ _ _ hx0 hG))
  obtain ⟨A, c, rfl, hl⟩ := hG.form
  clear hG hx0
  by_cases h1 : n < 0
  · have hz := Cd.sizeOf_no (d := d) (gl := gl) (gs := gs) (.inl h1)
    have HZ := Lib.hid hz
    clear hz
    go_enter Tryd.func15, Tryd.ntmps15
    go_wp2_with fail
    go_ret
    exact ⟨ret_int HZ.out.symm, HX.out.1⟩
  · by_cases h2 : 4096 < n
    · have hz := Cd.sizeOf_no (d := d) (gl := gl) (gs := gs) (.inr (.inl h2))
      have HZ := Lib.hid hz
      clear hz
      go_enter Tryd.func15, Tryd.ntmps15
      go_wp2_with fail
      go_ret
      exact ⟨ret_int HZ.out.symm, HX.out.1⟩
    · go_enter Tryd.func15, Tryd.ntmps15
      go_wp2_with fail
      refine (cCheck_any d gl gs _ _ HX.out.2).mono ?_
      rintro e w1 ⟨rfl, hx1⟩
      have hc0 : w1.cell? ⟨w.heap.size, 0, none⟩ = some (.int .i64 d) := hx1.cell (by go_simp)
      have HX1 := Lib.hid (HX.out.1.trans hx1)
      clear hx1
      by_cases h0 : Cd.check d gs gl = 0
      · have hk := Cd.check_ok h0
        have hz := Cd.sizeOf_ok (d := d) (gl := gl) (gs := gs) (n := n) (by omega) (by omega) h0
        have e1 : (Cd.check d gs gl != 0) = false := by rw [h0]; rfl
        have HZ := Lib.hid hz
        have e3 : d ≠ 0 := by omega
        clear hz h0
        go_wp2_with fail
        go_ret
        exact ⟨ret_int HZ.out.symm, HX1.out⟩
      · have hz := Cd.sizeOf_no (d := d) (gl := gl) (gs := gs) (n := n) (.inr (.inr h0))
        have e1 : (Cd.check d gs gl != 0) = true := by rw [bne_iff_ne]; exact h0
        have HZ := Lib.hid hz
        clear hz h0
        go_wp2_with fail
        go_ret
        exact ⟨ret_int HZ.out.symm, HX1.out⟩
theorem cEncode_no (d gl : Int) (gs : List (List Int)) (data : List UInt8) (G : Value) (w : World) (hT : Tab w) (hG : Rs (Rs RI) w G gs) (h0 : Cd.check d gs gl ≠ 0) :
    Calls Tryd.prog 10 #[.agg #[.int .i64 d, G, .int .i64 gl], .string (sb data)] w fun e w' => e = .returned (.tuple #[.slice none 0 0, .int .i64 (Cd.check d gs gl)]) ∧ Ext w w' := by
  have hx0 := (Ext.refl w).alloc (.cells #[.int .i64 d, G, .int .i64 gl] 24)
  have HX := Lib.hid (And.intro hx0 (Rs.ext (Rs.ext RI.ext) _ _ _ _ hx0 hG))
  have HT := Lib.hid (hT.ext hx0)
  obtain ⟨A, c, rfl, hl⟩ := hG.form
  have e1 : (Cd.check d gs gl != 0) = true := by rw [bne_iff_ne]; exact h0
  clear hG hx0 hT h0
  go_enter Tryd.func10, Tryd.ntmps10
  go_wp2_with fail
  refine (cRows_any d gl gs _ _ HT.out HX.out.2).mono ?_
  rintro e w1 ⟨v, rfl, hv, hx1⟩
  have HX1 := Lib.hid (HX.out.1.trans hx1)
  clear hx1 hv
  go_wp2_with fail
  go_ret2
  exact ⟨rfl, HX1.out⟩
theorem cEncode_big (d gl : Int) (gs : List (List Int)) (data : List UInt8) (G : Value) (w : World) (hT : Tab w) (hG : Rs (Rs RI) w G gs) (h0 : Cd.check d gs gl = 0) (hb : 4096 < data.length) (hl : data.length ≤ 9223372036854775807) :
    Calls Tryd.prog 10 #[.agg #[.int .i64 d, G, .int .i64 gl], .string (sb data)] w fun e w' => e = .returned (.tuple #[.slice none 0 0, .int .i64 2]) ∧ Ext w w' := by
  have hx0 := (Ext.refl w).alloc (.cells #[.int .i64 d, G, .int .i64 gl] 24)
  have HX := Lib.hid (And.intro hx0 (Rs.ext (Rs.ext RI.ext) _ _ _ _ hx0 hG))
  have HT := Lib.hid (hT.ext hx0)
  obtain ⟨A, c, rfl, _⟩ := hG.form
  have e1 : (Cd.check d gs gl != 0) = false := by rw [h0]; rfl
  clear hG hx0 hT h0
  go_enter Tryd.func10, Tryd.ntmps10
  go_wp2_with fail
  refine (cRows_any d gl gs _ _ HT.out HX.out.2).mono ?_
  rintro e w1 ⟨v, rfl, hv, hx1⟩
  have HX1 := Lib.hid (HX.out.1.trans hx1)
  clear hx1 hv
  go_wp2_with fail
  go_ret2
  exact ⟨rfl, HX1.out⟩
theorem bytes_zero (N : Nat) : (List.replicate N (Value.int .u8 0)) = (List.replicate N (0 : UInt8)).map bv := by rw [List.map_replicate]; rfl
theorem fill_cells {N : Nat} {data : List UInt8} : data.map bv ++ (List.replicate N (Value.int .u8 0)).drop data.length = (Cd.fill N data).map bv := by
  rw [Cd.fill, List.map_append, List.drop_replicate, bytes_zero]
/-- A part of a row of bytes reads as the part of the list. -/
theorem Rd.part {w : World} {g n size i d : Nat} {full : List UInt8} {A : Option Addr} (h : Rd w (some ⟨g, 0, none⟩) (full.map bv)) (hi : i < d)
    (hA : A = (if n = i * size then some ⟨g, 0, none⟩ else some ((⟨g, 0, none⟩ : Addr).add (i * size)))) (hn : n = d * size) : Rd w A ((Cd.cutAt size full i).map bv) := by
  by_cases hs : size = 0
  · have : Cd.cutAt size full i = [] := by rw [Cd.cutAt, hs]; simp
    rw [this]
    exact Rd.nil _ _
  · have h1 : (i + 1) * size ≤ d * size := Nat.mul_le_mul_right size hi
    rw [Nat.succ_mul] at h1
    rw [if_neg (by omega)] at hA
    subst hA
    intro k x hx
    rw [List.getElem?_map, Cd.cutAt, List.getElem?_take] at hx
    by_cases hk : k < size
    · rw [if_pos hk, List.getElem?_drop] at hx
      obtain ⟨ad, e1, e2, e3⟩ := h (i * size + k) x (by rw [List.getElem?_map]; exact hx)
      injection e1 with e1
      subst e1
      refine ⟨_, rfl, by rw [block_add]; exact e2, ?_⟩
      have ea : ∀ o i : Nat, (⟨g, o, none⟩ : Addr).add i = ⟨g, o + i, none⟩ := fun o i => by unfold Addr.add; split <;> simp_all
      have e4 : ((⟨g, 0, none⟩ : Addr).add (i * size)).add k = (⟨g, 0, none⟩ : Addr).add (i * size + k) := by rw [ea, ea, ea, Nat.add_assoc]
      rw [e4]; exact e3
    · rw [if_neg hk] at hx; cases hx
theorem info_u8s : (Tryd.prog.info? 5).map (·.size) = some 1 := by kernel_rfl
theorem Rs.of_rdS {w : World} {A : Option Addr} {c : Nat} {l : List (List UInt8)} (h : Rd w A (l.map sv)) (hl : l.length ≤ 9223372036854775807) : Rs RS w (.slice A l.length c) l :=
  ⟨A, c, rfl, hl, fun i x hi => by
    obtain ⟨ad, h1, _, h3⟩ := h i (sv x) (by rw [List.getElem?_map, hi]; rfl)
    exact ⟨ad, _, h1, h3, rfl⟩⟩
theorem Owns.older {w w2 wr : World} {L : List LRow} (h : Owns w2 wr L) (hx : Ext w w2) : Owns w wr L where
  ext := hx.trans h.ext
  ok i r hr := by
    have h1 := h.ok i r hr
    refine ⟨h1.1, ?_⟩
    rcases h1.2 with h2 | ⟨g, cap, cur, hv, hB, rest⟩
    · exact .inl h2
    · exact .inr ⟨g, cap, cur, hv, Nat.le_trans hx.size hB, rest⟩
  far := h.far
set_option maxRecDepth 100000 in
set_option maxHeartbeats 8000000 in
theorem cEncode_ok (d gl : Nat) (gs : List (List Int)) (data : List UInt8) (G : Value) (w : World) (hT : Tab w) (hG : Rs (Rs RI) w G gs) (h0 : Cd.check d gs gl = 0) (hb : data.length ≤ 4096) :
    Calls Tryd.prog 10 #[.agg #[.int .i64 d, G, .int .i64 gl], .string (sb data)] w fun e w' => ∃ v, e = .returned (.tuple #[v, .int .i64 0]) ∧ Rs RS w' v (Cd.encode d gl gs data) ∧ Owns w w' [⟨v, 9, 1, (Cd.encode d gl gs data).length, (Cd.encode d gl gs data).map sv⟩] := by
  have hx0 := (Ext.refl w).alloc (.cells #[.int .i64 d, G, .int .i64 gl] 24)
  have hk := Cd.check_ok h0
  have HX := Lib.hid (And.intro hx0 (Rs.ext (Rs.ext RI.ext) _ _ _ _ hx0 hG))
  have HT := Lib.hid (hT.ext hx0)
  obtain ⟨A, c, rfl, _⟩ := hG.form
  have e1 : (Cd.check d gs gl != 0) = false := by rw [h0]; rfl
  have HC := Lib.hid h0
  have hsz := Cd.size_le (d := d) (by omega) data.length
  have hge := Cd.size_ge (d := d) (by omega) data.length
  obtain ⟨sz, hsze⟩ : ∃ sz, Cd.sizeN d data.length = sz := ⟨_, rfl⟩
  have hso := Cd.sizeOf_nat (d := d) (gl := gl) (gs := gs) hb h0
  rw [hsze] at hsz hge hso
  obtain ⟨N, hN⟩ : ∃ N, d * sz = N := ⟨_, rfl⟩
  have hNle : N ≤ 65536 := by
    have := Nat.mul_le_mul (show d ≤ 16 by omega) hsz
    rw [← hN]
    omega
  have hmul : (d : Int) * (sz : Int) = (N : Int) := by rw [← hN, Int.natCast_mul]
  rw [hN] at hge
  obtain ⟨full, hfull⟩ : ∃ full, Cd.fill N data = full := ⟨_, rfl⟩
  have hfl : full.length = d * sz := by rw [← hfull, hN]; exact Cd.fill_len hge
  have hcuts : Cd.cuts d data = (List.range d).map (Cd.cutAt sz full) := by rw [Cd.cuts, hsze, hN, hfull]
  have HSO := Lib.hid hso
  have HF := Lib.hid (And.intro hfull (And.intro hfl (And.intro hcuts hN)))
  obtain ⟨i0, hi, hz0, hz1, hz2⟩ := info_parts info_u8
  have HZ2 := Lib.hid hz2
  clear hz2 hG hx0 hT h0 hfull hfl hcuts hN hso hsze
  go_enter Tryd.func10, Tryd.ntmps10
  go_wp2_with fail
  refine (cRows_any d gl gs _ _ HT.out HX.out.2).mono ?_
  rintro e w1 ⟨v, rfl, hv, hx1⟩
  obtain ⟨RA, cR, rfl, _⟩ := hv.form
  have hc0 : w1.cell? ⟨w.heap.size, 0, none⟩ = some (.int .i64 d) := hx1.cell (by go_simp)
  have hc1 : w1.cell? ⟨w.heap.size, 1, none⟩ = some (.slice A gs.length c) := hx1.cell (by go_simp)
  have hc2 : w1.cell? ⟨w.heap.size, 2, none⟩ = some (.int .i64 gl) := hx1.cell (by go_simp)
  have HX1 := Lib.hid (HX.out.1.trans hx1)
  have HT1 := Lib.hid (HT.out.ext hx1)
  have HG1 := Lib.hid (Rs.ext (Rs.ext RI.ext) _ _ _ _ hx1 HX.out.2)
  have HV := Lib.hid hv
  clear hx1 hv
  go_wp2_with fail
  clear hc1 hc2
  refine (cSize_any d gl data.length gs _ _ HG1.out).mono ?_
  rintro e w2 ⟨rfl, hx2⟩
  rw [HSO.out]
  have hc0' : w2.cell? ⟨w.heap.size, 0, none⟩ = some (.int .i64 d) := hx2.cell hc0
  have HX2 := Lib.hid (HX1.out.trans hx2)
  have HT2 := Lib.hid (HT1.out.ext hx2)
  have HV2 := Lib.hid (Rs.ext (Rs.ext RB.ext) _ _ _ _ hx2 HV.out)
  have HC0 := Lib.hid hc0'
  clear hx2 hc0
  go_wp2_with (first | (refine wpList_make_full _ rfl (.tmp 35) (.tmp 35) 57 rfl w2.heap.size 5 i0 (.int .u8 0) 1 Tryd.underlying57 hi hz0 hz1 _ _ _ _ N rfl rfl rfl rfl (by rw [HZ2.out]; omega) (by unfold maxLen; omega) (Nat.le_refl _) ?_; intro w3 hown hgrow; have hx3 : Ext w2 w3 := (Ext.refl w2).grown hgrow (fun k h => by cases h); have hO3 : Owns w2 w3 [⟨.slice (some ⟨w2.heap.size, 0, none⟩) N N, 5, 1, N, (madeCells (Value.int .u8 0).cells (N * 1)).toList⟩] := ((Owns.start w2 (L := []) (by simp)).behind hx3 hown); have HO3 := Lib.hid hO3; clear hown hgrow hx3 hO3) | (refine wpl_copy_str rfl (.tmp 37) (.tmp 38) 57 9 rfl Tryd.underlying57 info_u8s HO3.out 0 rfl rfl rfl hge ?_; intro w4 hO4; have HO4 := Lib.hid hO4; have hc4 : w4.cell? ⟨w.heap.size, 0, none⟩ = some (.int .i64 d) := hO4.ext.cell HC0.out; clear hO4))
  clear hc0' hc4
  have hO5 := HO4.out
  rw [show (madeCells (Value.int .u8 0).cells (N * 1)).toList = List.replicate N (Value.int .u8 0) from by rw [Nat.mul_one]; exact toList_madeCells_one _ _] at hO5
  have hO5' : Owns w2 w4 [⟨.slice (some ⟨w2.heap.size, 0, none⟩) N N, 5, 1, N, full.map bv⟩] := by
    rw [← HF.out.1, ← fill_cells]
    exact hO5
  have hO6 : Owns w2 w4 [⟨.slice (some ⟨w2.heap.size, 0, none⟩) N N, 5, 1, N, full.map bv⟩, nilRow 9, no] := (hO5'.wider.wider).put 1 (nilRow 9) hO5'.ext (nilRow_ok _ _ _) (fun _ _ _ _ _ _ => rfl) (fun _ _ _ _ => .inl rfl)
  have HO6 := Lib.hid hO6
  clear hO5 hO5' hO6
  go_loopw [10, 12, 42] (fun vp vi vx wr => ∃ (i ca : Nat) (B : Option Addr), i ≤ d ∧ vx = .int .i64 i ∧ vp = .slice B i ca ∧ Hid (Owns w2 wr [⟨.slice (some ⟨w2.heap.size, 0, none⟩) N N, 5, 1, N, full.map bv⟩, ⟨.slice B i ca, 9, 1, i, ((List.range i).map (Cd.cutAt sz full)).map sv⟩, no])) (fun _ _ vx _ => d - (intOf vx).toNat)
  case atStart => exact ⟨0, 0, none, Nat.zero_le _, rfl, rfl, HO6.out⟩
  case round =>
    obtain ⟨i, ca, B, hi2, rfl, rfl, HI⟩ := hrel
    by_cases hlt : i < d
    · obtain ⟨lo, hlo⟩ : ∃ lo, i * sz = lo := ⟨_, rfl⟩
      obtain ⟨hh, hhi⟩ : ∃ hh, (i + 1) * sz = hh := ⟨_, rfl⟩
      have q1 : (i : Int) * (sz : Int) = (lo : Int) := by rw [← hlo, Int.natCast_mul]
      have q2 : ((i : Int) + 1) * (sz : Int) = (hh : Int) := by rw [← hhi, Int.natCast_mul]; rfl
      have q3 : hh = lo + sz := by rw [← hhi, ← hlo, Nat.succ_mul]
      have q4 : hh ≤ N := by rw [← hhi, ← HF.out.2.2.2]; exact Nat.mul_le_mul_right sz hlt
      have q5 : hh - lo = sz := by omega
      have hcl := Cd.cutAt_len (size := sz) HF.out.2.1 hlt
      have hpart := fun (A : Option Addr) (hA : A = (if N = lo then some (⟨w2.heap.size, 0, none⟩ : Addr) else some ((⟨w2.heap.size, 0, none⟩ : Addr).add lo))) => Rd.part (n := N) (size := sz) (i := i) (d := d) (A := A) (HI.out.rd 0 rfl) hlt (by rw [hlo]; exact hA) HF.out.2.2.2.symm
      have hst : ((List.range (i + 1)).map (Cd.cutAt sz full)).map sv = ((List.range i).map (Cd.cutAt sz full)).map sv ++ [sv (Cd.cutAt sz full i)] := by simp [List.range_succ]
      obtain ⟨ct, hct⟩ : ∃ ct, Cd.cutAt sz full i = ct := ⟨_, rfl⟩
      rw [hct] at hcl hpart hst
      have HPART := Lib.hid hpart
      have HST := Lib.hid (And.intro hst (And.intro hcl q5))
      have hql : lo ≤ hh := by omega
      clear hpart hst hcl hlo hhi q3 q5 hct
      go_wp2_with (first | (refine wpl_part rfl 57 5 (.tmp 46) (.tmp 49) (.tmp 53) rfl Tryd.underlying57 info_u8s rfl rfl rfl hql q4 ?_; intro AA hAA; have hcv := str_u8 (w := wr) (c := N - lo) (n := hh - lo) (by rw [HST.out.2.2, HST.out.2.1]) (HPART.out AA hAA); clear hAA) | (have hB := HI.out.new 2 #[sv ct] 9 (by simp [maxLen]); refine wpl_append_owns (u := sv ct) 32 9 rfl (.tmp 45) (.tmp 56) rfl Tryd.underlying32 info_str rfl hB 1 rfl rfl rfl (hB.cell 2 rfl 0 rfl) rfl (by omega) (by decide) ?_; clear hB; intro g8 c8 w8 hO8 _))
      go_roundw
      case rel => exact ⟨i + 1, c8, _, by omega, by go_num, rfl, by rw [HST.out.1]; exact hO8.drop 2⟩
      case measure => simp [intOf]; omega
    · obtain rfl : i = d := by omega
      have hI := HI.out
      rw [← HF.out.2.2.1] at hI
      have hI2 := hI.wider.put 2 (nilRow 9) hI.ext (nilRow_ok _ _ _) (fun _ _ _ _ _ _ => rfl) (fun _ _ _ _ => .inl rfl)
      obtain ⟨parts, hparts⟩ : ∃ parts, Cd.cuts i data = parts := ⟨_, rfl⟩
      have hpl : parts.length = i := by rw [← hparts, Cd.cuts_len]
      have hps : ∀ p ∈ parts, p.length ≤ 140737488351232 := fun p hp => by
        rw [← hparts] at hp
        have h1 := Cd.cuts_all (by omega) data hp
        have h2 := Cd.size_le (d := i) (by omega) data.length
        omega
      rw [hparts] at hI2
      have HI2 := Lib.hid hI2
      have HP := Lib.hid (And.intro hparts (And.intro hpl hps))
      have hrl := Cd.rowsOf_len HC.out
      obtain ⟨R, hR⟩ : ∃ R, Cd.rowsOf (i : Int) gs (gl : Int) = R := ⟨_, rfl⟩
      have HV3 := HV2
      rw [hR] at HV3 hrl ⊢
      have HRR := Lib.hid hR
      clear hI hI2 hparts hpl hps hR
      go_wp2_with fail
      go_loopw [11, 61] (fun vo vx wr => ∃ (k co : Nat) (O : Option Addr), k ≤ R.length ∧ vx = .int .i64 k ∧ vo = .slice O k co ∧ Hid (Owns w2 wr [⟨.slice (some ⟨w2.heap.size, 0, none⟩) N N, 5, 1, N, full.map bv⟩, ⟨.slice B i ca, 9, 1, i, parts.map sv⟩, ⟨.slice O k co, 9, 1, k, (Cd.encRows (R.take k) parts).map sv⟩, no])) (fun _ vx _ => R.length - (intOf vx).toNat)
      case atStart => exact ⟨0, 0, none, Nat.zero_le _, rfl, rfl, HI2.out⟩
      case round =>
        obtain ⟨k, co, O, hk2, rfl, rfl, HJ⟩ := hrel
        by_cases hlt2 : k < R.length
        · obtain ⟨ad, u, rfl, hcell, hu⟩ := HV3.out.at (i := k) hlt2
          obtain ⟨RB', cRB, rfl, hrb⟩ := hu.form
          have hcell2 := HJ.out.ext.cell hcell
          have hurd := hu.rd
          have hst : (Cd.encRows (R.take (k + 1)) parts).map sv = (Cd.encRows (R.take k) parts).map sv ++ [sv (Gf.combS R[k] parts)] := by
            rw [Cd.encRows, List.take_succ_eq_append_getElem hlt2, List.map_append, List.map_append]; rfl
          have hrlen : R[k].length = i := by
            have hw := Cd.rowsOf_at (d := (i : Int)) (gl := (gl : Int)) (gs := gs) HC.out (k := k) (by rw [HRR.out]; exact hlt2)
            rw [HRR.out, List.getD_eq_getElem?_getD, List.getElem?_eq_getElem hlt2] at hw
            exact hw
          obtain ⟨r, hr⟩ : ∃ r, R[k] = r := ⟨_, rfl⟩
          rw [hr] at hst hurd hcell2 hrlen
          have HST := Lib.hid hst
          have HU := Lib.hid hurd
          have HRL := Lib.hid hrlen
          clear hst hurd hu hcell hr hrb hrlen
          go_wp2_with fail
          refine (combine_any r parts _ _ _ _ _ _ _ (HT2.out.ext HJ.out.ext) rfl HP.out.2.1.symm (by rw [HRL.out]; omega) HP.out.2.2 (HU.out.ext HJ.out.ext) (HJ.out.rd 1 rfl)).mono ?_
          rintro e w5 ⟨rfl, hx5⟩
          have HJ5 := Lib.hid (HJ.out.next hx5)
          clear hx5 hcell2
          go_wp2_with (have hB := HJ5.out.new 3 #[sv (Gf.combS r parts)] 9 (by simp [maxLen]); refine wpl_append_owns (u := sv (Gf.combS r parts)) 32 9 rfl (.tmp 71) (.tmp 73) rfl Tryd.underlying32 info_str rfl hB 2 rfl rfl rfl (hB.cell 3 rfl 0 rfl) rfl (by omega) (by decide) ?_; clear hB; intro g8 c8 w8 hO8 _)
          go_roundw
          case rel => exact ⟨k + 1, c8, _, by omega, by go_num, rfl, by rw [HST.out]; exact hO8.drop 3⟩
          case measure => simp [intOf]; omega
        · obtain rfl : k = R.length := by omega
          have hout : Rs RS wr (.slice O R.length co) (Cd.encode (i : Int) (gl : Int) gs data) := by
            have h1 := HJ.out.rd 2 rfl
            rw [List.take_length, ← HP.out.1, ← HRR.out] at h1
            have h2 := Cd.encode_len (i : Int) (gl : Int) gs data
            rw [HRR.out] at h2
            rw [← h2]
            exact Rs.of_rdS h1 (by rw [h2]; omega)
          have hxx : Owns w wr [⟨.slice O R.length co, 9, 1, (Cd.encode (i : Int) (gl : Int) gs data).length, (Cd.encode (i : Int) (gl : Int) gs data).map sv⟩] := by
            have h1 := HJ.out.older HX2.out
            have h2 := Cd.encode_len (i : Int) (gl : Int) gs data
            rw [HRR.out] at h2
            rw [List.take_length, ← HP.out.1, ← HRR.out] at h1
            rw [h2, ← HRR.out]
            exact h1.sublist (.cons _ (.cons _ (.cons_cons _ (List.nil_sublist _))))
          have HOUT := Lib.hid (And.intro hout hxx)
          clear hout hxx
          go_wp2_with fail
          go_ret2
          exact ⟨_, rfl, HOUT.out.1, HOUT.out.2⟩
/-- `Encode` of every chunk: its list is of the call's own. -/
theorem cEncode_own (d gl : Int) (gs : List (List Int)) (data : List UInt8) (G : Value) (w : World) (hT : Tab w) (hG : Rs (Rs RI) w G gs) (hl : data.length ≤ 9223372036854775807) :
    Calls Tryd.prog 10 #[.agg #[.int .i64 d, G, .int .i64 gl], .string (sb data)] w fun e w' => ∃ v, e = .returned (.tuple #[v, .int .i64 (Cd.encE d gl gs data)]) ∧ Rs RS w' v (Cd.encL d gl gs data) ∧ Owns w w' [⟨v, 9, 1, (Cd.encL d gl gs data).length, (Cd.encL d gl gs data).map sv⟩] := by
  have hnil : ∀ w', Ext w w' → Owns w w' [⟨.slice none 0 0, 9, 1, ([] : List (List UInt8)).length, ([] : List (List UInt8)).map sv⟩] := fun w' hx =>
    (Owns.start w (L := [⟨.slice none 0 0, 9, 1, 0, []⟩]) (by intro r hr; simp at hr; subst hr; exact ⟨rfl, rfl, rfl⟩)).next hx
  by_cases h0 : Cd.check d gs gl = 0
  · by_cases hb : data.length ≤ 4096
    · have hk := Cd.check_ok h0
      rw [Cd.encE_ok h0 hb, Cd.encL_ok h0 hb]
      obtain ⟨n, rfl⟩ : ∃ n : Nat, d = n := ⟨d.toNat, by omega⟩
      obtain ⟨m, rfl⟩ : ∃ m : Nat, gl = m := ⟨gl.toNat, by omega⟩
      exact cEncode_ok n m gs data G w hT hG h0 hb
    · rw [Cd.encE_big h0 (by omega), Cd.encL_big (by omega)]
      refine (cEncode_big d gl gs data G w hT hG h0 (by omega) hl).mono ?_
      rintro e w' ⟨rfl, hx⟩
      exact ⟨_, rfl, ⟨none, 0, rfl, by simp, fun i x h => by simp at h⟩, hnil w' hx⟩
  · rw [Cd.encE_no h0, Cd.encL_no h0]
    refine (cEncode_no d gl gs data G w hT hG h0).mono ?_
    rintro e w' ⟨rfl, hx⟩
    exact ⟨_, rfl, ⟨none, 0, rfl, by simp, fun i x h => by simp at h⟩, hnil w' hx⟩
/-- `Encode` of every chunk. -/
theorem cEncode_any (d gl : Int) (gs : List (List Int)) (data : List UInt8) (G : Value) (w : World) (hT : Tab w) (hG : Rs (Rs RI) w G gs) (hl : data.length ≤ 9223372036854775807) :
    Calls Tryd.prog 10 #[.agg #[.int .i64 d, G, .int .i64 gl], .string (sb data)] w fun e w' => ∃ v, e = .returned (.tuple #[v, .int .i64 (Cd.encE d gl gs data)]) ∧ Rs RS w' v (Cd.encL d gl gs data) ∧ Ext w w' :=
  (cEncode_own d gl gs data G w hT hG hl).mono fun _ _ ⟨v, h1, h2, h3⟩ => ⟨v, h1, h2, h3.ext⟩
end Go.Proofs.YtgkohfmgdejkpaaDoor
