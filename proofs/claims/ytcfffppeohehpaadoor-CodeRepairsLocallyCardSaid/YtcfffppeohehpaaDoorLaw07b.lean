/- THE WALK over CodeRepairsLocally. -/
import Derived.Test.YtcfffppeohehpaaDoorRepC
import Derived.Test.YtcfffppeohehpaaDoorLaw07a
namespace Go.Proofs.YtcfffppeohehpaaDoor
open Go.RowKit
set_option maxRecDepth 100000 in
set_option maxHeartbeats 8000000 in
theorem rep_out (d gl : Int) (gs : List (List Int)) (data : List UInt8) (G : Value) (lost : Nat) (w : World) (hT : Tab w) (hG : Rs (Rs RI) w G gs) (hl : data.length ≤ 9223372036854775807)
    (ho : 20 < gs.length ∨ 200 < data.length ∨ Cd.check d gs gl ≠ 0) :
    Calls Tryd.prog 7 #[.agg #[.int .i64 d, G, .int .i64 gl], .string (sb data), .int .u16 lost] w fun e w' => e = .returned (.bool true) ∧ Ext w w' := by
  obtain ⟨A, c, rfl, hgl⟩ := hG.form
  have hx := (Ext.refl w).alloc (.cells #[.int .i64 d, .slice A gs.length c, .int .i64 gl] 24)
  have HG := Lib.hid (Rs.ext (Rs.ext RI.ext) _ _ _ _ hx hG)
  have HT := Lib.hid hT
  have HX := Lib.hid hx
  clear hG hT hx
  by_cases h1 : 20 < gs.length
  · clear ho
    go_enter Tryd.func7, Tryd.ntmps7
    go_wp2_with fail
    refine (sanity_any _ (HT.out.ext HX.out)).mono ?_
    rintro e w2 ⟨rfl, hx2⟩
    go_wp2_with fail
    go_ret
    exact ⟨rfl, HX.out.trans hx2⟩
  · by_cases h3 : 200 < data.length
    · clear ho
      go_enter Tryd.func7, Tryd.ntmps7
      go_wp2_with fail
      refine (sanity_any _ (HT.out.ext HX.out)).mono ?_
      rintro e w2 ⟨rfl, hx2⟩
      go_wp2_with fail
      go_ret
      exact ⟨rfl, HX.out.trans hx2⟩
    · have h4 : Cd.check d gs gl ≠ 0 := by omega
      have e4 : (Cd.check d gs gl != 0) = true := by rw [bne_iff_ne]; exact h4
      clear ho h4
      go_enter Tryd.func7, Tryd.ntmps7
      go_wp2_with fail
      refine (cCheck_any d gl gs _ _ HG.out).mono ?_
      rintro e w2 ⟨rfl, hx2⟩
      have HX2 := Lib.hid (HX.out.trans hx2)
      clear hx2
      go_wp2_with fail
      refine (sanity_any _ (HT.out.ext HX2.out)).mono ?_
      rintro e w3 ⟨rfl, hx3⟩
      go_wp2_with fail
      go_ret
      exact ⟨rfl, HX2.out.trans hx3⟩
set_option maxRecDepth 100000 in
set_option maxHeartbeats 8000000 in
theorem rep_in (d gl : Nat) (gs : List (List Int)) (data : List UInt8) (G : Value) (lost : Nat) (w : World) (hT : Tab w) (hG : Rs (Rs RI) w G gs) (hlo : lost < 65536)
    (hg20 : gs.length ≤ 20) (hd2 : data.length ≤ 200) (h0 : Cd.check d gs gl = 0) :
    Calls Tryd.prog 7 #[.agg #[.int .i64 d, G, .int .i64 gl], .string (sb data), .int .u16 lost] w fun e w' => e = .returned (.bool true) ∧ Ext w w' := by
  obtain ⟨A, c, rfl, hgl⟩ := hG.form
  have hx := (Ext.refl w).alloc (.cells #[.int .i64 d, .slice A gs.length c, .int .i64 gl] 24)
  have hB := cells_new w #[.int .i64 d, .slice A gs.length c, .int .i64 gl] 24
  have HG := Lib.hid (Rs.ext (Rs.ext RI.ext) _ _ _ _ hx hG)
  have HT := Lib.hid hT
  have HX := Lib.hid hx
  have HB := Lib.hid hB
  have e4 : (Cd.check (d : Int) gs (gl : Int) != 0) = false := by rw [h0]; rfl
  have hk := Cd.check_ok h0
  have hrl := Cd.rowsOf_len h0
  have hpc : Cd.pieces (d : Int) gs (gl : Int) = ((Cd.rowsOf (d : Int) gs (gl : Int)).length : Int) := by rw [Cd.pieces_ok h0, hrl]
  obtain ⟨L, hL⟩ : ∃ L, (Cd.rowsOf (d : Int) gs (gl : Int)).length = L := ⟨_, rfl⟩
  rw [hL] at hrl hpc
  have hL1 : 1 ≤ L := by omega
  have hL24 : L ≤ 24 := by omega
  have hLd : d + gs.length ≤ L := by omega
  have hd16 : d ≤ 16 := by omega
  have hgl4 : gl ≤ 4 := by omega
  have H0 := Lib.hid h0
  have HL := Lib.hid hL
  have HP := Lib.hid hpc
  clear hG hT hx hB h0 hk hrl hL hpc
  go_enter Tryd.func7, Tryd.ntmps7
  go_wp2_with fail
  refine (cCheck_any d gl gs _ _ HG.out).mono ?_
  rintro e w2 ⟨rfl, hx2⟩
  have HB2 := Lib.hid (HB.out.ext hx2)
  have HX2 := Lib.hid (HX.out.trans hx2)
  have HG2 := Lib.hid (Rs.ext (Rs.ext RI.ext) _ _ _ _ hx2 HG.out)
  have c0 : w2.cell? ⟨w.heap.size, 0, none⟩ = some (.int .i64 d) := HB2.out 0 _ rfl
  have c1 : w2.cell? ⟨w.heap.size, 1, none⟩ = some (.slice A gs.length c) := HB2.out 1 _ rfl
  have c2 : w2.cell? ⟨w.heap.size, 2, none⟩ = some (.int .i64 gl) := HB2.out 2 _ rfl
  clear hx2
  go_wp2_with fail
  clear c0 c1 c2
  refine (cEncode_own d gl gs data _ _ (HT.out.ext HX2.out) HG2.out (by omega)).mono ?_
  rintro e w3 ⟨v, rfl, hv, hO⟩
  rw [Cd.encE_ok H0.out (by omega)]
  rw [Cd.encL_ok H0.out (by omega)] at hv hO
  have hEl := Cd.encode_len (d : Int) (gl : Int) gs data
  rw [HL.out] at hEl
  obtain ⟨E, hE⟩ : ∃ E, Cd.encode (d : Int) (gl : Int) gs data = E := ⟨_, rfl⟩
  rw [hE] at hv hO hEl
  rw [hEl] at hO
  obtain ⟨L', rfl⟩ : ∃ L', L = L' + 1 := ⟨L - 1, by omega⟩
  obtain ⟨gL, cL, rfl⟩ := ownsRow_succ (hO.row 0 rfl)
  have HE := Lib.hid (And.intro hE hEl)
  have HB3 := Lib.hid (HB2.out.ext hO.ext)
  have HX3 := Lib.hid (HX2.out.trans hO.ext)
  have HG3 := Lib.hid (Rs.ext (Rs.ext RI.ext) _ _ _ _ hO.ext HG2.out)
  have HO3 := Lib.hid hO
  have c0 : w3.cell? ⟨w.heap.size, 0, none⟩ = some (.int .i64 d) := HB3.out 0 _ rfl
  have c1 : w3.cell? ⟨w.heap.size, 1, none⟩ = some (.slice A gs.length c) := HB3.out 1 _ rfl
  have c2 : w3.cell? ⟨w.heap.size, 2, none⟩ = some (.int .i64 gl) := HB3.out 2 _ rfl
  clear hE hEl hv hO
  obtain ⟨L, hLL⟩ : ∃ L, L' + 1 = L := ⟨_, rfl⟩
  rw [hLL] at hL1 hL24 HL HP HE HO3 hLd ⊢
  clear hLL
  go_wp2_with fail
  clear c0 c1 c2
  refine (cPieces_any d gl gs _ _ HG3.out).mono ?_
  rintro e w4 ⟨rfl, hx4⟩
  rw [HP.out]
  have HB4 := Lib.hid (HB3.out.ext hx4)
  have HX4 := Lib.hid (HX3.out.trans hx4)
  have HG4 := Lib.hid (Rs.ext (Rs.ext RI.ext) _ _ _ _ hx4 HG3.out)
  have HO4 := Lib.hid (HO3.out.next hx4)
  have c0 : w4.cell? ⟨w.heap.size, 0, none⟩ = some (.int .i64 d) := HB4.out 0 _ rfl
  have c1 : w4.cell? ⟨w.heap.size, 1, none⟩ = some (.slice A gs.length c) := HB4.out 1 _ rfl
  have c2 : w4.cell? ⟨w.heap.size, 2, none⟩ = some (.int .i64 gl) := HB4.out 2 _ rfl
  have eL : ((L : Int) != (L : Int)) = false := by simp
  have hD1 : 1 ≤ 2 ^ d := Nat.one_le_two_pow
  have hD2 : 2 ^ d ≤ 65536 := show 2 ^ d ≤ 2 ^ 16 from Nat.pow_le_pow_right (by decide) hd16
  have hw1 := wrap_pow d (by omega)
  have hmD : lost % 2 ^ d < 2 ^ d := Nat.mod_lt _ (by omega)
  obtain ⟨D, hD⟩ : ∃ D, 2 ^ d = D := ⟨_, rfl⟩
  rw [hD] at hD1 hD2 hw1 hmD
  have hrem : (lost : Int) % (D : Int) = ((lost % D : Nat) : Int) := (Int.natCast_emod lost D).symm
  obtain ⟨m, hm⟩ : ∃ m, lost % D = m := ⟨_, rfl⟩
  rw [hm] at hmD hrem
  have eD : ((D : Int) == 0) = false := by rw [beq_eq_false_iff_ne]; omega
  have hm16 : m < 65536 := by omega
  have HD := Lib.hid (And.intro hD hmD)
  clear hx4 hD hm
  go_wp2_with fail
  rw [hrem]
  clear c0 c1 c2 hw1 hrem
  have hb3 := Cd.check_g H0.out
  obtain ⟨hasc, hdis⟩ := Cd.check_asc hb3
  have HASC := Lib.hid hasc
  clear hb3 hasc hdis
  have hEv : ∀ k, k < L → (E.getD k []).length ≤ 200 := fun k hk => by
    have h := Cd.encode_even H0.out data (k := k) (by rw [HL.out]; exact hk)
    rw [HE.out.1, Int.toNat_natCast] at h
    have h2 := Cd.size_le (d := d) (by have := Cd.check_ok H0.out; omega) data.length
    omega
  have HEV := Lib.hid hEv
  clear hEv
  have hEat : ∀ wr, Ext w4 wr → ∀ k, k < L → wr.cell? ⟨gL, k, none⟩ = some (sv (E.getD k [])) := fun wr hx k hk => by
    refine hx.cell (HO4.out.cell 0 rfl k ?_)
    rw [List.getElem?_map, List.getD_eq_getElem?_getD, List.getElem?_eq_getElem (by rw [HE.out.2]; exact hk)]
    rfl
  have HEAT := Lib.hid hEat
  clear hEat
  go_loopw [71, 11] (fun vg va wr => ∃ g : Nat, g ≤ gs.length ∧ vg = .int .i64 g ∧ va = .int .i64 (Cd.alone m (gs.take g) : Nat) ∧ Hid (Ext w4 wr)) (fun vg _ _ => gs.length - (intOf vg).toNat)
  case atStart => exact ⟨0, Nat.zero_le _, rfl, rfl, Ext.refl _⟩
  case round =>
    obtain ⟨g, hg, rfl, rfl, HR⟩ := hrel
    by_cases hlt : g < gs.length
    · obtain ⟨ad, u, rfl, hcell, hu⟩ := HG4.out.at (i := g) hlt
      obtain ⟨GA, cG, rfl, hql⟩ := hu.form
      have hcr := HR.out.cell hcell
      have hnext := Cd.alone_take (s := m) hlt
      have hgat : gs.getD g [] = gs[g] := by rw [List.getD_eq_getElem?_getD, List.getElem?_eq_getElem hlt]; rfl
      have hmem := List.getElem_mem hlt
      obtain ⟨q, hq⟩ : ∃ q, gs[g] = q := ⟨_, rfl⟩
      rw [hq] at hcr hu hql hnext hgat hmem
      have hal := Cd.alone_le m (gs.take g)
      rw [List.length_take] at hal
      have hal2 : Cd.alone m (gs.take g) ≤ 20 := by omega
      obtain ⟨al, hall⟩ : ∃ al, Cd.alone m (gs.take g) = al := ⟨_, rfl⟩
      rw [hall] at hnext hal2 ⊢
      have HNX := Lib.hid hnext
      have HU := Lib.hid hu
      have hqb := (HASC.out q hmem)
      have hq16 : q.length ≤ 16 := by
        have h1 : ∀ (l : List Int) (a : Int), (∀ i ∈ l, a ≤ i ∧ i < d) → l.Pairwise (· < ·) → (l.length : Int) ≤ max 0 (d - a) := by
          intro l
          induction l with
          | nil => intro a _ _; simp; omega
          | cons x r ih =>
            intro a hb hp
            obtain ⟨p1, p2⟩ := List.pairwise_cons.1 hp
            have hx := hb x (by simp)
            have := ih (x + 1) (fun i hi => ⟨by have := p1 i hi; omega, (hb i (by simp [hi])).2⟩) p2
            rw [List.length_cons]
            omega
        have := h1 q 0 (fun i hi => ⟨(hqb.2.1 i hi).1, (hqb.2.1 i hi).2.1⟩) hqb.2.2
        omega
      have HQB := Lib.hid (And.intro hqb hgat)
      clear hcell hq hnext hu hqb hgat hmem hall hal
      go_wp2_with fail
      clear hcr
      go_loopw [78, 14] (fun vk vm wr2 => ∃ k : Nat, k ≤ q.length ∧ vk = .int .i64 k ∧ vm = .int .i64 (Cd.many m (q.take k) : Nat) ∧ Hid (Ext w4 wr2)) (fun vk _ _ => q.length - (intOf vk).toNat)
      case atStart => exact ⟨0, Nat.zero_le _, rfl, rfl, HR.out⟩
      case round =>
        obtain ⟨k, hk, rfl, rfl, HR2⟩ := hrel
        by_cases hltk : k < q.length
        · obtain ⟨qd, u2, rfl, hcell2, hu2⟩ := HU.out.at (i := k) hltk
          have hu2' : u2 = .int .i64 q[k] := hu2.1
          subst hu2'
          have hcr2 := HR2.out.cell hcell2
          have hmt := Cd.many_take (s := m) hltk
          have hmb := Cd.many_le m (q.take k)
          rw [List.length_take] at hmb
          have hqm := List.getElem_mem hltk
          have hqd := HQB.out.1.2.1 _ hqm
          have hqat : q.getD k 0 = q[k] := by rw [List.getD_eq_getElem?_getD, List.getElem?_eq_getElem hltk]; rfl
          obtain ⟨ii, hii⟩ : ∃ ii, q[k] = ii := ⟨_, rfl⟩
          rw [hii] at hcr2 hmt hqm hqd hqat
          obtain ⟨i, rfl⟩ : ∃ i : Nat, ii = i := ⟨ii.toNat, by omega⟩
          rw [Int.toNat_natCast] at hmt
          have hid : i < d := by omega
          have hgs := Cd.group_sum H0.out data hlt (i := (i : Int)) (by rw [HQB.out.2]; exact hqm)
          rw [HE.out.1, HQB.out.2, Int.toNat_natCast, Int.toNat_natCast] at hgs
          obtain ⟨mn, hmn⟩ : ∃ mn, Cd.many m (q.take k) = mn := ⟨_, rfl⟩
          rw [hmn] at hmt hmb ⊢
          have hmn16 : mn ≤ 16 := by omega
          have hmm : bits .and .i64 ((m : Int) / 2 ^ i) 1 = ((Cd.bitAt m i : Nat) : Int) := by
            have hle : m / 2 ^ i ≤ m := Nat.div_le_self _ _
            have := odd64 (m / 2 ^ i) (by omega)
            rw [Cd.bitAt, ← this]
            simp
          have hb01 : Cd.bitAt m i ≤ 1 := by unfold Cd.bitAt; omega
          obtain ⟨bb, hbb⟩ : ∃ bb, Cd.bitAt m i = bb := ⟨_, rfl⟩
          rw [hbb] at hmm hmt hb01
          have e0 := HB4.out.ext HR2.out
          have c0 : wr.cell? ⟨w.heap.size, 0, none⟩ = some (.int .i64 d) := e0 0 _ rfl
          have cdg := HEAT.out wr HR2.out (d + g) (by omega)
          have cdg2 := HEAT.out wr HR2.out i (by omega)
          obtain ⟨s0, hs0⟩ : ∃ s0, E.getD (d + g) [] = s0 := ⟨_, rfl⟩
          rw [hs0] at cdg hgs
          have hs0l : s0.length ≤ 200 := by rw [← hs0]; exact HEV.out _ (by omega)
          have HMT := Lib.hid hmt
          have HGS := Lib.hid hgs
          have HS0 := Lib.hid hs0
          have HQI := Lib.hid (And.intro hqat hii)
          clear hcell2 hu2 hmt hmb hqm hqd hqat hii hmn hbb e0 hgs hs0 cdg2
          go_wp2_with fail
          clear hmm c0 cdg hcr2
          have hsl : ∀ x, x ≤ q.length → (Cd.sumTo E (i : Int) s0 q x).length ≤ 200 := by
            intro x
            induction x with
            | zero => intro _; exact hs0l
            | succ x ih =>
              intro hx
              rw [Cd.sumTo]
              split
              · exact ih (by omega)
              · rw [Cd.sum_len]
                have h1 := ih (by omega)
                have h2 := HQB.out.1.2.1 _ (List.getElem_mem (show x < q.length by omega))
                have h3 := HEV.out (q.getD x 0).toNat (by rw [List.getD_eq_getElem?_getD, List.getElem?_eq_getElem (show x < q.length by omega)]; show (q[x]).toNat < L; omega)
                omega
          have HSL := Lib.hid hsl
          clear hsl
          go_loopw [97, 17] (fun vx vs wr3 => ∃ x : Nat, x ≤ q.length ∧ vx = .int .i64 x ∧ vs = sv (Cd.sumTo E (i : Int) s0 q x) ∧ Hid (Ext w4 wr3)) (fun vx _ _ => q.length - (intOf vx).toNat)
          case atStart => exact ⟨0, Nat.zero_le _, rfl, rfl, HR2.out⟩
          case round =>
            obtain ⟨x, hx, rfl, rfl, HR3⟩ := hrel
            by_cases hltx : x < q.length
            · obtain ⟨qd', u3, hqd', hcell3, hu3⟩ := HU.out.at (i := x) hltx
              injection hqd' with hqd'
              subst hqd'
              have hu3' : u3 = .int .i64 q[x] := hu3.1
              subst hu3'
              have hcr3 := HR3.out.cell hcell3
              have hqm := List.getElem_mem hltx
              have hqd2 := HQB.out.1.2.1 _ hqm
              have hqat2 : q.getD x 0 = q[x] := by rw [List.getD_eq_getElem?_getD, List.getElem?_eq_getElem hltx]; rfl
              have hstep : Cd.sumTo E (i : Int) s0 q (x + 1) = if q.getD x 0 = (i : Int) then Cd.sumTo E (i : Int) s0 q x else Gf.sum (Cd.sumTo E (i : Int) s0 q x) (E.getD (q.getD x 0).toNat []) := rfl
              have hsx := HSL.out x hx
              obtain ⟨jj, hjj⟩ : ∃ jj, q[x] = jj := ⟨_, rfl⟩
              rw [hqat2] at hstep
              rw [hjj] at hcr3 hqd2 hstep
              obtain ⟨j, rfl⟩ : ∃ j : Nat, jj = j := ⟨jj.toNat, by omega⟩
              have hjd : j < d := by omega
              obtain ⟨S, hS⟩ : ∃ S, Cd.sumTo E (i : Int) s0 q x = S := ⟨_, rfl⟩
              rw [hS] at hstep hsx ⊢
              rw [Int.toNat_natCast] at hstep
              have HST := Lib.hid hstep
              clear hcell3 hu3 hqm hqd2 hqat2 hstep hjj hS
              by_cases hji : j = i
              · have ej : ((j : Int) != (i : Int)) = false := by rw [hji]; simp
                have hst := HST.out
                rw [if_pos (by omega)] at hst
                have HST2 := Lib.hid hst
                clear hst hji
                go_wp2_with fail
                go_roundw
                case rel => exact ⟨x + 1, by omega, by go_num, by rw [HST2.out], HR3.out⟩
                case measure => simp [intOf]; omega
              · have ej : ((j : Int) != (i : Int)) = true := by rw [bne_iff_ne]; omega
                have hst := HST.out
                rw [if_neg (by omega)] at hst
                have hcj := HEAT.out wr HR3.out j (by omega)
                have hje := HEV.out j (by omega)
                obtain ⟨pj, hpj⟩ : ∃ pj, E.getD j [] = pj := ⟨_, rfl⟩
                rw [hpj] at hst hcj hje
                have HST2 := Lib.hid hst
                clear hst hji hpj
                go_wp2_with fail
                refine (sum_any (sb S) (sb pj) _ (by rw [size_sb]; omega) (by rw [size_sb]; omega)).mono ?_
                rintro e w9 ⟨rfl, hx9⟩
                have HR4 := Lib.hid (HR3.out.trans hx9)
                clear hx9 hcj hcr3
                go_wp2_with fail
                go_roundw
                case rel => exact ⟨x + 1, by omega, by go_num, by rw [HST2.out], HR4.out⟩
                case measure => simp [intOf]; omega
            · obtain rfl : x = q.length := by omega
              have hsum := HGS.out
              have hcz := HEAT.out wr HR3.out i (by omega)
              rw [hsum]
              have hs := sb_same (e := E.getD i []) rfl
              obtain ⟨pi, hpi⟩ : ∃ pi, E.getD i [] = pi := ⟨_, rfl⟩
              rw [hpi] at hcz hs ⊢
              clear hpi hsum
              go_wp2_with fail
              go_roundw
              case rel => exact ⟨k + 1, by omega, by go_num, by rw [HMT.out]; go_num, HR3.out⟩
              case measure => simp [intOf]; omega
        · obtain rfl : k = q.length := by omega
          rw [List.take_length]
          have hnx := HNX.out
          obtain ⟨mn, hmn⟩ : ∃ mn, Cd.many m q = mn := ⟨_, rfl⟩
          rw [hmn] at hnx ⊢
          clear hmn
          by_cases h1 : mn = 1
          · have em : ((mn : Int) == 1) = true := by rw [h1]; rfl
            rw [if_pos h1] at hnx
            have HNX2 := Lib.hid hnx
            clear hnx h1
            go_wp2_with fail
            go_roundw
            case rel => exact ⟨g + 1, by omega, by go_num, by rw [HNX2.out, Int.natCast_add]; rfl, HR2.out⟩
            case measure => simp [intOf]; omega
          · have em : ((mn : Int) == 1) = false := by rw [beq_eq_false_iff_ne]; omega
            rw [if_neg h1] at hnx
            have HNX2 := Lib.hid hnx
            clear hnx h1
            go_wp2_with fail
            go_roundw
            case rel => exact ⟨g + 1, by omega, by go_num, by rw [HNX2.out]; rfl, HR2.out⟩
            case measure => simp [intOf]; omega
    · obtain rfl : g = gs.length := by omega
      rw [List.take_length]
      have hal := Cd.alone_le m gs
      have hctl := Cd.cnt_lost (d := d) hd16 (s := m) (by rw [HD.out.1]; exact HD.out.2)
      have hcl := Cd.cnt_le m
      have hrep : (Ones.cnt m ≤ gl + Cd.alone m gs) → Cd.can (d : Int) (gl : Int) gs ((2 ^ L - 1 - m : Nat) : Int) = true := fun hle => by
        have h := Cd.repair H0.out (s := m) (by rw [Int.toNat_natCast, HD.out.1]; exact HD.out.2) (by rw [Int.toNat_natCast, Int.toNat_natCast, ← hctl]; exact hle)
        rw [HL.out] at h
        exact h
      obtain ⟨al, hall⟩ : ∃ al, Cd.alone m gs = al := ⟨_, rfl⟩
      rw [hall] at hal hrep ⊢
      clear hall hctl
      have e0 := HB4.out.ext HR.out
      have hG := Rs.ext (Rs.ext RI.ext) _ _ _ _ HR.out HG4.out
      have hx9 := HX4.out.trans HR.out
      have HX9 := Lib.hid hx9
      have HT9 := Lib.hid (HT.out.ext hx9)
      have HG9 := Lib.hid hG
      have HE0 := Lib.hid e0
      have HREP := Lib.hid hrep
      clear e0 hG hx9 hrep
      go_wp2_with fail
      refine (cCount_any m _ (by omega)).mono ?_
      rintro e w' ⟨rfl, rfl⟩
      go_wp2_with fail
      obtain ⟨ct, hct⟩ : ∃ ct, Ones.cnt m = ct := ⟨_, rfl⟩
      have hrep := HREP.out
      rw [hct] at hcl hrep ⊢
      clear hct
      have hpw := wrap_pow L (by omega)
      have hM24 : 2 ^ L ≤ 16777216 := show 2 ^ L ≤ 2 ^ 24 from Nat.pow_le_pow_right (by decide) hL24
      have hDL : D ≤ 2 ^ L := by rw [← HD.out.1]; exact Nat.pow_le_pow_right (by decide) (by omega)
      have hpw2 : IntKind.i64.wrap (2 ^ L) = ((2 ^ L : Nat) : Int) := by rw [IntKind.wrap_i64]; unfold wrap64 at hpw; exact hpw
      have hal20 : al ≤ 100 := by omega
      have hct100 : ct ≤ 100 := by omega
      obtain ⟨M, hM⟩ : ∃ M, 2 ^ L = M := ⟨_, rfl⟩
      rw [hM] at hM24 hDL hpw2 hrep
      have HPW := Lib.hid hpw2
      have hmM : m < M := by have := HD.out.2; omega
      clear hpw hpw2 hM
      by_cases hgt : gl + al < ct
      · refine wp_atEnd' (rep_gt w.heap.size L m al ct gl wr hct100 (HE0.out 2 _ rfl) HT9 hgt _ _ _ _ _ _ _ _ _ _ _ _ _ _ _ _ _ _ _ _ _ _ _ _ _ _ _ _ _ _ _ _ _ _ _ _ _ _ _ _ _ _ _ _ _ _ _ _ _ _ _ _ _ _ _ _ _ _ _ _ _ _ _ _ _ _ _ _ _ _ _ _ _ _ _ _ _ _ _ _ _ _ _ _ _ _ _ _ _ _ _ _ _ _ _ _ _ _ _ _ _ _ _ _ _ _ _ _ _ _ _ _ _ _ _ _ _ _ _ _ _ _ _ _ _ _ _ _ _ _ _ _ _ _ _ _ _ _ _ _ ?_)
        intro u125 u126 u127 u128 u129 u130 u131 u132 u133 u134 u135 u136 u137 u138 u139 u140 u141 u142 wx hxx
        have HXX := Lib.hid (HX9.out.trans hxx)
        clear hxx hM24 hDL hrep
        go_wp2_with fail
        go_ret
        exact ⟨rfl, HXX.out⟩
      · refine wp_atEnd' (rep_le w.heap.size L m al ct c M d gl gs A wr hL24 hM24 hmM hct100 hal20 (HE0.out 0 _ rfl) (HE0.out 1 _ rfl) (HE0.out 2 _ rfl) HT9 HG9 HPW (by omega) (Lib.hid (hrep (by omega))) _ _ _ _ _ _ _ _ _ _ _ _ _ _ _ _ _ _ _ _ _ _ _ _ _ _ _ _ _ _ _ _ _ _ _ _ _ _ _ _ _ _ _ _ _ _ _ _ _ _ _ _ _ _ _ _ _ _ _ _ _ _ _ _ _ _ _ _ _ _ _ _ _ _ _ _ _ _ _ _ _ _ _ _ _ _ _ _ _ _ _ _ _ _ _ _ _ _ _ _ _ _ _ _ _ _ _ _ _ _ _ _ _ _ _ _ _ _ _ _ _ _ _ _ _ _ _ _ _ _ _ _ _ _ _ _ _ _ _ _ ?_)
        intro u125 u126 u127 u128 u129 u130 u131 u132 u133 u134 u135 u136 u137 u138 u139 u140 u141 u142 wx hxx
        have HXX := Lib.hid (HX9.out.trans hxx)
        clear hxx hM24 hDL hrep
        go_wp2_with fail
        go_ret
        exact ⟨rfl, HXX.out⟩
/-- CodeRepairsLocally is true. -/
theorem rep_walk (d gl : Int) (gs : List (List Int)) (data : List UInt8) (G : Value) (lost : Nat) (w : World) (hT : Tab w) (hG : Rs (Rs RI) w G gs) (hlo : lost < 65536) (hl : data.length ≤ 9223372036854775807) :
    Calls Tryd.prog 7 #[.agg #[.int .i64 d, G, .int .i64 gl], .string (sb data), .int .u16 lost] w fun e w' => e = .returned (.bool true) ∧ Ext w w' := by
  by_cases ho : 20 < gs.length ∨ 200 < data.length ∨ Cd.check d gs gl ≠ 0
  · exact rep_out d gl gs data G lost w hT hG hl ho
  · have h0 : Cd.check d gs gl = 0 := by omega
    have hk := Cd.check_ok h0
    obtain ⟨d', rfl⟩ : ∃ k : Nat, d = k := ⟨d.toNat, by omega⟩
    obtain ⟨gl', rfl⟩ : ∃ k : Nat, gl = k := ⟨gl.toNat, by omega⟩
    exact rep_in d' gl' gs data G lost w hT hG hlo (by omega) (by omega) h0
end Go.Proofs.YtcfffppeohehpaaDoor
