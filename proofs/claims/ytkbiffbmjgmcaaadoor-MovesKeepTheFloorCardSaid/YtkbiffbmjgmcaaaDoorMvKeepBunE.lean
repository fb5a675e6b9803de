/- What the program's functions do, step by step: part E of the texts for this claim; no condition beyond what each theorem states. -/
import Derived.Deep.Matrix
import Derived.Lib.SmallJoins
import Derived.Deep.Slices
import Derived.Test.YtkbiffbmjgmcaaaDoorMvKeepBunA
import Derived.Test.YtkbiffbmjgmcaaaDoorMvKeepBunB
import Derived.Test.YtkbiffbmjgmcaaaDoorMvKeepBunC
import Derived.Test.YtkbiffbmjgmcaaaDoorMvKeepBunD
/- THE FLOOR IS KEPT: the walk. -/
namespace Go.Proofs.YtkbiffbmjgmcaaaDoor
open Go.RowKit
theorem map_getD {l : List Int} {i n : Nat} (hl : l.length = n) (h : i < n) : (l.map (Value.int .i64))[i]? = some (.int .i64 (l.getD i 0)) := by
  have h2 : i < l.length := by omega
  rw [List.getElem?_map, List.getElem?_eq_getElem h2, getD_get h2]; rfl
set_option maxHeartbeats 8000000 in
set_option maxRecDepth 100000 in
theorem law_keep (s : Mv.Sh) (ph : List Int) (rs : List Int) (v u q : Value) (w : World) (hT : Tab w) (hv : RSh w v s) (hu : Rs RI w u ph) (hq : Rs RI w q rs) :
    Calls Tryd.prog 7 #[v, u, q] w fun e w' => e = .returned (.bool true) ∧ Ext w w' := by
  obtain ⟨DA, KA, HA, GA, RA, FA, TA, cD, cK, cH, cG, cR, cF, cT, rfl, hS⟩ := hv.open
  obtain ⟨PA, cP, rfl, hp64⟩ := hu.form
  obtain ⟨QA, cQ, rfl, hq64⟩ := hq.form
  have hx0 := (Ext.refl w).alloc (.cells #[.slice DA s.disks.length cD, .slice KA s.racks.length cK, .slice HA s.houses.length cH, .int .i64 s.owners, .int .i64 s.d, .slice GA s.gs.length cG, .int .i64 s.gl, .int .i64 s.floor, .slice RA s.room.length cR, .slice FA s.src.length cF, .slice TA s.dst.length cT] 30)
  have HX0 := Lib.hid hx0
  have HT := Lib.hid (hT.ext hx0)
  have HS := Lib.hid (hS.ext hx0)
  have HP := Lib.hid (Rs.ext RI.ext _ _ _ _ hx0 hu)
  have HQ := Lib.hid (Rs.ext RI.ext _ _ _ _ hx0 hq)
  have HF64 := Lib.hid hS.floor
  have hB := BoxAt.new w s DA KA HA GA RA FA TA cD cK cH cG cR cF cT
  have HB := Lib.hid hB
  have a0 := hB.b0
  have a1 := hB.b1
  have a2 := hB.b2
  have a3 := hB.b3
  have a4 := hB.b4
  have a5 := hB.b5
  have a6 := hB.b6
  have a7 := hB.b7
  have a8 := hB.b8
  have a9 := hB.b9
  have a10 := hB.b10
  clear hT hv hu hS hx0 hB hq
  go_enter Tryd.func7, Tryd.ntmps7
  go_wp2_with fail
  clear a0 a1 a2 a3 a4 a5 a6 a7 a8 a9 a10
  refine (kFew_any s 10 6 _ _ HS.out.sh).mono ?_
  rintro e w1 ⟨rfl, hx1⟩
  have HX1 := Lib.hid hx1
  clear hx1
  by_cases hf : Mv.few s 10 6
  case neg =>
    rw [decide_eq_false hf]
    clear hf
    go_wp2_with fail
    refine (sanity_any w1 (HT.out.ext HX1.out)).mono ?_
    rintro e w2 ⟨rfl, hx2⟩
    have HX2 := Lib.hid (HX1.out.trans hx2)
    clear hx2
    go_wp2_with fail
    go_ret
    exact ⟨rfl, HX0.out.trans HX2.out⟩
  case pos =>
  rw [decide_eq_true hf]
  have HF := Lib.hid hf
  clear hf
  by_cases h30 : 30 < ph.length
  · skip
    go_wp2_with fail
    refine (sanity_any w1 (HT.out.ext HX1.out)).mono ?_
    rintro e w2 ⟨rfl, hx2⟩
    have HX2 := Lib.hid (HX1.out.trans hx2)
    clear hx2
    go_wp2_with fail
    go_ret
    exact ⟨rfl, HX0.out.trans HX2.out⟩
  have a7 := (HB.out.ext HX1.out).b7
  by_cases hfl : s.floor ≤ (rs.length : Int)
  · skip
    go_wp2_with fail
    clear a7
    refine (sanity_any w1 (HT.out.ext HX1.out)).mono ?_
    rintro e w2 ⟨rfl, hx2⟩
    have HX2 := Lib.hid (HX1.out.trans hx2)
    clear hx2
    go_wp2_with fail
    go_ret
    exact ⟨rfl, HX0.out.trans HX2.out⟩
  have HFL : Hid ((rs.length : Int) < s.floor) := Lib.hid (by omega)
  have hsm := Mv.planned_small (fun m => Cd.can s.d s.gl s.gs m) s ph
  have hz0 := fun h => Mv.planned_zero (can := (fun m => Cd.can s.d s.gl s.gs m)) (s := s) (ph := ph) h
  obtain ⟨r, hr⟩ : ∃ r, Mv.planned (fun m => Cd.can s.d s.gl s.gs m) s ph = r := ⟨_, rfl⟩
  have hm := mPlan_any s ph _ _ w1 (HT.out.ext HX1.out) (HS.out.ext HX1.out).sh (Rs.ext RI.ext _ _ _ _ HX1.out HP.out)
  rw [hr] at hsm hm
  simp only [hr] at hz0
  obtain ⟨l, E⟩ := r
  obtain ⟨hl48, hx24⟩ := hsm
  dsimp only at hl48 hx24 hz0
  have HX24 := Lib.hid hx24
  have HM := Lib.hid hm
  have HZ := Lib.hid hz0
  clear a7
  have a0 := (HB.out.ext HX1.out).b0
  have a1 := (HB.out.ext HX1.out).b1
  have a2 := (HB.out.ext HX1.out).b2
  have a3 := (HB.out.ext HX1.out).b3
  have a4 := (HB.out.ext HX1.out).b4
  have a5 := (HB.out.ext HX1.out).b5
  have a6 := (HB.out.ext HX1.out).b6
  have a7 := (HB.out.ext HX1.out).b7
  have a8 := (HB.out.ext HX1.out).b8
  have a9 := (HB.out.ext HX1.out).b9
  have a10 := (HB.out.ext HX1.out).b10
  clear hr hm hx24 hz0
  go_wp2_with fail
  clear a0 a1 a2 a3 a4 a5 a6 a7 a8 a9 a10
  refine HM.out.mono ?_
  rintro e w2 ⟨LA, cL, rfl, hO⟩
  have HL := Lib.hid (lrow_rd hO (Nat.le_trans hl48 (by decide)) (fun x hx => by have := HX24.out x hx; omega))
  have HXX := Lib.hid (HX1.out.trans hO.ext)
  clear hO
  dsimp only
  by_cases hE : E = 0
  case neg =>
    have e1 : (E != 0) = true := by rw [bne_iff_ne]; exact hE
    clear hE
    go_wp2_with fail
    refine (sanity_any w2 (HT.out.ext HXX.out)).mono ?_
    rintro e w3 ⟨rfl, hx3⟩
    have HX3 := Lib.hid (HXX.out.trans hx3)
    clear hx3
    go_wp2_with fail
    go_ret
    exact ⟨rfl, HX0.out.trans HX3.out⟩
  case pos =>
  have hzz := HZ.out hE
  have HZZ := Lib.hid hzz
  have HOK := Lib.hid (Mv.ok_of hzz.1)
  have HPL := Lib.hid (Mv.right_iff.1 hzz.2.1).2.1
  have HKP := Lib.hid (Mv.plan_keeps l ph (Mv.right_under hzz.2.1) hzz.2.2.2.2.2)
  have HRS := Lib.hid (Mv.right_steps l ph hzz.2.1 hzz.2.2.2.2.2)
  have hrl : s.room.length ≤ 64 := by rw [HOK.out.roomLen]; exact HOK.out.disks
  have hn24 : ph.length ≤ 24 := by have a := HPL.out; have b := HOK.out.few; omega
  rw [hE]
  clear hE hzz
  obtain ⟨n, hn⟩ : ∃ n, ph.length = n := ⟨_, rfl⟩
  rw [hn] at HP hn24 ⊢
  have HN := Lib.hid hn
  clear hn h30
  have hO0 : Owns w2 (w2.alloc (.cells #[] 3)) [⟨.slice (some ⟨w2.heap.size, 0, none⟩) 0 0, 3, 1, 0, []⟩] := (Owns.start w2 (L := [no]) (by intro r hr; simp at hr; subst hr; exact ⟨rfl, rfl, rfl⟩)).new 0 #[] 3 (by simp [maxLen])
  have hrd : Rd (w2.alloc (.cells #[] 3)) PA (ph.map (Value.int .i64)) := (rs_rdI (Rs.ext RI.ext _ _ _ _ HXX.out HP.out)).ext ((Ext.refl w2).alloc _)
  have hone : ∀ u ∈ ph.map (Value.int .i64), u.oneCell' = true := by intro u hu; simp at hu; obtain ⟨b, _, rfl⟩ := hu; rfl
  have HNN := Lib.hid (And.intro hO0 (And.intro hrd (And.intro hone (show (ph.map (Value.int .i64)).length = n by rw [List.length_map]; exact HN.out))))
  have hm1 : n < 100000000000 := by omega
  clear hO0 hrd hone
  go_upto_region 8 with (refine wpl_append_copy 22 3 rfl (.tmp 46) (.tmp 47) rfl Tryd.underlying22 info_int rfl HNN.out.1 0 rfl rfl rfl HNN.out.2.2.2 HNN.out.2.1 HNN.out.2.2.1 hm1 (by decide) ?_; intro gN cN w3 hO3; have HO3 := Lib.hid hO3; clear hO3)
  have hO4 := HO3.out.wider.new 1 #[] 3 (by simp [maxLen])
  have hrd : Rd (w3.alloc (.cells #[] 3)) RA (s.room.map (Value.int .i64)) := (rs_rdI (Rs.ext RI.ext _ _ _ _ (HXX.out.trans HO3.out.ext) HS.out.room)).ext ((Ext.refl w3).alloc _)
  have hone : ∀ u ∈ s.room.map (Value.int .i64), u.oneCell' = true := by intro u hu; simp at hu; obtain ⟨b, _, rfl⟩ := hu; rfl
  have HMM := Lib.hid (And.intro hO4 (And.intro hrd hone))
  have hm2 : s.room.length < 100000000000 := by omega
  have a8 := ((HB.out.ext (HXX.out.trans HO3.out.ext)).ext ((Ext.refl w3).alloc (.cells #[] 3))).b8
  clear hO4 hrd hone
  go_upto_region 9 with (refine wpl_append_copy 22 3 rfl (.tmp 49) (.tmp 51) rfl Tryd.underlying22 info_int rfl HMM.out.1 1 rfl rfl rfl (List.length_map _) HMM.out.2.1 HMM.out.2.2 hm2 (by decide) ?_; intro gR cRm w4 hO5; have HO5 := Lib.hid hO5; clear hO5)
  clear a8
  have HO6 : Hid (Owns w2 w4 [⟨.slice (some ⟨gN, 0, none⟩) n cN, 3, 1, n, (ph).map (.int .i64)⟩, ⟨.slice (some ⟨gR, 0, none⟩) s.room.length cRm, 3, 1, s.room.length, (Mv.rmL s ph 0).map (.int .i64)⟩]) := Lib.hid (by rw [Mv.rmL_zero]; exact HO5.out)
  go_wp2_with fail
  go_loopw [55] (fun vk wr => ∃ k : Nat, k ≤ n ∧ vk = .int .i64 k ∧ Hid (Owns w2 wr [⟨.slice (some ⟨gN, 0, none⟩) n cN, 3, 1, n, (ph).map (.int .i64)⟩, ⟨.slice (some ⟨gR, 0, none⟩) s.room.length cRm, 3, 1, s.room.length, (Mv.rmL s ph k).map (.int .i64)⟩])) (fun vk _ => n - (intOf vk).toNat)
  case atStart => exact ⟨0, Nat.zero_le _, rfl, HO6⟩
  case round =>
    obtain ⟨k, hk, rfl, HI⟩ := hrel
    by_cases hlt : k < n
    · have hkl : k < ph.length := by rw [HN.out]; exact hlt
      have hks : k < s.src.length := by have := HPL.out; omega
      have hkd : k < s.dst.length := by have := HPL.out; have := HOK.out.dstLen; omega
      have hxr := HXX.out.trans HI.out.ext
      obtain ⟨af, u1, rfl, hcf, hu1⟩ := (Rs.ext RI.ext _ _ _ _ hxr HS.out.src).at hks
      obtain ⟨rfl, _, _⟩ := hu1
      obtain ⟨at_, u2, rfl, hct, hu2⟩ := (Rs.ext RI.ext _ _ _ _ hxr HS.out.dst).at hkd
      obtain ⟨rfl, _, _⟩ := hu2
      have hd0 := HOK.out.src _ (List.getElem_mem hks)
      have hd1 := HOK.out.dst _ (List.getElem_mem hkd)
      obtain ⟨f0, hf0⟩ : ∃ f0 : Nat, s.src[k] = (f0 : Int) := ⟨(s.src[k]).toNat, by omega⟩
      obtain ⟨t0, ht0⟩ : ∃ t0 : Nat, s.dst[k] = (t0 : Int) := ⟨(s.dst[k]).toNat, by omega⟩
      have hgf : s.src.getD k 0 = (f0 : Int) := by rw [getD_get hks]; exact hf0
      have hgt : s.dst.getD k 0 = (t0 : Int) := by rw [getD_get hkd]; exact ht0
      have HF0 := Lib.hid hf0
      rw [hf0] at hcf hd0
      rw [ht0] at hct hd1
      have hfl0 : f0 < s.room.length := by have := HOK.out.roomLen; omega
      have htl0 : t0 < s.room.length := by have := HOK.out.roomLen; omega
      have hgp := getD_get (x := (0 : Int)) hkl
      have hra := Mv.right_at HZZ.out.2.1 hkl
      have hcp := HI.out.cell 0 rfl k (u := .int .i64 ph[k]) (by rw [List.getElem?_map, List.getElem?_eq_getElem hkl]; rfl)
      obtain ⟨p, hp⟩ : ∃ p, ph[k] = p := ⟨_, rfl⟩
      rw [hp] at hcp hgp
      rw [hgp] at hra
      have hrk := fun d (hd : d < s.room.length) => Mv.rm_bd HOK.out (ph := ph) (n := k) (by omega) hd
      have hra2 := fun d (hd : d < s.room.length) => Mv.rmL_at (s := s) (ph := ph) (k := k) hd
      obtain ⟨Rk, hRk⟩ : ∃ Rk, Mv.rmL s ph k = Rk := ⟨_, rfl⟩
      have hno := fun h => Mv.rm_no (s := s) (ph := ph) (k := k) h
      have hone1 := fun h h2 => Mv.rm_one (s := s) (ph := ph) (k := k) h h2 hgt htl0
      have htwo := fun h2 => Mv.rm_two (s := s) (ph := ph) (k := k) h2 hgt htl0 hgf hfl0
      have hRl : Rk.length = s.room.length := by rw [← hRk]; exact Mv.rmL_len _ _ _
      rw [hRk] at HI
      simp only [hRk, hgp] at hrk hno hone1 htwo
      have HR := Lib.hid (And.intro hno (And.intro hone1 (And.intro htwo (And.intro hrk hRl))))
      have a9 := (HB.out.ext hxr).b9
      have a10 := (HB.out.ext hxr).b10
      have hki : (k : Int) < (n : Int) := by omega
      have hksi : (k : Int) < (s.src.length : Int) := by omega
      have hkdi : (k : Int) < (s.dst.length : Int) := by omega
      have hti : (t0 : Int) < (s.room.length : Int) := by omega
      have hfi : (f0 : Int) < (s.room.length : Int) := by omega
      obtain ⟨hp0, hp2, _⟩ := hra
      clear hp hgp hRk hra2 hno hone1 htwo hrk hRl hf0 ht0 hgf hgt hd0 hd1 hxr
      by_cases hpz : 0 < p
      case neg =>
        have HST := Lib.hid (HR.out.1 hpz)
        have e2 : (p == 2) = false := by rw [beq_eq_false_iff_ne]; omega
        go_wp2_with fail
        clear hcp hcf hct a9 a10 hki hksi hkdi hti hfi e2
        go_roundw
        case rel => exact ⟨k + 1, by omega, by go_num, Lib.hid (by rw [HST.out]; exact HI.out)⟩
        case measure => simp [intOf]; omega
      case pos =>
      have hbt := HR.out.2.2.2.1 t0 htl0
      have hct0 : (Rk.map (Value.int .i64))[t0]? = some (.int .i64 (Rk.getD t0 0)) := map_getD HR.out.2.2.2.2 htl0
      obtain ⟨x, hx⟩ : ∃ x, Rk.getD t0 0 = x := ⟨_, rfl⟩
      rw [hx] at hct0 hbt
      have ct := HI.out.cell 1 rfl t0 hct0
      have ft := HI.out.frozen 1 rfl t0
      obtain ⟨hbt1, hbt2⟩ := hbt
      have hw1 : wrap64 (x - 1) = x - 1 := by unfold wrap64; omega
      by_cases hp2e : p = 2
      case neg =>
        have hst := HR.out.2.1 hpz hp2e
        rw [hx] at hst
        have HST := Lib.hid hst
        have e2 : (p == 2) = false := by rw [beq_eq_false_iff_ne]; exact hp2e
        clear hx hct0 hst hp2e
        go_wp2_with fail
        have HS2 := Lib.hid (HI.out.store 1 rfl t0 (.int .i64 (x - 1)))
        clear hcp hcf hct a9 a10 hki hksi hkdi hti hfi e2 ct ft hw1
        go_roundw
        case rel => exact ⟨k + 1, by omega, by go_num, Lib.hid (by rw [HST.out, List.map_set]; exact HS2.out)⟩
        case measure => simp [intOf]; omega
      case pos =>
        have hst := HR.out.2.2.1 hp2e
        rw [hx] at hst
        have hbf : -100 ≤ (Rk.set t0 (x - 1)).getD f0 0 ∧ (Rk.set t0 (x - 1)).getD f0 0 ≤ 100 := by
          by_cases e : t0 = f0
          · rw [e, Mv.getD_set_self (by rw [HR.out.2.2.2.2]; exact hfl0)]; omega
          · rw [Mv.getD_set_other e]; have := HR.out.2.2.2.1 f0 hfl0; omega
        have hlf : f0 < (Rk.set t0 (x - 1)).length := by rw [List.length_set, HR.out.2.2.2.2]; exact hfl0
        have hcf0 : ((Rk.set t0 (x - 1)).map (Value.int .i64))[f0]? = some (.int .i64 ((Rk.set t0 (x - 1)).getD f0 0)) := map_getD rfl hlf
        obtain ⟨R2, hR2⟩ : ∃ R2, Rk.set t0 (x - 1) = R2 := ⟨_, rfl⟩
        have hS2 := HI.out.store 1 rfl t0 (.int .i64 (x - 1))
        rw [← List.map_set, hR2] at hS2
        rw [hR2] at hst hbf hcf0
        obtain ⟨y, hy⟩ : ∃ y, R2.getD f0 0 = y := ⟨_, rfl⟩
        rw [hy] at hst hbf hcf0
        have HST := Lib.hid hst
        rw [hp2e] at hcp
        clear hx hct0 hst hp2e hR2 hy hlf
        go_upto_region 14 with fail
        obtain ⟨w5, hw5⟩ : ∃ w5, wr.setCell ⟨gR, t0, none⟩ (.int .i64 (x - 1)) = w5 := ⟨_, rfl⟩
        rw [hw5] at hS2 ⊢
        clear hw5 hcp ct ft hw1 hcf hct a9 a10
        have hxr := HXX.out.trans hS2.ext
        obtain ⟨af', u1, e1, hcf, hu1⟩ := (Rs.ext RI.ext _ _ _ _ hxr HS.out.src).at hks
        injection e1 with e1
        subst e1
        obtain ⟨rfl, _, _⟩ := hu1
        have hf0 : s.src[k] = (f0 : Int) := by
          have h := HF0.out
          exact h
        rw [hf0] at hcf
        have a9 := (HB.out.ext hxr).b9
        have cf := hS2.cell 1 rfl f0 hcf0
        have ff := hS2.frozen 1 rfl f0
        obtain ⟨hbf1, hbf2⟩ := hbf
        have hw1 : wrap64 (y + 1) = y + 1 := by unfold wrap64; omega
        have HS2 := Lib.hid hS2
        clear hS2 hcf0 hxr hf0
        go_wp2_with fail
        have HS3 := Lib.hid (HS2.out.store 1 rfl f0 (.int .i64 (y + 1)))
        clear hcf a9 cf ff hw1 hki hksi hkdi hti hfi
        go_roundw
        case rel => exact ⟨k + 1, by omega, by go_num, Lib.hid (by rw [HST.out, List.map_set]; exact HS3.out)⟩
        case measure => simp [intOf]; omega
    · obtain rfl : n = k := by omega
      have HI0 : Hid (Owns w2 wr [⟨.slice (some ⟨gN, 0, none⟩) n cN, 3, 1, n, (Mv.steps ph (l.take 0)).map (.int .i64)⟩, ⟨.slice (some ⟨gR, 0, none⟩) s.room.length cRm, 3, 1, s.room.length, (Mv.rmL s (Mv.steps ph (l.take 0)) n).map (.int .i64)⟩]) := HI
      go_wp2_with fail
      clear HI hk
      go_loopw [14] (fun vi wr => ∃ i : Nat, i ≤ l.length ∧ vi = .int .i64 i ∧ Hid (Owns w2 wr [⟨.slice (some ⟨gN, 0, none⟩) n cN, 3, 1, n, (Mv.steps ph (l.take i)).map (.int .i64)⟩, ⟨.slice (some ⟨gR, 0, none⟩) s.room.length cRm, 3, 1, s.room.length, (Mv.rmL s (Mv.steps ph (l.take i)) n).map (.int .i64)⟩])) (fun vi _ => l.length + 1 - (intOf vi).toNat)
      case atStart => exact ⟨0, Nat.zero_le _, rfl, HI0⟩
      case round =>
        obtain ⟨i, hi, rfl, HI⟩ := hrel
        have hrt := HRS.out i hi
        have hfine : Mv.fits s (Mv.steps ph (l.take i)) = true ∧ Mv.safe (fun m => Cd.can s.d s.gl s.gs m) s (Mv.steps ph (l.take i)) = true := by
          cases i with
          | zero => exact ⟨HZZ.out.2.2.1, HZZ.out.2.2.2.1⟩
          | succ i => exact Mv.fine_iff.1 (HKP.out.2 i (by omega)).1
        have hnl : (Mv.steps ph (l.take i)).length = n := by rw [Mv.steps_len]; exact HN.out
        obtain ⟨now, hnow⟩ : ∃ now, Mv.steps ph (l.take i) = now := ⟨_, rfl⟩
        rw [hnow] at hrt hfine hnl HI
        have HNOW := Lib.hid hnow
        have hcan := Mv.can_left hrt hfine.2 HFL.out
        have hps := Mv.right_small hrt
        have hrow : Rs RI wr (.slice (some ⟨gN, 0, none⟩) n cN) now := Rs.small (HI.out.rd 0 rfl) hnl.symm (by omega) (fun x hx => by have := hps x hx; omega)
        have hpos := fun d (hd : d < s.room.length) => Mv.rm_pos HOK.out (ph := now) (Mv.right_iff.1 hrt).2.1 hfine.1 hd
        rw [hnl] at hpos
        have hxr := HXX.out.trans HI.out.ext
        have HK := Lib.hid (kp_can wr w.heap.size gN n cN s now rs DA KA HA GA RA FA TA QA cD cK cH cG cR cF cT cQ hrt (Lib.hid (HT.out.ext hxr)) (HB.out.ext hxr) (Lib.hid (HS.out.ext hxr)) (Lib.hid hrow) (Lib.hid (Rs.ext RI.ext _ _ _ _ hxr HQ.out)) (Lib.hid hcan))
        have HRT := Lib.hid hrt
        have HNL := Lib.hid hnl
        have HPOS := Lib.hid hpos
        have hil : (i : Int) ≤ (l.length : Int) := by omega
        clear hrt hfine hnl hnow hcan hps hrow hpos hxr
        go_wp2_with fail
        refine wp_atEnd' (HK.out _ _ _ _ _ _ _ _ _ _ _ _ _ _ _ _ _ _ _ _ _ _ _ _ _ _ _ _ _ _ _ _ _ _ _ _ _ _ _ _ _ _ _ _ _ _ _ _ _ _ _ _ _ _ _ _ _ _ _ _ _ _ _ _ _ _ _ _ _ _ _ _ _ _ _ _ _ _ _ _ _ _ _ _ _ _ _ _ _ _ _ _ _ _ _ _ _ _ _ _ _ _ _ _ _ _ _ _ _ _ _ _ _ _ _ _ _ _ _ _ _ _ _ _ _ _ _ _ _ _ _ _ _ _ _ _ _ _ _ _ _ _ _ _ _ _ _ _ _ _ _ _ _ _ _ _ _ _ _ _ _ _ _ _ _ _ _ _ _ _ _ _ _ _ _ _ _ _ _ _ _ _ _ _ _ _ _ _ _ _ _ _ _ _ _ _ _ ?_)
        intro u91 u92 u93 u94 u95 u96 u97 w5 hx5
        have HI5 := Lib.hid (HI.out.next hx5)
        have HX5 := Lib.hid (HXX.out.trans (HI.out.ext.trans hx5))
        clear hx5 HK
        go_wp2_with fail
        go_loopw [101] (fun vj wj => ∃ j : Nat, j ≤ s.room.length ∧ vj = .int .i64 j ∧ Hid (w5 = wj)) (fun vj _ => s.room.length - (intOf vj).toNat)
        case atStart => exact ⟨0, Nat.zero_le _, rfl, Lib.hid rfl⟩
        case round =>
          obtain ⟨j, hj, rfl, HWJ⟩ := hrel
          by_cases hjl : j < s.room.length
          · have hz := HPOS.out j hjl
            have hzc := map_getD (Mv.rmL_len s now n) hjl
            obtain ⟨z, hze⟩ : ∃ z, (Mv.rmL s now n).getD j 0 = z := ⟨_, rfl⟩
            rw [hze] at hz hzc
            have cz := HI5.out.cell 1 rfl j hzc
            rw [HWJ.out] at cz
            have hji : (j : Int) < (s.room.length : Int) := by omega
            clear hzc hze
            go_wp2_with fail
            clear cz hji
            go_roundw
            case rel => exact ⟨j + 1, by omega, by go_num, HWJ⟩
            case measure => simp [intOf]; omega
          · obtain rfl : s.room.length = j := by omega
            rename World => w6
            obtain rfl : w5 = w6 := HWJ.out
            by_cases hie : i = l.length
            · skip
              have hend : now = Mv.theEnd s := by
                rw [← HNOW.out, hie, List.take_length]
                exact HKP.out.1
              have HEND := Lib.hid hend
              have e1 : ((i : Int) == (l.length : Int)) = true := by rw [hie]; simp
              have HIE := Lib.hid hie
              clear hend hie
              go_wp2_with fail
              clear e1
              go_loopw [177] (fun vk wk => ∃ k : Nat, k ≤ n ∧ vk = .int .i64 k ∧ Hid (Ext w5 wk)) (fun vk _ => n - (intOf vk).toNat)
              case atStart => exact ⟨0, Nat.zero_le _, rfl, Lib.hid (Ext.refl _)⟩
              case round =>
                obtain ⟨k, hk, rfl, HQK⟩ := hrel
                by_cases hkn : k < n
                · have hkl : k < now.length := by rw [HNL.out]; exact hkn
                  have hks : k < s.src.length := by have := HPL.out; have := HN.out; omega
                  have hkd : k < s.dst.length := by have := HOK.out.dstLen; omega
                  have hxr := HX5.out.trans HQK.out
                  obtain ⟨af, u1, rfl, hcf, hu1⟩ := (Rs.ext RI.ext _ _ _ _ hxr HS.out.src).at hks
                  obtain ⟨rfl, _, _⟩ := hu1
                  obtain ⟨at_, u2, rfl, hct, hu2⟩ := (Rs.ext RI.ext _ _ _ _ hxr HS.out.dst).at hkd
                  obtain ⟨rfl, _, _⟩ := hu2
                  have hte := Mv.theEnd_get (s := s) hks
                  rw [getD_get hks, getD_get hkd] at hte
                  have hcp := (HI5.out.next HQK.out).cell 0 rfl k (map_getD HNL.out hkn)
                  rw [HEND.out, hte] at hcp
                  obtain ⟨y, hy⟩ : ∃ y, s.src[k] = y := ⟨_, rfl⟩
                  obtain ⟨z, hz⟩ : ∃ z, s.dst[k] = z := ⟨_, rfl⟩
                  rw [hy] at hcf hcp
                  rw [hz] at hct hcp
                  have a9 := (HB.out.ext hxr).b9
                  have a10 := (HB.out.ext hxr).b10
                  have hki : (k : Int) < (n : Int) := by omega
                  have hksi : (k : Int) < (s.src.length : Int) := by omega
                  have hkdi : (k : Int) < (s.dst.length : Int) := by omega
                  clear hy hz hte hxr
                  by_cases hyz : y = z
                  · rw [if_neg (fun e => e hyz)] at hcp
                    have e1 : (y != z) = false := by rw [hyz]; simp
                    clear hyz
                    go_wp2_with fail
                    go_quiet (fail)
                    go_wp2_with fail
                    clear hcp hcf hct a9 a10 hki hksi hkdi e1
                    go_roundw
                    case rel => exact ⟨k + 1, by omega, by go_num, Lib.hid (HQK.out.drewN _)⟩
                    case measure => simp [intOf]; omega
                  · rw [if_pos hyz] at hcp
                    have e1 : (y != z) = true := by rw [bne_iff_ne]; exact hyz
                    clear hyz
                    go_wp2_with fail
                    go_quiet (fail)
                    go_wp2_with fail
                    clear hcp hcf hct a9 a10 hki hksi hkdi e1
                    go_roundw
                    case rel => exact ⟨k + 1, by omega, by go_num, Lib.hid (HQK.out.drewN _)⟩
                    case measure => simp [intOf]; omega
                · obtain rfl : n = k := by omega
                  go_wp2_with fail
                  refine (sanity_any _ (HT.out.ext (HX5.out.trans HQK.out))).mono ?_
                  rintro e w8 ⟨rfl, hx8⟩
                  have HX8 := Lib.hid ((HX5.out.trans HQK.out).trans hx8)
                  clear hx8
                  go_wp2_with fail
                  go_ret
                  exact ⟨rfl, HX0.out.trans HX8.out⟩
            · have hlt : i < l.length := by omega
              have hji : i < (Mv.ints l).length := by rw [Mv.ints_len]; exact hlt
              obtain ⟨ad, u, rfl, hcl, hu⟩ := (Rs.ext RI.ext _ _ _ _ HI5.out.ext HL.out).at hji
              obtain ⟨rfl, _, _⟩ := hu
              have hlv : (Mv.ints l)[i] = ((l[i] : Nat) : Int) := List.getElem_map _
              rw [hlv] at hcl
              obtain ⟨_, h2, h3, h4⟩ := HKP.out.2 i hlt
              rw [getD_get hlt] at h2 h3 h4
              obtain ⟨k, hk0⟩ : ∃ k, l[i] = k := ⟨_, rfl⟩
              rw [hk0] at hcl h2 h3 h4
              rw [HNOW.out] at h3 h4
              rw [Mv.theEnd_len] at h2
              have hks : k < s.src.length := h2
              have hkn : k < n := by have := HPL.out; have := HN.out; omega
              have hkl : k < now.length := by rw [HNL.out]; exact hkn
              have hkd : k < s.dst.length := by have := HOK.out.dstLen; omega
              obtain ⟨af, u1, rfl, hcf, hu1⟩ := (Rs.ext RI.ext _ _ _ _ HX5.out HS.out.src).at hks
              obtain ⟨rfl, _, _⟩ := hu1
              obtain ⟨at_, u2, rfl, hct, hu2⟩ := (Rs.ext RI.ext _ _ _ _ HX5.out HS.out.dst).at hkd
              obtain ⟨rfl, _, _⟩ := hu2
              have hte := Mv.theEnd_get (s := s) hks
              rw [getD_get hks, getD_get hkd] at hte
              rw [hte] at h3
              have hd0 := HOK.out.src _ (List.getElem_mem hks)
              have hd1 := HOK.out.dst _ (List.getElem_mem hkd)
              obtain ⟨f0, hf0⟩ : ∃ f0 : Nat, s.src[k] = (f0 : Int) := ⟨(s.src[k]).toNat, by omega⟩
              obtain ⟨t0, ht0⟩ : ∃ t0 : Nat, s.dst[k] = (t0 : Int) := ⟨(s.dst[k]).toNat, by omega⟩
              have hgf : s.src.getD k 0 = (f0 : Int) := by rw [getD_get hks]; exact hf0
              have hgt : s.dst.getD k 0 = (t0 : Int) := by rw [getD_get hkd]; exact ht0
              rw [hf0] at hcf hd0 h3
              rw [ht0] at hct hd1 h3
              have hfl0 : f0 < s.room.length := by have := HOK.out.roomLen; omega
              have htl0 : t0 < s.room.length := by have := HOK.out.roomLen; omega
              have hgp := getD_get (x := (0 : Int)) hkl
              have hra := Mv.right_at HRT.out hkl
              have hnk : now[k]? = some now[k] := List.getElem?_eq_getElem hkl
              have hcp := HI5.out.cell 0 rfl k (map_getD HNL.out hkn)
              obtain ⟨p, hp⟩ : ∃ p, now[k] = p := ⟨_, rfl⟩
              rw [hp] at hgp hnk
              rw [hgp] at hcp hra h3
              obtain ⟨hp0, hp2, _⟩ := hra
              have hft : ¬ (f0 : Int) = (t0 : Int) := fun e => by rw [if_neg (fun h => h e)] at h3; omega
              rw [if_pos hft] at h3
              have hp1 : p ≤ 1 := by omega
              have HEQ : Hid (((f0 : Int) == (t0 : Int)) = false) := Lib.hid (by rw [beq_eq_false_iff_ne]; exact hft)
              have HG := Lib.hid (And.intro hgp (And.intro hgf (And.intro hgt hnk)))
              have HS4 := Lib.hid h4
              have a9 := (HB.out.ext HX5.out).b9
              have a10 := (HB.out.ext HX5.out).b10
              have hli : (i : Int) < (l.length : Int) := by omega
              have e1 : ((i : Int) == (l.length : Int)) = false := by rw [beq_eq_false_iff_ne]; omega
              have HKS := Lib.hid (kp_step w5 w.heap.size gN n cN k s.src.length s.dst.length cF cT af at_ p (f0 : Int) (t0 : Int) hkn hks hkd hp1 HEQ a9 a10 hcf hct hcp)
              have hki : (k : Int) < (n : Int) := by omega
              have hksi : (k : Int) < (s.src.length : Int) := by omega
              have hkdi : (k : Int) < (s.dst.length : Int) := by omega
              have hti : (t0 : Int) < (s.room.length : Int) := by omega
              have hfi : (f0 : Int) < (s.room.length : Int) := by omega
              clear hlv h2 h3 h4 hk0 hte hf0 ht0 hgf hgt hgp hnk hp hft hd0 hd1 hie
              go_wp2_with fail
              refine wp_atEnd' (HKS.out _ _ _ _ _ _ _ _ _ _ _ _ _ _ _ _ _ _ _ _ _ _ _ _ _ _ _ _ _ _ _ _ _ _ _ _ _ _ _ _ _ _ _ _ _ _ _ _ _ _ _ _ _ _ _ _ _ _ _ _ _ _ _ _ _ _ _ _ _ _ _ _ _ _ _ _ _ _ _ _ _ _ _ _ _ _ _ _ _ _ _ _ _ _ _ _ _ _ _ _ _ _ _ _ _ _ _ _ _ _ _ _ _ _ _ _ _ _ _ _ _ _ _ _ _ _ _ _ _ _ _ _ _ _ _ _ _ _ _ _ _ _ _ _ _ _ _ _ _ _ _ _ _ _ _ _ _ _ _ _ _ _ _ _ _ _ _ _ _ _ _ _ _ _ _ _ _ _ _ _ _ _ _ _ _ _ _ _ _ _ _ _ _ _ _ _ _ ?_)
              intro u116 u117 u118 u119 u120 u121 u122 u123 u124 u125 u126 u127 u128 u129 u130 u131 u132 u133 u134 u135 u136 u137 u138 u139 u140 u141 u142 w6 hx6
              have HI7 := Lib.hid (HI5.out.next hx6)
              have hcf := hx6.cell hcf
              have hct := hx6.cell hct
              have hcp := hx6.cell hcp
              have a9 := hx6.cell a9
              have a10 := hx6.cell a10
              have fcp := HI7.out.frozen 0 rfl k
              clear hx6 HKS e1 hcl hli
              by_cases hp0e : p = 0
              · skip
                have hrm := Mv.rm_come (s := s) (now := now) (k := k) (t := t0) (n := n) hkl hkn (by rw [HG.out.1]; exact hp0e) HG.out.2.2.1 htl0
                have hst : Mv.steps ph (l.take (i + 1)) = now.set k 1 := by rw [HS4.out, Mv.step, HG.out.1, hp0e]; rfl
                rw [← HS4.out, hst] at hrm
                obtain ⟨Rm, hRm⟩ : ∃ Rm, Mv.rmL s now n = Rm := ⟨_, rfl⟩
                have hRl : Rm.length = s.room.length := by rw [← hRm]; exact Mv.rmL_len _ _ _
                have hbd := Mv.rm_bd HOK.out (ph := now) (n := n) hn24 htl0
                rw [hRm] at hrm hbd
                have HI6 := HI7
                rw [hRm] at HI6
                have hxc := map_getD hRl htl0
                obtain ⟨x, hx⟩ : ∃ x, Rm.getD t0 0 = x := ⟨_, rfl⟩
                rw [hx] at hrm hbd hxc
                have cr := HI6.out.cell 1 rfl t0 hxc
                have fr := HI6.out.frozen 1 rfl t0
                obtain ⟨hbd1, hbd2⟩ := hbd
                have hw1 : wrap64 (x - 1) = x - 1 := by unfold wrap64; omega
                have hS2 := HI6.out.store 1 rfl t0 (.int .i64 (x - 1))
                rw [← List.map_set] at hS2
                have HRM := Lib.hid hrm
                have HST := Lib.hid hst
                have hpk : (now.map (Value.int .i64))[k]? = some (.int .i64 0) := by rw [List.getElem?_map, HG.out.2.2.2, hp0e]; rfl
                rw [hp0e] at hcp
                clear hRm hrm hRl hxc hx hst
                go_upto_region 35 with fail
                obtain ⟨w7, hw7⟩ : ∃ w7, w6.setCell ⟨gR, t0, none⟩ (.int .i64 (x - 1)) = w7 := ⟨_, rfl⟩
                rw [hw7] at hS2 ⊢
                clear hw7 cr fr hcp fcp hcf hct a9 a10 hw1
                have hcp := hS2.cell 0 rfl k hpk
                have fcp := hS2.frozen 0 rfl k
                have HS2 := Lib.hid hS2
                clear hS2 hpk
                go_wp2_with fail
                have HS3 := Lib.hid (HS2.out.store 0 rfl k (.int .i64 1))
                clear hcp fcp hki
                go_roundw
                case rel => exact ⟨i + 1, by omega, by go_num, Lib.hid (by
                  rw [HST.out, HRM.out, List.map_set]
                  exact HS3.out)⟩
                case measure => simp [intOf]; omega
              · have hp1e : p = 1 := by omega
                clear hp0e
                have hrm := Mv.rm_drop (s := s) (now := now) (k := k) (t := f0) (n := n) hkl hkn (by rw [HG.out.1]; exact hp1e) HG.out.2.1 hfl0
                have hst : Mv.steps ph (l.take (i + 1)) = now.set k 2 := by rw [HS4.out, Mv.step, HG.out.1, hp1e]; rfl
                rw [← HS4.out, hst] at hrm
                obtain ⟨Rm, hRm⟩ : ∃ Rm, Mv.rmL s now n = Rm := ⟨_, rfl⟩
                have hRl : Rm.length = s.room.length := by rw [← hRm]; exact Mv.rmL_len _ _ _
                have hbd := Mv.rm_bd HOK.out (ph := now) (n := n) hn24 hfl0
                rw [hRm] at hrm hbd
                have HI6 := HI7
                rw [hRm] at HI6
                have hxc := map_getD hRl hfl0
                obtain ⟨x, hx⟩ : ∃ x, Rm.getD f0 0 = x := ⟨_, rfl⟩
                rw [hx] at hrm hbd hxc
                have cr := HI6.out.cell 1 rfl f0 hxc
                have fr := HI6.out.frozen 1 rfl f0
                obtain ⟨hbd1, hbd2⟩ := hbd
                have hw1 : wrap64 (x + 1) = x + 1 := by unfold wrap64; omega
                have hS2 := HI6.out.store 1 rfl f0 (.int .i64 (x + 1))
                rw [← List.map_set] at hS2
                have HRM := Lib.hid hrm
                have HST := Lib.hid hst
                have hpk : (now.map (Value.int .i64))[k]? = some (.int .i64 1) := by rw [List.getElem?_map, HG.out.2.2.2, hp1e]; rfl
                rw [hp1e] at hcp
                clear hRm hrm hRl hxc hx hst
                go_upto_region 35 with fail
                obtain ⟨w7, hw7⟩ : ∃ w7, w6.setCell ⟨gR, f0, none⟩ (.int .i64 (x + 1)) = w7 := ⟨_, rfl⟩
                rw [hw7] at hS2 ⊢
                clear hw7 cr fr hcp fcp hcf hct a9 a10 hw1
                have hcp := hS2.cell 0 rfl k hpk
                have fcp := hS2.frozen 0 rfl k
                have HS2 := Lib.hid hS2
                clear hS2 hpk
                go_wp2_with fail
                have HS3 := Lib.hid (HS2.out.store 0 rfl k (.int .i64 2))
                clear hcp fcp hki
                go_roundw
                case rel => exact ⟨i + 1, by omega, by go_num, Lib.hid (by
                  rw [HST.out, HRM.out, List.map_set]
                  exact HS3.out)⟩
                case measure => simp [intOf]; omega
end Go.Proofs.YtkbiffbmjgmcaaaDoor

/- ARGUMENTS that are codes read as such. -/
namespace Go.Proofs.YtkbiffbmjgmcaaaDoor
open Go.ChangeShapes Go.WideShapes Go.ChangeAt Go.RowKit Go.ChangeMaps Go.Deep
variable {H : Type} {enc : TypeId × Value → H} {W : World} {base : Nat}
theorem list_getD {l : List Int} {k : Nat} (h : k < l.length) : l.getD k 0 = l[k] := by rw [List.getD_eq_getElem?_getD, List.getElem?_eq_getElem h]; rfl
theorem read_ints {fuel : Nat} {v : Value} {x : DataW H × List MemPlace} (h : DataW.trod enc Tryd.prog W base (fun _ => true) true fuel 22 [v] = some x) : ∃ l, Rs RI W v l := by
  rcases open_ints Tryd.underlying22 Tryd.underlying3 (by kernel_rfl) h with ⟨hcs, _⟩ | ⟨a, len, cap, zs, hcs, _, hl, hm, hz, _, hcell, hwz⟩
  · injection hcs with hcs _
    subst hcs
    exact ⟨[], none, 0, rfl, by simp, fun i x h => by simp at h⟩
  · injection hcs with hcs _
    subst hcs
    rw [if_pos rfl] at hz
    have hll : (zs.take len).length = len := by rw [List.length_take]; omega
    refine ⟨zs.take len, some a, cap, by rw [hll], by rw [hll]; unfold maxLen at hm; omega, fun i y hi => ?_⟩
    have hi1 : i < (zs.take len).length := (List.getElem?_eq_some_iff.1 hi).1
    have hi2 : i < zs.length := by rw [List.length_take] at hi1; omega
    have h1 := hcell i (by omega)
    rw [list_getD hi2] at h1
    have e : y = zs[i] := by
      have := (List.getElem?_eq_some_iff.1 hi).2
      rw [← this, List.getElem_take]
    subst e
    have hb := bounds_i64 (hwz _ (List.getElem_mem hi2))
    exact ⟨a, _, rfl, h1, rfl, by omega, by omega⟩
theorem read_rows {fuel : Nat} {v : Value} {x : DataW H × List MemPlace} (h : DataW.trod enc Tryd.prog W base (fun _ => true) true fuel 26 [v] = some x) : ∃ l, Rs (Rs RI) W v l := by
  rcases open_int_rows Tryd.underlying26 Tryd.underlying22 Tryd.underlying3 (by kernel_rfl) (by kernel_rfl) h with ⟨hcs, _⟩ | ⟨a, len, cap, A, L, C, Z, hcs, _, hl, hm, _, hx⟩
  · injection hcs with hcs _
    subst hcs
    exact ⟨[], none, 0, rfl, by simp, fun i x h => by simp at h⟩
  · injection hcs with hcs _
    subst hcs
    refine ⟨(List.range len).map fun r => (Z r).take (L r), some a, cap, by simp, by simp; unfold maxLen at hm; omega, fun i y hi => ?_⟩
    have hi1 : i < len := by have := (List.getElem?_eq_some_iff.1 hi).1; simpa using this
    have e : y = (Z i).take (L i) := by
      have := (List.getElem?_eq_some_iff.1 hi).2
      rw [← this]; simp
    subst e
    obtain ⟨h1, h2, h3, h4, h5, h6, h7⟩ := hx i (by omega)
    refine ⟨a, _, rfl, h1, A i, C i, ?_, ?_, fun k z hk => ?_⟩
    · rw [List.length_take]; congr 1; omega
    · rw [List.length_take]; unfold maxLen at h3; omega
    · have hk1 : k < ((Z i).take (L i)).length := (List.getElem?_eq_some_iff.1 hk).1
      have hk2 : k < (Z i).length := by rw [List.length_take] at hk1; omega
      have hk3 : k < C i := by omega
      have e : z = (Z i)[k] := by
        have := (List.getElem?_eq_some_iff.1 hk).2
        rw [← this, List.getElem_take]
      subst e
      have hb := bounds_i64 (h5 _ (List.getElem_mem hk2))
      cases hA : A i with
      | none => have := h6 hA; omega
      | some b =>
        have h8 := (h7 b hA).2 k hk3
        rw [list_getD hk2] at h8
        exact ⟨b, _, rfl, h8, rfl, by omega, by omega⟩
theorem cellsCode : Tryd.prog.cellsOf 28 = 3 := by kernel_rfl
theorem cellsInts : Tryd.prog.cellsOf 22 = 1 := by kernel_rfl
theorem cellsRows : Tryd.prog.cellsOf 26 = 1 := by kernel_rfl
theorem cellsInt : Tryd.prog.cellsOf 3 = 1 := by kernel_rfl
end Go.Proofs.YtkbiffbmjgmcaaaDoor

/- ARGUMENTS of law 13: shifts. -/
namespace Go.Proofs.YtkbiffbmjgmcaaaDoor
open Go.ChangeShapes Go.WideShapes Go.ChangeAt Go.RowKit Go.ChangeMaps Go.Deep
variable {H : Type} {enc : TypeId × Value → H} {W : World} {base : Nat}
theorem spot_free {a : Addr} {v : Value} (h : W.cell? a = some v) : a.spot = none := by
  unfold World.cell? at h
  split at h
  · split at h
    · cases h
    · rename_i hs; simpa using hs
  · cases h
set_option maxRecDepth 100000 in
theorem read_racks {fuel : Nat} {v : Value} {x : DataW H × List MemPlace} (h : DataW.trod enc Tryd.prog W base (fun _ => true) true fuel 23 [v] = some x) : ∃ l, RK W v l := by
  have ce : Tryd.prog.cellsOf 74 = 2 := by kernel_rfl
  rcases open_slice Tryd.underlying23 h with ⟨hcs, _⟩ | ⟨a, len, cap, m, n, D, Pl, hcs, _, hl, hm, hmm, _, hx⟩
  · injection hcs with hcs _
    subst hcs
    exact ⟨[], none, 0, rfl, by simp, fun i x hi => by simp at hi⟩
  · injection hcs with hcs _
    subst hcs
    rw [if_pos rfl] at hmm
    have each : ∀ i, i < len → ∃ x : Int, ∃ b : Bool, W.cell? (a.add (i * 2)) = some (.int .i64 x) ∧ W.cell? ((a.add (i * 2)).add 1) = some (.bool b) ∧ -9223372036854775808 ≤ x ∧ x ≤ 9223372036854775807 := by
      intro i hi
      obtain ⟨cs', h1, h2⟩ := hx i (by omega)
      rw [ce] at h1
      obtain ⟨_, hlen, hcell⟩ := World.cells?_some h1
      obtain ⟨xs, k, _, _, _, hxl, hg⟩ := DataW.trod_struct Tryd.underlying74 h2
      obtain ⟨c0, c1, rfl⟩ : ∃ c0 c1, cs' = [c0, c1] := by
        match cs', hlen with
        | [c0, c1], _ => exact ⟨c0, c1, rfl⟩
      obtain ⟨y0, y1, rfl⟩ : ∃ y0 y1, xs = [y0, y1] := by
        match xs, hxl with
        | [y0, y1], _ => exact ⟨y0, y1, rfl⟩
      have cb : Tryd.prog.cellsOf 4 = 1 := by kernel_rfl
      have f0 : DataW.trod enc Tryd.prog W base (fun _ => true) true k 3 [c0] = some y0 := by
        have := hg 0 _ rfl
        simpa [cellsInt] using this
      have f1 : DataW.trod enc Tryd.prog W base (fun _ => true) true k 4 [c1] = some y1 := by
        have := hg 1 _ rfl
        simpa [cb] using this
      obtain ⟨z0, e0, _, w0⟩ := DataW.trod_int Tryd.underlying3 f0
      obtain ⟨z1, e1, _⟩ := DataW.trod_bool Tryd.underlying4 f1
      injection e0 with e0 _
      injection e1 with e1 _
      subst e0 e1
      have b0 := bounds_i64 w0
      exact ⟨z0, z1, hcell 0 (by decide), hcell 1 (by decide), by omega, by omega⟩
    refine ⟨(List.range len).map fun k => if h : k < len then (each k h).choose else 0, some a, cap, by simp, by simp; unfold maxLen at hm; omega, fun i x hi => ?_⟩
    have hil : i < len := by
      have := (List.getElem?_eq_some_iff.1 hi).1
      simpa using this
    have hxe : x = (each i hil).choose := by
      have := (List.getElem?_eq_some_iff.1 hi).2
      rw [← this]
      simp [hil]
    obtain ⟨b, h1, h2, h3, h4⟩ := (each i hil).choose_spec
    rw [← hxe] at h1 h3 h4
    refine ⟨a, b, rfl, h1, ?_, h3, h4⟩
    have hs := spot_free h1
    have e : (a.add (i * 2)).add 1 = ⟨(a.add (i * 2)).block, (a.add (i * 2)).off + 1, none⟩ := by
      generalize a.add (i * 2) = p at hs
      obtain ⟨b, o, s⟩ := p
      simp only at hs
      subst hs
      unfold Addr.add
      rfl
    rw [← e]
    exact h2
theorem array11 {α : Type} {cs : Array α} (h : cs.size = 11) : ∃ c0 c1 c2 c3 c4 c5 c6 c7 c8 c9 c10, cs = #[c0, c1, c2, c3, c4, c5, c6, c7, c8, c9, c10] := by
  obtain ⟨l⟩ := cs
  match l, h with
  | [c0, c1, c2, c3, c4, c5, c6, c7, c8, c9, c10], _ => exact ⟨c0, c1, c2, c3, c4, c5, c6, c7, c8, c9, c10, rfl⟩
theorem cellsDom : Tryd.prog.cellsOf 25 = 4 := by kernel_rfl
theorem cellsRacks : Tryd.prog.cellsOf 23 = 1 := by kernel_rfl
set_option maxRecDepth 100000 in
theorem open_shift {b0 : Nat} {v : Value} {d : DataW H} {ps : List MemPlace} (hval : Value.okWide Tryd.prog W .any b0 30 v) (hd : DataW.Trod enc Tryd.prog W base (fun _ => true) true 30 v d ps) :
    ∃ s : Mv.Sh, RSh W v s := by
  obtain ⟨cs, rfl, hsz⟩ := okWide_struct Tryd.underlying30 hval
  obtain ⟨c0, c1, c2, c3, c4, c5, c6, c7, c8, c9, c10, rfl⟩ := array11 (hsz.trans (by kernel_rfl))
  obtain ⟨fuel, hf⟩ := hd
  obtain ⟨xs, n, _, _, hl, hlen, hx⟩ := DataW.trod_struct Tryd.underlying30 hf
  obtain ⟨y0, y1, y2, y3, y4, y5, rfl⟩ : ∃ y0 y1 y2 y3 y4 y5, xs = [y0, y1, y2, y3, y4, y5] := by
    match xs, hlen with
    | [y0, y1, y2, y3, y4, y5], _ => exact ⟨y0, y1, y2, y3, y4, y5, rfl⟩
  have f0 : DataW.trod enc Tryd.prog W base (fun _ => true) true n 25 [c0, c1, c2, c3] = some y0 := by
    have := hx 0 _ rfl
    simpa [Value.cells, cellsDom] using this
  have f1 : DataW.trod enc Tryd.prog W base (fun _ => true) true n 28 [c4, c5, c6] = some y1 := by
    have := hx 1 _ rfl
    simpa [Value.cells, cellsCode] using this
  have f2 : DataW.trod enc Tryd.prog W base (fun _ => true) true n 3 [c7] = some y2 := by
    have := hx 2 _ rfl
    simpa [Value.cells, cellsInt] using this
  have f3 : DataW.trod enc Tryd.prog W base (fun _ => true) true n 22 [c8] = some y3 := by
    have := hx 3 _ rfl
    simpa [Value.cells, cellsInts] using this
  have f4 : DataW.trod enc Tryd.prog W base (fun _ => true) true n 22 [c9] = some y4 := by
    have := hx 4 _ rfl
    simpa [Value.cells, cellsInts] using this
  have f5 : DataW.trod enc Tryd.prog W base (fun _ => true) true n 22 [c10] = some y5 := by
    have := hx 5 _ rfl
    simpa [Value.cells, cellsInts] using this
  obtain ⟨zs, m, _, _, _, hlen2, hz⟩ := DataW.trod_struct Tryd.underlying25 f0
  obtain ⟨z0, z1, z2, z3, rfl⟩ : ∃ z0 z1 z2 z3, zs = [z0, z1, z2, z3] := by
    match zs, hlen2 with
    | [z0, z1, z2, z3], _ => exact ⟨z0, z1, z2, z3, rfl⟩
  have g0 : DataW.trod enc Tryd.prog W base (fun _ => true) true m 22 [c0] = some z0 := by
    have := hz 0 _ rfl
    simpa [cellsInts] using this
  have g1 : DataW.trod enc Tryd.prog W base (fun _ => true) true m 23 [c1] = some z1 := by
    have := hz 1 _ rfl
    simpa [cellsRacks] using this
  have g2 : DataW.trod enc Tryd.prog W base (fun _ => true) true m 22 [c2] = some z2 := by
    have := hz 2 _ rfl
    simpa [cellsInts] using this
  have g3 : DataW.trod enc Tryd.prog W base (fun _ => true) true m 3 [c3] = some z3 := by
    have := hz 3 _ rfl
    simpa [cellsInt] using this
  obtain ⟨us, m2, _, _, _, hlen3, hu⟩ := DataW.trod_struct Tryd.underlying28 f1
  obtain ⟨u0, u1, u2, rfl⟩ : ∃ u0 u1 u2, us = [u0, u1, u2] := by
    match us, hlen3 with
    | [u0, u1, u2], _ => exact ⟨u0, u1, u2, rfl⟩
  have e0 : DataW.trod enc Tryd.prog W base (fun _ => true) true m2 3 [c4] = some u0 := by
    have := hu 0 _ rfl
    simpa [cellsInt] using this
  have e1 : DataW.trod enc Tryd.prog W base (fun _ => true) true m2 26 [c5] = some u1 := by
    have := hu 1 _ rfl
    simpa [cellsRows] using this
  have e2 : DataW.trod enc Tryd.prog W base (fun _ => true) true m2 3 [c6] = some u2 := by
    have := hu 2 _ rfl
    simpa [cellsInt] using this
  obtain ⟨disks, h0⟩ := read_ints g0
  obtain ⟨racks, h1⟩ := read_racks g1
  obtain ⟨houses, h2⟩ := read_ints g2
  obtain ⟨gs, h3⟩ := read_rows e1
  obtain ⟨room, h4⟩ := read_ints f3
  obtain ⟨src, h5⟩ := read_ints f4
  obtain ⟨dst, h6⟩ := read_ints f5
  obtain ⟨a0, ha0, _, wa0⟩ := DataW.trod_int Tryd.underlying3 g3
  obtain ⟨a1, ha1, _, wa1⟩ := DataW.trod_int Tryd.underlying3 e0
  obtain ⟨a2, ha2, _, wa2⟩ := DataW.trod_int Tryd.underlying3 e2
  obtain ⟨a3, ha3, _, wa3⟩ := DataW.trod_int Tryd.underlying3 f2
  injection ha0 with ha0 _
  injection ha1 with ha1 _
  injection ha2 with ha2 _
  injection ha3 with ha3 _
  subst ha0 ha1 ha2 ha3
  have b0 := bounds_i64 wa0
  have b1 := bounds_i64 wa1
  have b2 := bounds_i64 wa2
  have b3 := bounds_i64 wa3
  exact ⟨⟨disks, racks, houses, a0, a1, gs, a2, a3, room, src, dst⟩, _, _, _, _, _, _, _, rfl, h0, h1, h2, h3, h4, h5, h6, by unfold w64; dsimp only; omega, by unfold w64; dsimp only; omega, by unfold w64; dsimp only; omega, by unfold w64; dsimp only; omega⟩
set_option maxRecDepth 100000 in
theorem open_intl {b0 : Nat} {v : Value} {d : DataW H} {ps : List MemPlace} (hval : Value.okWide Tryd.prog W .any b0 22 v) (hd : DataW.Trod enc Tryd.prog W base (fun _ => true) true 22 v d ps) : ∃ l, Rs RI W v l := by
  obtain ⟨a0, len, cap, rfl⟩ := okWide_slice Tryd.underlying22 hval
  obtain ⟨fuel, hf⟩ := hd
  exact read_ints hf
end Go.Proofs.YtkbiffbmjgmcaaaDoor
