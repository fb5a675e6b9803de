/- What the program's functions do, step by step: part E of the texts for this claim; no condition beyond what each theorem states. -/
import Derived.Test.YtkbiffbmjgmcaaaDoorMvPlnBunA
import Derived.Test.YtkbiffbmjgmcaaaDoorMvPlnBunB
import Derived.Test.YtkbiffbmjgmcaaaDoorMvPlnBunC
import Derived.Test.YtkbiffbmjgmcaaaDoorMvPlnBunD
/- THE WALK over right of package moves. -/
namespace Go.Proofs.YtkbiffbmjgmcaaaDoor
open Go.RowKit
set_option maxHeartbeats 8000000 in
set_option maxRecDepth 100000 in
theorem kRight_any (s : Mv.Sh) (ph : List Int) (hgn : s.gs.length ≤ 1000000) (v u : Value) (w : World) (hv : RSh w v s) (hu : Rs RI w u ph) :
    Calls Tryd.prog 36 #[v, u] w fun e w' => e = .returned (.bool (Mv.right s ph)) ∧ Ext w w' := by
  obtain ⟨DA, KA, HA, GA, RA, FA, TA, cD, cK, cH, cG, cR, cF, cT, rfl, hS⟩ := hv.open
  obtain ⟨PA, cP, rfl, hp64⟩ := hu.form
  have hx0 := (Ext.refl w).alloc (.cells #[.slice DA s.disks.length cD, .slice KA s.racks.length cK, .slice HA s.houses.length cH, .int .i64 s.owners, .int .i64 s.d, .slice GA s.gs.length cG, .int .i64 s.gl, .int .i64 s.floor, .slice RA s.room.length cR, .slice FA s.src.length cF, .slice TA s.dst.length cT] 30)
  have HX0 := Lib.hid hx0
  have HS := Lib.hid (hS.ext hx0)
  have HP := Lib.hid (Rs.ext RI.ext _ _ _ _ hx0 hu)
  have hB := BoxAt.new w s DA KA HA GA RA FA TA cD cK cH cG cR cF cT
  have HB := Lib.hid hB
  have a0 := hB.b0
  have a1 := hB.b1
  have a2 := hB.b2
  have a3 := hB.b3
  have a4 := hB.b4
  have a5 := hB.b5
  have a6 := hB.b6
  have a7 := hB.b7
  have a8 := hB.b8
  have a9 := hB.b9
  have a10 := hB.b10
  clear hv hu hS hx0 hB
  go_enter Tryd.func36, Tryd.ntmps36
  go_wp2_with fail
  clear a0 a1 a2 a3 a4 a5 a6 a7 a8 a9 a10
  refine (kCheck_any s hgn _ _ HS.out.sh).mono ?_
  rintro ee w1 ⟨rfl, hx1⟩
  have HX1 := Lib.hid hx1
  have a9 := (HB.out.ext hx1).b9
  have a8 := (HB.out.ext hx1).b8
  clear hx1
  by_cases h1 : Mv.check s = 0
  case neg =>
    have HE := Lib.hid (Mv.right_no (ph := ph) (fun e => h1 e.1))
    have e1 : (Mv.check s != 0) = true := by rw [bne_iff_ne]; exact h1
    clear h1
    go_wp2_with fail
    clear a8 a9
    go_ret
    exact ⟨by rw [HE.out]; rfl, HX0.out.trans HX1.out⟩
  case pos =>
  have H1 := Lib.hid h1
  have hdl := (Mv.ok_of h1).dstLen
  rw [h1]
  clear h1
  by_cases h2 : ph.length = s.src.length
  case neg =>
    have HE := Lib.hid (Mv.right_no (s := s) (ph := ph) (fun e => h2 e.2.1))
    have e1 : ((ph.length : Int) != (s.src.length : Int)) = true := by rw [bne_iff_ne]; omega
    clear h2
    go_wp2_with fail
    clear a8 a9
    go_ret
    exact ⟨by rw [HE.out]; rfl, HX0.out.trans HX1.out⟩
  case pos =>
  have e1 : ((ph.length : Int) != (s.src.length : Int)) = false := by rw [h2]; simp
  have H2 := Lib.hid h2
  have HDL := Lib.hid hdl
  clear h2 hdl
  go_wp2_with fail
  clear a8 a9 e1
  go_loopw [5] (fun vi wr => ∃ k : Nat, k ≤ ph.length ∧ vi = .int .i64 k ∧ Hid (Ext w1 wr ∧ ∀ j, j < k → ¬ Mv.badPhase s j (ph.getD j 0))) (fun vi _ => ph.length - (intOf vi).toNat)
  case atStart => exact ⟨0, Nat.zero_le _, rfl, Lib.hid ⟨Ext.refl _, fun j hj => absurd hj (Nat.not_lt_zero j)⟩⟩
  case round =>
    obtain ⟨k, hk, rfl, HI⟩ := hrel
    by_cases hlt : k < ph.length
    · obtain ⟨ap, u, rfl, hcp, hu⟩ := (Rs.ext RI.ext _ _ _ _ (HX1.out.trans HI.out.1) HP.out).at hlt
      obtain ⟨rfl, hlo, hhi⟩ := hu
      have hks : k < s.src.length := by have := H2.out; omega
      have hkd : k < s.dst.length := by have := H2.out; have := HDL.out; omega
      obtain ⟨af, u1, rfl, hcf, hu1⟩ := (Rs.ext RI.ext _ _ _ _ (HX1.out.trans HI.out.1) HS.out.src).at hks
      obtain ⟨rfl, hlo1, hhi1⟩ := hu1
      obtain ⟨at_, u2, rfl, hct, hu2⟩ := (Rs.ext RI.ext _ _ _ _ (HX1.out.trans HI.out.1) HS.out.dst).at hkd
      obtain ⟨rfl, hlo2, hhi2⟩ := hu2
      have hgd := getD_get (x := (0 : Int)) hlt
      have hbd : Mv.badPhase s k ph[k] ↔ (ph[k] < 0 ∨ 2 < ph[k] ∨ (0 < ph[k] ∧ s.src[k] = s.dst[k])) := by unfold Mv.badPhase; rw [getD_get hks, getD_get hkd]
      obtain ⟨p, hp⟩ : ∃ p, ph[k] = p := ⟨_, rfl⟩
      obtain ⟨y, hy⟩ : ∃ y, s.src[k] = y := ⟨_, rfl⟩
      obtain ⟨z, hz⟩ : ∃ z, s.dst[k] = z := ⟨_, rfl⟩
      rw [hp] at hcp hgd hbd
      rw [hy] at hcf hbd
      rw [hz] at hct hbd
      rw [hp] at hlo hhi
      have a9 := (HB.out.ext (HX1.out.trans HI.out.1)).b9
      have a10 := (HB.out.ext (HX1.out.trans HI.out.1)).b10
      have hks2 : (k : Int) < (s.src.length : Int) := by omega
      have hkd2 : (k : Int) < (s.dst.length : Int) := by omega
      have HBD := Lib.hid hbd
      have HGD := Lib.hid hgd
      clear hp hy hz hlo1 hhi1 hlo2 hhi2 hbd hgd
      have hks3 := hks
      have hkd3 := hkd
      clear hks hkd
      by_cases hp0 : p < 0
      · skip
        have HE := Lib.hid (Mv.right_no (s := s) (ph := ph) (fun e => e.2.2 k hlt (by rw [HGD.out]; exact HBD.out.2 (.inl hp0))))
        go_wp2_with fail
        refine wp_atEnd' (kt_neg wr w.heap.size k ph.length cP ap p (Lib.hid ⟨hp0, trivial⟩) hlt hcp _ _ _ _ _ _ _ _ _ _ _ _ _ _ _ _ _ _ _ _ _ _ _ _ _ _ _ _ _ _ _ _ _ _ _ _ _ _ _ _ _ _ _ _ _ _ _ _ _ _ _ _ _ _ ?_)
        intro u23 u24 u25 u26 u27 u28 u29 u30 u31 u32 u33 u34 u35 u36 u37 u38 u39 u40 u41 u42 u43 u44 u45 u46 u47 u48 u49 u50 u51 u52 u53 wx hx
        have HX := Lib.hid hx
        clear hx
        go_wp2_with fail
        clear a9 a10 hcp hcf hct
        go_ret
        exact ⟨by rw [HE.out]; rfl, HX0.out.trans (HX1.out.trans (HI.out.1.trans HX.out))⟩
      by_cases hp2 : 2 < p
      · skip
        have HE := Lib.hid (Mv.right_no (s := s) (ph := ph) (fun e => e.2.2 k hlt (by rw [HGD.out]; exact HBD.out.2 (.inr (.inl hp2)))))
        go_wp2_with fail
        refine wp_atEnd' (kt_big wr w.heap.size k ph.length cP ap p (Lib.hid ⟨by omega, hp2, trivial⟩) hlt hcp _ _ _ _ _ _ _ _ _ _ _ _ _ _ _ _ _ _ _ _ _ _ _ _ _ _ _ _ _ _ _ _ _ _ _ _ _ _ _ _ _ _ _ _ _ _ _ _ _ _ _ _ _ _ ?_)
        intro u23 u24 u25 u26 u27 u28 u29 u30 u31 u32 u33 u34 u35 u36 u37 u38 u39 u40 u41 u42 u43 u44 u45 u46 u47 u48 u49 u50 u51 u52 u53 wx hx
        have HX := Lib.hid hx
        clear hx
        go_wp2_with fail
        clear a9 a10 hcp hcf hct
        go_ret
        exact ⟨by rw [HE.out]; rfl, HX0.out.trans (HX1.out.trans (HI.out.1.trans HX.out))⟩
      by_cases hpp : 0 < p
      case neg =>
        have HNB : Hid (¬ Mv.badPhase s k p) := Lib.hid (fun e => by rcases HBD.out.1 e with e | e | e <;> omega)
        go_wp2_with fail
        refine wp_atEnd' (kt_zero wr w.heap.size k ph.length cP ap p (Lib.hid ⟨by omega, by omega, by omega⟩) hlt hcp _ _ _ _ _ _ _ _ _ _ _ _ _ _ _ _ _ _ _ _ _ _ _ _ _ _ _ _ _ _ _ _ _ _ _ _ _ _ _ _ _ _ _ _ _ _ _ _ _ _ _ _ _ _ ?_)
        intro u23 u24 u25 u26 u27 u28 u29 u30 u31 u32 u33 u34 u35 u36 u37 u38 u39 u40 u41 u42 u43 u44 u45 u46 u47 u48 u49 u50 u51 u52 u53 wx hx
        have HX := Lib.hid hx
        clear hx
        go_wp2_with fail
        clear a9 a10 hcp hcf hct
        go_roundw
        case rel => exact ⟨k + 1, by omega, by go_num, Lib.hid ⟨HI.out.1.trans HX.out, fun j hj => by
          by_cases hjk : j = k
          · rw [hjk, HGD.out]; exact HNB.out
          · exact HI.out.2 j (by omega)⟩⟩
        case measure => simp [intOf]; omega
      case pos =>
      by_cases hyz : y = z
      · skip
        have HE := Lib.hid (Mv.right_no (s := s) (ph := ph) (fun e => e.2.2 k hlt (by rw [HGD.out]; exact HBD.out.2 (.inr (.inr ⟨hpp, hyz⟩)))))
        have e1 : (y == z) = true := by rw [hyz]; simp
        clear hyz
        go_wp2_with fail
        refine wp_atEnd' (kt_eq wr w.heap.size k ph.length cP s.src.length s.dst.length cF cT ap af at_ p y z (Lib.hid ⟨by omega, by omega, by omega⟩) hlt hcp hks3 hkd3 a9 a10 hcf hct (Lib.hid e1) _ _ _ _ _ _ _ _ _ _ _ _ _ _ _ _ _ _ _ _ _ _ _ _ _ _ _ _ _ _ _ _ _ _ _ _ _ _ _ _ _ _ _ _ _ _ _ _ _ _ _ _ _ _ ?_)
        intro u23 u24 u25 u26 u27 u28 u29 u30 u31 u32 u33 u34 u35 u36 u37 u38 u39 u40 u41 u42 u43 u44 u45 u46 u47 u48 u49 u50 u51 u52 u53 wx hx
        have HX := Lib.hid hx
        clear hx
        go_wp2_with fail
        clear a9 a10 hcp hcf hct
        go_ret
        exact ⟨by rw [HE.out]; rfl, HX0.out.trans (HX1.out.trans (HI.out.1.trans HX.out))⟩
      · skip
        have HNB : Hid (¬ Mv.badPhase s k p) := Lib.hid (fun e => by rcases HBD.out.1 e with e | e | e <;> omega)
        have e1 : (y == z) = false := by rw [beq_eq_false_iff_ne]; exact hyz
        clear hyz
        go_wp2_with fail
        refine wp_atEnd' (kt_ne wr w.heap.size k ph.length cP s.src.length s.dst.length cF cT ap af at_ p y z (Lib.hid ⟨by omega, by omega, by omega⟩) hlt hcp hks3 hkd3 a9 a10 hcf hct (Lib.hid e1) _ _ _ _ _ _ _ _ _ _ _ _ _ _ _ _ _ _ _ _ _ _ _ _ _ _ _ _ _ _ _ _ _ _ _ _ _ _ _ _ _ _ _ _ _ _ _ _ _ _ _ _ _ _ ?_)
        intro u23 u24 u25 u26 u27 u28 u29 u30 u31 u32 u33 u34 u35 u36 u37 u38 u39 u40 u41 u42 u43 u44 u45 u46 u47 u48 u49 u50 u51 u52 u53 wx hx
        have HX := Lib.hid hx
        clear hx
        go_wp2_with fail
        clear a9 a10 hcp hcf hct
        go_roundw
        case rel => exact ⟨k + 1, by omega, by go_num, Lib.hid ⟨HI.out.1.trans HX.out, fun j hj => by
          by_cases hjk : j = k
          · rw [hjk, HGD.out]; exact HNB.out
          · exact HI.out.2 j (by omega)⟩⟩
        case measure => simp [intOf]; omega
    · obtain rfl : k = ph.length := by omega
      have HE := Lib.hid (Mv.right_iff.2 ⟨H1.out, H2.out, HI.out.2⟩)
      go_wp2_with fail
      go_ret
      exact ⟨by rw [HE.out]; rfl, HX0.out.trans (HX1.out.trans HI.out.1)⟩
end Go.Proofs.YtkbiffbmjgmcaaaDoor

/- THE WALK over Left of the specification of moves. -/
namespace Mv
theorem or_add {a k : Nat} (h : a < 2 ^ k) : a ||| 2 ^ k = a + 2 ^ k := by
  have := Nat.two_pow_add_eq_or_of_lt h 1
  rw [Nat.mul_one] at this
  rw [Nat.or_comm, ← this, Nat.add_comm]
theorem rack_in {s : Sh} (h : Ok s) {d : Nat} (hd : d < s.disks.length) {r : Nat} (hr : s.disks[d] = (r : Int)) : r < s.racks.length := by
  have := h.disk _ (List.getElem_mem hd)
  omega
end Mv
namespace Go.Proofs.YtkbiffbmjgmcaaaDoor
open Go.RowKit
set_option maxHeartbeats 8000000 in
set_option maxRecDepth 100000 in
theorem kLeft_any (s : Mv.Sh) (ph rs : List Int) (hgn : s.gs.length ≤ 1000000) (v u r : Value) (w : World) (hv : RSh w v s) (hu : Rs RI w u ph) (hr : Rs RI w r rs) :
    Calls Tryd.prog 13 #[v, u, r] w fun e w' => e = .returned (.int .i64 (Mv.leftL s ph rs : Nat)) ∧ Ext w w' := by
  obtain ⟨DA, KA, HA, GA, RA, FA, TA, cD, cK, cH, cG, cR, cF, cT, rfl, hS⟩ := hv.open
  obtain ⟨PA, cP, rfl, hp64⟩ := hu.form
  obtain ⟨QA, cQ, rfl, hr64⟩ := hr.form
  have hx0 := (Ext.refl w).alloc (.cells #[.slice DA s.disks.length cD, .slice KA s.racks.length cK, .slice HA s.houses.length cH, .int .i64 s.owners, .int .i64 s.d, .slice GA s.gs.length cG, .int .i64 s.gl, .int .i64 s.floor, .slice RA s.room.length cR, .slice FA s.src.length cF, .slice TA s.dst.length cT] 30)
  have HX0 := Lib.hid hx0
  have HS := Lib.hid (hS.ext hx0)
  have HP := Lib.hid (Rs.ext RI.ext _ _ _ _ hx0 hu)
  have HR := Lib.hid (Rs.ext RI.ext _ _ _ _ hx0 hr)
  have hB := BoxAt.new w s DA KA HA GA RA FA TA cD cK cH cG cR cF cT
  have HB := Lib.hid hB
  have a0 := hB.b0
  have a1 := hB.b1
  have a2 := hB.b2
  have a3 := hB.b3
  have a4 := hB.b4
  have a5 := hB.b5
  have a6 := hB.b6
  have a7 := hB.b7
  have a8 := hB.b8
  have a9 := hB.b9
  have a10 := hB.b10
  clear hv hu hr hS hx0 hB
  go_enter Tryd.func13, Tryd.ntmps13
  go_wp2_with fail
  clear a0 a1 a2 a3 a4 a5 a6 a7 a8 a9 a10
  refine (kRight_any s ph hgn _ _ _ HS.out.sh HP.out).mono ?_
  rintro ee w1 ⟨rfl, hx1⟩
  have HX1 := Lib.hid hx1
  clear hx1
  cases hrt : Mv.right s ph with
  | false =>
    have HE := Lib.hid (Mv.leftL_no (rs := rs) hrt)
    clear hrt
    go_wp2_with fail
    go_ret
    exact ⟨by rw [HE.out]; rfl, HX0.out.trans HX1.out⟩
  | true =>
  have HOK := Lib.hid (Mv.ok_of (Mv.right_iff.1 hrt).1)
  have HPL := Lib.hid (Mv.right_iff.1 hrt).2.1
  have h24 := (Mv.ok_of (Mv.right_iff.1 hrt).1).few
  obtain ⟨F, hF⟩ : ∃ F, Mv.failed s rs = F := ⟨_, rfl⟩
  have HE : Hid (Mv.leftL s ph rs = Mv.left s ph F) := Lib.hid (by rw [Mv.leftL_yes hrt, hF])
  have HBIT : Hid (∀ i, i < s.racks.length → F.testBit i = decide ((i : Int) ∈ rs)) := Lib.hid (fun i hi => by rw [← hF]; exact Mv.failed_bit hi)
  clear hrt hF
  go_wp2_with fail
  go_loopw [8, 9] (fun vs vi wr => ∃ k : Nat, k ≤ ph.length ∧ vi = .int .i64 k ∧ vs = .int .i64 (Mv.leftTo s ph F k : Nat) ∧ Hid (Ext w1 wr)) (fun _ vi _ => ph.length - (intOf vi).toNat)
  case atStart => exact ⟨0, Nat.zero_le _, rfl, rfl, Lib.hid (Ext.refl _)⟩
  case round =>
    obtain ⟨k, hk, rfl, rfl, HI⟩ := hrel
    obtain ⟨Sk, hSk⟩ : ∃ Sk, Mv.leftTo s ph F k = Sk := ⟨_, rfl⟩
    have hSl := Mv.leftTo_lt s ph F k
    rw [hSk] at hSl ⊢
    by_cases hlt : k < ph.length
    · have hk24 : k < 24 := by have := HPL.out; omega
      have hwx := HX1.out.trans HI.out
      obtain ⟨ap, u, rfl, hcp, hu⟩ := (Rs.ext RI.ext _ _ _ _ hwx HP.out).at hlt
      obtain ⟨rfl, hlo, hhi⟩ := hu
      have hks : k < s.src.length := by have := HPL.out; omega
      have hkd : k < s.dst.length := by have := HPL.out; have := HOK.out.dstLen; omega
      obtain ⟨af, u1, rfl, hcf, hu1⟩ := (Rs.ext RI.ext _ _ _ _ hwx HS.out.src).at hks
      obtain ⟨rfl, _, _⟩ := hu1
      obtain ⟨at_, u2, rfl, hct, hu2⟩ := (Rs.ext RI.ext _ _ _ _ hwx HS.out.dst).at hkd
      obtain ⟨rfl, _, _⟩ := hu2
      have hd0 := HOK.out.src _ (List.getElem_mem hks)
      have hd1 := HOK.out.dst _ (List.getElem_mem hkd)
      obtain ⟨d0, hd0e⟩ : ∃ d0 : Nat, s.src[k] = (d0 : Int) := ⟨(s.src[k]).toNat, by omega⟩
      obtain ⟨d1, hd1e⟩ : ∃ d1 : Nat, s.dst[k] = (d1 : Int) := ⟨(s.dst[k]).toNat, by omega⟩
      rw [hd0e] at hcf hd0
      rw [hd1e] at hct hd1
      have hd0n : d0 < s.disks.length := by omega
      have hd1n : d1 < s.disks.length := by omega
      obtain ⟨ad, u3, eD, hc0, hu3⟩ := (Rs.ext RI.ext _ _ _ _ hwx HS.out.disks).at hd0n
      subst eD
      obtain ⟨rfl, _, _⟩ := hu3
      obtain ⟨ad', u4, eD, hc1, hu4⟩ := (Rs.ext RI.ext _ _ _ _ hwx HS.out.disks).at hd1n
      injection eD with eD
      subst eD
      obtain ⟨rfl, _, _⟩ := hu4
      have hr0 := HOK.out.disk _ (List.getElem_mem hd0n)
      have hr1 := HOK.out.disk _ (List.getElem_mem hd1n)
      obtain ⟨r0, hr0e⟩ : ∃ r0 : Nat, s.disks[d0] = (r0 : Int) := ⟨(s.disks[d0]).toNat, by omega⟩
      obtain ⟨r1, hr1e⟩ : ∃ r1 : Nat, s.disks[d1] = (r1 : Int) := ⟨(s.disks[d1]).toNat, by omega⟩
      have HBo := Lib.hid (HBIT.out r0 (Mv.rack_in HOK.out hd0n hr0e))
      have HBn := Lib.hid (HBIT.out r1 (Mv.rack_in HOK.out hd1n hr1e))
      rw [hr0e] at hc0
      rw [hr1e] at hc1
      have hk0 : Mv.rackOf s s.src k = r0 := by
        unfold Mv.rackOf
        rw [getD_get hks, hd0e, Int.toNat_natCast, getD_get hd0n, hr0e, Int.toNat_natCast]
      have hk1 : Mv.rackOf s s.dst k = r1 := by
        unfold Mv.rackOf
        rw [getD_get hkd, hd1e, Int.toNat_natCast, getD_get hd1n, hr1e, Int.toNat_natCast]
      have hgd := getD_get (x := (0 : Int)) hlt
      obtain ⟨p, hp⟩ : ∃ p, ph[k] = p := ⟨_, rfl⟩
      rw [hp] at hcp hgd hlo hhi
      have a0 := (HB.out.ext hwx).b0
      have a9 := (HB.out.ext hwx).b9
      have a10 := (HB.out.ext hwx).b10
      have HGD := Lib.hid hgd
      have HK0 := Lib.hid hk0
      have HK1 := Lib.hid hk1
      have hb2 := fun w => rBit_any k w (by omega)
      have hsp := Mv.or_add hSl
      have hP24 : 2 ^ k ≤ 2 ^ 24 := Nat.pow_le_pow_right (by decide) (by omega)
      obtain ⟨P, hP⟩ : ∃ P, 2 ^ k = P := ⟨_, rfl⟩
      rw [hP] at hb2 hsp hP24 hSl
      have hPb : P ≤ 16777216 := hP24
      have HSP := Lib.hid (And.intro hP hsp)
      have HSK := Lib.hid hSk
      have HB2 := Lib.hid hb2
      have HRW : Hid (∀ n, Rs RI (wr.drewN n) (.slice QA rs.length cQ) rs) := Lib.hid (fun n => Rs.ext RI.ext _ _ _ _ (hwx.drewN n) HR.out)
      have hks2 : (k : Int) < (s.src.length : Int) := by omega
      have hkd2 : (k : Int) < (s.dst.length : Int) := by omega
      have hd02 : (d0 : Int) < (s.disks.length : Int) := by omega
      have hd12 : (d1 : Int) < (s.disks.length : Int) := by omega
      clear hp hgd hk0 hk1 hr0e hr1e hd0e hd1e hr0 hr1 hd0 hd1 hlo hhi hwx hb2 hsp hP24 hP hSk
      go_wp2_with fail
      go_quiet ((go_at_call 37; exact quiet_left (rHas_any _ _ _ _ _ _ (HRW.out _))))
      go_wp2_with fail
      go_quiet ((go_at_call 37; first | exact quiet_left (rHas_any _ _ _ _ _ _ (HRW.out _)) | exact quiet_add_left (rHas_any _ _ _ _ _ _ (HRW.out _))))
      obtain ⟨o, ho⟩ : ∃ o, decide ((r0 : Int) ∈ rs) = o := ⟨_, rfl⟩
      obtain ⟨n, hn⟩ : ∃ n, decide ((r1 : Int) ∈ rs) = n := ⟨_, rfl⟩
      rw [ho, hn]
      have HO : Hid (F.testBit r0 = o) := Lib.hid (HBo.out.trans ho)
      have HN : Hid (F.testBit r1 = n) := Lib.hid (HBn.out.trans hn)
      clear ho hn a0 a9 a10 hcf hct hc0 hc1 HBo HBn
      clear hks2 hkd2 hd02 hd12
      by_cases h2 : p < 2
      · cases o with
        | false =>
          have hth : Mv.there s ph F k := Mv.there_yes1 (by rw [HGD.out]; exact h2) (by rw [HK0.out]; exact HO.out)
          have HST : Hid (Mv.leftTo s ph F (k + 1) = Sk + P) := Lib.hid (by rw [Mv.leftTo_yes hth, HSK.out, HSP.out.1, HSP.out.2])
          clear hth
          go_wp2_with fail
          refine (HB2.out _).mono ?_
          rintro ee wy ⟨rfl, rfl⟩
          go_wp2_with fail
          clear hcp
          go_roundw
          case rel => exact ⟨k + 1, by omega, by go_num, by rw [HST.out]; rfl, Lib.hid (HI.out.drewN _)⟩
          case measure => simp [intOf]; omega
        | true =>
          by_cases h0 : 0 < p
          · cases n with
            | false =>
              have hth : Mv.there s ph F k := Mv.there_yes2 (by rw [HGD.out]; exact h0) (by rw [HK1.out]; exact HN.out)
              have HST : Hid (Mv.leftTo s ph F (k + 1) = Sk + P) := Lib.hid (by rw [Mv.leftTo_yes hth, HSK.out, HSP.out.1, HSP.out.2])
              clear hth
              go_wp2_with fail
              refine (HB2.out _).mono ?_
              rintro ee wy ⟨rfl, rfl⟩
              go_wp2_with fail
              clear hcp
              go_roundw
              case rel => exact ⟨k + 1, by omega, by go_num, by rw [HST.out]; rfl, Lib.hid (HI.out.drewN _)⟩
              case measure => simp [intOf]; omega
            | true =>
              have hth : ¬ Mv.there s ph F k := fun e => by unfold Mv.there at e; rw [HK0.out, HK1.out, HO.out, HN.out] at e; simp at e
              have HST : Hid (Mv.leftTo s ph F (k + 1) = Sk) := Lib.hid (by rw [Mv.leftTo_no hth, HSK.out])
              clear hth
              go_wp2_with fail
              clear hcp
              go_roundw
              case rel => exact ⟨k + 1, by omega, by go_num, by rw [HST.out], Lib.hid (HI.out.drewN _)⟩
              case measure => simp [intOf]; omega
          · skip
            have hth : ¬ Mv.there s ph F k := fun e => by unfold Mv.there at e; rw [HK0.out, HO.out, HGD.out] at e; simp at e; omega
            have HST : Hid (Mv.leftTo s ph F (k + 1) = Sk) := Lib.hid (by rw [Mv.leftTo_no hth, HSK.out])
            clear hth
            go_wp2_with fail
            clear hcp
            go_roundw
            case rel => exact ⟨k + 1, by omega, by go_num, by rw [HST.out], Lib.hid (HI.out.drewN _)⟩
            case measure => simp [intOf]; omega
      · have h0 : 0 < p := by omega
        cases n with
        | false =>
          have hth : Mv.there s ph F k := Mv.there_yes2 (by rw [HGD.out]; exact h0) (by rw [HK1.out]; exact HN.out)
          have HST : Hid (Mv.leftTo s ph F (k + 1) = Sk + P) := Lib.hid (by rw [Mv.leftTo_yes hth, HSK.out, HSP.out.1, HSP.out.2])
          clear hth
          go_wp2_with fail
          refine (HB2.out _).mono ?_
          rintro ee wy ⟨rfl, rfl⟩
          go_wp2_with fail
          clear hcp
          go_roundw
          case rel => exact ⟨k + 1, by omega, by go_num, by rw [HST.out]; rfl, Lib.hid (HI.out.drewN _)⟩
          case measure => simp [intOf]; omega
        | true =>
          have hth : ¬ Mv.there s ph F k := fun e => by unfold Mv.there at e; rw [HK1.out, HN.out, HGD.out] at e; simp at e; omega
          have HST : Hid (Mv.leftTo s ph F (k + 1) = Sk) := Lib.hid (by rw [Mv.leftTo_no hth, HSK.out])
          clear hth
          go_wp2_with fail
          clear hcp
          go_roundw
          case rel => exact ⟨k + 1, by omega, by go_num, by rw [HST.out], Lib.hid (HI.out.drewN _)⟩
          case measure => simp [intOf]; omega
    · obtain rfl : k = ph.length := by omega
      have HF : Hid (Mv.left s ph F = Sk) := Lib.hid hSk
      clear hSk hSl
      go_wp2_with fail
      go_ret
      exact ⟨by rw [HE.out, HF.out]; rfl, HX0.out.trans (HX1.out.trans HI.out)⟩
end Go.Proofs.YtkbiffbmjgmcaaaDoor

/- COPIES; THE WALKS over with and end of the specification of moves. -/
namespace Mv
theorem endTo_small (s : Sh) : ∀ n, ∀ x ∈ endTo s n, 0 ≤ x ∧ x ≤ 2
  | 0, x, hx => by cases hx
  | n + 1, x, hx => by
    rw [endTo_succ, List.mem_append, List.mem_singleton] at hx
    rcases hx with hx | rfl
    · exact endTo_small s n x hx
    · split <;> omega
end Mv
/- 'append([]T{}, xs...)': a copy of a slice, of whatever length. -/
namespace Go.Proofs.YtkbiffbmjgmcaaaDoor
open Go.RowKit
theorem run_append_zero {P : Program} {t ty e : TypeId} {z : Value} {bytes : Nat} (ht : P.underlying t = some (.slice e)) (hi : (P.info? e).map (fun i => (i.zero, i.size, i.bytes)) = some (some z, 1, bytes)) (w : World) (b : Nat) (B : Option Addr) (c : Nat) :
    (Builtin.append_ #[t, t] ty #[.slice (some ⟨b, 0, none⟩) 0 0, .slice B 0 c]).run P w = .ok (.slice (some ⟨b, 0, none⟩) 0 0) w := by
  obtain ⟨i0, hi0, hiz, hi1, hi2⟩ := info_parts hi
  cases B <;> simp [Builtin.append_, run_underlying ht, sizeOf, typeInfo, hi0, hi1, Builtin.lenOf, Builtin.firstCells, loadCells, loadCellsFrom, storeCells, Result.andThen]
/-- A copy of a slice. -/
theorem wpl_append_copy {P : Program} {w0 w : World} {L : List LRow} {ops : Array Oper} {rest : List Oper} {o : Oper} {a : Act} {Q : Exit → Act → World → Prop} (t e : TypeId) (hgd : o.guard = none) (s x : Operand)
    (ho : o.op = .call { callee := .builtin .append, args := #[s, x], argTypes := #[t, t] })
    {z : Value} {bytes : Nat} (ht : P.underlying t = some (.slice e)) (hi : (P.info? e).map (fun i => (i.zero, i.size, i.bytes)) = some (some z, 1, bytes)) (hzs : z.cells.size = 1)
    (h : Owns w0 w L) (i : Nat) {b : Nat} (hL : L[i]? = some ⟨.slice (some ⟨b, 0, none⟩) 0 0, e, 1, 0, []⟩) (hs : a.eval s = .slice (some ⟨b, 0, none⟩) 0 0) {B : Option Addr} {m c : Nat} {news : List Value}
    (hx : a.eval x = .slice B m c) (hl : news.length = m) (hrd : Rd w B news) (h1 : ∀ u ∈ news, u.oneCell' = true) (hm : m < 100000000000) (hb : bytes ≤ 100)
    (hK : ∀ g cap w', Owns w0 w' (L.set i ⟨.slice (some ⟨g, 0, none⟩) m cap, e, 1, m, news⟩) → wpList P ops Q rest (a.put o.dst (.slice (some ⟨g, 0, none⟩) m cap)) w') :
    wpList P ops Q (o :: rest) a w := by
  by_cases h0 : m = 0
  · subst h0
    have hn : news = [] := List.length_eq_zero_iff.1 hl
    subst hn
    refine wpList_plain hgd fun K hK' => ?_
    have hr := run_append_zero (P := P) (ty := o.type) ht hi w b B c
    unfold Oper.wp execOp
    simp only [ho, resolve, invoke, builtin, Sem.run_bind, Sem.run_pure, Result.andThen_ok, List.map_toArray, List.map_cons, List.map_nil, hs, hx, hr]
    refine hK' _ _ (hK b 0 w ?_)
    have e : L.set i ⟨.slice (some ⟨b, 0, none⟩) 0 0, e, 1, 0, []⟩ = L := by
      apply List.ext_getElem?
      intro j
      rw [List.getElem?_set]
      split
      · rename_i hij
        subst hij
        split
        · rw [hL]
        · rename_i hlt; rw [List.getElem?_eq_none (by omega)]
      · rfl
    rw [e]
    exact h
  · obtain ⟨ad, rfl, _, _⟩ := hrd.at (k := 0) (by omega)
    refine wpl_append_all t e hgd s x ho ht hi hzs h i hL hs hx hl (fun j u hj => ?_) h1 (by omega) (by omega) hb ?_
    · exact (hrd.all (List.getElem?_eq_some_iff.1 hj).1).trans (by rw [(List.getElem?_eq_some_iff.1 hj).2])
    · intro g cap w' hO _
      have := hK g cap w' (by simpa using hO)
      simpa using this
end Go.Proofs.YtkbiffbmjgmcaaaDoor


namespace Go.Proofs.YtkbiffbmjgmcaaaDoor
open Go.RowKit
/-- What is returned reads as a list; nothing old has turned. -/
def GivesI (l : List Int) (w : World) (e : Ending) (w' : World) : Prop := ∃ z, e = .returned z ∧ Rs RI w' z l ∧ Ext w w'
def small (l : List Int) : Prop := ∀ x ∈ l, -1000 ≤ x ∧ x ≤ 1000
theorem Rs.small {w : World} {A : Option Addr} {n c : Nat} {l : List Int} (h : Rd w A (l.map (.int .i64))) (hn : n = l.length) (hl : l.length ≤ 100000000000) (hb : small l) : Rs RI w (.slice A n c) l :=
  Rs.of_rdI h hn (by omega) fun x hx => by have := hb x hx; omega
set_option maxHeartbeats 8000000 in
set_option maxRecDepth 100000 in
theorem kWith_any (ph : List Int) (k : Nat) (hk : k < ph.length) (hl : ph.length ≤ 1000) (hb : small ph) (hb2 : small (Mv.step ph k)) (u : Value) (w : World) (hu : Rs RI w u ph) :
    Calls Tryd.prog 62 #[u, .int .i64 (k : Nat)] w fun e w' => GivesI (Mv.step ph k) w e w' := by
  obtain ⟨PA, cP, rfl, hp64⟩ := hu.form
  have hO0 : Owns w (w.alloc (.cells #[] 3)) [⟨.slice (some ⟨w.heap.size, 0, none⟩) 0 0, 3, 1, 0, []⟩] := (Owns.start w (L := [no]) (by intro r hr; simp at hr; subst hr; exact ⟨rfl, rfl, rfl⟩)).new 0 #[] 3 (by simp [maxLen])
  have HO0 := Lib.hid hO0
  have hrd : Rd (w.alloc (.cells #[] 3)) PA (ph.map (Value.int .i64)) := (rs_rdI hu).ext ((Ext.refl w).alloc _)
  have hone : ∀ u ∈ ph.map (Value.int .i64), u.oneCell' = true := by intro u hu; simp at hu; obtain ⟨b, _, rfl⟩ := hu; rfl
  have HN := Lib.hid (And.intro hrd hone)
  have HB := Lib.hid (And.intro hb hb2)
  obtain ⟨x, hx⟩ : ∃ x, ph.getD k 0 = x := ⟨_, rfl⟩
  have hxc : (ph.map (Value.int .i64))[k]? = some (.int .i64 x) := by rw [List.getElem?_map, List.getElem?_eq_getElem hk, ← hx, getD_get hk]; rfl
  have hxb : -1000 ≤ x ∧ x ≤ 1000 := by rw [← hx, getD_get hk]; exact hb _ (List.getElem_mem hk)
  have hst : Mv.step ph k = ph.set k (x + 1) := by rw [← hx]; rfl
  have HX := Lib.hid (And.intro hxc hst)
  have hki : (k : Int) < (ph.length : Int) := by omega
  have hm : ph.length < 100000000000 := by omega
  have hw : wrap64 (x + 1) = x + 1 := by unfold wrap64; omega
  clear hO0 hrd hone hb hb2 hu hp64 hx hxc hst
  go_enter Tryd.func62, Tryd.ntmps62
  go_wp2_with (refine wpl_append_copy 22 3 rfl (.tmp 6) (.tmp 7) rfl Tryd.underlying22 info_int rfl HO0.out 0 rfl rfl rfl (List.length_map _) HN.out.1 HN.out.2 hm (by decide) ?_; intro g1 c1 w3 hO3; have c0 : w3.cell? ⟨g1, k, none⟩ = some (.int .i64 x) := hO3.cell 0 rfl k HX.out.1; have q0 : w3.frozen? ⟨g1, k, none⟩ = false := hO3.frozen 0 rfl k; have HO3 := Lib.hid hO3; clear hO3)
  go_ret
  have hO := HO3.out.store 0 rfl k (.int .i64 (x + 1))
  refine ⟨_, rfl, ?_, hO.ext⟩
  have hrd := hO.rd 0 rfl
  rw [← List.map_set, ← HX.out.2] at hrd
  exact Rs.small hrd (by rw [Mv.step_len]) (by rw [Mv.step_len]; omega) HB.out.2
set_option maxHeartbeats 8000000 in
set_option maxRecDepth 100000 in
theorem kEnd_any (s : Mv.Sh) (hl : s.dst.length = s.src.length) (h24 : s.src.length ≤ 24) (v : Value) (w : World) (hv : RSh w v s) :
    Calls Tryd.prog 45 #[v] w fun e w' => GivesI (Mv.theEnd s) w e w' := by
  obtain ⟨DA, KA, HA, GA, RA, FA, TA, cD, cK, cH, cG, cR, cF, cT, rfl, hS⟩ := hv.open
  have hx0 := (Ext.refl w).alloc (.cells #[.slice DA s.disks.length cD, .slice KA s.racks.length cK, .slice HA s.houses.length cH, .int .i64 s.owners, .int .i64 s.d, .slice GA s.gs.length cG, .int .i64 s.gl, .int .i64 s.floor, .slice RA s.room.length cR, .slice FA s.src.length cF, .slice TA s.dst.length cT] 30)
  have HX0 := Lib.hid hx0
  have HS := Lib.hid (hS.ext hx0)
  have hB := BoxAt.new w s DA KA HA GA RA FA TA cD cK cH cG cR cF cT
  have HB := Lib.hid hB
  have HL := Lib.hid hl
  obtain ⟨W, hW⟩ : ∃ W, W = (w.alloc (.cells #[.slice DA s.disks.length cD, .slice KA s.racks.length cK, .slice HA s.houses.length cH, .int .i64 s.owners, .int .i64 s.d, .slice GA s.gs.length cG, .int .i64 s.gl, .int .i64 s.floor, .slice RA s.room.length cR, .slice FA s.src.length cF, .slice TA s.dst.length cT] 30)) := ⟨_, rfl⟩
  have HW := Lib.hid hW
  rw [← hW] at HX0 HS HB
  clear hv hS hx0 hB hl hW
  go_enter Tryd.func45, Tryd.ntmps45
  go_wp2_with fail
  go_loopw [3, 4] (fun vo vi wr => ∃ (k : Nat) (A : Option Addr) (c : Nat), k ≤ s.src.length ∧ vi = .int .i64 k ∧ vo = .slice A k c ∧ Hid (Ext W wr ∧ wr.ownsRow W.heap.size 3 1 (.slice A k c) k ((Mv.endTo s k).map (.int .i64)))) (fun _ vi _ => s.src.length - (intOf vi).toNat)
  case atStart => exact ⟨0, none, 0, Nat.zero_le _, rfl, rfl, Lib.hid ⟨by rw [HW.out]; exact Ext.refl _, World.ownsRow_nil _ _ _ _⟩⟩
  case round =>
    obtain ⟨k, A, c, hk, rfl, rfl, HI⟩ := hrel
    have a9 := (HB.out.ext HI.out.1).b9
    have a10 := (HB.out.ext HI.out.1).b10
    by_cases hlt : k < s.src.length
    · have hkd : k < s.dst.length := by have := HL.out; omega
      obtain ⟨af, u1, rfl, hcf, hu1⟩ := (Rs.ext RI.ext _ _ _ _ HI.out.1 HS.out.src).at hlt
      obtain ⟨rfl, _, _⟩ := hu1
      obtain ⟨at_, u2, rfl, hct, hu2⟩ := (Rs.ext RI.ext _ _ _ _ HI.out.1 HS.out.dst).at hkd
      obtain ⟨rfl, _, _⟩ := hu2
      have hst := Mv.endTo_succ s k
      rw [getD_get hlt, getD_get hkd] at hst
      obtain ⟨y, hy⟩ : ∃ y, s.src[k] = y := ⟨_, rfl⟩
      obtain ⟨z, hz⟩ : ∃ z, s.dst[k] = z := ⟨_, rfl⟩
      rw [hy] at hcf hst
      rw [hz] at hct hst
      have hki : (k : Int) < (s.src.length : Int) := by omega
      have hkdi : (k : Int) < (s.dst.length : Int) := by omega

      clear hy hz
      by_cases hyz : y = z
      · have hst2 : Mv.endTo s (k + 1) = Mv.endTo s k ++ [0] := by rw [hst, if_neg (fun e => e hyz)]
        have HST := Lib.hid hst2
        have e1 : (y != z) = false := by rw [hyz]; simp
        clear hst hst2 hyz
        go_wp2_with fail
        go_quiet (fail)
        go_wp2_with (at_builtin; refine wpl_append_new W 22 3 rfl _ _ rfl Tryd.underlying22 info_int rfl rfl HI.out.2 (HI.out.1.drewN _) rfl rfl (by omega) (by decide) ?_; intro A' c' w2 ho hx _)
        have HO := Lib.hid (And.intro hx ho)
        clear hx ho hcf hct e1 a9 a10 hki hkdi
        go_roundw
        case rel => exact ⟨k + 1, A', c', by omega, by go_num, rfl, Lib.hid ⟨HO.out.1, by rw [HST.out, List.map_append]; exact HO.out.2⟩⟩
        case measure => simp [intOf]; omega
      · have hst2 : Mv.endTo s (k + 1) = Mv.endTo s k ++ [2] := by rw [hst, if_pos hyz]
        have HST := Lib.hid hst2
        have e1 : (y != z) = true := by rw [bne_iff_ne]; exact hyz
        clear hst hst2 hyz
        go_wp2_with fail
        go_quiet (fail)
        go_wp2_with (at_builtin; refine wpl_append_new W 22 3 rfl _ _ rfl Tryd.underlying22 info_int rfl rfl HI.out.2 (HI.out.1.drewN _) rfl rfl (by omega) (by decide) ?_; intro A' c' w2 ho hx _)
        have HO := Lib.hid (And.intro hx ho)
        clear hx ho hcf hct e1 a9 a10 hki hkdi
        go_roundw
        case rel => exact ⟨k + 1, A', c', by omega, by go_num, rfl, Lib.hid ⟨HO.out.1, by rw [HST.out, List.map_append]; exact HO.out.2⟩⟩
        case measure => simp [intOf]; omega
    · obtain rfl : k = s.src.length := by omega
      clear a10
      go_wp2_with fail
      go_ret
      refine ⟨_, rfl, ?_, HX0.out.trans HI.out.1⟩
      exact Rs.small (own_rd HI.out.2) (Mv.theEnd_len s).symm (by rw [Mv.theEnd_len]; omega) fun x hx => by have := Mv.endTo_small s _ x hx; omega
end Go.Proofs.YtkbiffbmjgmcaaaDoor

/- THE WALKS over survives and Safe of the specification of moves. -/
namespace Mv
def ints (T : List Nat) : List Int := T.map (Nat.cast : Nat → Int)
theorem ints_len (T : List Nat) : (ints T).length = T.length := List.length_map _
theorem ints_snoc (T : List Nat) (k : Nat) : ints (T ++ [k]) = ints T ++ [(k : Int)] := by simp [ints]
theorem ints_mem {T : List Nat} {k : Nat} : (k : Int) ∈ ints T ↔ k ∈ T := by
  constructor
  · intro h
    obtain ⟨a, ha, e⟩ := List.mem_map.1 h
    have : a = k := by omega
    subst this
    exact ha
  · exact fun h => List.mem_map.2 ⟨k, h, rfl⟩
/-- Can be recovered what is left when racks have failed? -/
def canL (s : Sh) (ph : List Int) (T : List Nat) : Bool := Cd.can s.d s.gl s.gs (leftL s ph (ints T) : Nat)
theorem canL_right {s : Sh} {ph : List Int} (h : right s ph = true) : canL s ph = fun T => Cd.can s.d s.gl s.gs (left s ph (mask T 0) : Nat) := by
  funext T
  have k := ok_of (right_iff.1 h).1
  have hl := (right_iff.1 h).2.1
  have hr : ∀ l : List Int, l.length = s.src.length → (∀ x ∈ l, 0 ≤ x ∧ x < (s.disks.length : Int)) → ∀ j, j < ph.length → rackOf s l j < s.racks.length := fun l hl2 hx j hj => by
    have hj2 : j < l.length := by omega
    have h1 := hx _ (List.getElem_mem hj2)
    have h2 : (l[j]).toNat < s.disks.length := by omega
    have h3 := k.disk _ (List.getElem_mem h2)
    have e1 : l.getD j 0 = l[j] := by rw [List.getD_eq_getElem?_getD, List.getElem?_eq_getElem hj2]; rfl
    have e2 : s.disks.getD (l[j]).toNat 0 = s.disks[(l[j]).toNat] := by rw [List.getD_eq_getElem?_getD, List.getElem?_eq_getElem h2]; rfl
    unfold rackOf
    rw [e1, e2]
    omega
  have e : left s ph (failed s (ints T)) = left s ph (mask T 0) := by
    refine leftTo_congr _ fun j hj => ?_
    rw [failed_bit (hr _ rfl k.src j hj), failed_bit (hr _ k.dstLen k.dst j hj), mask_bit, mask_bit]
    simp only [ints_mem, Nat.zero_testBit, Bool.false_or, and_self]
  unfold canL
  rw [leftL_yes h, e]
end Mv
namespace Go.Proofs.YtkbiffbmjgmcaaaDoor
open Go.RowKit
noncomputable def sv_can_code : Code := ((Tryd.f40.body.bind (regionOf 1)).getD .skip)
def sv_can_dsts : List (Option Nat) := [some 15, some 16, some 17, some 18, some 19, some 20, some 21, some 11]
theorem sv_can_apart : apartD sv_can_dsts = true := by decide +kernel
set_option maxRecDepth 1000000 in
set_option maxHeartbeats 16000000 in
theorem sv_can (wr : World) (B : Nat) (s : Mv.Sh) (ph rs : List Int) (DA KA HA GA RA FA TA PA QA : Option Addr) (cD cK cH cG cR cF cT cP cQ : Nat) (hgn : s.gs.length ≤ 1000000) (hB : BoxAt wr B s DA KA HA GA RA FA TA cD cK cH cG cR cF cT) (HS : Hid (ShAt wr s DA KA HA GA RA FA TA cD cK cH cG cR cF cT)) (HP : Hid (Rs RI wr (.slice PA ph.length cP) ph)) (HR : Hid (Rs RI wr (.slice QA rs.length cQ) rs)) (c0 c3 c4 c6 c7 c8 c9 c10 c11 c12 c13 c14 c15 c16 c17 c18 c19 c20 c21 c22 c23 c24 c25 c26 c27 c28 c29 c30 c31 c32 c33 c34 c35 c36 c37 c38 c39 c40 c41 c42 c43 c44 c45 c46 c47 c48 c49 c50 c51 c52 : Value) (df : List Deferred) (K : Act → World → Prop)
    (hK : ∀  (u15 u16 u17 u18 u19 u20 u21 : Value) (wx : World), Ext wr wx → K ⟨#[c0, .slice PA ph.length cP, .slice QA rs.length cQ, c3, c4, .pointer (some ⟨B, 0, none⟩), c6, c7, c8, c9, c10, .bool (Cd.can s.d s.gl s.gs (Mv.leftL s ph rs : Nat)), c12, c13, c14, u15, u16, u17, u18, u19, u20, u21, c22, c23, c24, c25, c26, c27, c28, c29, c30, c31, c32, c33, c34, c35, c36, c37, c38, c39, c40, c41, c42, c43, c44, c45, c46, c47, c48, c49, c50, c51, c52], df⟩ wx) :
    Code.wp Tryd.prog sv_can_code (AtEnd K) ⟨#[c0, .slice PA ph.length cP, .slice QA rs.length cQ, c3, c4, .pointer (some ⟨B, 0, none⟩), c6, c7, c8, c9, c10, c11, c12, c13, c14, c15, c16, c17, c18, c19, c20, c21, c22, c23, c24, c25, c26, c27, c28, c29, c30, c31, c32, c33, c34, c35, c36, c37, c38, c39, c40, c41, c42, c43, c44, c45, c46, c47, c48, c49, c50, c51, c52], df⟩ wr := by
  conv => arg 2; whnf
  refine region_inv (by kernel_rfl) [[], [0], [], [], [], [2, 3, 4], [1, 5, 5], [6, 6, 0, 1, 2, 3, 4, 5, 6]] (by kernel_rfl) [0, 1, 2, 3, 4, 5, 6, 7] (by decide +kernel) (by decide +kernel) (by decide +kernel) (fun L a wc => Inv sv_can_dsts [.pointer (some ⟨B, 4, none⟩), .agg #[.int .i64 s.d, .slice GA s.gs.length cG, .int .i64 s.gl], .agg #[.slice DA s.disks.length cD, .slice KA s.racks.length cK, .slice HA s.houses.length cH, .int .i64 s.owners, .int .i64 s.d, .slice GA s.gs.length cG, .int .i64 s.gl, .int .i64 s.floor, .slice RA s.room.length cR, .slice FA s.src.length cF, .slice TA s.dst.length cT], .slice PA ph.length cP, .slice QA rs.length cQ, .int .i64 (Mv.leftL s ph rs : Nat), .bool (Cd.can s.d s.gl s.gs (Mv.leftL s ph rs : Nat)), .bool (Cd.can s.d s.gl s.gs (Mv.leftL s ph rs : Nat))] ⟨#[c0, .slice PA ph.length cP, .slice QA rs.length cQ, c3, c4, .pointer (some ⟨B, 0, none⟩), c6, c7, c8, c9, c10, c11, c12, c13, c14, c15, c16, c17, c18, c19, c20, c21, c22, c23, c24, c25, c26, c27, c28, c29, c30, c31, c32, c33, c34, c35, c36, c37, c38, c39, c40, c41, c42, c43, c44, c45, c46, c47, c48, c49, c50, c51, c52], df⟩ L a ∧ Hid (Ext wr wc)) ⟨Inv.start, Lib.hid ((Ext.refl wr).drew)⟩ ?_ ?_
  · refine ⟨?_, ?_, ?_, ?_, ?_, ?_, ?_, ?_, trivial⟩
    · -- 0 field
      rintro L a wc ⟨hv, HO⟩ hL hc hd
      exact wpOp_val rfl rfl (ex_field rfl ((hv.fixed 5 (by decide)).trans rfl) (by go_simp)) ⟨hv.put sv_can_apart 0 rfl (Nat.le_of_ble_eq_true rfl) (Nat.le_of_ble_eq_true rfl) rfl, HO⟩
    · -- 1 load
      rintro L a wc ⟨hv, HO⟩ hL hc hd
      have h0 : wc.cell? ⟨B, 4, none⟩ = some (.int .i64 s.d) := HO.out.cell hB.b4
      have h1 : wc.cell? ⟨B, 5, none⟩ = some (.slice GA s.gs.length cG) := HO.out.cell hB.b5
      have h2 : wc.cell? ⟨B, 6, none⟩ = some (.int .i64 s.gl) := HO.out.cell hB.b6
      exact wpOp_val rfl rfl (ex_load rfl (hv.get 0 rfl rfl (hd 0 (by decide))) (by go_simp)) ⟨hv.put sv_can_apart 1 rfl (Nat.le_of_ble_eq_true rfl) (Nat.le_of_ble_eq_true rfl) rfl, HO⟩
    · -- 2 load
      rintro L a wc ⟨hv, HO⟩ hL hc hd
      have h0 : wc.cell? ⟨B, 0, none⟩ = some (.slice DA s.disks.length cD) := HO.out.cell hB.b0
      have h1 : wc.cell? ⟨B, 1, none⟩ = some (.slice KA s.racks.length cK) := HO.out.cell hB.b1
      have h2 : wc.cell? ⟨B, 2, none⟩ = some (.slice HA s.houses.length cH) := HO.out.cell hB.b2
      have h3 : wc.cell? ⟨B, 3, none⟩ = some (.int .i64 s.owners) := HO.out.cell hB.b3
      have h4 : wc.cell? ⟨B, 4, none⟩ = some (.int .i64 s.d) := HO.out.cell hB.b4
      have h5 : wc.cell? ⟨B, 5, none⟩ = some (.slice GA s.gs.length cG) := HO.out.cell hB.b5
      have h6 : wc.cell? ⟨B, 6, none⟩ = some (.int .i64 s.gl) := HO.out.cell hB.b6
      have h7 : wc.cell? ⟨B, 7, none⟩ = some (.int .i64 s.floor) := HO.out.cell hB.b7
      have h8 : wc.cell? ⟨B, 8, none⟩ = some (.slice RA s.room.length cR) := HO.out.cell hB.b8
      have h9 : wc.cell? ⟨B, 9, none⟩ = some (.slice FA s.src.length cF) := HO.out.cell hB.b9
      have h10 : wc.cell? ⟨B, 10, none⟩ = some (.slice TA s.dst.length cT) := HO.out.cell hB.b10
      exact wpOp_val rfl rfl (ex_load rfl ((hv.fixed 5 (by decide)).trans rfl) (by go_simp)) ⟨hv.put sv_can_apart 2 rfl (Nat.le_of_ble_eq_true rfl) (Nat.le_of_ble_eq_true rfl) rfl, HO⟩
    · -- 3 move
      rintro L a wc ⟨hv, HO⟩ hL hc hd
      exact wpOp_val rfl rfl (ex_move rfl ((hv.fixed 1 (by decide)).trans rfl)) ⟨hv.put sv_can_apart 3 rfl (Nat.le_of_ble_eq_true rfl) (Nat.le_of_ble_eq_true rfl) rfl, HO⟩
    · -- 4 move
      rintro L a wc ⟨hv, HO⟩ hL hc hd
      exact wpOp_val rfl rfl (ex_move rfl ((hv.fixed 2 (by decide)).trans rfl)) ⟨hv.put sv_can_apart 4 rfl (Nat.le_of_ble_eq_true rfl) (Nat.le_of_ble_eq_true rfl) rfl, HO⟩
    · -- 5 call
      rintro L a wc ⟨hv, HO⟩ hL hc hd
      refine wpOp_call (R := fun v w1 => v = .int .i64 (Mv.leftL s ph rs : Nat) ∧ Ext wc w1) rfl rfl (ex_call rfl rfl (map3c (hv.get 2 rfl rfl (hd 2 (by decide))) (hv.get 3 rfl rfl (hd 3 (by decide))) (hv.get 4 rfl rfl (hd 4 (by decide)))) (enters_of Tryd.func13 (by kernel_rfl) rfl _ _)) ((kLeft_any s ph rs hgn _ _ _ wc (HS.out.ext HO.out).sh (Rs.ext RI.ext _ _ _ _ HO.out HP.out) (Rs.ext RI.ext _ _ _ _ HO.out HR.out)).mono (fun e w' h => ⟨_, h.1, rfl, h.2⟩)) ?_
      rintro v w' ⟨rfl, hx⟩
      exact ⟨hv.put sv_can_apart 5 rfl (Nat.le_of_ble_eq_true rfl) (Nat.le_of_ble_eq_true rfl) rfl, Lib.hid (HO.out.trans hx)⟩
    · -- 6 call
      rintro L a wc ⟨hv, HO⟩ hL hc hd
      refine wpOp_call (R := fun v w1 => v = .bool (Cd.can s.d s.gl s.gs (Mv.leftL s ph rs : Nat)) ∧ Ext wc w1) rfl rfl (ex_call rfl rfl (map2c (hv.get 1 rfl rfl (hd 1 (by decide))) (hv.get 5 rfl rfl (hd 5 (by decide)))) (enters_of Tryd.func60 (by kernel_rfl) rfl _ _)) ((rRec_any s.d s.gl (Mv.leftL s ph rs : Nat) s.gs _ wc (HS.out.ext HO.out).gs hgn).mono (fun e w' h => ⟨_, h.1, rfl, h.2⟩)) ?_
      rintro v w' ⟨rfl, hx⟩
      exact ⟨hv.put sv_can_apart 6 rfl (Nat.le_of_ble_eq_true rfl) (Nat.le_of_ble_eq_true rfl) rfl, Lib.hid (HO.out.trans hx)⟩
    · -- 7 assign
      rintro L a wc ⟨hv, HO⟩ hL hc hd
      exact wpOp_val rfl rfl (ex_assign rfl (hv.get 6 rfl rfl (hd 6 (by decide)))) ⟨hv.put sv_can_apart 7 rfl (Nat.le_of_ble_eq_true rfl) (Nat.le_of_ble_eq_true rfl) rfl, HO⟩
  · rintro L a wc ⟨hv, HO⟩ hall
    show K a wc
    have ha := act_lit a
    rw [hv.size, hv.defers] at ha
    have hl : ∀ f : Nat → Value, ((List.range (⟨#[c0, .slice PA ph.length cP, .slice QA rs.length cQ, c3, c4, .pointer (some ⟨B, 0, none⟩), c6, c7, c8, c9, c10, c11, c12, c13, c14, c15, c16, c17, c18, c19, c20, c21, c22, c23, c24, c25, c26, c27, c28, c29, c30, c31, c32, c33, c34, c35, c36, c37, c38, c39, c40, c41, c42, c43, c44, c45, c46, c47, c48, c49, c50, c51, c52], df⟩ : Act).tmps.size).map f).toArray = #[f 0, f 1, f 2, f 3, f 4, f 5, f 6, f 7, f 8, f 9, f 10, f 11, f 12, f 13, f 14, f 15, f 16, f 17, f 18, f 19, f 20, f 21, f 22, f 23, f 24, f 25, f 26, f 27, f 28, f 29, f 30, f 31, f 32, f 33, f 34, f 35, f 36, f 37, f 38, f 39, f 40, f 41, f 42, f 43, f 44, f 45, f 46, f 47, f 48, f 49, f 50, f 51, f 52] := fun _ => rfl
    rw [hl] at ha
    simp only [hv.fixed 0 (by decide), hv.fixed 1 (by decide), hv.fixed 2 (by decide), hv.fixed 3 (by decide), hv.fixed 4 (by decide), hv.fixed 5 (by decide), hv.fixed 6 (by decide), hv.fixed 7 (by decide), hv.fixed 8 (by decide), hv.fixed 9 (by decide), hv.fixed 10 (by decide), hv.fixed 12 (by decide), hv.fixed 13 (by decide), hv.fixed 14 (by decide), hv.fixed 22 (by decide), hv.fixed 23 (by decide), hv.fixed 24 (by decide), hv.fixed 25 (by decide), hv.fixed 26 (by decide), hv.fixed 27 (by decide), hv.fixed 28 (by decide), hv.fixed 29 (by decide), hv.fixed 30 (by decide), hv.fixed 31 (by decide), hv.fixed 32 (by decide), hv.fixed 33 (by decide), hv.fixed 34 (by decide), hv.fixed 35 (by decide), hv.fixed 36 (by decide), hv.fixed 37 (by decide), hv.fixed 38 (by decide), hv.fixed 39 (by decide), hv.fixed 40 (by decide), hv.fixed 41 (by decide), hv.fixed 42 (by decide), hv.fixed 43 (by decide), hv.fixed 44 (by decide), hv.fixed 45 (by decide), hv.fixed 46 (by decide), hv.fixed 47 (by decide), hv.fixed 48 (by decide), hv.fixed 49 (by decide), hv.fixed 50 (by decide), hv.fixed 51 (by decide), hv.fixed 52 (by decide), hv.get 7 (d := 11) rfl rfl (hall 7 (by decide))] at ha
    rw [ha]
    exact hK _ _ _ _ _ _ _ wc HO.out
set_option maxHeartbeats 8000000 in
set_option maxRecDepth 100000 in
theorem kSurv_any (s : Mv.Sh) (ph : List Int) (hgn : s.gs.length ≤ 1000000) (hR : s.racks.length ≤ 24) : ∀ (n r : Nat) (T : List Nat) (v u q : Value) (w : World), n ≤ 100 → r ≤ s.racks.length → T.length + n ≤ 100 → (∀ x ∈ T, x < 100) → RSh w v s → Rs RI w u ph → Rs RI w q (Mv.ints T) →
    Calls Tryd.prog 40 #[v, u, q, .int .i64 (n : Nat), .int .i64 (r : Nat)] w fun e w' => e = .returned (.bool (Mv.surv (Mv.canL s ph) s.racks.length n T r)) ∧ Ext w w' := by
  intro n
  induction n with
  | zero =>
    intro r T v u q w hn hr hT hTx hv hu hq
    obtain ⟨DA, KA, HA, GA, RA, FA, TA, cD, cK, cH, cG, cR, cF, cT, rfl, hS⟩ := hv.open
    obtain ⟨PA, cP, rfl, hp64⟩ := hu.form
    obtain ⟨QA, cQ, rfl, hq64⟩ := hq.form
    have hx0 := (Ext.refl w).alloc (.cells #[.slice DA s.disks.length cD, .slice KA s.racks.length cK, .slice HA s.houses.length cH, .int .i64 s.owners, .int .i64 s.d, .slice GA s.gs.length cG, .int .i64 s.gl, .int .i64 s.floor, .slice RA s.room.length cR, .slice FA s.src.length cF, .slice TA s.dst.length cT] 30)
    have HX0 := Lib.hid hx0
    have HS := Lib.hid (hS.ext hx0)
    have HP := Lib.hid (Rs.ext RI.ext _ _ _ _ hx0 hu)
    have HQ := Lib.hid (Rs.ext RI.ext _ _ _ _ hx0 hq)
    have hB := BoxAt.new w s DA KA HA GA RA FA TA cD cK cH cG cR cF cT
    have HB := Lib.hid hB
    clear hv hu hq hS hx0 hB
    go_enter Tryd.func40, Tryd.ntmps40
    go_wp2_with fail
    refine wp_atEnd' (sv_can _ w.heap.size s ph (Mv.ints T) DA KA HA GA RA FA TA PA QA cD cK cH cG cR cF cT cP cQ hgn HB.out HS HP HQ _ _ _ _ _ _ _ _ _ _ _ _ _ _ _ _ _ _ _ _ _ _ _ _ _ _ _ _ _ _ _ _ _ _ _ _ _ _ _ _ _ _ _ _ _ _ _ _ _ _ _ _ ?_)
    intro u15 u16 u17 u18 u19 u20 u21 w1 hx1
    have HX1 := Lib.hid hx1
    clear hx1
    obtain ⟨cc, hcc⟩ : ∃ cc, Cd.can s.d s.gl s.gs (Mv.leftL s ph (Mv.ints T) : Nat) = cc := ⟨_, rfl⟩
    have HE : Hid (Mv.surv (Mv.canL s ph) s.racks.length 0 T r = cc) := Lib.hid hcc
    rw [hcc]
    clear hcc
    have a1 := (HB.out.ext HX1.out).b1
    cases cc with
    | false =>
      go_wp2_with fail
      go_ret
      exact ⟨by rw [HE.out]; rfl, HX0.out.trans HX1.out⟩
    | true =>
      go_wp2_with fail
      go_loopw [12] (fun vk wr => ∃ k : Nat, k ≤ s.racks.length ∧ vk = .int .i64 k ∧ Hid (w1 = wr)) (fun vk _ => s.racks.length - (intOf vk).toNat)
      case atStart => exact ⟨r, hr, rfl, Lib.hid rfl⟩
      case round =>
        obtain ⟨k, hk, rfl, HW⟩ := hrel
        have a1 := ((HB.out.ext HX1.out).ext (by rw [HW.out]; exact Ext.refl _)).b1
        by_cases hlt : k < s.racks.length
        · go_wp2_with fail
          clear a1
          go_ret
          exact ⟨by rw [HE.out]; rfl, by rw [← HW.out]; exact HX0.out.trans HX1.out⟩
        · obtain rfl : k = s.racks.length := by omega
          go_wp2_with fail
          clear a1
          go_ret
          exact ⟨by rw [HE.out]; rfl, by rw [← HW.out]; exact HX0.out.trans HX1.out⟩
  | succ n ih =>
    intro r T v u q w hn hr hT hTx hv hu hq
    have IH := Lib.hid ih
    have HTX := Lib.hid hTx
    obtain ⟨DA, KA, HA, GA, RA, FA, TA, cD, cK, cH, cG, cR, cF, cT, rfl, hS⟩ := hv.open
    obtain ⟨PA, cP, rfl, hp64⟩ := hu.form
    obtain ⟨QA, cQ, rfl, hq64⟩ := hq.form
    have hx0 := (Ext.refl w).alloc (.cells #[.slice DA s.disks.length cD, .slice KA s.racks.length cK, .slice HA s.houses.length cH, .int .i64 s.owners, .int .i64 s.d, .slice GA s.gs.length cG, .int .i64 s.gl, .int .i64 s.floor, .slice RA s.room.length cR, .slice FA s.src.length cF, .slice TA s.dst.length cT] 30)
    have HX0 := Lib.hid hx0
    have HS := Lib.hid (hS.ext hx0)
    have HP := Lib.hid (Rs.ext RI.ext _ _ _ _ hx0 hu)
    have HQ := Lib.hid (Rs.ext RI.ext _ _ _ _ hx0 hq)
    have hB := BoxAt.new w s DA KA HA GA RA FA TA cD cK cH cG cR cF cT
    have HB := Lib.hid hB
    obtain ⟨N, hN⟩ : ∃ N : Nat, n + 1 = N := ⟨_, rfl⟩
    have hn0 : (0 : Int) < (N : Int) := by omega
    have hNb : N ≤ 101 := by omega
    have HN1 : Hid ((N : Int) - 1 = (n : Int)) := Lib.hid (by omega)
    have HN : Hid (n + 1 = N) := Lib.hid hN
    rw [hN]
    clear hv hu hq hS hx0 hB ih hTx hN
    go_enter Tryd.func40, Tryd.ntmps40
    go_wp2_with fail
    refine wp_atEnd' (sv_can _ w.heap.size s ph (Mv.ints T) DA KA HA GA RA FA TA PA QA cD cK cH cG cR cF cT cP cQ hgn HB.out HS HP HQ _ _ _ _ _ _ _ _ _ _ _ _ _ _ _ _ _ _ _ _ _ _ _ _ _ _ _ _ _ _ _ _ _ _ _ _ _ _ _ _ _ _ _ _ _ _ _ _ _ _ _ _ ?_)
    intro u15 u16 u17 u18 u19 u20 u21 w1 hx1
    have HX1 := Lib.hid hx1
    clear hx1
    obtain ⟨cc, hcc⟩ : ∃ cc, Cd.can s.d s.gl s.gs (Mv.leftL s ph (Mv.ints T) : Nat) = cc := ⟨_, rfl⟩
    have HE : Hid (Mv.surv (Mv.canL s ph) s.racks.length N T r = (cc && Mv.survR (Mv.surv (Mv.canL s ph) s.racks.length n) s.racks.length T (s.racks.length - r))) := Lib.hid (by rw [← hcc, ← HN.out]; rfl)
    rw [hcc]
    clear hcc
    cases cc with
    | false =>
      go_wp2_with fail
      go_ret
      exact ⟨by rw [HE.out]; rfl, HX0.out.trans HX1.out⟩
    | true =>
      obtain ⟨SR, hSR⟩ : ∃ SR, Mv.survR (Mv.surv (Mv.canL s ph) s.racks.length n) s.racks.length T = SR := ⟨_, rfl⟩
      have HSR := Lib.hid hSR
      rw [hSR] at HE
      clear hSR
      go_wp2_with fail
      go_loopw [12] (fun vk wr => ∃ k : Nat, k ≤ s.racks.length ∧ vk = .int .i64 k ∧ Hid (Ext w1 wr ∧ SR (s.racks.length - k) = SR (s.racks.length - r))) (fun vk _ => s.racks.length - (intOf vk).toNat)
      case atStart => exact ⟨r, hr, rfl, Lib.hid ⟨Ext.refl _, rfl⟩⟩
      case round =>
        obtain ⟨k, hk, rfl, HI⟩ := hrel
        have hxx := HX1.out.trans HI.out.1
        by_cases hlt : k < s.racks.length
        · have hki : (k : Int) < (s.racks.length : Int) := by omega
          have hst : SR (s.racks.length - k) = (Mv.surv (Mv.canL s ph) s.racks.length n (T ++ [k]) (k + 1) && SR (s.racks.length - (k + 1))) := by
            rw [← HSR.out]
            obtain ⟨j, hj⟩ : ∃ j, s.racks.length - k = j + 1 := ⟨s.racks.length - k - 1, by omega⟩
            rw [hj, Mv.survR, show s.racks.length - (j + 1) = k by omega, show s.racks.length - (k + 1) = j by omega]
          have HST := Lib.hid hst
          have hO0 : Owns wr (wr.alloc (.cells #[] 3)) [⟨.slice (some ⟨wr.heap.size, 0, none⟩) 0 0, 3, 1, 0, []⟩] := (Owns.start wr (L := [no]) (by intro r hr; simp at hr; subst hr; exact ⟨rfl, rfl, rfl⟩)).new 0 #[] 3 (by simp [maxLen])
          have hrd : Rd (wr.alloc (.cells #[] 3)) QA ((Mv.ints T).map (Value.int .i64)) := (rs_rdI (Rs.ext RI.ext _ _ _ _ hxx HQ.out)).ext ((Ext.refl wr).alloc _)
          have hone : ∀ u ∈ (Mv.ints T).map (Value.int .i64), u.oneCell' = true := by intro u hu; simp at hu; obtain ⟨b, _, rfl⟩ := hu; rfl
          have HN := Lib.hid (And.intro hO0 (And.intro hrd hone))
          have hil := Mv.ints_len T
          have hm1 : (Mv.ints T).length < 100000000000 := by omega
          have hm2 : (Mv.ints T).length < 1000000000000 := by omega
          have HIL := Lib.hid hil
          have a1 := (HB.out.ext hxx).b1
          have HXX := Lib.hid hxx
          clear hst hO0 hrd hone hil hxx
          go_wp2_with (first
            | (refine wpl_append_copy 22 3 rfl (.tmp 37) (.tmp 38) rfl Tryd.underlying22 info_int rfl HN.out.1 0 rfl rfl rfl (List.length_map _) HN.out.2.1 HN.out.2.2 hm1 (by decide) ?_; intro g1 c1 w3 hO3; have HO3 := Lib.hid hO3; clear hO3)
            | (refine wpl_append_owns (u := .int .i64 (k : Nat)) 22 3 rfl (.tmp 39) (.tmp 41) rfl Tryd.underlying22 info_int rfl (HO3.out.push1 (u := .int .i64 (k : Nat)) (e := 3)) 0 rfl rfl rfl (cell_of_row _ _ 0 _ _ (0, 0) (heap_new _ _)) rfl hm2 (by decide) ?_; intro g2 c2 w4 hO4 _; have HO4 := Lib.hid hO4; clear hO4
               have a0 := (HB.out.ext (HXX.out.trans HO4.out.ext)).b0; have a1 := (HB.out.ext (HXX.out.trans HO4.out.ext)).b1; have a2 := (HB.out.ext (HXX.out.trans HO4.out.ext)).b2; have a3 := (HB.out.ext (HXX.out.trans HO4.out.ext)).b3; have a4 := (HB.out.ext (HXX.out.trans HO4.out.ext)).b4; have a5 := (HB.out.ext (HXX.out.trans HO4.out.ext)).b5; have a6 := (HB.out.ext (HXX.out.trans HO4.out.ext)).b6; have a7 := (HB.out.ext (HXX.out.trans HO4.out.ext)).b7; have a8 := (HB.out.ext (HXX.out.trans HO4.out.ext)).b8; have a9 := (HB.out.ext (HXX.out.trans HO4.out.ext)).b9; have a10 := (HB.out.ext (HXX.out.trans HO4.out.ext)).b10))
          clear a0 a1 a2 a3 a4 a5 a6 a7 a8 a9 a10
          have hrs : Rs RI w4 (.slice (some ⟨g2, 0, none⟩) ((Mv.ints T).length + 1) c2) (Mv.ints (T ++ [k])) := by
            refine Rs.small ?_ ?_ ?_ ?_
            · rw [Mv.ints_snoc, List.map_append]; exact HO4.out.rd 0 rfl
            · rw [Mv.ints_snoc, List.length_append]; rfl
            · rw [Mv.ints_len, List.length_append]; simp; omega
            · intro x hx
              obtain ⟨y, hy, rfl⟩ := List.mem_map.1 hx
              rcases List.mem_append.1 hy with hy | hy
              · have := HTX.out y hy; omega
              · rw [List.mem_singleton.1 hy]; omega
          have hx4 := HXX.out.trans HO4.out.ext
          rw [HN1.out]
          refine (IH.out (k + 1) (T ++ [k]) _ _ _ w4 (by omega) (by omega) (by simp; omega) (fun x hx => by
            rcases List.mem_append.1 hx with hx | hx
            · exact HTX.out x hx
            · rw [List.mem_singleton.1 hx]; omega) (HS.out.ext hx4).sh (Rs.ext RI.ext _ _ _ _ hx4 HP.out) hrs).mono ?_
          rintro e w5 ⟨rfl, hx5⟩
          have HX5 := Lib.hid (HI.out.1.trans (HO4.out.ext.trans hx5))
          obtain ⟨b, hb⟩ : ∃ b, Mv.surv (Mv.canL s ph) s.racks.length n (T ++ [k]) (k + 1) = b := ⟨_, rfl⟩
          rw [hb] at HST ⊢
          clear hb hx5 hrs hx4
          cases b with
          | false =>
            go_wp2_with fail
            go_ret
            exact ⟨by rw [HE.out, ← HI.out.2, HST.out]; rfl, HX0.out.trans (HX1.out.trans HX5.out)⟩
          | true =>
            go_wp2_with fail
            go_roundw
            case rel => exact ⟨k + 1, by omega, by go_num, Lib.hid ⟨HX5.out, by rw [← HI.out.2, HST.out]; rfl⟩⟩
            case measure => simp [intOf]; omega
        · obtain rfl : k = s.racks.length := by omega
          have a1 := (HB.out.ext hxx).b1
          have HXX := Lib.hid hxx
          clear hxx
          go_wp2_with fail
          go_ret
          exact ⟨by rw [HE.out, ← HI.out.2, Nat.sub_self, ← HSR.out]; rfl, HX0.out.trans HXX.out⟩
set_option maxHeartbeats 8000000 in
set_option maxRecDepth 100000 in
theorem kSafe_any (s : Mv.Sh) (ph : List Int) (hgn : s.gs.length ≤ 1000000) (v u : Value) (w : World) (hv : RSh w v s) (hu : Rs RI w u ph) :
    Calls Tryd.prog 15 #[v, u] w fun e w' => e = .returned (.bool (Mv.right s ph && Mv.safe (fun m => Cd.can s.d s.gl s.gs m) s ph)) ∧ Ext w w' := by
  obtain ⟨DA, KA, HA, GA, RA, FA, TA, cD, cK, cH, cG, cR, cF, cT, rfl, hS⟩ := hv.open
  obtain ⟨PA, cP, rfl, hp64⟩ := hu.form
  have hx0 := (Ext.refl w).alloc (.cells #[.slice DA s.disks.length cD, .slice KA s.racks.length cK, .slice HA s.houses.length cH, .int .i64 s.owners, .int .i64 s.d, .slice GA s.gs.length cG, .int .i64 s.gl, .int .i64 s.floor, .slice RA s.room.length cR, .slice FA s.src.length cF, .slice TA s.dst.length cT] 30)
  have HX0 := Lib.hid hx0
  have HS := Lib.hid (hS.ext hx0)
  have HP := Lib.hid (Rs.ext RI.ext _ _ _ _ hx0 hu)
  have hB := BoxAt.new w s DA KA HA GA RA FA TA cD cK cH cG cR cF cT
  have HB := Lib.hid hB
  have a0 := hB.b0
  have a1 := hB.b1
  have a2 := hB.b2
  have a3 := hB.b3
  have a4 := hB.b4
  have a5 := hB.b5
  have a6 := hB.b6
  have a7 := hB.b7
  have a8 := hB.b8
  have a9 := hB.b9
  have a10 := hB.b10
  clear hv hu hS hx0 hB
  go_enter Tryd.func15, Tryd.ntmps15
  go_wp2_with fail
  clear a0 a1 a2 a3 a4 a5 a6 a7 a8 a9 a10
  refine (kRight_any s ph hgn _ _ _ HS.out.sh HP.out).mono ?_
  rintro ee w1 ⟨rfl, hx1⟩
  have HX1 := Lib.hid hx1
  clear hx1
  cases hrt : Mv.right s ph with
  | false =>
    have HRT := Lib.hid hrt
    clear hrt
    go_wp2_with fail
    go_ret
    exact ⟨ret_bool (by rw [HRT.out]; rfl), HX0.out.trans HX1.out⟩
  | true =>
    have hok := Mv.ok_of (Mv.right_iff.1 hrt).1
    have hR := hok.racks
    obtain ⟨fl, hfl, hfb⟩ : ∃ fl : Nat, s.floor = ((fl + 1 : Nat) : Int) ∧ fl ≤ 3 := ⟨s.floor.toNat - 1, by have := hok.floor; omega, by have := hok.floor; omega⟩
    have hsf : Mv.safe (fun m => Cd.can s.d s.gl s.gs m) s ph = Mv.surv (Mv.canL s ph) s.racks.length fl [] 0 := by
      rw [Mv.safe_iff (Mv.right_iff.1 hrt).2.1, Mv.canL_right hrt, show s.floor.toNat - 1 = fl by omega]
    have HSF := Lib.hid hsf
    have HRT := Lib.hid hrt
    have HFL := Lib.hid hfl
    have hs1 : s.floor - 1 = (fl : Int) := by omega
    have hfa : -1000 ≤ s.floor ∧ s.floor ≤ 1000 := by omega
    have a0 := (HB.out.ext HX1.out).b0
    have a1 := (HB.out.ext HX1.out).b1
    have a2 := (HB.out.ext HX1.out).b2
    have a3 := (HB.out.ext HX1.out).b3
    have a4 := (HB.out.ext HX1.out).b4
    have a5 := (HB.out.ext HX1.out).b5
    have a6 := (HB.out.ext HX1.out).b6
    have a7 := (HB.out.ext HX1.out).b7
    have a8 := (HB.out.ext HX1.out).b8
    have a9 := (HB.out.ext HX1.out).b9
    have a10 := (HB.out.ext HX1.out).b10
    clear hrt hok hsf hfl
    go_wp2_with fail
    clear a0 a1 a2 a3 a4 a5 a6 a7 a8 a9 a10
    clear hs1
    refine (kSurv_any s ph hgn hR fl 0 [] _ _ _ w1 (by omega) (Nat.zero_le _) (by simp; omega) (by simp) (HS.out.ext HX1.out).sh (Rs.ext RI.ext _ _ _ _ HX1.out HP.out) ⟨none, 0, rfl, by simp [Mv.ints], fun i x hi => by simp [Mv.ints] at hi⟩).mono ?_
    rintro e w2 ⟨rfl, hx2⟩
    have HX2 := Lib.hid (HX1.out.trans hx2)
    clear hx2
    go_wp2_with fail
    go_ret
    exact ⟨ret_bool (by rw [HRT.out, HSF.out]; rfl), HX0.out.trans HX2.out⟩
end Go.Proofs.YtkbiffbmjgmcaaaDoor

/- THE WALK over Fits of the specification of moves. -/
namespace Go.Proofs.YtkbiffbmjgmcaaaDoor
open Go.RowKit
set_option maxHeartbeats 8000000 in
set_option maxRecDepth 100000 in
theorem kFits_any (s : Mv.Sh) (ph : List Int) (hgn : s.gs.length ≤ 1000000) (v u : Value) (w : World) (hv : RSh w v s) (hu : Rs RI w u ph) :
    Calls Tryd.prog 17 #[v, u] w fun e w' => e = .returned (.bool (Mv.right s ph && Mv.fits s ph)) ∧ Ext w w' := by
  obtain ⟨DA, KA, HA, GA, RA, FA, TA, cD, cK, cH, cG, cR, cF, cT, rfl, hS⟩ := hv.open
  obtain ⟨PA, cP, rfl, hp64⟩ := hu.form
  have hx0 := (Ext.refl w).alloc (.cells #[.slice DA s.disks.length cD, .slice KA s.racks.length cK, .slice HA s.houses.length cH, .int .i64 s.owners, .int .i64 s.d, .slice GA s.gs.length cG, .int .i64 s.gl, .int .i64 s.floor, .slice RA s.room.length cR, .slice FA s.src.length cF, .slice TA s.dst.length cT] 30)
  have HX0 := Lib.hid hx0
  have HS := Lib.hid (hS.ext hx0)
  have HP := Lib.hid (Rs.ext RI.ext _ _ _ _ hx0 hu)
  have hB := BoxAt.new w s DA KA HA GA RA FA TA cD cK cH cG cR cF cT
  have HB := Lib.hid hB
  have a0 := hB.b0
  have a1 := hB.b1
  have a2 := hB.b2
  have a3 := hB.b3
  have a4 := hB.b4
  have a5 := hB.b5
  have a6 := hB.b6
  have a7 := hB.b7
  have a8 := hB.b8
  have a9 := hB.b9
  have a10 := hB.b10
  clear hv hu hS hx0 hB
  go_enter Tryd.func17, Tryd.ntmps17
  go_wp2_with fail
  clear a0 a1 a2 a3 a4 a5 a6 a7 a8 a9 a10
  refine (kRight_any s ph hgn _ _ _ HS.out.sh HP.out).mono ?_
  rintro ee w1 ⟨rfl, hx1⟩
  have HX1 := Lib.hid hx1
  clear hx1
  cases hrt : Mv.right s ph with
  | false =>
    have HRT := Lib.hid hrt
    clear hrt
    go_wp2_with fail
    go_ret
    exact ⟨ret_bool (by rw [HRT.out]; rfl), HX0.out.trans HX1.out⟩
  | true =>
  have hok := Mv.ok_of (Mv.right_iff.1 hrt).1
  have hpl := (Mv.right_iff.1 hrt).2.1
  have h24 := hok.few
  have h64 : s.room.length ≤ 64 := by rw [hok.roomLen]; exact hok.disks
  have hp24 : ph.length ≤ 24 := by omega
  have hfi := Mv.fits_iff (Mv.idx_src hok hpl) (Mv.idx_dst hok hpl)
  have HOK := Lib.hid hok
  have HPL := Lib.hid hpl
  have HRT := Lib.hid hrt
  have HFI := Lib.hid hfi
  clear hrt hok hpl hfi
  go_wp2_with fail
  go_loop [6] (fun vd => ∃ d : Nat, d ≤ s.room.length ∧ vd = .int .i64 d ∧ Hid (∀ j, j < d → (Mv.come s ph (j : Nat) ph.length : Int) - Mv.gone s ph (j : Nat) ph.length ≤ s.room.getD j 0)) (fun vd => s.room.length - (intOf vd).toNat)
  case atStart => exact ⟨0, Nat.zero_le _, rfl, Lib.hid (fun j hj => absurd hj (Nat.not_lt_zero j))⟩
  case round =>
    obtain ⟨d, hd, rfl, HI⟩ := hrel
    have a8 := (HB.out.ext HX1.out).b8
    by_cases hdl : d < s.room.length
    · obtain ⟨ar, u8, rfl, hcr, hu8⟩ := (Rs.ext RI.ext _ _ _ _ HX1.out HS.out.room).at hdl
      obtain ⟨rfl, hlo8, hhi8⟩ := hu8
      have hgr := getD_get (x := (0 : Int)) hdl
      obtain ⟨x, hx⟩ : ∃ x, s.room[d] = x := ⟨_, rfl⟩
      rw [hx] at hcr hgr hlo8 hhi8
      have HGR := Lib.hid hgr
      have HX := Lib.hid hcr
      have H8 := Lib.hid a8
      clear hx hgr hcr
      go_wp2_with fail
      clear a8
      go_loop [7, 8, 9] (fun vc vg vk => ∃ k : Nat, k ≤ ph.length ∧ vk = .int .i64 k ∧ vc = .int .i64 (Mv.come s ph (d : Nat) k : Nat) ∧ vg = .int .i64 (Mv.gone s ph (d : Nat) k : Nat)) (fun _ _ vk => ph.length - (intOf vk).toNat)
      case atStart => exact ⟨0, Nat.zero_le _, rfl, rfl, rfl⟩
      case round =>
        obtain ⟨k, hk, rfl, rfl, rfl⟩ := hrel
        obtain ⟨m, hm⟩ : ∃ m, Mv.come s ph (d : Nat) k = m := ⟨_, rfl⟩
        obtain ⟨m2, hm2⟩ : ∃ m2, Mv.gone s ph (d : Nat) k = m2 := ⟨_, rfl⟩
        have hml := Mv.come_le s ph (d : Nat) k
        have hml2 := Mv.gone_le s ph (d : Nat) k
        rw [hm] at hml ⊢
        rw [hm2] at hml2 ⊢
        have HCC := Lib.hid (And.intro hm hm2)
        by_cases hlt : k < ph.length
        · obtain ⟨ap, u, rfl, hcp, hu⟩ := (Rs.ext RI.ext _ _ _ _ HX1.out HP.out).at hlt
          obtain ⟨rfl, hlo, hhi⟩ := hu
          have hks : k < s.src.length := by have := HPL.out; omega
          have hkd : k < s.dst.length := by have := HPL.out; have := HOK.out.dstLen; omega
          obtain ⟨af, u1, rfl, hcf, hu1⟩ := (Rs.ext RI.ext _ _ _ _ HX1.out HS.out.src).at hks
          obtain ⟨rfl, _, _⟩ := hu1
          obtain ⟨at_, u2, rfl, hct, hu2⟩ := (Rs.ext RI.ext _ _ _ _ HX1.out HS.out.dst).at hkd
          obtain ⟨rfl, _, _⟩ := hu2
          have g1 := getD_get (x := (0 : Int)) hlt
          have g2 := getD_get (x := (0 : Int)) hks
          have g3 := getD_get (x := (0 : Int)) hkd
          obtain ⟨p, hp⟩ : ∃ p, ph[k] = p := ⟨_, rfl⟩
          obtain ⟨y, hy0⟩ : ∃ y, s.src[k] = y := ⟨_, rfl⟩
          obtain ⟨z, hz0⟩ : ∃ z, s.dst[k] = z := ⟨_, rfl⟩
          rw [hp] at hcp g1 hlo hhi
          rw [hy0] at hcf g2
          rw [hz0] at hct g3
          have HGD := Lib.hid (And.intro g1 (And.intro g2 g3))
          have a9 := (HB.out.ext HX1.out).b9
          have a10 := (HB.out.ext HX1.out).b10
          have hksi : (k : Int) < (s.src.length : Int) := by omega
          have hkdi : (k : Int) < (s.dst.length : Int) := by omega
          clear hp hy0 hz0 g1 g2 g3
          by_cases h0 : 0 < p
          · by_cases hz : z = (d : Int)
            · by_cases h2 : p = 2
              · by_cases hy : y = (d : Int)
                · skip
                  have HST := Lib.hid (And.intro (Mv.come_yes (s := s) (ph := ph) (d := (d : Nat)) (k := k) (by rw [HGD.out.1]; exact h0) (by rw [HGD.out.2.2]; exact hz)) (Mv.gone_yes (s := s) (ph := ph) (d := (d : Nat)) (k := k) (by rw [HGD.out.1]; exact h2) (by rw [HGD.out.2.1]; exact hy)))
                  have ez : (z == (d : Int)) = true := by rw [hz]; simp
                  have ey : (y == (d : Int)) = true := by rw [hy]; simp
                  have e2 : (p == 2) = true := by rw [h2]; rfl
                  clear hz hy h2
                  clear hm hm2
                  go_wp2_with fail
                  clear hcp a9 a10
                  go_round
                  case rel => exact ⟨k + 1, by omega, by go_num, by rw [HST.out.1, HCC.out.1]; rfl, by rw [HST.out.2, HCC.out.2]; rfl⟩
                  case measure => simp [intOf]; omega
                · skip
                  have HST := Lib.hid (And.intro (Mv.come_yes (s := s) (ph := ph) (d := (d : Nat)) (k := k) (by rw [HGD.out.1]; exact h0) (by rw [HGD.out.2.2]; exact hz)) (Mv.gone_no (s := s) (ph := ph) (d := (d : Nat)) (k := k) (fun e => by rw [HGD.out.1, HGD.out.2.1] at e; exact hy e.2)))
                  have ez : (z == (d : Int)) = true := by rw [hz]; simp
                  have ey : (y == (d : Int)) = false := by rw [beq_eq_false_iff_ne]; exact hy
                  have e2 : (p == 2) = true := by rw [h2]; rfl
                  clear hz hy h2
                  clear hm hm2
                  go_wp2_with fail
                  clear hcp a9 a10
                  go_round
                  case rel => exact ⟨k + 1, by omega, by go_num, by rw [HST.out.1, HCC.out.1]; rfl, by rw [HST.out.2, HCC.out.2]⟩
                  case measure => simp [intOf]; omega
              · skip
                have HST := Lib.hid (And.intro (Mv.come_yes (s := s) (ph := ph) (d := (d : Nat)) (k := k) (by rw [HGD.out.1]; exact h0) (by rw [HGD.out.2.2]; exact hz)) (Mv.gone_no (s := s) (ph := ph) (d := (d : Nat)) (k := k) (fun e => by rw [HGD.out.1, HGD.out.2.1] at e; exact h2 e.1)))
                have ez : (z == (d : Int)) = true := by rw [hz]; simp
                have e2 : (p == 2) = false := by rw [beq_eq_false_iff_ne]; exact h2
                clear hz h2
                clear hm hm2
                go_wp2_with fail
                clear hcp a9 a10
                go_round
                case rel => exact ⟨k + 1, by omega, by go_num, by rw [HST.out.1, HCC.out.1]; rfl, by rw [HST.out.2, HCC.out.2]⟩
                case measure => simp [intOf]; omega
            · by_cases h2 : p = 2
              · by_cases hy : y = (d : Int)
                · skip
                  have HST := Lib.hid (And.intro (Mv.come_no (s := s) (ph := ph) (d := (d : Nat)) (k := k) (fun e => by rw [HGD.out.1, HGD.out.2.2] at e; exact hz e.2)) (Mv.gone_yes (s := s) (ph := ph) (d := (d : Nat)) (k := k) (by rw [HGD.out.1]; exact h2) (by rw [HGD.out.2.1]; exact hy)))
                  have ez : (z == (d : Int)) = false := by rw [beq_eq_false_iff_ne]; exact hz
                  have ey : (y == (d : Int)) = true := by rw [hy]; simp
                  have e2 : (p == 2) = true := by rw [h2]; rfl
                  clear hz hy h2
                  clear hm hm2
                  go_wp2_with fail
                  clear hcp a9 a10
                  go_round
                  case rel => exact ⟨k + 1, by omega, by go_num, by rw [HST.out.1, HCC.out.1], by rw [HST.out.2, HCC.out.2]; rfl⟩
                  case measure => simp [intOf]; omega
                · skip
                  have HST := Lib.hid (And.intro (Mv.come_no (s := s) (ph := ph) (d := (d : Nat)) (k := k) (fun e => by rw [HGD.out.1, HGD.out.2.2] at e; exact hz e.2)) (Mv.gone_no (s := s) (ph := ph) (d := (d : Nat)) (k := k) (fun e => by rw [HGD.out.1, HGD.out.2.1] at e; exact hy e.2)))
                  have ez : (z == (d : Int)) = false := by rw [beq_eq_false_iff_ne]; exact hz
                  have ey : (y == (d : Int)) = false := by rw [beq_eq_false_iff_ne]; exact hy
                  have e2 : (p == 2) = true := by rw [h2]; rfl
                  clear hz hy h2
                  clear hm hm2
                  go_wp2_with fail
                  clear hcp a9 a10
                  go_round
                  case rel => exact ⟨k + 1, by omega, by go_num, by rw [HST.out.1, HCC.out.1], by rw [HST.out.2, HCC.out.2]⟩
                  case measure => simp [intOf]; omega
              · skip
                have HST := Lib.hid (And.intro (Mv.come_no (s := s) (ph := ph) (d := (d : Nat)) (k := k) (fun e => by rw [HGD.out.1, HGD.out.2.2] at e; exact hz e.2)) (Mv.gone_no (s := s) (ph := ph) (d := (d : Nat)) (k := k) (fun e => by rw [HGD.out.1, HGD.out.2.1] at e; exact h2 e.1)))
                have ez : (z == (d : Int)) = false := by rw [beq_eq_false_iff_ne]; exact hz
                have e2 : (p == 2) = false := by rw [beq_eq_false_iff_ne]; exact h2
                clear hz h2
                clear hm hm2
                go_wp2_with fail
                clear hcp a9 a10
                go_round
                case rel => exact ⟨k + 1, by omega, by go_num, by rw [HST.out.1, HCC.out.1], by rw [HST.out.2, HCC.out.2]⟩
                case measure => simp [intOf]; omega
          · have h2 : ¬ p = 2 := by omega
            have HST := Lib.hid (And.intro (Mv.come_no (s := s) (ph := ph) (d := (d : Nat)) (k := k) (fun e => by rw [HGD.out.1, HGD.out.2.2] at e; exact h0 e.1)) (Mv.gone_no (s := s) (ph := ph) (d := (d : Nat)) (k := k) (fun e => by rw [HGD.out.1, HGD.out.2.1] at e; exact h2 e.1)))
            have e2 : (p == 2) = false := by rw [beq_eq_false_iff_ne]; exact h2
            clear h2
            clear hm hm2
            go_wp2_with fail
            clear hcp a9 a10
            go_round
            case rel => exact ⟨k + 1, by omega, by go_num, by rw [HST.out.1, HCC.out.1], by rw [HST.out.2, HCC.out.2]⟩
            case measure => simp [intOf]; omega
        · obtain rfl : k = ph.length := by omega
          have hcr := HX.out
          have a8 := H8.out
          have hdi : (d : Int) < (s.room.length : Int) := by omega
          clear hm hm2
          by_cases hgt : x < (m : Int) - (m2 : Int)
          · have hF : Mv.fits s ph = false := by
              rw [← Bool.not_eq_true]
              intro e
              have := HFI.out.1 e d hdl
              rw [HCC.out.1, HCC.out.2, HGR.out] at this
              omega
            have HF := Lib.hid hF
            clear hF
            go_wp2_with fail
            clear hcr a8
            go_ret
            exact ⟨ret_bool (by rw [HRT.out, HF.out]; rfl), HX0.out.trans HX1.out⟩
          · have hF : (Mv.come s ph (d : Nat) ph.length : Int) - Mv.gone s ph (d : Nat) ph.length ≤ s.room.getD d 0 := by
              rw [HCC.out.1, HCC.out.2, HGR.out]
              omega
            have HF := Lib.hid hF
            clear hF
            go_wp2_with fail
            clear hcr a8
            go_round
            case rel => exact ⟨d + 1, by omega, by go_num, Lib.hid (fun j hj => by
              by_cases hjd : j = d
              · rw [hjd]; exact HF.out
              · exact HI.out j (by omega))⟩
            case measure => simp [intOf]; omega
    · obtain rfl : d = s.room.length := by omega
      have HF := Lib.hid (HFI.out.2 HI.out)
      go_wp2_with fail
      clear a8
      go_ret
      exact ⟨ret_bool (by rw [HRT.out, HF.out]; rfl), HX0.out.trans HX1.out⟩
end Go.Proofs.YtkbiffbmjgmcaaaDoor

/- THE WALK over search of the specification of moves. -/
namespace Mv
theorem restTo_self (E : List Int) : ∀ n, restTo E E n = 0
  | 0 => rfl
  | n + 1 => by rw [restTo, restTo_self E n]; omega
theorem right_small {s : Sh} {ph : List Int} (h : right s ph = true) : ∀ x ∈ ph, 0 ≤ x ∧ x ≤ 2 := fun x hx => by
  obtain ⟨k, hk, rfl⟩ := List.getElem_of_mem hx
  have := right_at h hk
  rw [List.getD_eq_getElem?_getD, List.getElem?_eq_getElem hk] at this
  simp only [Option.getD_some] at this
  omega
theorem ints_cons (k : Nat) (l : List Nat) : ints (k :: l) = (k : Int) :: ints l := rfl
/-- What a plan has are places of pieces. -/
theorem plan_small {ok : List Int → Bool} {E : List Int} : ∀ (l : List Nat) (now : List Int), Under E now → plan ok E now = some l → l.length = rest E now ∧ ∀ x ∈ l, x < E.length
  | [], now, hu, hp => by
    rcases (plan_iff hu).1 hp with ⟨h, _⟩ | ⟨k', l', e, _⟩
    · subst h; exact ⟨(restTo_self _ _).symm, by simp⟩
    · cases e
  | k :: l, now, hu, hp => by
    rcases (plan_iff hu).1 hp with ⟨_, h⟩ | ⟨k', l', e, h1, h2, h3, h4, _⟩
    · cases h
    · injection e with e1 e2
      subst e1
      subst e2
      have hr := rest_step hu h1 h2
      obtain ⟨a, b⟩ := plan_small l _ hr.2 h4
      refine ⟨by rw [List.length_cons, a]; exact hr.1, fun x hx => ?_⟩
      rcases List.mem_cons.1 hx with rfl | hx
      · rw [← hu.1]; exact h1
      · exact b x hx
theorem restTo_le {s : Sh} {ph : List Int} (h : right s ph = true) : ∀ n, n ≤ s.src.length → restTo (theEnd s) ph n ≤ 2 * n
  | 0, _ => Nat.le_refl _
  | n + 1, hn => by
    have ih := restTo_le h n (by omega)
    have h1 := right_at h (k := n) (by have := (right_iff.1 h).2.1; omega)
    have h2 := theEnd_get (s := s) (k := n) (by omega)
    rw [restTo, h2]
    split <;> omega
theorem rest_le {s : Sh} {ph : List Int} (h : right s ph = true) : rest (theEnd s) ph ≤ 48 := by
  have h1 := restTo_le h _ (Nat.le_refl _)
  have h2 := (ok_of (right_iff.1 h).1).few
  unfold rest
  rw [theEnd_len]
  omega
end Mv
namespace Go.Proofs.YtkbiffbmjgmcaaaDoor
open Go.RowKit
theorem run_append_none {P : Program} {t ty e : TypeId} {z : Value} {bytes : Nat} (ht : P.underlying t = some (.slice e)) (hi : (P.info? e).map (fun i => (i.zero, i.size, i.bytes)) = some (some z, 1, bytes)) (w : World) (b : Nat) (B : Option Addr) (c : Nat) :
    (Builtin.append_ #[t, t] ty #[.slice (some ⟨b, 0, none⟩) 1 1, .slice B 0 c]).run P w = .ok (.slice (some ⟨b, 0, none⟩) 1 1) w := by
  obtain ⟨i0, hi0, hiz, hi1, hi2⟩ := info_parts hi
  cases B <;> simp [Builtin.append_, run_underlying ht, sizeOf, typeInfo, hi0, hi1, Builtin.lenOf, Builtin.firstCells, loadCells, loadCellsFrom, storeCells, Result.andThen]
/-- 'append([]T{x}, xs...)'. -/
theorem wpl_append_behind {P : Program} {w0 w : World} {L : List LRow} {ops : Array Oper} {rest : List Oper} {o : Oper} {a : Act} {Q : Exit → Act → World → Prop} (t e : TypeId) (hgd : o.guard = none) (s x : Operand)
    (ho : o.op = .call { callee := .builtin .append, args := #[s, x], argTypes := #[t, t] })
    {z : Value} {bytes : Nat} (ht : P.underlying t = some (.slice e)) (hi : (P.info? e).map (fun i => (i.zero, i.size, i.bytes)) = some (some z, 1, bytes)) (hzs : z.cells.size = 1)
    (h : Owns w0 w L) (i : Nat) {b : Nat} {u : Value} (hL : L[i]? = some ⟨.slice (some ⟨b, 0, none⟩) 1 1, e, 1, 1, [u]⟩) (hs : a.eval s = .slice (some ⟨b, 0, none⟩) 1 1) {B : Option Addr} {m c : Nat} {news : List Value}
    (hx : a.eval x = .slice B m c) (hl : news.length = m) (hrd : Rd w B news) (h1 : ∀ u ∈ news, u.oneCell' = true) (hm : m < 10000000000) (hb : bytes ≤ 100)
    (hK : ∀ g cap w', Owns w0 w' (L.set i ⟨.slice (some ⟨g, 0, none⟩) (1 + m) cap, e, 1, 1 + m, u :: news⟩) → wpList P ops Q rest (a.put o.dst (.slice (some ⟨g, 0, none⟩) (1 + m) cap)) w') :
    wpList P ops Q (o :: rest) a w := by
  by_cases h0 : m = 0
  · subst h0
    have hn : news = [] := List.length_eq_zero_iff.1 hl
    subst hn
    refine wpList_plain hgd fun K hK' => ?_
    have hr := run_append_none (P := P) (ty := o.type) ht hi w b B c
    unfold Oper.wp execOp
    simp only [ho, resolve, invoke, builtin, Sem.run_bind, Sem.run_pure, Result.andThen_ok, List.map_toArray, List.map_cons, List.map_nil, hs, hx, hr]
    refine hK' _ _ (hK b 1 w ?_)
    have e : L.set i ⟨.slice (some ⟨b, 0, none⟩) 1 1, e, 1, 1, [u]⟩ = L := by
      apply List.ext_getElem?
      intro j
      rw [List.getElem?_set]
      split
      · rename_i hij
        subst hij
        split
        · rw [hL]
        · rename_i hlt; rw [List.getElem?_eq_none (by omega)]
      · rfl
    rw [e]
    exact h
  · obtain ⟨ad, rfl, _, _⟩ := hrd.at (k := 0) (by omega)
    refine wpl_append_all t e hgd s x ho ht hi hzs h i hL hs hx hl (fun j u hj => ?_) h1 (by omega) (by omega) hb ?_
    · exact (hrd.all (List.getElem?_eq_some_iff.1 hj).1).trans (by rw [(List.getElem?_eq_some_iff.1 hj).2])
    · intro g cap w' hO _
      exact hK g cap w' hO
/-- A list of pieces and an error, in a variable. -/
def plannedRow (g : Nat) (l e : Value) : LRow := ⟨.slice (some ⟨g, 0, none⟩) 2 2, 41, 1, 2, [l, e]⟩
theorem Owns.elder {w w2 wr : World} {L : List LRow} (h : Owns w2 wr L) (hx : Ext w w2) : Owns w wr L where
  ext := hx.trans h.ext
  ok i r hr := by
    have h1 := h.ok i r hr
    refine ⟨h1.1, ?_⟩
    rcases h1.2 with h2 | ⟨g, cap, cur, hv, hB, rest⟩
    · exact .inl h2
    · exact .inr ⟨g, cap, cur, hv, Nat.le_trans hx.size hB, rest⟩
  far := h.far
/-- A list of pieces, as a row. -/
def lrow (A : Option Addr) (c : Nat) (l : List Nat) : LRow := ⟨.slice A l.length c, 3, 1, l.length, (Mv.ints l).map (.int .i64)⟩
theorem lrow_nil {w w' : World} (h : Ext w w') : Owns w w' [lrow none 0 []] := (Owns.start w (by intro r hr; rw [List.mem_singleton.1 hr]; exact ⟨rfl, rfl, rfl⟩)).next h
/-- What a search returns. -/
def PlanOut (o : Option (List Nat)) (w : World) (e : Ending) (w' : World) : Prop := ∃ A c, e = .returned (.agg #[.slice A (o.getD []).length c, .int .i64 (if o.isSome = true then 0 else 8)]) ∧ Owns w w' [lrow A c (o.getD [])]
theorem PlanOut.none {w w' : World} (h : Ext w w') : PlanOut Option.none w (.returned (.agg #[.slice Option.none 0 0, .int .i64 8])) w' := ⟨_, _, rfl, lrow_nil h⟩
theorem PlanOut.some {w w' : World} {l : List Nat} {A : Option Addr} {c n : Nat} {xs : List Value} (h : Owns w w' [⟨.slice A n c, 3, 1, n, xs⟩]) (hn : n = l.length) (hx : xs = (Mv.ints l).map (.int .i64)) : PlanOut (Option.some l) w (.returned (.agg #[.slice A n c, .int .i64 0])) w' := by
  subst hn
  subst hx
  exact ⟨A, c, rfl, h⟩
set_option maxHeartbeats 8000000 in
set_option maxRecDepth 100000 in
theorem kSearch_any (s : Mv.Sh) (hgn : s.gs.length ≤ 1000000) : ∀ (n : Nat) (ph : List Int) (v u : Value) (w : World), Mv.rest (Mv.theEnd s) ph = n → Mv.right s ph = true → RSh w v s → Rs RI w u ph →
    Calls Tryd.prog 46 #[v, u] w fun e w' => PlanOut (Mv.plan (Mv.fine (fun m => Cd.can s.d s.gl s.gs m) s) (Mv.theEnd s) ph) w e w' := by
  intro n
  induction n with
  | zero =>
    intro ph v u w hn hrt hv hu
    have he := Mv.rest_zero (Mv.right_under hrt) hn
    have hpl : Mv.plan (Mv.fine (fun m => Cd.can s.d s.gl s.gs m) s) (Mv.theEnd s) ph = some [] := by rw [he]; exact Mv.plan_end _ _
    obtain ⟨DA, KA, HA, GA, RA, FA, TA, cD, cK, cH, cG, cR, cF, cT, rfl, hS⟩ := hv.open
    obtain ⟨PA, cP, rfl, hp64⟩ := hu.form
    have hx0 := (Ext.refl w).alloc (.cells #[.slice DA s.disks.length cD, .slice KA s.racks.length cK, .slice HA s.houses.length cH, .int .i64 s.owners, .int .i64 s.d, .slice GA s.gs.length cG, .int .i64 s.gl, .int .i64 s.floor, .slice RA s.room.length cR, .slice FA s.src.length cF, .slice TA s.dst.length cT] 30)
    have HX0 := Lib.hid hx0
    have hx1 := (Ext.refl (w.alloc (.cells #[.slice DA s.disks.length cD, .slice KA s.racks.length cK, .slice HA s.houses.length cH, .int .i64 s.owners, .int .i64 s.d, .slice GA s.gs.length cG, .int .i64 s.gl, .int .i64 s.floor, .slice RA s.room.length cR, .slice FA s.src.length cF, .slice TA s.dst.length cT] 30))).alloc (.cells #[.slice none 0 0, .int .i64 0] 41)
    have hO : Owns (w.alloc (.cells #[.slice DA s.disks.length cD, .slice KA s.racks.length cK, .slice HA s.houses.length cH, .int .i64 s.owners, .int .i64 s.d, .slice GA s.gs.length cG, .int .i64 s.gl, .int .i64 s.floor, .slice RA s.room.length cR, .slice FA s.src.length cF, .slice TA s.dst.length cT] 30)) ((w.alloc (.cells #[.slice DA s.disks.length cD, .slice KA s.racks.length cK, .slice HA s.houses.length cH, .int .i64 s.owners, .int .i64 s.d, .slice GA s.gs.length cG, .int .i64 s.gl, .int .i64 s.floor, .slice RA s.room.length cR, .slice FA s.src.length cF, .slice TA s.dst.length cT] 30)).alloc (.cells #[.slice none 0 0, .int .i64 0] 41)) [plannedRow (w.heap.size + 1) (.slice none 0 0) (.int .i64 0)] := by
      have h := (Owns.start (w.alloc (.cells #[.slice DA s.disks.length cD, .slice KA s.racks.length cK, .slice HA s.houses.length cH, .int .i64 s.owners, .int .i64 s.d, .slice GA s.gs.length cG, .int .i64 s.gl, .int .i64 s.floor, .slice RA s.room.length cR, .slice FA s.src.length cF, .slice TA s.dst.length cT] 30)) (L := [no]) (by intro r hr; simp [no] at hr; subst hr; simp)).new 0 #[.slice none 0 0, .int .i64 0] 41 (by simp [maxLen])
      simpa [plannedRow] using h
    have HO := Lib.hid hO
    have HS := Lib.hid ((hS.ext hx0).ext hx1)
    have HP := Lib.hid (Rs.ext RI.ext _ _ _ _ hx1 (Rs.ext RI.ext _ _ _ _ hx0 hu))
    have hB := (BoxAt.new w s DA KA HA GA RA FA TA cD cK cH cG cR cF cT).ext hx1
    have HB := Lib.hid hB
    have HOK := Lib.hid (Mv.ok_of (Mv.right_iff.1 hrt).1)
    have HRT := Lib.hid hrt
    have HPL := Lib.hid (Mv.right_iff.1 hrt).2.1
    have a0 := hB.b0
    have a1 := hB.b1
    have a2 := hB.b2
    have a3 := hB.b3
    have a4 := hB.b4
    have a5 := hB.b5
    have a6 := hB.b6
    have a7 := hB.b7
    have a8 := hB.b8
    have a9 := hB.b9
    have a10 := hB.b10
    have HE := Lib.hid he
    have HPN := Lib.hid hpl
    clear hv hu hS hx0 hx1 hB hO hrt hn he hpl
    go_enter Tryd.func46, Tryd.ntmps46
    go_wp2_with fail
    clear a0 a1 a2 a3 a4 a5 a6 a7 a8 a9 a10
    refine (kEnd_any s HOK.out.dstLen HOK.out.few _ _ HS.out.sh).mono ?_
    rintro e w1 ⟨z1, rfl, hz1, hx1⟩
    have HZ1 := Lib.hid (And.intro hz1 hx1)
    clear hz1 hx1
    go_wp2_with fail
    refine (kSame_any ph (Mv.theEnd s) _ _ w1 (Rs.ext RI.ext _ _ _ _ HZ1.out.2 HP.out) HZ1.out.1).mono ?_
    rintro e w2 ⟨rfl, hx2⟩
    rw [decide_eq_true HE.out]
    have HO2 := Lib.hid (HO.out.next (HZ1.out.2.trans hx2))
    clear hx2
    have hc3 : w2.cell? ⟨w.heap.size + 1, 0, none⟩ = some (.slice none 0 0) := HO2.out.cell 0 rfl 0 rfl
    have hc4 : w2.cell? ⟨w.heap.size + 1, 1, none⟩ = some (.int .i64 0) := HO2.out.cell 0 rfl 1 rfl
    have hf3 : w2.frozen? ⟨w.heap.size + 1, 0, none⟩ = false := HO2.out.frozen 0 rfl 0
    have hf4 : w2.frozen? ⟨w.heap.size + 1, 1, none⟩ = false := HO2.out.frozen 0 rfl 1
    go_wp2_with fail
    have hO7 := (HO2.out.store 0 rfl 0 (.slice none 0 0)).store 0 rfl 1 (.int .i64 0)
    exact bodyPost_ret (v := .agg #[.slice none 0 0, .int .i64 0]) (by simp [results, Tryd.results46, go_sem, hc3, hc4]) rfl (by rw [HPN.out]; exact PlanOut.some (lrow_nil (HX0.out.trans hO7.ext)) rfl rfl)

  | succ n ih =>
    intro ph v u w hn hrt hv hu
    have hne : ph ≠ Mv.theEnd s := fun e => by
      rw [e] at hn
      unfold Mv.rest at hn
      rw [Mv.restTo_self] at hn
      cases hn
    have hun := Mv.right_under hrt
    have hpl := Mv.plan_more (ok := (Mv.fine (fun m => Cd.can s.d s.gl s.gs m) s)) hun hne
    obtain ⟨DA, KA, HA, GA, RA, FA, TA, cD, cK, cH, cG, cR, cF, cT, rfl, hS⟩ := hv.open
    obtain ⟨PA, cP, rfl, hp64⟩ := hu.form
    have hx0 := (Ext.refl w).alloc (.cells #[.slice DA s.disks.length cD, .slice KA s.racks.length cK, .slice HA s.houses.length cH, .int .i64 s.owners, .int .i64 s.d, .slice GA s.gs.length cG, .int .i64 s.gl, .int .i64 s.floor, .slice RA s.room.length cR, .slice FA s.src.length cF, .slice TA s.dst.length cT] 30)
    have HX0 := Lib.hid hx0
    have hx1 := (Ext.refl (w.alloc (.cells #[.slice DA s.disks.length cD, .slice KA s.racks.length cK, .slice HA s.houses.length cH, .int .i64 s.owners, .int .i64 s.d, .slice GA s.gs.length cG, .int .i64 s.gl, .int .i64 s.floor, .slice RA s.room.length cR, .slice FA s.src.length cF, .slice TA s.dst.length cT] 30))).alloc (.cells #[.slice none 0 0, .int .i64 0] 41)
    have hO : Owns (w.alloc (.cells #[.slice DA s.disks.length cD, .slice KA s.racks.length cK, .slice HA s.houses.length cH, .int .i64 s.owners, .int .i64 s.d, .slice GA s.gs.length cG, .int .i64 s.gl, .int .i64 s.floor, .slice RA s.room.length cR, .slice FA s.src.length cF, .slice TA s.dst.length cT] 30)) ((w.alloc (.cells #[.slice DA s.disks.length cD, .slice KA s.racks.length cK, .slice HA s.houses.length cH, .int .i64 s.owners, .int .i64 s.d, .slice GA s.gs.length cG, .int .i64 s.gl, .int .i64 s.floor, .slice RA s.room.length cR, .slice FA s.src.length cF, .slice TA s.dst.length cT] 30)).alloc (.cells #[.slice none 0 0, .int .i64 0] 41)) [plannedRow (w.heap.size + 1) (.slice none 0 0) (.int .i64 0)] := by
      have h := (Owns.start (w.alloc (.cells #[.slice DA s.disks.length cD, .slice KA s.racks.length cK, .slice HA s.houses.length cH, .int .i64 s.owners, .int .i64 s.d, .slice GA s.gs.length cG, .int .i64 s.gl, .int .i64 s.floor, .slice RA s.room.length cR, .slice FA s.src.length cF, .slice TA s.dst.length cT] 30)) (L := [no]) (by intro r hr; simp [no] at hr; subst hr; simp)).new 0 #[.slice none 0 0, .int .i64 0] 41 (by simp [maxLen])
      simpa [plannedRow] using h
    have HO := Lib.hid hO
    have HS := Lib.hid ((hS.ext hx0).ext hx1)
    have HP := Lib.hid (Rs.ext RI.ext _ _ _ _ hx1 (Rs.ext RI.ext _ _ _ _ hx0 hu))
    have hB := (BoxAt.new w s DA KA HA GA RA FA TA cD cK cH cG cR cF cT).ext hx1
    have HB := Lib.hid hB
    have HOK := Lib.hid (Mv.ok_of (Mv.right_iff.1 hrt).1)
    have HRT := Lib.hid hrt
    have HPL := Lib.hid (Mv.right_iff.1 hrt).2.1
    have a0 := hB.b0
    have a1 := hB.b1
    have a2 := hB.b2
    have a3 := hB.b3
    have a4 := hB.b4
    have a5 := hB.b5
    have a6 := hB.b6
    have a7 := hB.b7
    have a8 := hB.b8
    have a9 := hB.b9
    have a10 := hB.b10
    have hpl24 : ph.length ≤ 24 := by have a := (Mv.right_iff.1 hrt).2.1; have b := HOK.out.few; omega
    have HNE := Lib.hid hne
    have HUN := Lib.hid hun
    have HPN := Lib.hid hpl
    have HN := Lib.hid hn
    have IH := Lib.hid ih
    clear hv hu hS hx0 hx1 hB hO hrt hn hne hpl hun ih
    go_enter Tryd.func46, Tryd.ntmps46
    go_wp2_with fail
    clear a0 a1 a2 a3 a4 a5 a6 a7 a8 a9 a10
    refine (kEnd_any s HOK.out.dstLen HOK.out.few _ _ HS.out.sh).mono ?_
    rintro e w1 ⟨z1, rfl, hz1, hx1⟩
    have HZ1 := Lib.hid (And.intro hz1 hx1)
    clear hz1 hx1
    go_wp2_with fail
    refine (kSame_any ph (Mv.theEnd s) _ _ w1 (Rs.ext RI.ext _ _ _ _ HZ1.out.2 HP.out) HZ1.out.1).mono ?_
    rintro e w2 ⟨rfl, hx2⟩
    rw [decide_eq_false HNE.out]
    obtain ⟨W2, hW2⟩ : ∃ W2, (w.alloc (.cells #[.slice DA s.disks.length cD, .slice KA s.racks.length cK, .slice HA s.houses.length cH, .int .i64 s.owners, .int .i64 s.d, .slice GA s.gs.length cG, .int .i64 s.gl, .int .i64 s.floor, .slice RA s.room.length cR, .slice FA s.src.length cF, .slice TA s.dst.length cT] 30)).alloc (.cells #[.slice none 0 0, .int .i64 0] 41) = W2 := ⟨_, rfl⟩
    have HW2 := Lib.hid hW2
    have hxx := HZ1.out.2.trans hx2
    have HO2 := Lib.hid (HO.out.next hxx)
    rw [hW2] at hxx HS HB HP
    have HXX := Lib.hid hxx
    clear hx2 hxx hW2 HZ1
    go_wp2_with fail
    go_loopw [6] (fun vk wr => ∃ k : Nat, k ≤ ph.length ∧ vk = .int .i64 k ∧ Hid ((Ext W2 wr ∧ Owns (w.alloc (.cells #[.slice DA s.disks.length cD, .slice KA s.racks.length cK, .slice HA s.houses.length cH, .int .i64 s.owners, .int .i64 s.d, .slice GA s.gs.length cG, .int .i64 s.gl, .int .i64 s.floor, .slice RA s.room.length cR, .slice FA s.src.length cF, .slice TA s.dst.length cT] 30)) wr [plannedRow (w.heap.size + 1) (.slice none 0 0) (.int .i64 0)]) ∧ Mv.tryTo (Mv.tryAt (Mv.fine (fun m => Cd.can s.d s.gl s.gs m) s) (Mv.theEnd s) ph) k = none)) (fun vk _ => ph.length - (intOf vk).toNat)
    case atStart => exact ⟨0, Nat.zero_le _, rfl, Lib.hid ⟨⟨HXX.out, HO2.out⟩, rfl⟩⟩
    case round =>
      obtain ⟨k, hk, rfl, HI⟩ := hrel
      by_cases hlt : k < ph.length
      · have hks : k < s.src.length := by have := HPL.out; omega
        have hkd : k < s.dst.length := by have := HPL.out; have := HOK.out.dstLen; omega
        obtain ⟨ap, u, rfl, hcp, hu⟩ := (Rs.ext RI.ext _ _ _ _ HI.out.1.1 HP.out).at hlt
        obtain ⟨rfl, hlo, hhi⟩ := hu
        obtain ⟨af, u1, rfl, hcf, hu1⟩ := (Rs.ext RI.ext _ _ _ _ HI.out.1.1 HS.out.src).at hks
        obtain ⟨rfl, _, _⟩ := hu1
        obtain ⟨at_, u2, rfl, hct, hu2⟩ := (Rs.ext RI.ext _ _ _ _ HI.out.1.1 HS.out.dst).at hkd
        obtain ⟨rfl, _, _⟩ := hu2
        have hra := Mv.right_at HRT.out hlt
        have hte := Mv.theEnd_get (s := s) hks
        have g1 := getD_get (x := (0 : Int)) hlt
        have g2 := getD_get (x := (0 : Int)) hks
        have g3 := getD_get (x := (0 : Int)) hkd
        rw [g1, g2, g3] at hra
        rw [g2, g3] at hte
        obtain ⟨p, hp⟩ : ∃ p, ph[k] = p := ⟨_, rfl⟩
        obtain ⟨y, hy0⟩ : ∃ y, s.src[k] = y := ⟨_, rfl⟩
        obtain ⟨z, hz0⟩ : ∃ z, s.dst[k] = z := ⟨_, rfl⟩
        rw [hp] at hcp g1 hlo hhi hra
        rw [hy0] at hcf g2 hra hte
        rw [hz0] at hct g3 hra hte
        have a9 := (HB.out.ext HI.out.1.1).b9
        have a10 := (HB.out.ext HI.out.1.1).b10
        have hksi : (k : Int) < (s.src.length : Int) := by omega
        have hkdi : (k : Int) < (s.dst.length : Int) := by omega
        have HG := Lib.hid (And.intro g1 (And.intro hte hra))
        clear hp hy0 hz0 g1 g2 g3 hra hte
        by_cases hyz : y = z
        · have e1 : (y != z) = false := by rw [hyz]; simp
          have hsame : ph.getD k 0 = (Mv.theEnd s).getD k 0 := by
            rw [HG.out.1, HG.out.2.1, if_neg (fun e => e hyz)]
            exact HG.out.2.2.2.2 hyz
          have HN : Hid (Mv.tryTo (Mv.tryAt (Mv.fine (fun m => Cd.can s.d s.gl s.gs m) s) (Mv.theEnd s) ph) (k + 1) = none) := Lib.hid ((Mv.tryTo_none HI.out.2).trans (Mv.tryAt_same hsame))
          clear hsame hyz
          go_wp2_with fail
          go_quiet (fail)
          go_wp2_with fail
          clear hcp hcf hct a9 a10 e1
          go_roundw
          case rel => exact ⟨k + 1, by omega, by go_num, Lib.hid ⟨⟨HI.out.1.1.drewN _, HI.out.1.2.drewN _⟩, HN.out⟩⟩
          case measure => simp [intOf]; omega
        · have e1 : (y != z) = true := by rw [bne_iff_ne]; exact hyz
          by_cases hp2 : p < 2
          case neg =>
            have hsame : ph.getD k 0 = (Mv.theEnd s).getD k 0 := by
              rw [HG.out.1, HG.out.2.1, if_pos hyz]
              have := HG.out.2.2
              omega
            have HN : Hid (Mv.tryTo (Mv.tryAt (Mv.fine (fun m => Cd.can s.d s.gl s.gs m) s) (Mv.theEnd s) ph) (k + 1) = none) := Lib.hid ((Mv.tryTo_none HI.out.2).trans (Mv.tryAt_same hsame))
            clear hsame hyz
            go_wp2_with fail
            go_quiet (fail)
            go_wp2_with fail
            clear hcp hcf hct a9 a10 e1
            go_roundw
            case rel => exact ⟨k + 1, by omega, by go_num, Lib.hid ⟨⟨HI.out.1.1.drewN _, HI.out.1.2.drewN _⟩, HN.out⟩⟩
            case measure => simp [intOf]; omega
          case pos =>
            have hdiff : ph.getD k 0 ≠ (Mv.theEnd s).getD k 0 := by
              rw [HG.out.1, HG.out.2.1, if_pos hyz]
              omega
            have hrs := Mv.right_step HRT.out hlt hdiff
            have hst := Mv.rest_step HUN.out hlt hdiff
            have HD := Lib.hid (And.intro hdiff (And.intro hrs hst))
            clear hdiff hrs hst hyz
            go_wp2_with fail
            go_quiet (fail)
            go_wp2_with fail
            clear hcp hcf hct a9 a10 e1
            refine (kWith_any ph k hlt (by omega) (fun x hx => by have := Mv.right_small HRT.out x hx; omega) (fun x hx => by have := Mv.right_small HD.out.2.1 x hx; omega) _ _ (Rs.ext RI.ext _ _ _ _ (HI.out.1.1.drewN _) HP.out)).mono ?_
            rintro e w3 ⟨z3, rfl, hz3, hx3⟩
            obtain ⟨ZA, cZ, rfl, hz64⟩ := hz3.form
            have hx3' := (HI.out.1.1.drewN _).trans hx3
            have HX3 := Lib.hid hx3'
            have HO3 := Lib.hid ((HI.out.1.2.drewN _).next hx3)
            have HZ3 := Lib.hid hz3
            have a0 := (HB.out.ext hx3').b0
            have a1 := (HB.out.ext hx3').b1
            have a2 := (HB.out.ext hx3').b2
            have a3 := (HB.out.ext hx3').b3
            have a4 := (HB.out.ext hx3').b4
            have a5 := (HB.out.ext hx3').b5
            have a6 := (HB.out.ext hx3').b6
            have a7 := (HB.out.ext hx3').b7
            have a8 := (HB.out.ext hx3').b8
            have a9 := (HB.out.ext hx3').b9
            have a10 := (HB.out.ext hx3').b10
            clear hz3 hx3 hx3' hz64
            go_wp2_with fail
            clear a0 a1 a2 a3 a4 a5 a6 a7 a8 a9 a10
            refine (kSafe_any s (Mv.step ph k) hgn _ _ w3 (HS.out.ext HX3.out).sh HZ3.out).mono ?_
            rintro e w4 ⟨rfl, hx4⟩
            rw [HD.out.2.1, Bool.true_and]
            have hx4' := HX3.out.trans hx4
            have HX4 := Lib.hid hx4'
            have HO4 := Lib.hid (HO3.out.next hx4)
            have HZ4 := Lib.hid (Rs.ext RI.ext _ _ _ _ hx4 HZ3.out)
            have a0 := (HB.out.ext hx4').b0
            have a1 := (HB.out.ext hx4').b1
            have a2 := (HB.out.ext hx4').b2
            have a3 := (HB.out.ext hx4').b3
            have a4 := (HB.out.ext hx4').b4
            have a5 := (HB.out.ext hx4').b5
            have a6 := (HB.out.ext hx4').b6
            have a7 := (HB.out.ext hx4').b7
            have a8 := (HB.out.ext hx4').b8
            have a9 := (HB.out.ext hx4').b9
            have a10 := (HB.out.ext hx4').b10
            obtain ⟨sf, hsf⟩ : ∃ sf, Mv.safe (fun m => Cd.can s.d s.gl s.gs m) s (Mv.step ph k) = sf := ⟨_, rfl⟩
            rw [hsf]
            have HSF := Lib.hid hsf
            clear hx4 hx4' hsf
            go_wp2_with fail
            clear a0 a1 a2 a3 a4 a5 a6 a7 a8 a9 a10
            refine (kFits_any s (Mv.step ph k) hgn _ _ w4 (HS.out.ext HX4.out).sh HZ4.out).mono ?_
            rintro e w5 ⟨rfl, hx5⟩
            rw [HD.out.2.1, Bool.true_and]
            have hx5' := HX4.out.trans hx5
            have HX5 := Lib.hid hx5'
            have HO5 := Lib.hid (HO4.out.next hx5)
            have HZ5 := Lib.hid (Rs.ext RI.ext _ _ _ _ hx5 HZ4.out)
            obtain ⟨ft, hft⟩ : ∃ ft, Mv.fits s (Mv.step ph k) = ft := ⟨_, rfl⟩
            rw [hft]
            have HFT := Lib.hid hft
            have hok : (Mv.fine (fun m => Cd.can s.d s.gl s.gs m) s) (Mv.step ph k) = (ft && sf) := by unfold Mv.fine; rw [HFT.out, HSF.out]
            have HOKK := Lib.hid hok
            have a0 := (HB.out.ext hx5').b0
            have a1 := (HB.out.ext hx5').b1
            have a2 := (HB.out.ext hx5').b2
            have a3 := (HB.out.ext hx5').b3
            have a4 := (HB.out.ext hx5').b4
            have a5 := (HB.out.ext hx5').b5
            have a6 := (HB.out.ext hx5').b6
            have a7 := (HB.out.ext hx5').b7
            have a8 := (HB.out.ext hx5').b8
            have a9 := (HB.out.ext hx5').b9
            have a10 := (HB.out.ext hx5').b10
            clear hx5 hx5' hft hok
            cases sf with
            | false =>
              have hf : (Mv.fine (fun m => Cd.can s.d s.gl s.gs m) s) (Mv.step ph k) = false := by rw [HOKK.out, Bool.and_false]
              have HN : Hid (Mv.tryTo (Mv.tryAt (Mv.fine (fun m => Cd.can s.d s.gl s.gs m) s) (Mv.theEnd s) ph) (k + 1) = none) := Lib.hid ((Mv.tryTo_none HI.out.2).trans (Mv.tryAt_no hf))
              clear hf
              go_wp2_with fail
              clear a0 a1 a2 a3 a4 a5 a6 a7 a8 a9 a10
              go_roundw
              case rel => exact ⟨k + 1, by omega, by go_num, Lib.hid ⟨⟨HX5.out, HO5.out⟩, HN.out⟩⟩
              case measure => simp [intOf]; omega
            | true =>
            cases ft with
            | false =>
              have hf : (Mv.fine (fun m => Cd.can s.d s.gl s.gs m) s) (Mv.step ph k) = false := by rw [HOKK.out]; rfl
              have HN : Hid (Mv.tryTo (Mv.tryAt (Mv.fine (fun m => Cd.can s.d s.gl s.gs m) s) (Mv.theEnd s) ph) (k + 1) = none) := Lib.hid ((Mv.tryTo_none HI.out.2).trans (Mv.tryAt_no hf))
              clear hf
              go_wp2_with fail
              clear a0 a1 a2 a3 a4 a5 a6 a7 a8 a9 a10
              go_roundw
              case rel => exact ⟨k + 1, by omega, by go_num, Lib.hid ⟨⟨HX5.out, HO5.out⟩, HN.out⟩⟩
              case measure => simp [intOf]; omega
            | true =>
            have htry := Mv.tryAt_go (ok := (Mv.fine (fun m => Cd.can s.d s.gl s.gs m) s)) (E := Mv.theEnd s) (now := ph) HD.out.1 (by rw [HOKK.out]; rfl)
            have HTRY := Lib.hid htry
            clear htry
            go_wp2_with fail
            clear a0 a1 a2 a3 a4 a5 a6 a7 a8 a9 a10
            refine (IH.out (Mv.step ph k) _ _ w5 (by have := HN.out; have := HD.out.2.2.1; omega) HD.out.2.1 (HS.out.ext HX5.out).sh HZ5.out).mono ?_
            rintro e w6 ⟨YA, cY, rfl, hz6⟩
            have hx6 := hz6.ext
            have hsm := fun l => Mv.plan_small (ok := (Mv.fine (fun m => Cd.can s.d s.gl s.gs m) s)) l (Mv.step ph k) (Mv.right_under HD.out.2.1)
            obtain ⟨op, hop⟩ : ∃ op, Mv.plan (Mv.fine (fun m => Cd.can s.d s.gl s.gs m) s) (Mv.theEnd s) (Mv.step ph k) = op := ⟨_, rfl⟩
            rw [hop] at hz6 HTRY hsm ⊢
            have hx6' := HX5.out.trans hx6
            have HX6 := Lib.hid hx6'
            have HO6 := Lib.hid (HO5.out.next hx6)
            cases op with
            | none =>
              have HN : Hid (Mv.tryTo (Mv.tryAt (Mv.fine (fun m => Cd.can s.d s.gl s.gs m) s) (Mv.theEnd s) ph) (k + 1) = none) := Lib.hid ((Mv.tryTo_none HI.out.2).trans (HTRY.out))
              clear hop hx6 hx6' hz6 hsm
              go_wp2_with fail
              go_roundw
              case rel => exact ⟨k + 1, by omega, by go_num, Lib.hid ⟨⟨HX6.out.alloc _, HO6.out.alloc _⟩, HN.out⟩⟩
              case measure => simp [intOf]; omega
            | some l =>
              obtain ⟨hll, hlx⟩ := hsm l rfl
              have hll48 : l.length ≤ 48 := by have := Mv.rest_le HD.out.2.1; omega
              have hres : Mv.plan (Mv.fine (fun m => Cd.can s.d s.gl s.gs m) s) (Mv.theEnd s) ph = some (k :: l) := by
                rw [HPN.out]
                refine Mv.tryTo_mono (k := k + 1) ?_ hlt
                rw [Mv.tryTo_none HI.out.2, HTRY.out]
                rfl
              have HRES := Lib.hid hres
              have HLX := Lib.hid hlx
              have HZ6 := Lib.hid hz6
              have hbx : Ext w6 (w6.alloc (.cells #[.slice YA l.length cY, .int .i64 0] 41)) := (Ext.refl w6).alloc _
              have h7 := (HO6.out.next hbx).push1 (u := .int .i64 (k : Nat)) (e := 3)
              rw [World.size_alloc] at h7
              have HO7 := Lib.hid h7
              clear h7
              have hbx2 := hbx.trans ((Ext.refl _).alloc (.cells #[.int .i64 (k : Nat)] 3))
              have hrd : Rd ((w6.alloc (.cells #[.slice YA l.length cY, .int .i64 0] 41)).alloc (.cells #[.int .i64 (k : Nat)] 3)) YA ((Mv.ints l).map (Value.int .i64)) := (hz6.rd 0 rfl).ext hbx2
              have hone : ∀ u ∈ (Mv.ints l).map (Value.int .i64), u.oneCell' = true := by intro u hu; simp at hu; obtain ⟨b, _, rfl⟩ := hu; rfl
              have HNN := Lib.hid (And.intro hrd (And.intro hone (show ((Mv.ints l).map (Value.int .i64)).length = l.length by rw [List.length_map, Mv.ints_len])))
              have hm10 : l.length < 10000000000 := by omega
              clear hop hx6 hx6' hz6 hsm hll hlx hres hrd hone hbx hbx2
              go_wp2_with (refine wpl_append_behind 22 3 rfl (.tmp 61) (.tmp 63) rfl Tryd.underlying22 info_int rfl HO7.out 1 rfl rfl rfl HNN.out.2.2 HNN.out.1 HNN.out.2.1 hm10 (by decide) ?_; intro g8 c8 w8 hO8; have hc3 : w8.cell? ⟨w.heap.size + 1, 0, none⟩ = some (.slice none 0 0) := hO8.cell 0 rfl 0 rfl; have hc4 : w8.cell? ⟨w.heap.size + 1, 1, none⟩ = some (.int .i64 0) := hO8.cell 0 rfl 1 rfl; have hf3 : w8.frozen? ⟨w.heap.size + 1, 0, none⟩ = false := hO8.frozen 0 rfl 0; have hf4 : w8.frozen? ⟨w.heap.size + 1, 1, none⟩ = false := hO8.frozen 0 rfl 1; have HO8 := Lib.hid hO8; clear hO8)
              have hO9 := (HO8.out.store 0 rfl 0 (.slice (some ⟨g8, 0, none⟩) (1 + l.length) c8)).store 0 rfl 1 (.int .i64 0)
              exact bodyPost_ret (v := .agg #[.slice (some ⟨g8, 0, none⟩) (1 + l.length) c8, .int .i64 0]) (by simp [results, Tryd.results46, go_sem, hc3, hc4]) rfl (by
                rw [HRES.out]
                exact PlanOut.some ((hO9.sublist (List.sublist_cons_self _ _)).elder HX0.out) (by rw [List.length_cons, Nat.add_comm]) (by rw [Mv.ints_cons]; rfl))
      · obtain rfl : k = ph.length := by omega
        have HPN2 : Hid (Mv.plan (Mv.fine (fun m => Cd.can s.d s.gl s.gs m) s) (Mv.theEnd s) ph = none) := Lib.hid (HPN.out.trans HI.out.2)
        have hc3 : wr.cell? ⟨w.heap.size + 1, 0, none⟩ = some (.slice none 0 0) := HI.out.1.2.cell 0 rfl 0 rfl
        have hc4 : wr.cell? ⟨w.heap.size + 1, 1, none⟩ = some (.int .i64 0) := HI.out.1.2.cell 0 rfl 1 rfl
        have hf3 : wr.frozen? ⟨w.heap.size + 1, 0, none⟩ = false := HI.out.1.2.frozen 0 rfl 0
        have hf4 : wr.frozen? ⟨w.heap.size + 1, 1, none⟩ = false := HI.out.1.2.frozen 0 rfl 1
        go_wp2_with fail
        have hO7 := (HI.out.1.2.store 0 rfl 0 (.slice none 0 0)).store 0 rfl 1 (.int .i64 8)
        exact bodyPost_ret (v := .agg #[.slice none 0 0, .int .i64 8]) (by simp [results, Tryd.results46, go_sem, hc3, hc4]) rfl (by rw [HPN2.out]; exact PlanOut.none (HX0.out.trans hO7.ext))
end Go.Proofs.YtkbiffbmjgmcaaaDoor

/- THE STATE OF THE SEARCH of package moves: what its closure reads and writes, and how it turns. -/
namespace Go.Proofs.YtkbiffbmjgmcaaaDoor
open Go.RowKit
open Go.Maps (Keyed)
open Go.WideMaps Go.ChangeMaps Go.MapKept Go.WideShapes
theorem ownsMap_obj {w : World} {H : Type} {P : Program} {k : TypeId} {R : Value → Option (DataW H × List MemPlace)} {b n : Nat} {D : DataW H} (h : w.ownsMap P k R b n D) : ∃ es clock, w.heap[b]? = some (.map es clock) := by
  obtain ⟨es, clock, hb, _⟩ := h
  exact ⟨es, clock, hb⟩
theorem row_not_map {w0 w : World} {r : LRow} (h : r.ok w0 w) {b : Nat} (hm : ∃ es clock, w.heap[b]? = some (.map es clock)) : r.v.ownBlock ≠ some b := by
  obtain ⟨es, clock, hb⟩ := hm
  rcases h.2 with ⟨h2, _⟩ | ⟨g, cap, cur, hv, _, hg, _⟩
  · rw [h2]; intro e; cases e
  · rw [hv]
    intro e
    injection e with e
    have e2 : g = b := e
    subst e2
    rw [hb] at hg
    cases hg
/-- A map that turns leaves all rows. -/
theorem Owns.keepMap {w0 w w' : World} {L : List LRow} (h : Owns w0 w L) {b : Nat} (hm : ∃ es clock, w.heap[b]? = some (.map es clock)) (hg : w.grownBy w' (some b)) (hb : w0.heap.size ≤ b) : Owns w0 w' L where
  ext := h.ext.grown hg (fun k e => by injection e with e; omega)
  ok i r hr := by
    have h1 := h.ok i r hr
    have hn := row_not_map h1 hm
    refine ⟨h1.1, ?_⟩
    rcases h1.2 with h2 | ⟨g, cap, cur, hv, hB, hh, rest⟩
    · exact .inl h2
    · refine .inr ⟨g, cap, cur, hv, hB, ?_, rest⟩
      refine (hg.block g (lt_of_block hh) ?_).trans hh
      intro e
      rw [hv] at hn
      exact hn (by rw [← e]; rfl)
  far := h.far
theorem map_setCell {w : World} {b : Nat} {p : Addr} {u : Value} (h : p.block ≠ b) : (w.setCell p u).heap[b]? = w.heap[b]? := Below.heap_setCell _ _ _ _ (Ne.symm h)
/-- The rows of a search: the phases, the variables that hold them, the steps so far, both maps, the closure. -/
def psRows (n gN cN g9 g10 g11 g12 g13 bK bL : Nat) (fv : Value) (now : List Int) (out : List Nat) (A : Option Addr) (c : Nat) : List LRow :=
  [⟨.slice (some ⟨gN, 0, none⟩) n cN, 3, 1, n, now.map (.int .i64)⟩, ⟨.slice (some ⟨g10, 0, none⟩) 1 1, 22, 1, 1, [.slice (some ⟨gN, 0, none⟩) n cN]⟩, ⟨.slice (some ⟨g12, 0, none⟩) 1 1, 22, 1, 1, [.slice A out.length c]⟩, lrow A c out,
   ⟨.slice (some ⟨g11, 0, none⟩) 1 1, 61, 1, 1, [.map (some bL)]⟩, ⟨.slice (some ⟨g9, 0, none⟩) 1 1, 58, 1, 1, [.map (some bK)]⟩, ⟨.slice (some ⟨g13, 0, none⟩) 1 1, 32, 1, 1, [fv]⟩]
structure PS (W0 : World) (P : List Int → Prop) (s : Mv.Sh) (n gN cN g9 g10 g11 g12 g13 bK bL : Nat) (fv : Value) (X : List LRow) (w : World) (now : List Int) (out : List Nat) (U : List (List Int)) (A : Option Addr) (c : Nat) : Prop where
  own : Owns W0 w (psRows n gN cN g9 g10 g11 g12 g13 bK bL fv now out A c ++ X)
  known : Known s w bK
  lost : Lost n P w bL U
  bk : W0.heap.size ≤ bK
  bl : W0.heap.size ≤ bL
  ne : bK ≠ bL
section
variable {W0 w w' : World} {P : List Int → Prop} {s : Mv.Sh} {n gN cN g9 g10 g11 g12 g13 bK bL : Nat} {fv : Value} {X : List LRow} {now : List Int} {out : List Nat} {U : List (List Int)} {A : Option Addr} {c : Nat}
theorem Known.obj {b : Nat} (h : Known s w b) : ∃ es clock, w.heap[b]? = some (.map es clock) := by
  obtain ⟨nx, D, h1, _⟩ := h
  exact ownsMap_obj h1
theorem Lost.obj {b : Nat} (h : Lost n P w b U) : ∃ es clock, w.heap[b]? = some (.map es clock) := by
  obtain ⟨⟨D, h1, _⟩, _⟩ := h
  exact ownsMap_obj h1
theorem PS.next (h : PS W0 P s n gN cN g9 g10 g11 g12 g13 bK bL fv X w now out U A c) (hx : Ext w w') : PS W0 P s n gN cN g9 g10 g11 g12 g13 bK bL fv X w' now out U A c :=
  ⟨h.own.next hx, h.known.ext hx, h.lost.same (Below.block hx _ h.lost.lt), h.bk, h.bl, h.ne⟩
/-- What is known has grown. -/
theorem PS.safe (h : PS W0 P s n gN cN g9 g10 g11 g12 g13 bK bL fv X w now out U A c) (hg : w.grownBy w' (some bK)) (hk : Known s w' bK) : PS W0 P s n gN cN g9 g10 g11 g12 g13 bK bL fv X w' now out U A c :=
  ⟨h.own.keepMap h.known.obj hg h.bk, hk, h.lost.same (hg.block _ h.lost.lt (fun e => by injection e with e; exact h.ne e.symm)), h.bk, h.bl, h.ne⟩
/-- More is lost. -/
theorem PS.lose (h : PS W0 P s n gN cN g9 g10 g11 g12 g13 bK bL fv X w now out U A c) (hg : w.grownBy w' (some bL)) {U' : List (List Int)} (hk : Lost n P w' bL U') : PS W0 P s n gN cN g9 g10 g11 g12 g13 bK bL fv X w' now out U' A c :=
  ⟨h.own.keepMap h.lost.obj hg h.bl, h.known.same (hg.block _ h.known.lt (fun e => by injection e with e; exact h.ne e)), hk, h.bk, h.bl, h.ne⟩
theorem PS.apart (h : PS W0 P s n gN cN g9 g10 g11 g12 g13 bK bL fv X w now out U A c) (i : Nat) {g m e cc : Nat} {xs : List Value} (hi : (psRows n gN cN g9 g10 g11 g12 g13 bK bL fv now out A c ++ X)[i]? = some ⟨.slice (some ⟨g, 0, none⟩) m cc, e, 1, m, xs⟩) : g ≠ bK ∧ g ≠ bL := by
  have h1 := row_not_map (h.own.ok i _ hi) h.known.obj
  have h2 := row_not_map (h.own.ok i _ hi) h.lost.obj
  exact ⟨fun e => h1 (by rw [← e]; rfl), fun e => h2 (by rw [← e]; rfl)⟩
/-- One of the phases turns. -/
theorem PS.setNow (h : PS W0 P s n gN cN g9 g10 g11 g12 g13 bK bL fv X w now out U A c) (k : Nat) (x : Int) : PS W0 P s n gN cN g9 g10 g11 g12 g13 bK bL fv X (w.setCell ⟨gN, k, none⟩ (.int .i64 x)) (now.set k x) out U A c := by
  obtain ⟨h1, h2⟩ := h.apart 0 rfl
  refine ⟨?_, h.known.same (map_setCell h1), h.lost.same (map_setCell h2), h.bk, h.bl, h.ne⟩
  have := h.own.store 0 rfl k (.int .i64 x)
  unfold psRows
  rw [List.map_set]
  exact this
theorem PS.cellNow (h : PS W0 P s n gN cN g9 g10 g11 g12 g13 bK bL fv X w now out U A c) {k : Nat} {p : Int} (hk : now[k]? = some p) : w.cell? ⟨gN, k, none⟩ = some (.int .i64 p) := h.own.cell 0 rfl k (by rw [List.getElem?_map, hk]; rfl)
theorem PS.frozenNow (h : PS W0 P s n gN cN g9 g10 g11 g12 g13 bK bL fv X w now out U A c) (k : Nat) : w.frozen? ⟨gN, k, none⟩ = false := h.own.frozen 0 rfl k
theorem PS.c10 (h : PS W0 P s n gN cN g9 g10 g11 g12 g13 bK bL fv X w now out U A c) : w.cell? ⟨g10, 0, none⟩ = some (.slice (some ⟨gN, 0, none⟩) n cN) := h.own.cell 1 rfl 0 rfl
theorem PS.c12 (h : PS W0 P s n gN cN g9 g10 g11 g12 g13 bK bL fv X w now out U A c) : w.cell? ⟨g12, 0, none⟩ = some (.slice A out.length c) := h.own.cell 2 rfl 0 rfl
theorem PS.f12 (h : PS W0 P s n gN cN g9 g10 g11 g12 g13 bK bL fv X w now out U A c) : w.frozen? ⟨g12, 0, none⟩ = false := h.own.frozen 2 rfl 0
theorem PS.c11 (h : PS W0 P s n gN cN g9 g10 g11 g12 g13 bK bL fv X w now out U A c) : w.cell? ⟨g11, 0, none⟩ = some (.map (some bL)) := h.own.cell 4 rfl 0 rfl
theorem PS.c9 (h : PS W0 P s n gN cN g9 g10 g11 g12 g13 bK bL fv X w now out U A c) : w.cell? ⟨g9, 0, none⟩ = some (.map (some bK)) := h.own.cell 5 rfl 0 rfl
theorem PS.c13 (h : PS W0 P s n gN cN g9 g10 g11 g12 g13 bK bL fv X w now out U A c) : w.cell? ⟨g13, 0, none⟩ = some fv := h.own.cell 6 rfl 0 rfl
/-- The phases, read. -/
theorem PS.rdNow (h : PS W0 P s n gN cN g9 g10 g11 g12 g13 bK bL fv X w now out U A c) (hn : now.length = n) (hl : n ≤ 1000) (hb : small now) : Rs RI w (.slice (some ⟨gN, 0, none⟩) n cN) now := Rs.small (h.own.rd 0 rfl) hn.symm (by omega) hb
/-- A step more. -/
theorem PS.more {w1 w2 : World} (h : PS W0 P s n gN cN g9 g10 g11 g12 g13 bK bL fv X w1 now out U A c) {g cap k : Nat} {T : List LRow}
    (hO : Owns W0 w2 ((psRows n gN cN g9 g10 g11 g12 g13 bK bL fv now out A c ++ X ++ T).set 3 ⟨.slice (some ⟨g, 0, none⟩) (out.length + 1) cap, 3, 1, out.length + 1, (Mv.ints out).map (.int .i64) ++ [.int .i64 (k : Nat)]⟩)) (hg : w1.grownBy w2 (Value.slice A out.length c).ownBlock) :
    PS W0 P s n gN cN g9 g10 g11 g12 g13 bK bL fv X (w2.setCell ⟨g12, 0, none⟩ (.slice (some ⟨g, 0, none⟩) (out.length + 1) cap)) now (out ++ [k]) U (some ⟨g, 0, none⟩) cap := by
  have hn1 := row_not_map (h.own.ok 3 (lrow A c out) rfl) h.known.obj
  have hn2 := row_not_map (h.own.ok 3 (lrow A c out) rfl) h.lost.obj
  obtain ⟨h1, h2⟩ := h.apart 2 rfl
  have hK := h.known.same (hg.block _ h.known.lt (Ne.symm hn1))
  have hL := h.lost.same (hg.block _ h.lost.lt (Ne.symm hn2))
  refine ⟨?_, hK.same (map_setCell h1), hL.same (map_setCell h2), h.bk, h.bl, h.ne⟩
  have h3 := hO.store 2 rfl 0 (.slice (some ⟨g, 0, none⟩) (out.length + 1) cap)
  unfold psRows lrow
  rw [Mv.ints_snoc, List.map_append, List.length_append]
  exact Owns.front (M := T) h3
theorem row_shrink {w : World} {B e g m c : Nat} {xs : List Value} {x : Value} (h : w.ownsRow B e 1 (.slice (some ⟨g, 0, none⟩) (m + 1) c) (m + 1) (xs ++ [x])) : w.ownsRow B e 1 (.slice (some ⟨g, 0, none⟩) m c) m xs := by
  have hl := h.1
  rcases h.2 with ⟨h2, _⟩ | ⟨g', cap, cur, hv, hB, hh, h3, h4, h5, h6⟩
  · cases h2
  · injection hv with e1 e2 e3
    injection e1 with e1
    injection e1 with e1 _ _
    subst e1
    subst e3
    have hxl : xs.length = m := by rw [List.length_append] at hl; simp at hl; omega
    refine ⟨by omega, .inr ⟨g, c, cur, rfl, hB, hh, by omega, h4, h5, ?_⟩⟩
    have h7 : (cur.toList.take ((m + 1) * 1)).take m = (xs ++ [x]).take m := by rw [h6]
    rw [List.take_take, show min m ((m + 1) * 1) = m by omega] at h7
    rw [Nat.mul_one, h7, List.take_append_of_le_length (by omega), List.take_of_length_le (by omega)]
/-- The steps so far lie in a block, if there are any. -/
theorem PS.form {k : Nat} (h : PS W0 P s n gN cN g9 g10 g11 g12 g13 bK bL fv X w now (out ++ [k]) U A c) : ∃ g, A = some ⟨g, 0, none⟩ ∧ out.length + 1 ≤ c ∧ c ≤ maxLen := by
  have h1 := (h.own.ok 3 (lrow A c (out ++ [k])) rfl).2
  rcases h1 with ⟨_, h2⟩ | ⟨g, cap, cur, hv, _, _, h3, h4, _⟩
  · exfalso
    have h2' : (out ++ [k]).length = 0 := h2
    simp at h2'
  · have hv' : Value.slice A (out ++ [k]).length c = .slice (some ⟨g, 0, none⟩) (out ++ [k]).length cap := hv
    injection hv' with e1 e2 e3
    have h3' : (out ++ [k]).length ≤ cap := h3
    rw [List.length_append] at h3'
    simp at h3'
    exact ⟨g, e1, by omega, by omega⟩
/-- A step less. -/
theorem PS.less {g k : Nat} (h : PS W0 P s n gN cN g9 g10 g11 g12 g13 bK bL fv X w now (out ++ [k]) U (some ⟨g, 0, none⟩) c) : PS W0 P s n gN cN g9 g10 g11 g12 g13 bK bL fv X (w.setCell ⟨g12, 0, none⟩ (.slice (some ⟨g, 0, none⟩) out.length c)) now out U (some ⟨g, 0, none⟩) c := by
  obtain ⟨h1, h2⟩ := h.apart 2 rfl
  refine ⟨?_, h.known.same (map_setCell h1), h.lost.same (map_setCell h2), h.bk, h.bl, h.ne⟩
  have h3 := h.own.ok 3 (lrow (some ⟨g, 0, none⟩) c (out ++ [k])) rfl
  have h4 : w.ownsRow W0.heap.size 3 1 (.slice (some ⟨g, 0, none⟩) (out.length + 1) c) (out.length + 1) ((Mv.ints out).map (.int .i64) ++ [.int .i64 (k : Nat)]) := by
    unfold LRow.ok lrow at h3
    rw [Mv.ints_snoc, List.map_append, List.length_append] at h3
    exact h3
  have h5 := h.own.put 3 (lrow (some ⟨g, 0, none⟩) c out) h.own.ext (row_shrink h4) (fun _ _ _ _ _ _ => rfl) (fun j r hj hr => by
    have := h.own.far 3 j (lrow (some ⟨g, 0, none⟩) c (out ++ [k])) r (Ne.symm hj) rfl hr
    exact this)
  exact h5.store 2 rfl 0 (.slice (some ⟨g, 0, none⟩) out.length c)
/-- A key. -/
def keyRow (gk : Nat) (l : List Int) : LRow := ⟨.slice (some ⟨gk, 0, none⟩) 24 24, 63, 1, 24, l.map (.int .i8)⟩
theorem PS.push (h : PS W0 P s n gN cN g9 g10 g11 g12 g13 bK bL fv X w now out U A c) {cs : Array Value} {l : List Int} (hc : cs.toList = l.map (.int .i8)) (hl : cs.size = 24) : PS W0 P s n gN cN g9 g10 g11 g12 g13 bK bL fv (keyRow w.heap.size l :: X) (w.alloc (.cells cs 63)) now out U A c := by
  have hn := h.next ((Ext.refl w).alloc (.cells cs 63))
  refine ⟨?_, hn.known, hn.lost, h.bk, h.bl, h.ne⟩
  have h1 := h.own.wider.new (psRows n gN cN g9 g10 g11 g12 g13 bK bL fv now out A c ++ X).length cs 63 (by rw [hl]; decide)
  rw [hl, hc] at h1
  have e : ∀ (L : List LRow) (r : LRow), (L ++ [no]).set L.length r = L ++ [r] := fun L r => by
    rw [List.set_append_right _ _ (Nat.le_refl _)]; simp
  rw [e] at h1
  refine h1.perm ?_
  rw [List.append_assoc]
  exact (List.perm_append_comm).append_left _
theorem PS.pop {r : LRow} (h : PS W0 P s n gN cN g9 g10 g11 g12 g13 bK bL fv (r :: X) w now out U A c) : PS W0 P s n gN cN g9 g10 g11 g12 g13 bK bL fv X w now out U A c :=
  ⟨h.own.sublist (List.Sublist.append_left (List.sublist_cons_self _ _) _), h.known, h.lost, h.bk, h.bl, h.ne⟩
theorem PS.setKey {gk : Nat} {l : List Int} (h : PS W0 P s n gN cN g9 g10 g11 g12 g13 bK bL fv (keyRow gk l :: X) w now out U A c) (k : Nat) (x : Int) : PS W0 P s n gN cN g9 g10 g11 g12 g13 bK bL fv (keyRow gk (l.set k x) :: X) (w.setCell ⟨gk, k, none⟩ (.int .i8 x)) now out U A c := by
  obtain ⟨h1, h2⟩ := h.apart 7 rfl
  refine ⟨?_, h.known.same (map_setCell h1), h.lost.same (map_setCell h2), h.bk, h.bl, h.ne⟩
  have := h.own.store 7 rfl k (.int .i8 x)
  unfold keyRow
  rw [List.map_set]
  exact this
theorem PS.key {gk : Nat} {l : List Int} (h : PS W0 P s n gN cN g9 g10 g11 g12 g13 bK bL fv (keyRow gk l :: X) w now out U A c) {k : Nat} {x : Int} (hk : l[k]? = some x) : w.cell? ⟨gk, k, none⟩ = some (.int .i8 x) := h.own.cell 7 rfl k (by rw [List.getElem?_map, hk]; rfl)
theorem PS.keyFrozen {gk : Nat} {l : List Int} (h : PS W0 P s n gN cN g9 g10 g11 g12 g13 bK bL fv (keyRow gk l :: X) w now out U A c) (k : Nat) : w.frozen? ⟨gk, k, none⟩ = false := h.own.frozen 7 rfl k
set_option maxRecDepth 100000 in
theorem aggK_of {cur : Array Value} {l : List Int} {K : Nat → Int} (hc : cur.toList = l.map (.int .i8)) (hl : l = (List.range 24).map K) : Value.agg cur = aggK K := by
  unfold aggK
  congr 1
  apply Array.ext'
  rw [hc, hl]
  rfl
/-- The key is read whole. -/
theorem PS.loadKey {gk : Nat} {l : List Int} {K : Nat → Int} (h : PS W0 P s n gN cN g9 g10 g11 g12 g13 bK bL fv (keyRow gk l :: X) w now out U A c) (hl : l = (List.range 24).map K)
    {ops : Array Oper} {rest : List Oper} {o : Oper} {a : Act} {Q : Exit → Act → World → Prop} (hgd : o.guard = none) (x : Operand) (ho : o.op = .load 63 x) (hx : a.eval x = .pointer (some ⟨gk, 0, none⟩))
    (hK : wpList Tryd.prog ops Q rest (a.put o.dst (aggK K)) w) : wpList Tryd.prog ops Q (o :: rest) a w := by
  have h1 := (h.own.ok 7 (keyRow gk l) rfl).2
  rcases h1 with ⟨h2, _⟩ | ⟨g, cap, cur, hv, _, hg, h3, h4, h5, h6⟩
  · cases h2
  · injection hv with e1 e2 e3
    injection e1 with e1
    injection e1 with e1 _ _
    subst e1
    subst e3
    have hc : cur.toList = l.map (.int .i8) := by
      rw [List.take_of_length_le (by rw [Array.length_toList, h5]; exact Nat.le_refl _)] at h6
      exact h6
    refine wpList_load_row hgd 63 x ho gk hx _ cur (0, 0) _ hg Tryd.underlying63 rfl ?_ ?_
    · rw [h5]; kernel_rfl
    · rw [aggK_of hc hl]; exact hK
end
end Go.Proofs.YtkbiffbmjgmcaaaDoor

/- THE WALK over the closure of Plan of package moves. -/
namespace Mv
/-- The first k of some phases, as a key. -/
def keyTo (now : List Int) (k : Nat) : List Int := (List.range 24).map fun i => if i < k then now.getD i 0 else 0
theorem keyTo_len (now : List Int) (k : Nat) : (keyTo now k).length = 24 := by simp [keyTo]
theorem keyTo_zero (now : List Int) : keyTo now 0 = List.replicate 24 0 := rfl
theorem keyTo_at {now : List Int} {k i : Nat} (hi : i < 24) : (keyTo now k)[i]? = some (if i < k then now.getD i 0 else 0) := by
  unfold keyTo
  rw [List.getElem?_map, List.getElem?_range hi]; rfl
theorem keyTo_succ {now : List Int} {k : Nat} : keyTo now (k + 1) = (keyTo now k).set k (now.getD k 0) := by
  apply List.ext_getElem?
  intro i
  by_cases hi : i < 24
  · rw [keyTo_at hi, List.getElem?_set]
    by_cases e : k = i
    · subst e
      rw [if_pos (by omega), if_pos rfl, if_pos (by rw [keyTo_len]; exact hi)]
    · rw [if_neg e, keyTo_at hi]
      by_cases h : i < k
      · rw [if_pos h, if_pos (by omega)]
      · rw [if_neg h, if_neg (by omega)]
  · rw [List.getElem?_eq_none (by rw [keyTo_len]; omega), List.getElem?_eq_none (by rw [List.length_set, keyTo_len]; omega)]
theorem keyTo_all {now : List Int} {n : Nat} (hn : now.length = n) : keyTo now n = (List.range 24).map (pad now) := by
  unfold keyTo
  apply List.map_congr_left
  intro i _
  split
  · rfl
  · unfold pad
    rw [List.getD_eq_getElem?_getD, List.getElem?_eq_none (by omega)]
    rfl
theorem keyTo_get {now : List Int} {k i : Nat} (hi : i < 24) : ∃ x, (keyTo now k)[i]? = some x := ⟨_, List.getElem?_eq_getElem (by rw [keyTo_len]; exact hi)⟩
theorem step_back {now : List Int} {k : Nat} (hk : k < now.length) {p : Int} (hp : now.getD k 0 = p) : (step now k).set k p = now := by
  unfold step
  rw [List.set_set]
  apply List.ext_getElem
  · simp
  · intro i h1 h2
    rw [List.getElem_set]
    by_cases e : k = i
    · subst e
      rw [if_pos rfl, ← hp, List.getD_eq_getElem?_getD, List.getElem?_eq_getElem hk]; rfl
    · rw [if_neg e]
end Mv
namespace Go.Proofs.YtkbiffbmjgmcaaaDoor
open Go.RowKit
open Go.Maps (Keyed)
open Go.WideMaps Go.ChangeMaps Go.MapKept Go.WideShapes
theorem enters43 : ∀ args w, (callFunc 43 args).run Tryd.prog w = .ok (.enter 43 args) w := enters_of Tryd.func43 (by kernel_rfl) rfl
theorem add0 (g k : Nat) : (⟨g, 0, none⟩ : Addr).add k = ⟨g, k, none⟩ := by unfold Addr.add; split <;> simp_all
/-- What stood before the search, and stays. -/
structure PE (W0 : World) (s : Mv.Sh) (n B g7 gE cE : Nat) (DA KA HA GA RA FA TA : Option Addr) (cD cK cH cG cR cF cT : Nat) : Prop where
  tab : Tab W0
  ok : Mv.Ok s
  len : s.src.length = n
  box : BoxAt W0 B s DA KA HA GA RA FA TA cD cK cH cG cR cF cT
  sh : ShAt W0 s DA KA HA GA RA FA TA cD cK cH cG cR cF cT
  c7 : W0.cell? ⟨g7, 0, none⟩ = some (.slice (some ⟨gE, 0, none⟩) n cE)
  rdE : Rs RI W0 (.slice (some ⟨gE, 0, none⟩) n cE) (Mv.theEnd s)
/-- What the closure returns. -/
def PlOut (W0 : World) (P : List Int → Prop) (s : Mv.Sh) (n gN cN g9 g10 g11 g12 g13 bK bL : Nat) (fv : Value) (X : List LRow) (now : List Int) (out : List Nat) (U : List (List Int)) (pl : Option (List Nat)) (e : Ending) (w' : World) : Prop :=
  ∃ U' A' c', (∀ x ∈ U', x ∈ U ∨ Mv.rest (Mv.theEnd s) x ≤ Mv.rest (Mv.theEnd s) now) ∧
    ((∃ l, pl = some l ∧ e = .returned (.bool true) ∧ PS W0 P s n gN cN g9 g10 g11 g12 g13 bK bL fv X w' (Mv.theEnd s) (out ++ l) U' A' c') ∨ (pl = none ∧ e = .returned (.bool false) ∧ PS W0 P s n gN cN g9 g10 g11 g12 g13 bK bL fv X w' now out U' A' c'))
set_option maxHeartbeats 16000000 in
set_option maxRecDepth 100000 in
theorem plan1_any (W0 : World) (s : Mv.Sh) (n B g7 gE cE gN cN g9 g10 g11 g12 g13 bK bL : Nat) (DA KA HA GA RA FA TA : Option Addr) (cD cK cH cG cR cF cT : Nat) (hE : PE W0 s n B g7 gE cE DA KA HA GA RA FA TA cD cK cH cG cR cF cT) :
    ∀ (r : Nat) (now : List Int) (out : List Nat) (U : List (List Int)) (X : List LRow) (A : Option Addr) (c : Nat) (w : World), Mv.rest (Mv.theEnd s) now = r → out.length + r ≤ 100 → Mv.right s now = true → PS W0 (fun x => Mv.plan (Mv.fine (fun m => Cd.can s.d s.gl s.gs m) s) (Mv.theEnd s) x = none) s n gN cN g9 g10 g11 g12 g13 bK bL (.func (.func 43) #[] #[.pointer (some ⟨g10, 0, none⟩), .pointer (some ⟨g7, 0, none⟩), .pointer (some ⟨g11, 0, none⟩), .pointer (some ⟨g12, 0, none⟩), .pointer (some ⟨B, 0, none⟩), .pointer (some ⟨g9, 0, none⟩), .pointer (some ⟨g13, 0, none⟩)]) X w now out U A c →
    Calls Tryd.prog 43 #[.pointer (some ⟨g10, 0, none⟩), .pointer (some ⟨g7, 0, none⟩), .pointer (some ⟨g11, 0, none⟩), .pointer (some ⟨g12, 0, none⟩), .pointer (some ⟨B, 0, none⟩), .pointer (some ⟨g9, 0, none⟩), .pointer (some ⟨g13, 0, none⟩)] w fun e w' => PlOut W0 (fun x => Mv.plan (Mv.fine (fun m => Cd.can s.d s.gl s.gs m) s) (Mv.theEnd s) x = none) s n gN cN g9 g10 g11 g12 g13 bK bL (.func (.func 43) #[] #[.pointer (some ⟨g10, 0, none⟩), .pointer (some ⟨g7, 0, none⟩), .pointer (some ⟨g11, 0, none⟩), .pointer (some ⟨g12, 0, none⟩), .pointer (some ⟨B, 0, none⟩), .pointer (some ⟨g9, 0, none⟩), .pointer (some ⟨g13, 0, none⟩)]) X now out U (Mv.plan (Mv.fine (fun m => Cd.can s.d s.gl s.gs m) s) (Mv.theEnd s) now) e w' := by
  intro r
  induction r with
  | zero =>
    intro now out U X A c w hr hro hrt hps
    have he := Mv.rest_zero (Mv.right_under hrt) hr
    have hnl : now.length = n := by rw [(Mv.right_iff.1 hrt).2.1]; exact hE.len
    have hn24 : n ≤ 24 := by rw [← hE.len]; exact hE.ok.few
    have hrd := hps.rdNow hnl (by omega) (fun x hx => by have := (Mv.right_ph hrt).2 x hx; omega)
    have q10 := hps.c10
    have q7 := hps.own.ext.cell hE.c7
    have hre := Rs.ext RI.ext _ _ _ _ hps.own.ext hE.rdE
    have HPS := Lib.hid hps
    have HE := Lib.hid he
    have HRD := Lib.hid (And.intro hrd hre)
    clear hr hrt hps he hnl hrd hre hE
    go_enter Tryd.func43, Tryd.ntmps43
    go_wp2_with fail
    refine (sEqual_any now (Mv.theEnd s) _ _ w HRD.out.1 HRD.out.2).mono ?_
    rintro e w1 ⟨rfl, hx1⟩
    rw [decide_eq_true HE.out]
    have HP1 := Lib.hid (HPS.out.next hx1)
    clear hx1 q10 q7
    go_wp2_with fail
    go_ret
    refine ⟨U, A, c, fun x hx => .inl hx, .inl ⟨[], by rw [HE.out]; exact Mv.plan_end _ _, rfl, ?_⟩⟩
    have h := HP1.out
    rw [HE.out] at h
    rw [List.append_nil]
    exact h
  | succ r ih =>
    intro now out U X A c w hr hro hrt hps
    have hne : now ≠ Mv.theEnd s := fun e => by
      rw [e] at hr
      unfold Mv.rest at hr
      rw [Mv.restTo_self] at hr
      cases hr
    have hun := Mv.right_under hrt
    have hpl := Mv.plan_more (ok := (Mv.fine (fun m => Cd.can s.d s.gl s.gs m) s)) hun hne
    have hnl : now.length = n := by rw [(Mv.right_iff.1 hrt).2.1]; exact hE.len
    have hn24 : n ≤ 24 := by rw [← hE.len]; exact hE.ok.few
    have hph : Mv.Ph n now := by rw [← hE.len]; exact Mv.right_ph hrt
    have hrd := hps.rdNow hnl (by omega) (fun x hx => by have := hph.2 x hx; omega)
    have q10 := hps.c10
    have q7 := hps.own.ext.cell hE.c7
    have hre := Rs.ext RI.ext _ _ _ _ hps.own.ext hE.rdE
    have HPS := Lib.hid hps
    have HNE := Lib.hid hne
    have HRD := Lib.hid (And.intro hrd hre)
    have HE0 := Lib.hid hE
    have HUN := Lib.hid hun
    have HPL := Lib.hid hpl
    have HNL := Lib.hid hnl
    have HPH := Lib.hid hph
    have HRT := Lib.hid hrt
    have HR := Lib.hid hr
    have IH := Lib.hid ih
    have hkz : ([.int .i8 0, .int .i8 0, .int .i8 0, .int .i8 0, .int .i8 0, .int .i8 0, .int .i8 0, .int .i8 0, .int .i8 0, .int .i8 0, .int .i8 0, .int .i8 0, .int .i8 0, .int .i8 0, .int .i8 0, .int .i8 0, .int .i8 0, .int .i8 0, .int .i8 0, .int .i8 0, .int .i8 0, .int .i8 0, .int .i8 0, .int .i8 0] : List Value) = (Mv.keyTo now 0).map (.int .i8) := by rw [Mv.keyTo_zero]; rfl
    have HKZ := Lib.hid hkz
    clear hr hrt hps hne hun hpl hnl hph hrd hre hE ih hkz
    go_enter Tryd.func43, Tryd.ntmps43
    go_wp2_with fail
    refine (sEqual_any now (Mv.theEnd s) _ _ w HRD.out.1 HRD.out.2).mono ?_
    rintro e w1 ⟨rfl, hx1⟩
    rw [decide_eq_false HNE.out]
    have HP1 := Lib.hid (HPS.out.next hx1)
    have hp2 := HP1.out.push (cs := #[.int .i8 0, .int .i8 0, .int .i8 0, .int .i8 0, .int .i8 0, .int .i8 0, .int .i8 0, .int .i8 0, .int .i8 0, .int .i8 0, .int .i8 0, .int .i8 0, .int .i8 0, .int .i8 0, .int .i8 0, .int .i8 0, .int .i8 0, .int .i8 0, .int .i8 0, .int .i8 0, .int .i8 0, .int .i8 0, .int .i8 0, .int .i8 0]) (l := Mv.keyTo now 0) HKZ.out rfl
    have HP2 := Lib.hid hp2
    have p10 := hp2.c10
    obtain ⟨gk, hgk⟩ : ∃ gk, w1.heap.size = gk := ⟨_, rfl⟩
    clear hx1 q10 q7 hp2
    rw [hgk] at HP2
    go_wp2_with fail
    have HGK := Lib.hid hgk
    clear hgk p10
    go_loopw [17] (fun vk wr => ∃ k : Nat, k ≤ n ∧ vk = .int .i64 k ∧ Hid (PS W0 (fun x => Mv.plan (Mv.fine (fun m => Cd.can s.d s.gl s.gs m) s) (Mv.theEnd s) x = none) s n gN cN g9 g10 g11 g12 g13 bK bL (.func (.func 43) #[] #[.pointer (some ⟨g10, 0, none⟩), .pointer (some ⟨g7, 0, none⟩), .pointer (some ⟨g11, 0, none⟩), .pointer (some ⟨g12, 0, none⟩), .pointer (some ⟨B, 0, none⟩), .pointer (some ⟨g9, 0, none⟩), .pointer (some ⟨g13, 0, none⟩)]) (keyRow gk (Mv.keyTo now k) :: X) wr now out U A c)) (fun vk _ => n - (intOf vk).toNat)
    case atStart => exact ⟨0, Nat.zero_le _, rfl, HP2⟩
    case round =>
      obtain ⟨k, hk, rfl, HI⟩ := hrel
      by_cases hlt : k < n
      · have hkl : k < now.length := by rw [HNL.out]; exact hlt
        have hpb := HPH.out.2 _ (List.getElem_mem hkl)
        have hcn := HI.out.cellNow (List.getElem?_eq_getElem hkl)
        have hst := Mv.keyTo_succ (now := now) (k := k)
        rw [getD_get hkl] at hst
        obtain ⟨p, hp⟩ : ∃ p, now[k] = p := ⟨_, rfl⟩
        rw [hp] at hpb hcn hst
        obtain ⟨y, hy⟩ := Mv.keyTo_get (now := now) (k := k) (i := k) (by omega)
        have hck := HI.out.key hy
        have hfk := HI.out.keyFrozen k
        have hwp : IntKind.i8.wrap p = p := by
          rcases hpb with ⟨h1, h2⟩
          have : p = 0 ∨ p = 1 ∨ p = 2 := by omega
          rcases this with rfl | rfl | rfl <;> rfl
        have HST := Lib.hid hst
        have hki : (k : Int) < (n : Int) := by omega
        have hk24 : (k : Int) < 24 := by omega
        obtain ⟨hpb1, hpb2⟩ := hpb
        clear hst hy hp
        go_wp2_with fail
        have HN := Lib.hid (HI.out.setKey k p)
        clear hcn hck hfk hwp hki hk24
        go_roundw
        case rel => exact ⟨k + 1, by omega, by go_num, Lib.hid (by rw [HST.out]; exact HN.out)⟩
        case measure => simp [intOf]; omega
      · obtain rfl : n = k := by omega
        have hkk := Mv.keyTo_all HNL.out
        have HKK := Lib.hid hkk
        have q11 := HI.out.c11
        have q10 := HI.out.c10
        obtain ⟨⟨D, hD, hS⟩, hnd, hal⟩ := HI.out.lost
        have HD := Lib.hid (And.intro hD hS)
        clear hD hS hnd hal hkk
        cases hin : decide (now ∈ U) with
        | true =>
          have HIN := Lib.hid hin
          clear hin q10
          go_wp2_with (first | refine HI.out.loadKey HKK.out rfl (.tmp 8) rfl rfl ?_ | refine wpl_lost rfl _ _ rfl bL _ _ rfl HD.out.1 HD.out.2 rfl HPH.out HIN.out ?_)
          clear q11
          go_ret
          exact ⟨U, A, c, fun x hx => .inl hx, .inr ⟨(HI.out.lost.2.2 now (of_decide_eq_true HIN.out)).2, rfl, HI.out.pop⟩⟩
        | false =>
        have HIN := Lib.hid hin
        clear hin
        go_wp2_with (first | refine HI.out.loadKey HKK.out rfl (.tmp 8) rfl rfl ?_ | refine wpl_lost rfl _ _ rfl bL _ _ rfl HD.out.1 HD.out.2 rfl HPH.out HIN.out ?_)
        clear q11 q10
        go_loopw [32] (fun vk wr => ∃ (k : Nat) (U' : List (List Int)) (A' : Option Addr) (c' : Nat), k ≤ n ∧ vk = .int .i64 k ∧ Hid (PS W0 (fun x => Mv.plan (Mv.fine (fun m => Cd.can s.d s.gl s.gs m) s) (Mv.theEnd s) x = none) s n gN cN g9 g10 g11 g12 g13 bK bL (.func (.func 43) #[] #[.pointer (some ⟨g10, 0, none⟩), .pointer (some ⟨g7, 0, none⟩), .pointer (some ⟨g11, 0, none⟩), .pointer (some ⟨g12, 0, none⟩), .pointer (some ⟨B, 0, none⟩), .pointer (some ⟨g9, 0, none⟩), .pointer (some ⟨g13, 0, none⟩)]) (keyRow gk (Mv.keyTo now n) :: X) wr now out U' A' c' ∧ Mv.tryTo (Mv.tryAt (Mv.fine (fun m => Cd.can s.d s.gl s.gs m) s) (Mv.theEnd s) now) k = none ∧ ∀ x ∈ U', x ∈ U ∨ Mv.rest (Mv.theEnd s) x ≤ r)) (fun vk _ => n - (intOf vk).toNat)
        case atStart => exact ⟨0, U, A, c, Nat.zero_le _, rfl, Lib.hid ⟨HI.out, rfl, fun x hx => .inl hx⟩⟩
        case round =>
          obtain ⟨k, U', A', c', hk, rfl, HJ⟩ := hrel
          have q10 := HJ.out.1.c10
          by_cases hlt : k < n
          · have hkl : k < now.length := by rw [HNL.out]; exact hlt
            have hpb := HPH.out.2 _ (List.getElem_mem hkl)
            have hcn := HJ.out.1.cellNow (List.getElem?_eq_getElem hkl)
            have hfn := HJ.out.1.frozenNow k
            have q7 := HJ.out.1.own.ext.cell HE0.out.c7
            have hkE : k < (Mv.theEnd s).length := by rw [Mv.theEnd_len, HE0.out.len]; exact hlt
            obtain ⟨ae, ue, e1, hce, hue⟩ := (Rs.ext RI.ext _ _ _ _ HJ.out.1.own.ext HE0.out.rdE).at hkE
            injection e1 with e1
            subst e1
            obtain ⟨rfl, hze1, hze2⟩ := hue
            rw [add0] at hce
            have g1 := getD_get (x := (0 : Int)) hkl
            have g2 := getD_get (x := (0 : Int)) hkE
            obtain ⟨p, hp⟩ : ∃ p, now[k] = p := ⟨_, rfl⟩
            obtain ⟨z, hz⟩ : ∃ z, (Mv.theEnd s)[k] = z := ⟨_, rfl⟩
            rw [hp] at hpb hcn g1
            rw [hz] at hce g2 hze1 hze2
            have HG := Lib.hid (And.intro g1 g2)
            have hki : (k : Int) < (n : Int) := by omega
            obtain ⟨hpb1, hpb2⟩ := hpb
            clear hp hz g1 g2
            by_cases hpz : p = z
            · have hsame : now.getD k 0 = (Mv.theEnd s).getD k 0 := by rw [HG.out.1, HG.out.2]; exact hpz
              have HN : Hid (Mv.tryTo (Mv.tryAt (Mv.fine (fun m => Cd.can s.d s.gl s.gs m) s) (Mv.theEnd s) now) (k + 1) = none) := Lib.hid ((Mv.tryTo_none HJ.out.2.1).trans (Mv.tryAt_same hsame))
              have e1 : (p == z) = true := by rw [hpz]; simp
              clear hsame hpz
              go_wp2_with fail
              go_quiet (fail)
              go_wp2_with fail
              clear hcn hfn q7 hce e1 hki q10
              go_roundw
              case rel => exact ⟨k + 1, U', A', c', by omega, by go_num, Lib.hid ⟨HJ.out.1.next ((Ext.refl _).drewN _), HN.out, HJ.out.2.2⟩⟩
              case measure => simp [intOf]; omega
            · have hdiff : now.getD k 0 ≠ (Mv.theEnd s).getD k 0 := by rw [HG.out.1, HG.out.2]; exact hpz
              have hrs := Mv.right_step HRT.out hkl hdiff
              have hst := Mv.rest_step HUN.out hkl hdiff
              have HD2 := Lib.hid (And.intro hdiff (And.intro hrs hst))
              have e1 : (p == z) = false := by rw [beq_eq_false_iff_ne]; exact hpz
              have hw1 : wrap64 (p + 1) = p + 1 := by unfold wrap64; omega
              have q12 := HJ.out.1.c12
              have f12 := HJ.out.1.f12
              clear hdiff hrs hst hpz
              go_wp2_with fail
              go_quiet (fail)
              rename_i nq
              have hs1 := (HJ.out.1.next ((Ext.refl wr).drewN nq)).setNow k (p + 1)
              rw [show now.set k (p + 1) = Mv.step now k from by unfold Mv.step; rw [HG.out.1]] at hs1
              go_upto_region 16 with fail
              obtain ⟨w4, hw4⟩ : ∃ w4, (wr.drewN nq).setCell ⟨gN, k, none⟩ (.int .i64 (p + 1)) = w4 := ⟨_, rfl⟩
              rw [hw4] at hs1 ⊢
              clear hw4 hcn hfn q7 hce e1 q10 q12 f12
              have q10 := hs1.c10
              have q12 := hs1.c12
              have f12 := hs1.f12
              have HS1 := Lib.hid hs1
              have HS2 := Lib.hid (hs1.next ((Ext.refl w4).alloc (.cells #[.int .i64 (k : Nat)] 3)))
              obtain ⟨y, hy⟩ : ∃ y, p + 1 = y := ⟨_, rfl⟩
              have hy1 : (Mv.step now k)[k]? = some y := by
                unfold Mv.step
                rw [List.getElem?_set_self hkl, HG.out.1, hy]
              have hy2 : (Mv.step now k).set k (y - 1) = now := Mv.step_back hkl (by rw [HG.out.1]; omega)
              have HY := Lib.hid (And.intro hy (And.intro hy1 hy2))
              have hyb1 : 1 ≤ y := by omega
              have hyb2 : y ≤ 3 := by omega
              have hpl2 : (Mv.step now k).length = n := by rw [Mv.step_len, HNL.out]
              have hph2 : Mv.Ph n (Mv.step now k) := by rw [← HE0.out.len]; exact Mv.right_ph HD2.out.2.1
              have HPL2 := Lib.hid (And.intro hpl2 hph2)
              have hol : out.length < 1000000000000 := by omega
              clear hs1 hy hy1 hy2 hpl2 hph2
              go_upto_region 17 with (refine wpl_append_owns (u := .int .i64 (k : Nat)) 22 3 rfl (.tmp 50) (.tmp 52) rfl Tryd.underlying22 info_int rfl (HS1.out.own.push1 (u := .int .i64 (k : Nat)) (e := 3)) 3 rfl rfl rfl (cell_of_row _ _ 0 _ _ (0, 0) (heap_new _ _)) rfl hol (by decide) ?_; intro g5 c5 w5 hO5 hg5; have z12 := hO5.cell 2 rfl 0 rfl; have zf := hO5.frozen 2 rfl 0; have hs5 := HS2.out.more hO5 hg5; have HS5 := Lib.hid hs5; clear hO5 hg5 hs5)
              obtain ⟨w6, hw6⟩ : ∃ w6, w5.setCell ⟨g12, 0, none⟩ (.slice (some ⟨g5, 0, none⟩) (out.length + 1) c5) = w6 := ⟨_, rfl⟩
              rw [hw6] at HS5 ⊢
              clear hw6 z12 zf q10 q12 f12
              have a0 := (HE0.out.box.ext HS5.out.own.ext).b0
              have a1 := (HE0.out.box.ext HS5.out.own.ext).b1
              have a2 := (HE0.out.box.ext HS5.out.own.ext).b2
              have a3 := (HE0.out.box.ext HS5.out.own.ext).b3
              have a4 := (HE0.out.box.ext HS5.out.own.ext).b4
              have a5 := (HE0.out.box.ext HS5.out.own.ext).b5
              have a6 := (HE0.out.box.ext HS5.out.own.ext).b6
              have a7 := (HE0.out.box.ext HS5.out.own.ext).b7
              have a8 := (HE0.out.box.ext HS5.out.own.ext).b8
              have a9 := (HE0.out.box.ext HS5.out.own.ext).b9
              have a10 := (HE0.out.box.ext HS5.out.own.ext).b10
              have q10 := HS5.out.c10
              go_wp2_with fail
              clear a0 a1 a2 a3 a4 a5 a6 a7 a8 a9 a10 q10
              refine (mFits1_any s (Mv.step now k) HE0.out.ok (by rw [HPL2.out.1, HE0.out.len]) _ _ w6 (HE0.out.sh.ext HS5.out.own.ext).sh (HS5.out.rdNow HPL2.out.1 (by omega) (fun x hx => by have := HPL2.out.2.2 x hx; omega))).mono ?_
              rintro e w7 ⟨rfl, hx7⟩
              have HS7 := Lib.hid (HS5.out.next hx7)
              obtain ⟨ft, hft⟩ : ∃ ft, Mv.fits s (Mv.step now k) = ft := ⟨_, rfl⟩
              rw [hft]
              have HFT := Lib.hid hft
              clear hx7 hft
              cases ft with
              | false =>
                have hok : (Mv.fine (fun m => Cd.can s.d s.gl s.gs m) s) (Mv.step now k) = false := by unfold Mv.fine; rw [HFT.out]; rfl
                have HOKK := Lib.hid hok
                have HUU := Lib.hid HJ.out.2.2
                clear hok
                have HN : Hid (Mv.tryTo (Mv.tryAt (Mv.fine (fun m => Cd.can s.d s.gl s.gs m) s) (Mv.theEnd s) now) (k + 1) = none) := Lib.hid ((Mv.tryTo_none HJ.out.2.1).trans (Mv.tryAt_no HOKK.out))
                obtain ⟨g, e9, hc1, hc2⟩ := HS7.out.form
                have e10 : g5 = g := by injection e9 with e9; injection e9
                subst e10
                clear e9
                have q10 := HS7.out.c10
                have hcn := HS7.out.cellNow (k := k) (p := y) HY.out.2.1
                have hfn := HS7.out.frozenNow k
                have hs0 := HS7.out.setNow k (y - 1)
                rw [HY.out.2.2] at hs0
                go_upto_region 20 with fail
                obtain ⟨wb, hwb⟩ : ∃ wb, w7.setCell ⟨gN, k, none⟩ (.int .i64 (y - 1)) = wb := ⟨_, rfl⟩
                rw [hwb] at hs0 ⊢
                clear hwb q10 hcn hfn
                have q10 := hs0.c10
                have q12 := hs0.c12
                have f12 := hs0.f12
                have hci : (out.length : Int) ≤ (c5 : Int) := by omega
                have hci2 : (out.length : Int) + 1 ≤ (c5 : Int) := by omega
                rw [List.length_append] at q12
                have HS0 := Lib.hid hs0.less
                clear hs0
                go_wp2_with fail
                clear q10 q12 f12 hci hci2
                go_roundw
                case rel => exact ⟨k + 1, U', some ⟨g5, 0, none⟩, c5, by omega, by go_num, Lib.hid ⟨HS0.out, HN.out, HUU.out⟩⟩
                case measure => simp [intOf]; omega
              | true =>
              have a0 := (HE0.out.box.ext HS7.out.own.ext).b0
              have a1 := (HE0.out.box.ext HS7.out.own.ext).b1
              have a2 := (HE0.out.box.ext HS7.out.own.ext).b2
              have a3 := (HE0.out.box.ext HS7.out.own.ext).b3
              have a4 := (HE0.out.box.ext HS7.out.own.ext).b4
              have a5 := (HE0.out.box.ext HS7.out.own.ext).b5
              have a6 := (HE0.out.box.ext HS7.out.own.ext).b6
              have a7 := (HE0.out.box.ext HS7.out.own.ext).b7
              have a8 := (HE0.out.box.ext HS7.out.own.ext).b8
              have a9 := (HE0.out.box.ext HS7.out.own.ext).b9
              have a10 := (HE0.out.box.ext HS7.out.own.ext).b10
              have q10 := HS7.out.c10
              have q9 := HS7.out.c9
              go_wp2_with fail
              clear a0 a1 a2 a3 a4 a5 a6 a7 a8 a9 a10 q10 q9
              refine (mSafe_any s (Mv.step now k) bK HE0.out.ok (by rw [HPL2.out.1, HE0.out.len]) _ _ w7 (HE0.out.tab.ext HS7.out.own.ext) (HE0.out.sh.ext HS7.out.own.ext).sh (HS7.out.rdNow HPL2.out.1 (by omega) (fun x hx => by have := HPL2.out.2.2 x hx; omega)) HS7.out.known).mono ?_
              rintro e w8 ⟨rfl, hg8, hk8⟩
              have HS8 := Lib.hid (HS7.out.safe hg8 hk8)
              obtain ⟨sf, hsf⟩ : ∃ sf, Mv.safe (fun m => Cd.can s.d s.gl s.gs m) s (Mv.step now k) = sf := ⟨_, rfl⟩
              rw [hsf]
              have HSF := Lib.hid hsf
              have hok : (Mv.fine (fun m => Cd.can s.d s.gl s.gs m) s) (Mv.step now k) = sf := by unfold Mv.fine; rw [HFT.out, HSF.out]; rfl
              have HOKK := Lib.hid hok
              clear hg8 hk8 hsf hok
              cases sf with
              | false =>
                have HUU := Lib.hid HJ.out.2.2
                have HN : Hid (Mv.tryTo (Mv.tryAt (Mv.fine (fun m => Cd.can s.d s.gl s.gs m) s) (Mv.theEnd s) now) (k + 1) = none) := Lib.hid ((Mv.tryTo_none HJ.out.2.1).trans (Mv.tryAt_no HOKK.out))
                obtain ⟨g, e9, hc1, hc2⟩ := HS8.out.form
                have e10 : g5 = g := by injection e9 with e9; injection e9
                subst e10
                clear e9
                have q10 := HS8.out.c10
                have hcn := HS8.out.cellNow (k := k) (p := y) HY.out.2.1
                have hfn := HS8.out.frozenNow k
                have hs0 := HS8.out.setNow k (y - 1)
                rw [HY.out.2.2] at hs0
                go_upto_region 20 with fail
                obtain ⟨wb, hwb⟩ : ∃ wb, w8.setCell ⟨gN, k, none⟩ (.int .i64 (y - 1)) = wb := ⟨_, rfl⟩
                rw [hwb] at hs0 ⊢
                clear hwb q10 hcn hfn
                have q10 := hs0.c10
                have q12 := hs0.c12
                have f12 := hs0.f12
                have hci : (out.length : Int) ≤ (c5 : Int) := by omega
                have hci2 : (out.length : Int) + 1 ≤ (c5 : Int) := by omega
                rw [List.length_append] at q12
                have HS0 := Lib.hid hs0.less
                clear hs0
                go_wp2_with fail
                clear q10 q12 f12 hci hci2
                go_roundw
                case rel => exact ⟨k + 1, U', some ⟨g5, 0, none⟩, c5, by omega, by go_num, Lib.hid ⟨HS0.out, HN.out, HUU.out⟩⟩
                case measure => simp [intOf]; omega
              | true =>
              have q13 := HS8.out.c13
              have hent := enters43
              go_wp2_with fail
              clear q13
              refine (IH.out (Mv.step now k) (out ++ [k]) U' (keyRow gk (Mv.keyTo now n) :: X) _ _ w8 (by have := HR.out; have := HD2.out.2.2.1; omega) (by rw [List.length_append]; simp; omega) HD2.out.2.1 HS8.out).mono ?_
              rintro e w9 ⟨U9, A9, c9, hU9, hor⟩
              have htry := Mv.tryAt_go (ok := (Mv.fine (fun m => Cd.can s.d s.gl s.gs m) s)) (E := Mv.theEnd s) (now := now) HD2.out.1 HOKK.out
              have huu : ∀ x ∈ U9, x ∈ U ∨ Mv.rest (Mv.theEnd s) x ≤ r := fun x hx => by
                rcases hU9 x hx with h | h
                · exact HJ.out.2.2 x h
                · have := HR.out
                  have := HD2.out.2.2.1
                  exact .inr (by omega)
              have HUU := Lib.hid huu
              have HTRY := Lib.hid htry
              clear huu htry hU9
              rcases hor with ⟨l, hpl9, rfl, hs9⟩ | ⟨hpl9, rfl, hs9⟩
              · have hres : Mv.plan (Mv.fine (fun m => Cd.can s.d s.gl s.gs m) s) (Mv.theEnd s) now = some (k :: l) := by
                  rw [HPL.out]
                  refine Mv.tryTo_mono (k := k + 1) ?_ hkl
                  rw [Mv.tryTo_none HJ.out.2.1, HTRY.out, hpl9]
                  rfl
                have HRES := Lib.hid hres
                have HS9 := Lib.hid hs9
                clear hres hs9 hpl9
                go_wp2_with fail
                go_ret
                refine ⟨U9, A9, c9, fun x hx => (HUU.out x hx).imp id fun h => by have := HR.out; omega, .inl ⟨k :: l, HRES.out, rfl, ?_⟩⟩
                have h := HS9.out.pop
                rw [List.append_assoc] at h
                exact h
              · have hnone : Mv.tryAt (Mv.fine (fun m => Cd.can s.d s.gl s.gs m) s) (Mv.theEnd s) now k = none := by rw [HTRY.out, hpl9]; rfl
                have HNO := Lib.hid hnone
                have HS9 := Lib.hid hs9
                clear hnone hs9 hpl9
                have HN : Hid (Mv.tryTo (Mv.tryAt (Mv.fine (fun m => Cd.can s.d s.gl s.gs m) s) (Mv.theEnd s) now) (k + 1) = none) := Lib.hid ((Mv.tryTo_none HJ.out.2.1).trans (HNO.out))
                obtain ⟨g, e9, hc1, hc2⟩ := HS9.out.form
                subst e9
                have q10 := HS9.out.c10
                have hcn := HS9.out.cellNow (k := k) (p := y) HY.out.2.1
                have hfn := HS9.out.frozenNow k
                have hs0 := HS9.out.setNow k (y - 1)
                rw [HY.out.2.2] at hs0
                go_upto_region 20 with fail
                obtain ⟨wb, hwb⟩ : ∃ wb, w9.setCell ⟨gN, k, none⟩ (.int .i64 (y - 1)) = wb := ⟨_, rfl⟩
                rw [hwb] at hs0 ⊢
                clear hwb q10 hcn hfn
                have q10 := hs0.c10
                have q12 := hs0.c12
                have f12 := hs0.f12
                have hci : (out.length : Int) ≤ (c9 : Int) := by omega
                have hci2 : (out.length : Int) + 1 ≤ (c9 : Int) := by omega
                rw [List.length_append] at q12
                have HS0 := Lib.hid hs0.less
                clear hs0
                go_wp2_with fail
                clear q10 q12 f12 hci hci2
                go_roundw
                case rel => exact ⟨k + 1, U9, some ⟨g, 0, none⟩, c9, by omega, by go_num, Lib.hid ⟨HS0.out, HN.out, HUU.out⟩⟩
                case measure => simp [intOf]; omega
          · obtain rfl : n = k := by omega
            obtain ⟨⟨D2, hD2, hS2⟩, hnd2, hal2⟩ := HJ.out.1.lost
            have hnin : now ∉ U' := fun h => by
              rcases HJ.out.2.2 now h with h | h
              · exact of_decide_eq_false HIN.out h
              · have := HR.out; omega
            have hlen : U'.length < maxLen := by
              have := Mv.ph_len hn24 hnd2 (fun x hx => (hal2 x hx).1)
              unfold maxLen
              omega
            have hnone : Mv.plan (Mv.fine (fun m => Cd.can s.d s.gl s.gs m) s) (Mv.theEnd s) now = none := by
              rw [HPL.out, HNL.out]
              exact HJ.out.2.1
            have HF := Lib.hid (And.intro hD2 (And.intro hS2 (And.intro hnd2 (And.intro hal2 (And.intro hnin hnone)))))
            have q11 := HJ.out.1.c11
            clear hD2 hS2 hnd2 hal2 hnin hnone
            go_wp2_with (first | refine HJ.out.1.loadKey HKK.out rfl (.tmp 8) rfl rfl ?_ | (at_mapUpdate; refine wpList_mapUpdate_own _ rfl _ _ _ 61 rfl 63 4 keyLawP Tryd.underlying61 _ bL U'.length D2 rfl HF.out.1 hlen _ _ _ rfl rfl (keyK_of (pad_byte HPH.out)) (.lit (.bool true)) [] (plainElem_bool Tryd.underlying4 true) ?_; intro w5 hown5 hgrow5; have H5 := Lib.hid (And.intro hown5 hgrow5); clear hown5 hgrow5))
            clear q11 q10
            go_ret
            have hl5 : Lost n (fun x => Mv.plan (Mv.fine (fun m => Cd.can s.d s.gl s.gs m) s) (Mv.theEnd s) x = none) w5 bL (now :: U') := ⟨⟨_, H5.out.1, HF.out.2.1.put hn24 HF.out.1.isMap HPH.out⟩, List.nodup_cons.2 ⟨HF.out.2.2.2.2.1, HF.out.2.2.1⟩, fun x hx => by
              rcases List.mem_cons.1 hx with rfl | hx
              · exact ⟨HPH.out, HF.out.2.2.2.2.2⟩
              · exact HF.out.2.2.2.1 x hx⟩
            refine ⟨now :: U', A', c', fun x hx => ?_, .inr ⟨HF.out.2.2.2.2.2, rfl, (HJ.out.1.lose H5.out.2 hl5).pop⟩⟩
            rcases List.mem_cons.1 hx with rfl | hx
            · exact .inr (Nat.le_refl _)
            · exact (HJ.out.2.2 x hx).imp id fun h => by have := HR.out; omega
end Go.Proofs.YtkbiffbmjgmcaaaDoor

/- THE WALK over Plan of package moves. -/
namespace Mv
/-- The first k of a list, and noughts. -/
def fillTo (l : List Int) (n k : Nat) : List Int := (List.range n).map fun i => if i < k then l.getD i 0 else 0
theorem fillTo_len (l : List Int) (n k : Nat) : (fillTo l n k).length = n := by simp [fillTo]
theorem fillTo_at {l : List Int} {n k i : Nat} (hi : i < n) : (fillTo l n k)[i]? = some (if i < k then l.getD i 0 else 0) := by
  unfold fillTo
  rw [List.getElem?_map, List.getElem?_range hi]; rfl
theorem fillTo_zero (l : List Int) (n : Nat) : fillTo l n 0 = List.replicate n 0 := by
  apply List.ext_getElem?
  intro i
  by_cases hi : i < n
  · rw [fillTo_at hi, List.getElem?_replicate, if_pos hi]; rfl
  · rw [List.getElem?_eq_none (by rw [fillTo_len]; omega), List.getElem?_eq_none (by simp; omega)]
theorem fillTo_succ {l : List Int} {n k : Nat} : fillTo l n (k + 1) = (fillTo l n k).set k (l.getD k 0) := by
  apply List.ext_getElem?
  intro i
  by_cases hi : i < n
  · rw [fillTo_at hi, List.getElem?_set]
    by_cases e : k = i
    · subst e
      rw [if_pos (by omega), if_pos rfl, if_pos (by rw [fillTo_len]; exact hi)]
    · rw [if_neg e, fillTo_at hi]
      by_cases h : i < k
      · rw [if_pos h, if_pos (by omega)]
      · rw [if_neg h, if_neg (by omega)]
  · rw [List.getElem?_eq_none (by rw [fillTo_len]; omega), List.getElem?_eq_none (by rw [List.length_set, fillTo_len]; omega)]
theorem fillTo_same {l : List Int} {n k : Nat} (h : l.getD k 0 = 0) : fillTo l n (k + 1) = fillTo l n k := by
  apply List.ext_getElem?
  intro i
  by_cases hi : i < n
  · rw [fillTo_at hi, fillTo_at hi]
    by_cases e : k = i
    · subst e
      rw [if_pos (by omega), if_neg (by omega), h]
    · by_cases h : i < k
      · rw [if_pos h, if_pos (by omega)]
      · rw [if_neg h, if_neg (by omega)]
  · rw [List.getElem?_eq_none (by rw [fillTo_len]; omega), List.getElem?_eq_none (by rw [fillTo_len]; omega)]
theorem fillTo_all {l : List Int} {n : Nat} (hn : l.length = n) : fillTo l n n = l := by
  apply List.ext_getElem?
  intro i
  by_cases hi : i < n
  · rw [fillTo_at hi, if_pos hi, List.getD_eq_getElem?_getD, List.getElem?_eq_getElem (by omega)]; rfl
  · rw [List.getElem?_eq_none (by rw [fillTo_len]; omega), List.getElem?_eq_none (by omega)]
end Mv
namespace Go.Proofs.YtkbiffbmjgmcaaaDoor
open Go.RowKit
open Go.Maps (Keyed)
open Go.WideMaps Go.ChangeMaps Go.MapKept Go.WideShapes
/-- What Plan returns. -/
def MPlanOut (r : List Nat × Int) (w : World) (e : Ending) (w' : World) : Prop := ∃ A c, e = .returned (.tuple #[.slice A r.1.length c, .int .i64 r.2]) ∧ Owns w w' [lrow A c r.1]
theorem MPlanOut.none {w w' : World} {c : Int} {r : List Nat × Int} (hr : r = ([], c)) (h : Ext w w') : MPlanOut r w (.returned (.tuple #[.slice Option.none 0 0, .int .i64 c])) w' := by
  subst hr
  exact ⟨_, _, rfl, lrow_nil h⟩
theorem MPlanOut.some {w w' : World} {l : List Nat} {A : Option Addr} {c : Nat} {d : Int} {r : List Nat × Int} (hr : r = (l, d)) (h : Owns w w' [lrow A c l]) : MPlanOut r w (.returned (.tuple #[.slice A l.length c, .int .i64 d])) w' := by
  subst hr
  exact ⟨A, c, rfl, h⟩
theorem Owns.one {w0 w : World} {r : LRow} (hx : Ext w0 w) (h : r.ok w0 w) : Owns w0 w [r] :=
  Owns.of_pairwise hx (fun q hq => by rw [List.mem_singleton.1 hq]; exact h) (List.pairwise_singleton _ _)
theorem enters_p1 : ∀ args w, (callFunc 43 args).run Tryd.prog w = .ok (.enter 43 args) w := enters_of Tryd.func43 (by kernel_rfl) rfl
theorem perm7 {α : Type} (a b c d e f g : α) : [a, b, c, d, e, f, g].Perm [b, c, e, g, d, a, f] := by
  have h : [0, 1, 2, 3, 4, 5, 6].Perm [1, 2, 4, 6, 3, 0, 5] := by decide
  exact h.map fun i => [a, b, c, d, e, f, g].getD i a
set_option maxRecDepth 100000 in
/-- The search's beginning. -/
theorem ps_start {W0 w9 : World} {P : List Int → Prop} {s : Mv.Sh} {n gN cN g9 bK z : Nat} {fv : Value} {now : List Int} (hz : w9.heap.size = z)
    (h9 : Owns W0 w9 [⟨.slice (some ⟨g9, 0, none⟩) 1 1, 58, 1, 1, [.map (some bK)]⟩, ⟨.slice (some ⟨gN, 0, none⟩) n cN, 3, 1, n, now.map (.int .i64)⟩]) (hk : Known s w9 bK) (hb : W0.heap.size ≤ bK) :
    PS W0 P s n gN cN g9 z (z + 1 + 1) (z + 1 + 1 + 1) (z + 1 + 1 + 1 + 1) bK (z + 1) fv [] (((((w9.alloc (.cells #[.slice (some ⟨gN, 0, none⟩) n cN] 22)).alloc (.map #[] 0)).alloc (.cells #[.map (some (z + 1))] 61)).alloc (.cells #[.slice none 0 0] 22)).alloc (.cells #[fv] 32)) now [] [] none 0 := by
  subst hz
  have h1 := h9.push1 (u := .slice (some ⟨gN, 0, none⟩) n cN) (e := 22)
  have h2 := (h1.alloc (.map #[] 0)).push1 (u := .map (some (w9.heap.size + 1))) (e := 61)
  have h3 := (h2.push1 (u := .slice none 0 0) (e := 22)).push1 (u := fv) (e := 32)
  simp only [World.size_alloc, List.cons_append, List.nil_append] at h3
  have h6 := h3.behind (Ext.refl _) (World.ownsRow_nil _ _ 3 1)
  have hxa : Ext w9 (w9.alloc (.cells #[.slice (some ⟨gN, 0, none⟩) n cN] 22)) := (Ext.refl w9).alloc _
  have hxb := fun a b c : Obj => (((Ext.refl ((w9.alloc (.cells #[.slice (some ⟨gN, 0, none⟩) n cN] 22)).alloc (.map #[] 0))).alloc a).alloc b).alloc c
  have hm := World.ownsMap_made (H := Unit) (w9.alloc (.cells #[.slice (some ⟨gN, 0, none⟩) n cN] 22)) Tryd.prog 63 (plainElem Tryd.prog 4)
  rw [World.size_alloc] at hm
  have hlt := hk.lt
  refine ⟨?_, ?_, ⟨⟨.map [], ?_, LSays.start n⟩, List.nodup_nil, fun x hx => by cases hx⟩, hb, ?_, by omega⟩
  · rw [List.append_nil]
    refine h6.perm ?_
    unfold psRows lrow
    exact perm7 _ _ _ _ _ _ _
  · exact ((hk.ext hxa).ext ((Ext.refl _).alloc _)).ext (hxb _ _ _)
  · exact ownsMap_ext hm (hxb _ _ _)
  · have := h9.ext.size
    omega
set_option maxHeartbeats 16000000 in
set_option maxRecDepth 100000 in
theorem mPlan_any (s : Mv.Sh) (ph : List Int) (v u : Value) (w : World) (hT : Tab w) (hv : RSh w v s) (hu : Rs RI w u ph) :
    Calls Tryd.prog 18 #[v, u] w fun e w' => MPlanOut (Mv.planned (fun m => Cd.can s.d s.gl s.gs m) s ph) w e w' := by
  obtain ⟨DA, KA, HA, GA, RA, FA, TA, cD, cK, cH, cG, cR, cF, cT, rfl, hS⟩ := hv.open
  obtain ⟨PA, cP, rfl, hp64⟩ := hu.form
  have hx0 := (Ext.refl w).alloc (.cells #[.slice DA s.disks.length cD, .slice KA s.racks.length cK, .slice HA s.houses.length cH, .int .i64 s.owners, .int .i64 s.d, .slice GA s.gs.length cG, .int .i64 s.gl, .int .i64 s.floor, .slice RA s.room.length cR, .slice FA s.src.length cF, .slice TA s.dst.length cT] 30)
  have HX0 := Lib.hid hx0
  have HS := Lib.hid (hS.ext hx0)
  have HP := Lib.hid (Rs.ext RI.ext _ _ _ _ hx0 hu)
  have HT := Lib.hid (hT.ext hx0)
  have hB := BoxAt.new w s DA KA HA GA RA FA TA cD cK cH cG cR cF cT
  have HB := Lib.hid hB
  have a0 := hB.b0
  have a1 := hB.b1
  have a2 := hB.b2
  have a3 := hB.b3
  have a4 := hB.b4
  have a5 := hB.b5
  have a6 := hB.b6
  have a7 := hB.b7
  have a8 := hB.b8
  have a9 := hB.b9
  have a10 := hB.b10
  obtain ⟨i0, hi0, hz0, hz1, hz2⟩ := info_parts info_int
  have HZ := Lib.hid hz2
  have HI0 := Lib.hid (And.intro hi0 (And.intro hz0 hz1))
  clear hv hu hT hS hx0 hB hz2 hi0 hz0 hz1
  have hmm := @run_makeMap Tryd.prog
  have HMM := Lib.hid hmm
  clear hmm
  go_enter Tryd.func18, Tryd.ntmps18
  go_wp2_with fail
  clear a0 a1 a2 a3 a4 a5 a6 a7 a8 a9 a10
  refine (mCheck_any s _ _ HS.out.sh).mono ?_
  rintro e w1 ⟨rfl, hx1⟩
  have HX1 := Lib.hid hx1
  clear hx1
  by_cases hc : Mv.check s = 0
  case neg =>
    have hp := Mv.planned_check (can := (fun m => Cd.can s.d s.gl s.gs m)) (ph := ph) hc
    have HPN := Lib.hid hp
    have e1 : (Mv.check s != 0) = true := by rw [bne_iff_ne]; exact hc
    clear hp hc
    go_wp2_with fail
    go_ret2
    exact MPlanOut.none HPN.out (HX0.out.trans HX1.out)
  case pos =>
  have HC := Lib.hid hc
  have HOK := Lib.hid (Mv.ok_of hc)
  rw [hc]
  clear hc
  have a0 := (HB.out.ext HX1.out).b0
  have a1 := (HB.out.ext HX1.out).b1
  have a2 := (HB.out.ext HX1.out).b2
  have a3 := (HB.out.ext HX1.out).b3
  have a4 := (HB.out.ext HX1.out).b4
  have a5 := (HB.out.ext HX1.out).b5
  have a6 := (HB.out.ext HX1.out).b6
  have a7 := (HB.out.ext HX1.out).b7
  have a8 := (HB.out.ext HX1.out).b8
  have a9 := (HB.out.ext HX1.out).b9
  have a10 := (HB.out.ext HX1.out).b10
  go_wp2_with fail
  clear a0 a1 a2 a3 a4 a5 a6 a7 a8 a9 a10
  refine (mRight_any s ph _ _ w1 (HS.out.ext HX1.out).sh (Rs.ext RI.ext _ _ _ _ HX1.out HP.out)).mono ?_
  rintro e w2 ⟨rfl, hx2⟩
  have HX2 := Lib.hid (HX1.out.trans hx2)
  clear hx2
  cases hrt : Mv.right s ph with
  | false =>
    have HPN := Lib.hid (Mv.planned_right (can := (fun m => Cd.can s.d s.gl s.gs m)) HC.out hrt)
    clear hrt
    go_wp2_with fail
    go_ret2
    exact MPlanOut.none HPN.out (HX0.out.trans HX2.out)
  | true =>
  have HRT := Lib.hid hrt
  have hpl := (Mv.right_iff.1 hrt).2.1
  have HPL := Lib.hid hpl
  have a0 := (HB.out.ext HX2.out).b0
  have a1 := (HB.out.ext HX2.out).b1
  have a2 := (HB.out.ext HX2.out).b2
  have a3 := (HB.out.ext HX2.out).b3
  have a4 := (HB.out.ext HX2.out).b4
  have a5 := (HB.out.ext HX2.out).b5
  have a6 := (HB.out.ext HX2.out).b6
  have a7 := (HB.out.ext HX2.out).b7
  have a8 := (HB.out.ext HX2.out).b8
  have a9 := (HB.out.ext HX2.out).b9
  have a10 := (HB.out.ext HX2.out).b10
  clear hrt hpl
  go_wp2_with fail
  clear a0 a1 a2 a3 a4 a5 a6 a7 a8 a9 a10
  refine (mFits1_any s ph HOK.out HPL.out _ _ w2 (HS.out.ext HX2.out).sh (Rs.ext RI.ext _ _ _ _ HX2.out HP.out)).mono ?_
  rintro e w3 ⟨rfl, hx3⟩
  have HX3 := Lib.hid (HX2.out.trans hx3)
  clear hx3
  cases hft : Mv.fits s ph with
  | false =>
    have HPN := Lib.hid (Mv.planned_fits (can := (fun m => Cd.can s.d s.gl s.gs m)) HC.out HRT.out hft)
    clear hft
    go_wp2_with fail
    go_ret2
    exact MPlanOut.none HPN.out (HX0.out.trans HX3.out)
  | true =>
  have HFT := Lib.hid hft
  obtain ⟨n, hn⟩ : ∃ n, ph.length = n := ⟨_, rfl⟩
  have hsn : s.src.length = n := by rw [← hn]; exact HPL.out.symm
  have hn24 : n ≤ 24 := by rw [← hsn]; exact HOK.out.few
  rw [hn] at HP ⊢
  have HN := Lib.hid (And.intro hn hsn)
  clear hft hn hsn
  go_upto_region 9 with (refine wpList_make_full _ rfl (.tmp 28) (.tmp 28) 22 rfl w3.heap.size 3 i0 (.int .i64 0) 1 Tryd.underlying22 HI0.out.1 HI0.out.2.1 HI0.out.2.2 _ _ _ _ n rfl rfl rfl rfl (by rw [HZ.out]; omega) (by unfold maxLen; omega) (Nat.le_refl _) ?_; intro w4 hown hgrow)
  have hx4 : Ext w3 w4 := (Ext.refl w3).grown hgrow (fun k h => by cases h)
  have hown' : w4.ownsRow w3.heap.size 3 1 (.slice (some ⟨w3.heap.size, 0, none⟩) n n) n ((Mv.fillTo (Mv.theEnd s) n 0).map (.int .i64)) := by
    rw [Mv.fillTo_zero, List.map_replicate, ← toList_madeCells_one]
    simpa [Value.cells] using hown
  have hO5 := (Owns.one (w0 := w3) (r := ⟨.slice (some ⟨w3.heap.size, 0, none⟩) n n, 3, 1, n, (Mv.fillTo (Mv.theEnd s) n 0).map (.int .i64)⟩) hx4 hown').push1 (u := .slice (some ⟨w3.heap.size, 0, none⟩) n n) (e := 22)
  obtain ⟨g7, hg7⟩ : ∃ g7, w4.heap.size = g7 := ⟨_, rfl⟩
  rw [hg7] at hO5 ⊢
  obtain ⟨w5, hw5⟩ : ∃ w5, w4.alloc (.cells #[.slice (some ⟨w3.heap.size, 0, none⟩) n n] 22) = w5 := ⟨_, rfl⟩
  rw [hw5] at hO5 ⊢
  have HO5 := Lib.hid hO5
  have q7 := hO5.cell 1 rfl 0 rfl
  clear hown hown' hgrow hx4 hO5 hg7 hw5
  go_wp2_with fail
  clear q7
  go_loopw [32] (fun vk wr => ∃ k : Nat, k ≤ n ∧ vk = .int .i64 k ∧ Hid (Owns w3 wr [⟨.slice (some ⟨w3.heap.size, 0, none⟩) n n, 3, 1, n, (Mv.fillTo (Mv.theEnd s) n k).map (.int .i64)⟩, ⟨.slice (some ⟨g7, 0, none⟩) 1 1, 22, 1, 1, [.slice (some ⟨w3.heap.size, 0, none⟩) n n]⟩])) (fun vk _ => n - (intOf vk).toNat)
  case atStart => exact ⟨0, Nat.zero_le _, rfl, HO5⟩
  case round =>
    obtain ⟨k, hk, rfl, HI⟩ := hrel
    have q7 := HI.out.cell 1 rfl 0 rfl
    by_cases hlt : k < n
    · have hks : k < s.src.length := by have := HN.out.2; omega
      have hkd : k < s.dst.length := by have := HOK.out.dstLen; omega
      have hxx := HX3.out.trans HI.out.ext
      obtain ⟨af, u1, rfl, hcf, hu1⟩ := (Rs.ext RI.ext _ _ _ _ hxx HS.out.src).at hks
      obtain ⟨rfl, _, _⟩ := hu1
      obtain ⟨at_, u2, rfl, hct, hu2⟩ := (Rs.ext RI.ext _ _ _ _ hxx HS.out.dst).at hkd
      obtain ⟨rfl, _, _⟩ := hu2
      have hte := Mv.theEnd_get (s := s) hks
      rw [getD_get hks, getD_get hkd] at hte
      obtain ⟨y, hy⟩ : ∃ y, s.src[k] = y := ⟨_, rfl⟩
      obtain ⟨z, hz⟩ : ∃ z, s.dst[k] = z := ⟨_, rfl⟩
      rw [hy] at hcf hte
      rw [hz] at hct hte
      have a9 := (HB.out.ext hxx).b9
      have a10 := (HB.out.ext hxx).b10
      have hki : (k : Int) < (n : Int) := by omega
      have hksi : (k : Int) < (s.src.length : Int) := by omega
      have hkdi : (k : Int) < (s.dst.length : Int) := by omega
      have HXX := Lib.hid hxx
      clear hy hz hxx
      by_cases hyz : y = z
      · have hst : Mv.fillTo (Mv.theEnd s) n (k + 1) = Mv.fillTo (Mv.theEnd s) n k := Mv.fillTo_same (by rw [hte, if_neg (fun e => e hyz)])
        have HST := Lib.hid hst
        have e1 : (y != z) = false := by rw [hyz]; simp
        clear hst hte hyz
        go_wp2_with fail
        go_quiet (fail)
        go_wp2_with fail
        clear hcf hct a9 a10 e1 q7 hki hksi hkdi
        go_roundw
        case rel => exact ⟨k + 1, by omega, by go_num, Lib.hid (by rw [HST.out]; exact HI.out.drewN _)⟩
        case measure => simp [intOf]; omega
      · have hst : Mv.fillTo (Mv.theEnd s) n (k + 1) = (Mv.fillTo (Mv.theEnd s) n k).set k 2 := by rw [Mv.fillTo_succ, hte, if_pos hyz]
        have HST := Lib.hid hst
        have e1 : (y != z) = true := by rw [bne_iff_ne]; exact hyz
        have hck := HI.out.cell 0 rfl k (u := .int .i64 0) (by rw [List.getElem?_map, Mv.fillTo_at hlt, if_neg (Nat.lt_irrefl k)]; rfl)
        have hfk := HI.out.frozen 0 rfl k
        clear hst hte hyz
        go_wp2_with fail
        go_quiet (fail)
        rename_i nq
        go_wp2_with fail
        have HS2 := Lib.hid ((HI.out.drewN nq).store 0 rfl k (.int .i64 2))
        clear hcf hct a9 a10 e1 q7 hki hksi hkdi hck hfk
        go_roundw
        case rel => exact ⟨k + 1, by omega, by go_num, Lib.hid (by rw [HST.out, List.map_set]; exact HS2.out)⟩
        case measure => simp [intOf]; omega
    · obtain rfl : n = k := by omega
      have hrow := HI.out
      rw [Mv.fillTo_all (by rw [Mv.theEnd_len, HN.out.2])] at hrow
      have hxr := HX3.out.trans hrow.ext
      have hrdE : Rs RI wr (.slice (some ⟨w3.heap.size, 0, none⟩) n n) (Mv.theEnd s) := Rs.small (hrow.rd 0 rfl) (by rw [Mv.theEnd_len, HN.out.2]) (by rw [Mv.theEnd_len, HN.out.2]; omega) (fun x hx => by have := Mv.endTo_small s _ x hx; omega)
      have q7 := hrow.cell 1 rfl 0 rfl
      have hphl : ph.length = n := HN.out.1
      have hn0 : 0 < n := by
        have h1 := Cd.check_ok HOK.out.code
        have h2 := HOK.out.srcLen
        have h3 := HN.out.2
        omega
      have hph := Rs.ext RI.ext _ _ _ _ hxr HP.out
      obtain ⟨ap, e9⟩ : ∃ ap, PA = some ap := by
        obtain ⟨ap, _, e9, _, _⟩ := hph.at (i := 0) (by omega)
        exact ⟨ap, e9⟩
      subst e9
      have HR := Lib.hid (And.intro hxr hrow)
      have HRE := Lib.hid (And.intro hrdE (And.intro hph q7))
      have hmm := HMM.out
      clear hrow hxr hrdE hphl hph
      go_upto_region 16 with fail
      obtain ⟨bK, hbK⟩ : ∃ bK, wr.heap.size = bK := ⟨_, rfl⟩
      have hxm : Ext wr (wr.alloc (.map #[] 0)) := (Ext.refl wr).alloc _
      have hO6 := ((Owns.start wr (L := []) (by intro r hr; cases hr)).alloc (.map #[] 0)).push1 (u := .map (some bK)) (e := 58)
      rw [World.size_alloc, hbK, List.nil_append] at hO6
      have hk6 := (Known.new s wr).ext ((Ext.refl (wr.alloc (.map #[] 0))).alloc (.cells #[.map (some bK)] 58))
      rw [hbK] at hk6 ⊢
      obtain ⟨w6, hw6⟩ : ∃ w6, (wr.alloc (.map #[] 0)).alloc (.cells #[.map (some bK)] 58) = w6 := ⟨_, rfl⟩
      rw [hw6] at hO6 hk6 ⊢
      have q9 := hO6.cell 0 rfl 0 rfl
      have HO6 := Lib.hid hO6
      have HK6 := Lib.hid hk6
      have HBK := Lib.hid hbK
      clear hxm hO6 hk6 hbK hw6 q7
      have a0 := (HB.out.ext (HR.out.1.trans HO6.out.ext)).b0
      have a1 := (HB.out.ext (HR.out.1.trans HO6.out.ext)).b1
      have a2 := (HB.out.ext (HR.out.1.trans HO6.out.ext)).b2
      have a3 := (HB.out.ext (HR.out.1.trans HO6.out.ext)).b3
      have a4 := (HB.out.ext (HR.out.1.trans HO6.out.ext)).b4
      have a5 := (HB.out.ext (HR.out.1.trans HO6.out.ext)).b5
      have a6 := (HB.out.ext (HR.out.1.trans HO6.out.ext)).b6
      have a7 := (HB.out.ext (HR.out.1.trans HO6.out.ext)).b7
      have a8 := (HB.out.ext (HR.out.1.trans HO6.out.ext)).b8
      have a9 := (HB.out.ext (HR.out.1.trans HO6.out.ext)).b9
      have a10 := (HB.out.ext (HR.out.1.trans HO6.out.ext)).b10
      go_wp2_with fail
      clear a0 a1 a2 a3 a4 a5 a6 a7 a8 a9 a10 q9
      refine (mSafe_any s ph bK HOK.out HPL.out _ _ w6 (HT.out.ext (HR.out.1.trans HO6.out.ext)) (HS.out.ext (HR.out.1.trans HO6.out.ext)).sh (Rs.ext RI.ext _ _ _ _ HO6.out.ext HRE.out.2.1) HK6.out).mono ?_
      rintro e w7 ⟨rfl, hg7, hk7⟩
      have HO7 := Lib.hid (HO6.out.keepMap HK6.out.obj hg7 (Nat.le_of_eq HBK.out))
      have HK7 := Lib.hid hk7
      obtain ⟨s1, hs1⟩ : ∃ s1, Mv.safe (fun m => Cd.can s.d s.gl s.gs m) s ph = s1 := ⟨_, rfl⟩
      rw [hs1]
      have HS1 := Lib.hid hs1
      clear hg7 hk7 hs1
      cases s1 with
      | false =>
        have HPN := Lib.hid (Mv.planned_safe (can := (fun m => Cd.can s.d s.gl s.gs m)) HC.out HRT.out HFT.out (.inl HS1.out))
        go_wp2_with fail
        go_ret2
        exact MPlanOut.none HPN.out (HX0.out.trans (HR.out.1.trans HO7.out.ext))
      | true =>
      have a0 := (HB.out.ext (HR.out.1.trans HO7.out.ext)).b0
      have a1 := (HB.out.ext (HR.out.1.trans HO7.out.ext)).b1
      have a2 := (HB.out.ext (HR.out.1.trans HO7.out.ext)).b2
      have a3 := (HB.out.ext (HR.out.1.trans HO7.out.ext)).b3
      have a4 := (HB.out.ext (HR.out.1.trans HO7.out.ext)).b4
      have a5 := (HB.out.ext (HR.out.1.trans HO7.out.ext)).b5
      have a6 := (HB.out.ext (HR.out.1.trans HO7.out.ext)).b6
      have a7 := (HB.out.ext (HR.out.1.trans HO7.out.ext)).b7
      have a8 := (HB.out.ext (HR.out.1.trans HO7.out.ext)).b8
      have a9 := (HB.out.ext (HR.out.1.trans HO7.out.ext)).b9
      have a10 := (HB.out.ext (HR.out.1.trans HO7.out.ext)).b10
      have q7 := HO7.out.ext.cell HRE.out.2.2
      have q9 := HO7.out.cell 0 rfl 0 rfl
      go_wp2_with fail
      clear a0 a1 a2 a3 a4 a5 a6 a7 a8 a9 a10 q7 q9
      refine (mSafe_any s (Mv.theEnd s) bK HOK.out (Mv.theEnd_len s) _ _ w7 (HT.out.ext (HR.out.1.trans HO7.out.ext)) (HS.out.ext (HR.out.1.trans HO7.out.ext)).sh (Rs.ext RI.ext _ _ _ _ HO7.out.ext HRE.out.1) HK7.out).mono ?_
      rintro e w8 ⟨rfl, hg8, hk8⟩
      have HO8 := Lib.hid (HO7.out.keepMap HK7.out.obj hg8 (Nat.le_of_eq HBK.out))
      have HK8 := Lib.hid hk8
      obtain ⟨s2, hs2⟩ : ∃ s2, Mv.safe (fun m => Cd.can s.d s.gl s.gs m) s (Mv.theEnd s) = s2 := ⟨_, rfl⟩
      rw [hs2]
      have HS2 := Lib.hid hs2
      clear hg8 hk8 hs2
      cases s2 with
      | false =>
        have HPN := Lib.hid (Mv.planned_safe (can := (fun m => Cd.can s.d s.gl s.gs m)) HC.out HRT.out HFT.out (.inr HS2.out))
        go_wp2_with fail
        go_ret2
        exact MPlanOut.none HPN.out (HX0.out.trans (HR.out.1.trans HO8.out.ext))
      | true =>
      go_wp2_with fail
      have hrdp : Rs RI w8 (.slice (some ap) n cP) ph := Rs.ext RI.ext _ _ _ _ HO8.out.ext HRE.out.2.1
      have hcl := clone_any ph ap cP w8 (rs_rdI hrdp) (by rw [HN.out.1]; exact hn0) (by rw [HN.out.1]; omega)
      rw [HN.out.1] at hcl
      refine hcl.mono ?_
      clear hcl hrdp
      rintro e w9 ⟨gN, cN, rfl, hO9⟩
      have HO9 := Lib.hid (HO8.out.behind hO9.ext (hO9.row 0 rfl))
      have HK9 := Lib.hid (HK8.out.ext hO9.ext)
      clear hO9
      have hsf : ∀ (w : World) (a : Addr) (f : Fn) (cap : Array Value), (store a (.func f #[] cap)).run Tryd.prog w = stored Tryd.prog w a (.func f #[] cap) .plain := fun w a f cap => run_store _ w a _ _ rfl
      obtain ⟨z, hz⟩ : ∃ z, w9.heap.size = z := ⟨_, rfl⟩
      have hps := fun fv => ps_start (P := (fun x => Mv.plan (Mv.fine (fun m => Cd.can s.d s.gl s.gs m) s) (Mv.theEnd s) x = none)) (fv := fv) hz HO9.out HK9.out (Nat.le_of_eq HBK.out)
      have HPS := Lib.hid hps
      clear hps
      go_upto_region 23 with fail
      clear hsf
      have hs10 := HPS.out (.func (.func 43) #[] #[.pointer (some ⟨z, 0, none⟩), .pointer (some ⟨g7, 0, none⟩), .pointer (some ⟨z + 1 + 1, 0, none⟩), .pointer (some ⟨z + 1 + 1 + 1, 0, none⟩), .pointer (some ⟨w.heap.size, 0, none⟩), .pointer (some ⟨bK + 1, 0, none⟩), .pointer (some ⟨z + 1 + 1 + 1 + 1, 0, none⟩)])
      obtain ⟨w10, hw10⟩ : ∃ w10, ((((w9.alloc (.cells #[.slice (some ⟨gN, 0, none⟩) n cN] 22)).alloc (.map #[] 0)).alloc (.cells #[.map (some (z + 1))] 61)).alloc (.cells #[.slice none 0 0] 22)).alloc (.cells #[.func (.func 43) #[] #[.pointer (some ⟨z, 0, none⟩), .pointer (some ⟨g7, 0, none⟩), .pointer (some ⟨z + 1 + 1, 0, none⟩), .pointer (some ⟨z + 1 + 1 + 1, 0, none⟩), .pointer (some ⟨w.heap.size, 0, none⟩), .pointer (some ⟨bK + 1, 0, none⟩), .pointer (some ⟨z + 1 + 1 + 1 + 1, 0, none⟩)]] 32) = w10 := ⟨_, rfl⟩
      rw [hw10] at hs10 ⊢
      have q13 := hs10.c13
      have HS10 := Lib.hid hs10
      have hent := enters_p1
      clear hs10 hw10 hz
      go_wp2_with fail
      clear q13
      have hE : PE wr s n w.heap.size g7 w3.heap.size n DA KA HA GA RA FA TA cD cK cH cG cR cF cT := ⟨HT.out.ext HR.out.1, HOK.out, HN.out.2, HB.out.ext HR.out.1, HS.out.ext HR.out.1, HRE.out.2.2, HRE.out.1⟩
      refine (plan1_any wr s n w.heap.size g7 w3.heap.size n gN cN (bK + 1) z (z + 1 + 1) (z + 1 + 1 + 1) (z + 1 + 1 + 1 + 1) bK (z + 1) DA KA HA GA RA FA TA cD cK cH cG cR cF cT hE _ ph [] [] [] none 0 w10 rfl (by have := Mv.rest_le HRT.out; simp; omega) HRT.out HS10.out).mono ?_
      rintro e w11 ⟨U9, A9, c9, _, hor⟩
      rcases hor with ⟨l, hpl9, rfl, hs9⟩ | ⟨hpl9, rfl, hs9⟩
      · have HPN := Lib.hid (Mv.planned_some (can := (fun m => Cd.can s.d s.gl s.gs m)) HC.out HRT.out HFT.out HS1.out HS2.out hpl9)
        rw [List.nil_append] at hs9
        have q12 := hs9.c12
        have HS9 := Lib.hid hs9
        clear hs9 hpl9 hE
        go_wp2_with fail
        go_ret2
        refine MPlanOut.some HPN.out ((HS9.out.own.sublist ?_).elder (HX0.out.trans HR.out.1))
        unfold psRows
        rw [List.append_nil]
        exact (List.Sublist.cons_cons _ (List.nil_sublist _)).cons _ |>.cons _ |>.cons _
      · have HPN := Lib.hid (Mv.planned_none (can := (fun m => Cd.can s.d s.gl s.gs m)) HC.out HRT.out HFT.out HS1.out HS2.out hpl9)
        have HS9 := Lib.hid hs9
        clear hs9 hpl9 hE
        go_wp2_with fail
        go_ret2
        exact MPlanOut.none HPN.out (HX0.out.trans (HR.out.1.trans HS9.out.own.ext))
end Go.Proofs.YtkbiffbmjgmcaaaDoor

/- THE EXAMPLE of the documentation of law 13. -/
namespace Mv
def exSh (floor room : Int) : Sh := ⟨[0, 1, 2, 3, 4], [0, 0, 0, 0, 0], [0], 1, 2, [], 1, floor, [0, 0, 0, room, 0], [0, 1, 2], [3, 1, 0]⟩
theorem ex_check {s : Sh} (h : exSh (2 : Nat) (1 : Nat) = s) : check s = 0 := by
  subst h
  kernel_rfl
theorem ex_p1 {s : Sh} (h : exSh (2 : Nat) (1 : Nat) = s) : planned (fun m => Cd.can s.d s.gl s.gs m) s [0, 0, 0] = ([0, 0, 2, 2], 0) := by
  subst h
  kernel_rfl
theorem ex_p2 {s : Sh} (h : exSh (2 : Nat) (1 : Nat) = s) : planned (fun m => Cd.can s.d s.gl s.gs m) s [1, 0, 0] = ([0, 2, 2], 0) := by
  subst h
  kernel_rfl
theorem ex_p3 {s : Sh} (h : exSh (2 : Nat) (1 : Nat) = s) : planned (fun m => Cd.can s.d s.gl s.gs m) s [2, 0, 2] = ([], 0) := by
  subst h
  kernel_rfl
theorem ex_p4 {s : Sh} (h : exSh (2 : Nat) (1 : Nat) = s) : planned (fun m => Cd.can s.d s.gl s.gs m) s [0, 1, 0] = ([], 1) := by
  subst h
  kernel_rfl
theorem ex_p5 {s : Sh} (h : exSh (2 : Nat) (0 : Nat) = s) : planned (fun m => Cd.can s.d s.gl s.gs m) s [0, 0, 0] = ([], 8) := by
  subst h
  kernel_rfl
theorem ex_p6 {s : Sh} (h : exSh (3 : Nat) (1 : Nat) = s) : planned (fun m => Cd.can s.d s.gl s.gs m) s [0, 0, 0] = ([], 20) := by
  subst h
  kernel_rfl
theorem ex_s1 {s : Sh} (h : exSh (2 : Nat) (1 : Nat) = s) : (right s [0, 0, 0] && safe (fun m => Cd.can s.d s.gl s.gs m) s [0, 0, 0]) = true := by
  subst h
  kernel_rfl
theorem ex_s2 {s : Sh} (h : exSh (2 : Nat) (1 : Nat) = s) : (right s [2, 0, 2] && safe (fun m => Cd.can s.d s.gl s.gs m) s [2, 0, 2]) = true := by
  subst h
  kernel_rfl
theorem ex_f1 {s : Sh} (h : exSh (2 : Nat) (1 : Nat) = s) : (right s [1, 0, 0] && fits s [1, 0, 0]) = true := by
  subst h
  kernel_rfl
theorem ex_f2 {s : Sh} (h : exSh (2 : Nat) (1 : Nat) = s) : (right s [0, 0, 1] && fits s [0, 0, 1]) = false := by
  subst h
  kernel_rfl
theorem ex_l {s : Sh} (h : exSh (2 : Nat) (1 : Nat) = s) : leftL s [2, 0, 0] [0, 3] = 6 := by
  subst h
  kernel_rfl
end Mv
namespace Go.Proofs.YtkbiffbmjgmcaaaDoor
open Go.RowKit
theorem results_cell1 {P : Program} {fn : Func} {a : Tmp} {t : TypeId} (h : fn.results = #[.cell a t]) {tmps : Array Value} {ad : Addr} {v : Value} {w : World} (ha : tmps.getD a undef = .pointer (some ad)) (hl : (loadVar t ad).run P w = .ok v w) :
    (results fn tmps).run P w = .ok v w := by
  rw [Array.getD_eq_getD_getElem?] at ha
  simp [results, h, asAddr, ha, hl]
theorem heap_new2 (w : World) (o o' : Obj) : ((w.alloc o).alloc o').heap[w.heap.size + 1]? = some o' := by
  have := heap_new (w.alloc o) o'
  rwa [World.size_alloc] at this
/-- A list that is laid in a block of its own reads so in each later world. -/
theorem rs_block {w w' : World} {g : Nat} {cs : Array Value} {t : TypeId} {fz : Nat × Nat} {l : List Int} {n c : Nat} (h : w.heap[g]? = some (.cells cs t fz)) (hx : Ext w w') (hc : cs.toList = l.map (.int .i64)) (hn : n = l.length) (hl : l.length ≤ 1000) (hs : small l) : Rs RI w' (.slice (some ⟨g, 0, none⟩) n c) l :=
  Rs.ext RI.ext _ _ _ _ hx (Rs.small (by rw [← hc]; exact Rd.of_block h) hn (by omega) hs)
theorem small_of {l : List Int} (h : (l.all fun x => decide (-1000 ≤ x) && decide (x ≤ 1000)) = true) : small l := fun x hx => by
  have := List.all_eq_true.1 h x hx
  simp only [Bool.and_eq_true, decide_eq_true_eq] at this
  exact this
theorem rk_zero {w w' : World} {g : Nat} {t : TypeId} {fz : Nat × Nat} (h : w.heap[g]? = some (.cells #[.int .i64 0, .bool false, .int .i64 0, .bool false, .int .i64 0, .bool false, .int .i64 0, .bool false, .int .i64 0, .bool false] t fz)) (hx : Ext w w') : RK w' (.slice (some ⟨g, 0, none⟩) 5 5) [0, 0, 0, 0, 0] := by
  refine RK.ext _ _ _ _ hx ⟨some ⟨g, 0, none⟩, 5, rfl, by decide, fun i x hi => ?_⟩
  have hc : ∀ j, w.cell? ⟨g, j, none⟩ = (#[.int .i64 0, .bool false, .int .i64 0, .bool false, .int .i64 0, .bool false, .int .i64 0, .bool false, .int .i64 0, .bool false] : Array Value)[j]? := fun j => by simp [World.cell?, h]
  match i, hi with
  | 0, hi => simp at hi; subst hi; exact ⟨_, false, rfl, (by rw [add0]; exact (hc 0).trans rfl), (by rw [add0]; exact (hc 1).trans rfl), by decide, by decide⟩
  | 1, hi => simp at hi; subst hi; exact ⟨_, false, rfl, (by rw [add0]; exact (hc 2).trans rfl), (by rw [add0]; exact (hc 3).trans rfl), by decide, by decide⟩
  | 2, hi => simp at hi; subst hi; exact ⟨_, false, rfl, (by rw [add0]; exact (hc 4).trans rfl), (by rw [add0]; exact (hc 5).trans rfl), by decide, by decide⟩
  | 3, hi => simp at hi; subst hi; exact ⟨_, false, rfl, (by rw [add0]; exact (hc 6).trans rfl), (by rw [add0]; exact (hc 7).trans rfl), by decide, by decide⟩
  | 4, hi => simp at hi; subst hi; exact ⟨_, false, rfl, (by rw [add0]; exact (hc 8).trans rfl), (by rw [add0]; exact (hc 9).trans rfl), by decide, by decide⟩
  | i + 5, hi => simp at hi
set_option maxRecDepth 100000 in
set_option maxHeartbeats 8000000 in
theorem example_any (a b : Nat) (ha : a ≤ 100) (hb : b ≤ 100) (w : World) :
    Calls Tryd.prog 25 #[.int .i64 (a : Nat), .int .i64 (b : Nat)] w fun e w' => ∃ v, e = .returned v ∧ RSh w' v (Mv.exSh a b) ∧ Ext w w' := by
  have hmk : ∀ w : World, (Instr.makeSlice 23 (.int .i64 5) (.int .i64 5)).run Tryd.prog w = .ok (.slice (some ⟨w.heap.size, 0, none⟩) 5 5) (w.alloc (.cells #[.int .i64 0, .bool false, .int .i64 0, .bool false, .int .i64 0, .bool false, .int .i64 0, .bool false, .int .i64 0, .bool false] 74)) := fun _ => by kernel_rfl
  go_enter Tryd.func25, Tryd.ntmps25
  go_wp2_with fail
  refine bodyPost_ret (results_cell1 (v := .agg #[.slice (some ⟨w.heap.size + 1, 0, none⟩) 5 5, .slice (some ⟨w.heap.size + 1 + 1, 0, none⟩) 5 5, .slice (some ⟨w.heap.size + 1 + 1 + 1, 0, none⟩) 1 1, .int .i64 1, .int .i64 2, .slice none 0 0, .int .i64 1, .int .i64 (a : Nat), .slice (some ⟨w.heap.size + 1 + 1 + 1 + 1 + 1, 0, none⟩) 5 5, .slice (some ⟨w.heap.size + 1 + 1 + 1 + 1 + 1 + 1, 0, none⟩) 3 3, .slice (some ⟨w.heap.size + 1 + 1 + 1 + 1 + 1 + 1 + 1, 0, none⟩) 3 3]) rfl rfl ?_) rfl ?_
  · go_simp
  obtain ⟨v0, hv0⟩ : ∃ v0, w.alloc (.cells #[.slice (some ⟨w.heap.size + 1, 0, none⟩) 5 5, .slice (some ⟨w.heap.size + 1 + 1, 0, none⟩) 5 5, .slice (some ⟨w.heap.size + 1 + 1 + 1, 0, none⟩) 1 1, .int .i64 1, .int .i64 2, .slice none 0 0, .int .i64 1, .int .i64 (a : Nat), .slice (some ⟨w.heap.size + 1 + 1 + 1 + 1 + 1, 0, none⟩) 5 5, .slice (some ⟨w.heap.size + 1 + 1 + 1 + 1 + 1 + 1, 0, none⟩) 3 3, .slice (some ⟨w.heap.size + 1 + 1 + 1 + 1 + 1 + 1 + 1, 0, none⟩) 3 3] 30) = v0 := ⟨_, rfl⟩
  have s0 : v0.heap.size = w.heap.size + 1 := by rw [← hv0, World.size_alloc]
  have h0 : v0.heap[w.heap.size]? = some (.cells #[.slice (some ⟨w.heap.size + 1, 0, none⟩) 5 5, .slice (some ⟨w.heap.size + 1 + 1, 0, none⟩) 5 5, .slice (some ⟨w.heap.size + 1 + 1 + 1, 0, none⟩) 1 1, .int .i64 1, .int .i64 2, .slice none 0 0, .int .i64 1, .int .i64 (a : Nat), .slice (some ⟨w.heap.size + 1 + 1 + 1 + 1 + 1, 0, none⟩) 5 5, .slice (some ⟨w.heap.size + 1 + 1 + 1 + 1 + 1 + 1, 0, none⟩) 3 3, .slice (some ⟨w.heap.size + 1 + 1 + 1 + 1 + 1 + 1 + 1, 0, none⟩) 3 3] 30) := by rw [← hv0]; exact heap_new _ _
  have x0 : Ext w v0 := by rw [← hv0]; exact (Ext.refl _).alloc _
  obtain ⟨v1, hv1⟩ : ∃ v1, v0.alloc (.cells #[.int .i64 0, .int .i64 1, .int .i64 2, .int .i64 3, .int .i64 4] 3) = v1 := ⟨_, rfl⟩
  have s1 : v1.heap.size = w.heap.size + 1 + 1 := by rw [← hv1, World.size_alloc]; rw [s0]
  have h1 : v1.heap[w.heap.size + 1]? = some (.cells #[.int .i64 0, .int .i64 1, .int .i64 2, .int .i64 3, .int .i64 4] 3) := by rw [← hv1, ← s0]; exact heap_new _ _
  have x1 : Ext v0 v1 := by rw [← hv1]; exact (Ext.refl _).alloc _
  obtain ⟨v2, hv2⟩ : ∃ v2, v1.alloc (.cells #[.int .i64 0, .bool false, .int .i64 0, .bool false, .int .i64 0, .bool false, .int .i64 0, .bool false, .int .i64 0, .bool false] 74) = v2 := ⟨_, rfl⟩
  have s2 : v2.heap.size = w.heap.size + 1 + 1 + 1 := by rw [← hv2, World.size_alloc]; rw [s1]
  have h2 : v2.heap[w.heap.size + 1 + 1]? = some (.cells #[.int .i64 0, .bool false, .int .i64 0, .bool false, .int .i64 0, .bool false, .int .i64 0, .bool false, .int .i64 0, .bool false] 74) := by rw [← hv2, ← s1]; exact heap_new _ _
  have x2 : Ext v1 v2 := by rw [← hv2]; exact (Ext.refl _).alloc _
  obtain ⟨v3, hv3⟩ : ∃ v3, v2.alloc (.cells #[.int .i64 0] 3) = v3 := ⟨_, rfl⟩
  have s3 : v3.heap.size = w.heap.size + 1 + 1 + 1 + 1 := by rw [← hv3, World.size_alloc]; rw [s2]
  have h3 : v3.heap[w.heap.size + 1 + 1 + 1]? = some (.cells #[.int .i64 0] 3) := by rw [← hv3, ← s2]; exact heap_new _ _
  have x3 : Ext v2 v3 := by rw [← hv3]; exact (Ext.refl _).alloc _
  obtain ⟨v4, hv4⟩ : ∃ v4, v3.alloc (.cells #[.slice (some ⟨w.heap.size + 1, 0, none⟩) 5 5, .slice (some ⟨w.heap.size + 1 + 1, 0, none⟩) 5 5, .slice (some ⟨w.heap.size + 1 + 1 + 1, 0, none⟩) 1 1, .int .i64 1] 25) = v4 := ⟨_, rfl⟩
  have s4 : v4.heap.size = w.heap.size + 1 + 1 + 1 + 1 + 1 := by rw [← hv4, World.size_alloc]; rw [s3]
  have h4 : v4.heap[w.heap.size + 1 + 1 + 1 + 1]? = some (.cells #[.slice (some ⟨w.heap.size + 1, 0, none⟩) 5 5, .slice (some ⟨w.heap.size + 1 + 1, 0, none⟩) 5 5, .slice (some ⟨w.heap.size + 1 + 1 + 1, 0, none⟩) 1 1, .int .i64 1] 25) := by rw [← hv4, ← s3]; exact heap_new _ _
  have x4 : Ext v3 v4 := by rw [← hv4]; exact (Ext.refl _).alloc _
  obtain ⟨v5, hv5⟩ : ∃ v5, v4.alloc (.cells #[.int .i64 0, .int .i64 0, .int .i64 0, .int .i64 (b : Nat), .int .i64 0] 3) = v5 := ⟨_, rfl⟩
  have s5 : v5.heap.size = w.heap.size + 1 + 1 + 1 + 1 + 1 + 1 := by rw [← hv5, World.size_alloc]; rw [s4]
  have h5 : v5.heap[w.heap.size + 1 + 1 + 1 + 1 + 1]? = some (.cells #[.int .i64 0, .int .i64 0, .int .i64 0, .int .i64 (b : Nat), .int .i64 0] 3) := by rw [← hv5, ← s4]; exact heap_new _ _
  have x5 : Ext v4 v5 := by rw [← hv5]; exact (Ext.refl _).alloc _
  obtain ⟨v6, hv6⟩ : ∃ v6, v5.alloc (.cells #[.int .i64 0, .int .i64 1, .int .i64 2] 3) = v6 := ⟨_, rfl⟩
  have s6 : v6.heap.size = w.heap.size + 1 + 1 + 1 + 1 + 1 + 1 + 1 := by rw [← hv6, World.size_alloc]; rw [s5]
  have h6 : v6.heap[w.heap.size + 1 + 1 + 1 + 1 + 1 + 1]? = some (.cells #[.int .i64 0, .int .i64 1, .int .i64 2] 3) := by rw [← hv6, ← s5]; exact heap_new _ _
  have x6 : Ext v5 v6 := by rw [← hv6]; exact (Ext.refl _).alloc _
  obtain ⟨v7, hv7⟩ : ∃ v7, v6.alloc (.cells #[.int .i64 3, .int .i64 1, .int .i64 0] 3) = v7 := ⟨_, rfl⟩
  have s7 : v7.heap.size = w.heap.size + 1 + 1 + 1 + 1 + 1 + 1 + 1 + 1 := by rw [← hv7, World.size_alloc]; rw [s6]
  have h7 : v7.heap[w.heap.size + 1 + 1 + 1 + 1 + 1 + 1 + 1]? = some (.cells #[.int .i64 3, .int .i64 1, .int .i64 0] 3) := by rw [← hv7, ← s6]; exact heap_new _ _
  have x7 : Ext v6 v7 := by rw [← hv7]; exact (Ext.refl _).alloc _
  simp only [hv0, hv1, hv2, hv3, hv4, hv5, hv6, hv7]
  refine ⟨_, rfl, ⟨_, _, _, _, _, _, _, rfl, rs_block h1 (((((x2.trans x3).trans x4).trans x5).trans x6).trans x7) rfl rfl (Nat.le_of_ble_eq_true rfl) (small_of rfl), rk_zero h2 ((((x3.trans x4).trans x5).trans x6).trans x7), rs_block h3 (((x4.trans x5).trans x6).trans x7) rfl rfl (Nat.le_of_ble_eq_true rfl) (small_of rfl), ⟨none, 0, rfl, Nat.zero_le _, fun i x hi => by simp [Mv.exSh] at hi⟩, rs_block h5 (x6.trans x7) rfl rfl (Nat.le_of_ble_eq_true rfl) ?_, rs_block h6 x7 rfl rfl (Nat.le_of_ble_eq_true rfl) (small_of rfl), rs_block h7 (Ext.refl v7) rfl rfl (Nat.le_of_ble_eq_true rfl) (small_of rfl), ?_, ?_, ?_, ?_⟩, x0.trans ((((((x1.trans x2).trans x3).trans x4).trans x5).trans x6).trans x7)⟩
  · intro x hx
    simp [Mv.exSh] at hx
    omega
  all_goals
    unfold w64 Mv.exSh
    dsimp only
    omega
end Go.Proofs.YtkbiffbmjgmcaaaDoor

/- THE WALK over sanity of law 13. -/
namespace Go.Proofs.YtkbiffbmjgmcaaaDoor
open Go.RowKit
set_option maxRecDepth 100000 in
set_option maxHeartbeats 16000000 in
theorem sanity_any (w : World) (hT : Tab w) :
    Calls Tryd.prog 9 #[] w fun e w' => e = .returned (.bool true) ∧ Ext w w' := by
  have HT := Lib.hid hT
  clear hT
  go_enter Tryd.func9, Tryd.ntmps9
  go_wp2_with fail
  refine (example_any 2 1 (by omega) (by omega) w).mono ?_
  rintro e w0 ⟨v, rfl, hv, hx0⟩
  obtain ⟨s, hs⟩ : ∃ s, Mv.exSh (2 : Nat) (1 : Nat) = s := ⟨_, rfl⟩
  rw [hs] at hv
  have HSE := Lib.hid hs
  clear hs
  obtain ⟨DA, KA, HA, GA, RA, FA, TA, cD, cK, cH, cG, cR, cF, cT, rfl, hS⟩ := hv.open
  have hx1 := (Ext.refl w0).alloc (.cells #[.slice DA s.disks.length cD, .slice KA s.racks.length cK, .slice HA s.houses.length cH, .int .i64 s.owners, .int .i64 s.d, .slice GA s.gs.length cG, .int .i64 s.gl, .int .i64 s.floor, .slice RA s.room.length cR, .slice FA s.src.length cF, .slice TA s.dst.length cT] 30)
  have HS := Lib.hid (hS.ext hx1)
  have hB := BoxAt.new w0 s DA KA HA GA RA FA TA cD cK cH cG cR cF cT
  have HB := Lib.hid hB
  have HW := Lib.hid (hx0.trans hx1)
  clear hv hS hB hx0 hx1
  obtain ⟨B, hBB⟩ : ∃ B, w0.heap.size = B := ⟨_, rfl⟩
  rw [hBB] at HB
  go_upto_region 2 with fail
  obtain ⟨w1, hw1⟩ : ∃ w1, w0.alloc (.cells #[.slice DA s.disks.length cD, .slice KA s.racks.length cK, .slice HA s.houses.length cH, .int .i64 s.owners, .int .i64 s.d, .slice GA s.gs.length cG, .int .i64 s.gl, .int .i64 s.floor, .slice RA s.room.length cR, .slice FA s.src.length cF, .slice TA s.dst.length cT] 30) = w1 := ⟨_, rfl⟩
  rw [hw1] at HS HB HW ⊢
  clear hBB hw1
  have a0 := HB.out.b0
  have a1 := HB.out.b1
  have a2 := HB.out.b2
  have a3 := HB.out.b3
  have a4 := HB.out.b4
  have a5 := HB.out.b5
  have a6 := HB.out.b6
  have a7 := HB.out.b7
  have a8 := HB.out.b8
  have a9 := HB.out.b9
  have a10 := HB.out.b10
  go_wp2_with fail
  clear a0 a1 a2 a3 a4 a5 a6 a7 a8 a9 a10
  have hc := mPlan_any s [0, 0, 0] _ _ (w1.alloc (.cells #[.int .i64 0, .int .i64 0, .int .i64 0] 3)) (HT.out.ext (HW.out.trans ((Ext.refl _).alloc _))) (HS.out.ext ((Ext.refl _).alloc _)).sh (rs_block (n := 3) (c := 3) (l := [0, 0, 0]) (heap_new w1 (.cells #[.int .i64 0, .int .i64 0, .int .i64 0] 3)) (Ext.refl _) rfl rfl (Nat.le_of_ble_eq_true rfl) (small_of rfl))
  rw [show Mv.planned (fun m => Cd.can s.d s.gl s.gs m) s [0, 0, 0] = ([0, 0, 2, 2], 0) from Mv.ex_p1 HSE.out] at hc
  refine hc.mono ?_
  clear hc
  rintro e w2 ⟨A2, c2, rfl, hO⟩
  have hx : Ext w1 w2 := ((Ext.refl _).alloc _).trans hO.ext
  have HB := Lib.hid (HB.out.ext hx)
  have HS := Lib.hid (HS.out.ext hx)
  have HW := Lib.hid (HW.out.trans hx)
  have HL2 : Hid (Rs RI w2 (.slice A2 4 c2) [0, 0, 2, 2]) := Lib.hid (Rs.small (hO.rd 0 rfl) rfl (Nat.le_of_ble_eq_true rfl) (small_of rfl))
  clear hO hx
  dsimp only [List.length_cons, List.length_nil, Nat.reduceAdd, Nat.zero_add]
  have a0 := HB.out.b0
  have a1 := HB.out.b1
  have a2 := HB.out.b2
  have a3 := HB.out.b3
  have a4 := HB.out.b4
  have a5 := HB.out.b5
  have a6 := HB.out.b6
  have a7 := HB.out.b7
  have a8 := HB.out.b8
  have a9 := HB.out.b9
  have a10 := HB.out.b10
  go_wp2_with fail
  clear a0 a1 a2 a3 a4 a5 a6 a7 a8 a9 a10
  have hc := mPlan_any s [1, 0, 0] _ _ (w2.alloc (.cells #[.int .i64 1, .int .i64 0, .int .i64 0] 3)) (HT.out.ext (HW.out.trans ((Ext.refl _).alloc _))) (HS.out.ext ((Ext.refl _).alloc _)).sh (rs_block (n := 3) (c := 3) (l := [1, 0, 0]) (heap_new w2 (.cells #[.int .i64 1, .int .i64 0, .int .i64 0] 3)) (Ext.refl _) rfl rfl (Nat.le_of_ble_eq_true rfl) (small_of rfl))
  rw [show Mv.planned (fun m => Cd.can s.d s.gl s.gs m) s [1, 0, 0] = ([0, 2, 2], 0) from Mv.ex_p2 HSE.out] at hc
  refine hc.mono ?_
  clear hc
  rintro e w3 ⟨A3, c3, rfl, hO⟩
  have hx : Ext w2 w3 := ((Ext.refl _).alloc _).trans hO.ext
  have HB := Lib.hid (HB.out.ext hx)
  have HS := Lib.hid (HS.out.ext hx)
  have HW := Lib.hid (HW.out.trans hx)
  have HL2 := Lib.hid (Rs.ext RI.ext _ _ _ _ hx HL2.out)
  have HL3 : Hid (Rs RI w3 (.slice A3 3 c3) [0, 2, 2]) := Lib.hid (Rs.small (hO.rd 0 rfl) rfl (Nat.le_of_ble_eq_true rfl) (small_of rfl))
  clear hO hx
  dsimp only [List.length_cons, List.length_nil, Nat.reduceAdd, Nat.zero_add]
  have a0 := HB.out.b0
  have a1 := HB.out.b1
  have a2 := HB.out.b2
  have a3 := HB.out.b3
  have a4 := HB.out.b4
  have a5 := HB.out.b5
  have a6 := HB.out.b6
  have a7 := HB.out.b7
  have a8 := HB.out.b8
  have a9 := HB.out.b9
  have a10 := HB.out.b10
  go_wp2_with fail
  clear a0 a1 a2 a3 a4 a5 a6 a7 a8 a9 a10
  have hc := mPlan_any s [2, 0, 2] _ _ (w3.alloc (.cells #[.int .i64 2, .int .i64 0, .int .i64 2] 3)) (HT.out.ext (HW.out.trans ((Ext.refl _).alloc _))) (HS.out.ext ((Ext.refl _).alloc _)).sh (rs_block (n := 3) (c := 3) (l := [2, 0, 2]) (heap_new w3 (.cells #[.int .i64 2, .int .i64 0, .int .i64 2] 3)) (Ext.refl _) rfl rfl (Nat.le_of_ble_eq_true rfl) (small_of rfl))
  rw [show Mv.planned (fun m => Cd.can s.d s.gl s.gs m) s [2, 0, 2] = ([], 0) from Mv.ex_p3 HSE.out] at hc
  refine hc.mono ?_
  clear hc
  rintro e w4 ⟨A4, c4, rfl, hO⟩
  have hx : Ext w3 w4 := ((Ext.refl _).alloc _).trans hO.ext
  have HB := Lib.hid (HB.out.ext hx)
  have HS := Lib.hid (HS.out.ext hx)
  have HW := Lib.hid (HW.out.trans hx)
  have HL2 := Lib.hid (Rs.ext RI.ext _ _ _ _ hx HL2.out)
  have HL3 := Lib.hid (Rs.ext RI.ext _ _ _ _ hx HL3.out)
  have HL4 : Hid (Rs RI w4 (.slice A4 0 c4) []) := Lib.hid (Rs.small (hO.rd 0 rfl) rfl (Nat.le_of_ble_eq_true rfl) (small_of rfl))
  clear hO hx
  dsimp only [List.length_cons, List.length_nil, Nat.reduceAdd, Nat.zero_add]
  have a0 := HB.out.b0
  have a1 := HB.out.b1
  have a2 := HB.out.b2
  have a3 := HB.out.b3
  have a4 := HB.out.b4
  have a5 := HB.out.b5
  have a6 := HB.out.b6
  have a7 := HB.out.b7
  have a8 := HB.out.b8
  have a9 := HB.out.b9
  have a10 := HB.out.b10
  go_wp2_with fail
  clear a0 a1 a2 a3 a4 a5 a6 a7 a8 a9 a10
  have hc := mPlan_any s [0, 1, 0] _ _ (w4.alloc (.cells #[.int .i64 0, .int .i64 1, .int .i64 0] 3)) (HT.out.ext (HW.out.trans ((Ext.refl _).alloc _))) (HS.out.ext ((Ext.refl _).alloc _)).sh (rs_block (n := 3) (c := 3) (l := [0, 1, 0]) (heap_new w4 (.cells #[.int .i64 0, .int .i64 1, .int .i64 0] 3)) (Ext.refl _) rfl rfl (Nat.le_of_ble_eq_true rfl) (small_of rfl))
  rw [show Mv.planned (fun m => Cd.can s.d s.gl s.gs m) s [0, 1, 0] = ([], 1) from Mv.ex_p4 HSE.out] at hc
  refine hc.mono ?_
  clear hc
  rintro e w5 ⟨A5, c5, rfl, hO⟩
  have hx : Ext w4 w5 := ((Ext.refl _).alloc _).trans hO.ext
  have HB := Lib.hid (HB.out.ext hx)
  have HS := Lib.hid (HS.out.ext hx)
  have HW := Lib.hid (HW.out.trans hx)
  have HL2 := Lib.hid (Rs.ext RI.ext _ _ _ _ hx HL2.out)
  have HL3 := Lib.hid (Rs.ext RI.ext _ _ _ _ hx HL3.out)
  have HL5 : Hid (Rs RI w5 (.slice A5 0 c5) []) := Lib.hid (Rs.small (hO.rd 0 rfl) rfl (Nat.le_of_ble_eq_true rfl) (small_of rfl))
  clear hO hx
  dsimp only [List.length_cons, List.length_nil, Nat.reduceAdd, Nat.zero_add]
  go_wp2_with fail
  refine (example_any 2 0 (by omega) (by omega) w5).mono ?_
  rintro e w6 ⟨v, rfl, hv, hx0⟩
  obtain ⟨s6, hs⟩ : ∃ s6, Mv.exSh (2 : Nat) (0 : Nat) = s6 := ⟨_, rfl⟩
  rw [hs] at hv
  have HSF := Lib.hid hs
  clear hs
  have hc := mPlan_any s6 [0, 0, 0] v _ (w6.alloc (.cells #[.int .i64 0, .int .i64 0, .int .i64 0] 3)) (HT.out.ext (HW.out.trans (hx0.trans ((Ext.refl _).alloc _)))) (RSh.ext _ _ _ _ ((Ext.refl _).alloc _) hv) (rs_block (n := 3) (c := 3) (l := [0, 0, 0]) (heap_new w6 (.cells #[.int .i64 0, .int .i64 0, .int .i64 0] 3)) (Ext.refl _) rfl rfl (Nat.le_of_ble_eq_true rfl) (small_of rfl))
  rw [show Mv.planned (fun m => Cd.can s6.d s6.gl s6.gs m) s6 [0, 0, 0] = ([], 8) from Mv.ex_p5 HSF.out] at hc
  have HC := Lib.hid hc
  have HX0 := Lib.hid hx0
  clear hc hv hx0
  go_wp2_with fail
  refine HC.out.mono ?_
  clear HC HSF
  rintro e w7 ⟨A7, c7, rfl, hO⟩
  have hx : Ext w5 w7 := (HX0.out.trans ((Ext.refl _).alloc _)).trans hO.ext
  have HB := Lib.hid (HB.out.ext hx)
  have HS := Lib.hid (HS.out.ext hx)
  have HW := Lib.hid (HW.out.trans hx)
  have HL2 := Lib.hid (Rs.ext RI.ext _ _ _ _ hx HL2.out)
  have HL3 := Lib.hid (Rs.ext RI.ext _ _ _ _ hx HL3.out)
  clear hO hx HX0
  dsimp only [List.length_cons, List.length_nil, Nat.reduceAdd, Nat.zero_add]
  go_wp2_with fail
  refine (example_any 3 1 (by omega) (by omega) w7).mono ?_
  rintro e w8 ⟨v, rfl, hv, hx0⟩
  obtain ⟨s8, hs⟩ : ∃ s8, Mv.exSh (3 : Nat) (1 : Nat) = s8 := ⟨_, rfl⟩
  rw [hs] at hv
  have HSF := Lib.hid hs
  clear hs
  have hc := mPlan_any s8 [0, 0, 0] v _ (w8.alloc (.cells #[.int .i64 0, .int .i64 0, .int .i64 0] 3)) (HT.out.ext (HW.out.trans (hx0.trans ((Ext.refl _).alloc _)))) (RSh.ext _ _ _ _ ((Ext.refl _).alloc _) hv) (rs_block (n := 3) (c := 3) (l := [0, 0, 0]) (heap_new w8 (.cells #[.int .i64 0, .int .i64 0, .int .i64 0] 3)) (Ext.refl _) rfl rfl (Nat.le_of_ble_eq_true rfl) (small_of rfl))
  rw [show Mv.planned (fun m => Cd.can s8.d s8.gl s8.gs m) s8 [0, 0, 0] = ([], 20) from Mv.ex_p6 HSF.out] at hc
  have HC := Lib.hid hc
  have HX0 := Lib.hid hx0
  clear hc hv hx0
  go_wp2_with fail
  refine HC.out.mono ?_
  clear HC HSF
  rintro e w9 ⟨A9, c9, rfl, hO⟩
  have hx : Ext w7 w9 := (HX0.out.trans ((Ext.refl _).alloc _)).trans hO.ext
  have HB := Lib.hid (HB.out.ext hx)
  have HS := Lib.hid (HS.out.ext hx)
  have HW := Lib.hid (HW.out.trans hx)
  have HL2 := Lib.hid (Rs.ext RI.ext _ _ _ _ hx HL2.out)
  have HL3 := Lib.hid (Rs.ext RI.ext _ _ _ _ hx HL3.out)
  clear hO hx HX0
  dsimp only [List.length_cons, List.length_nil, Nat.reduceAdd, Nat.zero_add]
  have a0 := HB.out.b0
  have a1 := HB.out.b1
  have a2 := HB.out.b2
  have a3 := HB.out.b3
  have a4 := HB.out.b4
  have a5 := HB.out.b5
  have a6 := HB.out.b6
  have a7 := HB.out.b7
  have a8 := HB.out.b8
  have a9 := HB.out.b9
  have a10 := HB.out.b10
  go_wp2_with fail
  clear a0 a1 a2 a3 a4 a5 a6 a7 a8 a9 a10
  have hc := mCheck_any s _ w9 HS.out.sh
  rw [show Mv.check s = 0 from Mv.ex_check HSE.out] at hc
  refine hc.mono ?_
  clear hc
  rintro e w10 ⟨rfl, hxx⟩
  have hx : Ext w9 w10 := (Ext.refl _).trans hxx
  have HB := Lib.hid (HB.out.ext hx)
  have HS := Lib.hid (HS.out.ext hx)
  have HW := Lib.hid (HW.out.trans hx)
  have HL2 := Lib.hid (Rs.ext RI.ext _ _ _ _ hx HL2.out)
  have HL3 := Lib.hid (Rs.ext RI.ext _ _ _ _ hx HL3.out)
  clear hxx hx
  have a0 := HB.out.b0
  have a1 := HB.out.b1
  have a2 := HB.out.b2
  have a3 := HB.out.b3
  have a4 := HB.out.b4
  have a5 := HB.out.b5
  have a6 := HB.out.b6
  have a7 := HB.out.b7
  have a8 := HB.out.b8
  have a9 := HB.out.b9
  have a10 := HB.out.b10
  go_wp2_with fail
  clear a0 a1 a2 a3 a4 a5 a6 a7 a8 a9 a10
  have hc := mSafeX_any s [0, 0, 0] _ _ (w10.alloc (.cells #[.int .i64 0, .int .i64 0, .int .i64 0] 3)) (HT.out.ext (HW.out.trans ((Ext.refl _).alloc _))) (HS.out.ext ((Ext.refl _).alloc _)).sh (rs_block (n := 3) (c := 3) (l := [0, 0, 0]) (heap_new w10 (.cells #[.int .i64 0, .int .i64 0, .int .i64 0] 3)) (Ext.refl _) rfl rfl (Nat.le_of_ble_eq_true rfl) (small_of rfl))
  rw [show (Mv.right s [0, 0, 0] && Mv.safe (fun m => Cd.can s.d s.gl s.gs m) s [0, 0, 0]) = true from Mv.ex_s1 HSE.out] at hc
  refine hc.mono ?_
  clear hc
  rintro e w11 ⟨rfl, hxx⟩
  have hx : Ext w10 w11 := ((Ext.refl _).alloc _).trans hxx
  have HB := Lib.hid (HB.out.ext hx)
  have HS := Lib.hid (HS.out.ext hx)
  have HW := Lib.hid (HW.out.trans hx)
  have HL2 := Lib.hid (Rs.ext RI.ext _ _ _ _ hx HL2.out)
  have HL3 := Lib.hid (Rs.ext RI.ext _ _ _ _ hx HL3.out)
  clear hxx hx
  have a0 := HB.out.b0
  have a1 := HB.out.b1
  have a2 := HB.out.b2
  have a3 := HB.out.b3
  have a4 := HB.out.b4
  have a5 := HB.out.b5
  have a6 := HB.out.b6
  have a7 := HB.out.b7
  have a8 := HB.out.b8
  have a9 := HB.out.b9
  have a10 := HB.out.b10
  go_wp2_with fail
  clear a0 a1 a2 a3 a4 a5 a6 a7 a8 a9 a10
  have hc := mSafeX_any s [2, 0, 2] _ _ (w11.alloc (.cells #[.int .i64 2, .int .i64 0, .int .i64 2] 3)) (HT.out.ext (HW.out.trans ((Ext.refl _).alloc _))) (HS.out.ext ((Ext.refl _).alloc _)).sh (rs_block (n := 3) (c := 3) (l := [2, 0, 2]) (heap_new w11 (.cells #[.int .i64 2, .int .i64 0, .int .i64 2] 3)) (Ext.refl _) rfl rfl (Nat.le_of_ble_eq_true rfl) (small_of rfl))
  rw [show (Mv.right s [2, 0, 2] && Mv.safe (fun m => Cd.can s.d s.gl s.gs m) s [2, 0, 2]) = true from Mv.ex_s2 HSE.out] at hc
  refine hc.mono ?_
  clear hc
  rintro e w12 ⟨rfl, hxx⟩
  have hx : Ext w11 w12 := ((Ext.refl _).alloc _).trans hxx
  have HB := Lib.hid (HB.out.ext hx)
  have HS := Lib.hid (HS.out.ext hx)
  have HW := Lib.hid (HW.out.trans hx)
  have HL2 := Lib.hid (Rs.ext RI.ext _ _ _ _ hx HL2.out)
  have HL3 := Lib.hid (Rs.ext RI.ext _ _ _ _ hx HL3.out)
  clear hxx hx
  have a0 := HB.out.b0
  have a1 := HB.out.b1
  have a2 := HB.out.b2
  have a3 := HB.out.b3
  have a4 := HB.out.b4
  have a5 := HB.out.b5
  have a6 := HB.out.b6
  have a7 := HB.out.b7
  have a8 := HB.out.b8
  have a9 := HB.out.b9
  have a10 := HB.out.b10
  go_wp2_with fail
  clear a0 a1 a2 a3 a4 a5 a6 a7 a8 a9 a10
  have hc := mFits_any s [1, 0, 0] _ _ (w12.alloc (.cells #[.int .i64 1, .int .i64 0, .int .i64 0] 3)) (HS.out.ext ((Ext.refl _).alloc _)).sh (rs_block (n := 3) (c := 3) (l := [1, 0, 0]) (heap_new w12 (.cells #[.int .i64 1, .int .i64 0, .int .i64 0] 3)) (Ext.refl _) rfl rfl (Nat.le_of_ble_eq_true rfl) (small_of rfl))
  rw [show (Mv.right s [1, 0, 0] && Mv.fits s [1, 0, 0]) = true from Mv.ex_f1 HSE.out] at hc
  refine hc.mono ?_
  clear hc
  rintro e w13 ⟨rfl, hxx⟩
  have hx : Ext w12 w13 := ((Ext.refl _).alloc _).trans hxx
  have HB := Lib.hid (HB.out.ext hx)
  have HS := Lib.hid (HS.out.ext hx)
  have HW := Lib.hid (HW.out.trans hx)
  have HL2 := Lib.hid (Rs.ext RI.ext _ _ _ _ hx HL2.out)
  have HL3 := Lib.hid (Rs.ext RI.ext _ _ _ _ hx HL3.out)
  clear hxx hx
  have a0 := HB.out.b0
  have a1 := HB.out.b1
  have a2 := HB.out.b2
  have a3 := HB.out.b3
  have a4 := HB.out.b4
  have a5 := HB.out.b5
  have a6 := HB.out.b6
  have a7 := HB.out.b7
  have a8 := HB.out.b8
  have a9 := HB.out.b9
  have a10 := HB.out.b10
  go_wp2_with fail
  clear a0 a1 a2 a3 a4 a5 a6 a7 a8 a9 a10
  have hc := mFits_any s [0, 0, 1] _ _ (w13.alloc (.cells #[.int .i64 0, .int .i64 0, .int .i64 1] 3)) (HS.out.ext ((Ext.refl _).alloc _)).sh (rs_block (n := 3) (c := 3) (l := [0, 0, 1]) (heap_new w13 (.cells #[.int .i64 0, .int .i64 0, .int .i64 1] 3)) (Ext.refl _) rfl rfl (Nat.le_of_ble_eq_true rfl) (small_of rfl))
  rw [show (Mv.right s [0, 0, 1] && Mv.fits s [0, 0, 1]) = false from Mv.ex_f2 HSE.out] at hc
  refine hc.mono ?_
  clear hc
  rintro e w14 ⟨rfl, hxx⟩
  have hx : Ext w13 w14 := ((Ext.refl _).alloc _).trans hxx
  have HB := Lib.hid (HB.out.ext hx)
  have HS := Lib.hid (HS.out.ext hx)
  have HW := Lib.hid (HW.out.trans hx)
  have HL2 := Lib.hid (Rs.ext RI.ext _ _ _ _ hx HL2.out)
  have HL3 := Lib.hid (Rs.ext RI.ext _ _ _ _ hx HL3.out)
  clear hxx hx
  have a0 := HB.out.b0
  have a1 := HB.out.b1
  have a2 := HB.out.b2
  have a3 := HB.out.b3
  have a4 := HB.out.b4
  have a5 := HB.out.b5
  have a6 := HB.out.b6
  have a7 := HB.out.b7
  have a8 := HB.out.b8
  have a9 := HB.out.b9
  have a10 := HB.out.b10
  go_wp2_with fail
  clear a0 a1 a2 a3 a4 a5 a6 a7 a8 a9 a10
  have hc := mLeft_any s [2, 0, 0] [0, 3] _ _ _ ((w14.alloc (.cells #[.int .i64 2, .int .i64 0, .int .i64 0] 3)).alloc (.cells #[.int .i64 0, .int .i64 3] 3)) (HS.out.ext (((Ext.refl _).alloc _).alloc _)).sh (Rs.ext RI.ext _ _ _ _ ((Ext.refl _).alloc _) (rs_block (n := 3) (c := 3) (l := [2, 0, 0]) (heap_new w14 (.cells #[.int .i64 2, .int .i64 0, .int .i64 0] 3)) (Ext.refl _) rfl rfl (Nat.le_of_ble_eq_true rfl) (small_of rfl))) (rs_block (n := 2) (c := 2) (l := [0, 3]) (heap_new2 w14 (.cells #[.int .i64 2, .int .i64 0, .int .i64 0] 3) (.cells #[.int .i64 0, .int .i64 3] 3)) (Ext.refl _) rfl rfl (Nat.le_of_ble_eq_true rfl) (small_of rfl))
  rw [show Mv.leftL s [2, 0, 0] [0, 3] = 6 from Mv.ex_l HSE.out] at hc
  refine hc.mono ?_
  clear hc
  rintro e w15 ⟨rfl, hxx⟩
  have hx : Ext w14 w15 := (((Ext.refl _).alloc _).alloc _).trans hxx
  have HB := Lib.hid (HB.out.ext hx)
  have HS := Lib.hid (HS.out.ext hx)
  have HW := Lib.hid (HW.out.trans hx)
  have HL2 := Lib.hid (Rs.ext RI.ext _ _ _ _ hx HL2.out)
  have HL3 := Lib.hid (Rs.ext RI.ext _ _ _ _ hx HL3.out)
  clear hxx hx
  go_wp2_with fail
  have hc := kSame_any [0, 0, 2, 2] [0, 0, 2, 2] _ _ (w15.alloc (.cells #[.int .i64 0, .int .i64 0, .int .i64 2, .int .i64 2] 3)) (Rs.ext RI.ext _ _ _ _ ((Ext.refl _).alloc _) HL2.out) (rs_block (n := 4) (c := 4) (l := [0, 0, 2, 2]) (heap_new w15 (.cells #[.int .i64 0, .int .i64 0, .int .i64 2, .int .i64 2] 3)) (Ext.refl _) rfl rfl (Nat.le_of_ble_eq_true rfl) (small_of rfl))
  rw [decide_eq_true rfl] at hc
  refine hc.mono ?_
  clear hc
  rintro e w16 ⟨rfl, hxx⟩
  have hx : Ext w15 w16 := ((Ext.refl _).alloc _).trans hxx
  have HB := Lib.hid (HB.out.ext hx)
  have HS := Lib.hid (HS.out.ext hx)
  have HW := Lib.hid (HW.out.trans hx)
  have HL2 := Lib.hid (Rs.ext RI.ext _ _ _ _ hx HL2.out)
  have HL3 := Lib.hid (Rs.ext RI.ext _ _ _ _ hx HL3.out)
  clear hxx hx
  go_wp2_with fail
  have hc := kSame_any [0, 2, 2] [0, 2, 2] _ _ (w16.alloc (.cells #[.int .i64 0, .int .i64 2, .int .i64 2] 3)) (Rs.ext RI.ext _ _ _ _ ((Ext.refl _).alloc _) HL3.out) (rs_block (n := 3) (c := 3) (l := [0, 2, 2]) (heap_new w16 (.cells #[.int .i64 0, .int .i64 2, .int .i64 2] 3)) (Ext.refl _) rfl rfl (Nat.le_of_ble_eq_true rfl) (small_of rfl))
  rw [decide_eq_true rfl] at hc
  refine hc.mono ?_
  clear hc
  rintro e w17 ⟨rfl, hxx⟩
  have hx : Ext w16 w17 := ((Ext.refl _).alloc _).trans hxx
  have HB := Lib.hid (HB.out.ext hx)
  have HS := Lib.hid (HS.out.ext hx)
  have HW := Lib.hid (HW.out.trans hx)
  have HL2 := Lib.hid (Rs.ext RI.ext _ _ _ _ hx HL2.out)
  have HL3 := Lib.hid (Rs.ext RI.ext _ _ _ _ hx HL3.out)
  clear hxx hx
  go_wp2_with fail
  go_ret
  exact ⟨rfl, HW.out⟩
end Go.Proofs.YtkbiffbmjgmcaaaDoor

/- THE WALK over Plan of the specification of moves. -/
namespace Go.Proofs.YtkbiffbmjgmcaaaDoor
open Go.RowKit
/-- What stands behind the call of end. -/
def EndW (wr wc : World) (b : Bool) (s : Mv.Sh) (ZA : Option Addr) (cZ : Nat) : Prop := Ext wr wc ∧ (b = true → Rs RI wc (.slice ZA (Mv.theEnd s).length cZ) (Mv.theEnd s))
noncomputable def pl_end_code : Code := ((Tryd.f19.body.bind (regionOf 11)).getD .skip)
def pl_end_dsts : List (Option Nat) := [some 31, some 32, some 33, some 34, some 9]
theorem pl_end_apart : apartD pl_end_dsts = true := by decide +kernel
set_option maxRecDepth 1000000 in
set_option maxHeartbeats 16000000 in
theorem pl_end (wr : World) (B : Nat) (s : Mv.Sh) (DA KA HA GA RA FA TA : Option Addr) (cD cK cH cG cR cF cT : Nat) (hgn : s.gs.length ≤ 1000000) (hdl : s.dst.length = s.src.length) (h24 : s.src.length ≤ 24) (hB : BoxAt wr B s DA KA HA GA RA FA TA cD cK cH cG cR cF cT) (HS : Hid (ShAt wr s DA KA HA GA RA FA TA cD cK cH cG cR cF cT)) (c0 c1 c3 c4 c5 c6 c7 c8 c9 c10 c11 c12 c13 c14 c15 c16 c17 c18 c19 c20 c21 c22 c23 c24 c25 c26 c27 c28 c29 c30 c31 c32 c33 c34 c35 c36 c37 c38 c39 c40 c41 c42 c43 c44 : Value) (df : List Deferred) (K : Act → World → Prop)
    (hK : ∀  (u31 u32 u33 u34 : Value) (wx : World), Ext wr wx → K ⟨#[c0, c1, .pointer (some ⟨B, 0, none⟩), c3, c4, c5, c6, c7, c8, .bool (Mv.right s (Mv.theEnd s) && Mv.safe (fun m => Cd.can s.d s.gl s.gs m) s (Mv.theEnd s)), c10, c11, c12, c13, c14, c15, c16, c17, c18, c19, c20, c21, c22, c23, c24, c25, c26, c27, c28, c29, c30, u31, u32, u33, u34, c35, c36, c37, c38, c39, c40, c41, c42, c43, c44], df⟩ wx) :
    Code.wp Tryd.prog pl_end_code (AtEnd K) ⟨#[c0, c1, .pointer (some ⟨B, 0, none⟩), c3, c4, c5, c6, c7, c8, c9, c10, c11, c12, c13, c14, c15, c16, c17, c18, c19, c20, c21, c22, c23, c24, c25, c26, c27, c28, c29, c30, c31, c32, c33, c34, c35, c36, c37, c38, c39, c40, c41, c42, c43, c44], df⟩ wr := by
  conv => arg 2; whnf
  refine region_inv (by kernel_rfl) [[], [], [1], [0, 2, 2], [3, 3, 0, 1, 2, 3]] (by kernel_rfl) [0, 1, 2, 3, 4] (by decide +kernel) (by decide +kernel) (by decide +kernel) (fun L a wc => ∃ (ZA : Option Addr) (cZ : Nat), Inv pl_end_dsts [.agg #[.slice DA s.disks.length cD, .slice KA s.racks.length cK, .slice HA s.houses.length cH, .int .i64 s.owners, .int .i64 s.d, .slice GA s.gs.length cG, .int .i64 s.gl, .int .i64 s.floor, .slice RA s.room.length cR, .slice FA s.src.length cF, .slice TA s.dst.length cT], .agg #[.slice DA s.disks.length cD, .slice KA s.racks.length cK, .slice HA s.houses.length cH, .int .i64 s.owners, .int .i64 s.d, .slice GA s.gs.length cG, .int .i64 s.gl, .int .i64 s.floor, .slice RA s.room.length cR, .slice FA s.src.length cF, .slice TA s.dst.length cT], .slice ZA (Mv.theEnd s).length cZ, .bool (Mv.right s (Mv.theEnd s) && Mv.safe (fun m => Cd.can s.d s.gl s.gs m) s (Mv.theEnd s)), .bool (Mv.right s (Mv.theEnd s) && Mv.safe (fun m => Cd.can s.d s.gl s.gs m) s (Mv.theEnd s))] ⟨#[c0, c1, .pointer (some ⟨B, 0, none⟩), c3, c4, c5, c6, c7, c8, c9, c10, c11, c12, c13, c14, c15, c16, c17, c18, c19, c20, c21, c22, c23, c24, c25, c26, c27, c28, c29, c30, c31, c32, c33, c34, c35, c36, c37, c38, c39, c40, c41, c42, c43, c44], df⟩ L a ∧ Hid (EndW wr wc (L 2) s ZA cZ)) ⟨none, 0, Inv.start, Lib.hid ⟨(Ext.refl wr).drew, fun h => by cases h⟩⟩ ?_ ?_
  · refine ⟨?_, ?_, ?_, ?_, ?_, trivial⟩
    · -- 0 load
      rintro L a wc ⟨ZA, cZ, hv, HO⟩ hL hc hd
      have h0 : wc.cell? ⟨B, 0, none⟩ = some (.slice DA s.disks.length cD) := HO.out.1.cell hB.b0
      have h1 : wc.cell? ⟨B, 1, none⟩ = some (.slice KA s.racks.length cK) := HO.out.1.cell hB.b1
      have h2 : wc.cell? ⟨B, 2, none⟩ = some (.slice HA s.houses.length cH) := HO.out.1.cell hB.b2
      have h3 : wc.cell? ⟨B, 3, none⟩ = some (.int .i64 s.owners) := HO.out.1.cell hB.b3
      have h4 : wc.cell? ⟨B, 4, none⟩ = some (.int .i64 s.d) := HO.out.1.cell hB.b4
      have h5 : wc.cell? ⟨B, 5, none⟩ = some (.slice GA s.gs.length cG) := HO.out.1.cell hB.b5
      have h6 : wc.cell? ⟨B, 6, none⟩ = some (.int .i64 s.gl) := HO.out.1.cell hB.b6
      have h7 : wc.cell? ⟨B, 7, none⟩ = some (.int .i64 s.floor) := HO.out.1.cell hB.b7
      have h8 : wc.cell? ⟨B, 8, none⟩ = some (.slice RA s.room.length cR) := HO.out.1.cell hB.b8
      have h9 : wc.cell? ⟨B, 9, none⟩ = some (.slice FA s.src.length cF) := HO.out.1.cell hB.b9
      have h10 : wc.cell? ⟨B, 10, none⟩ = some (.slice TA s.dst.length cT) := HO.out.1.cell hB.b10
      exact wpOp_val rfl rfl (ex_load rfl ((hv.fixed 2 (by decide)).trans rfl) (by go_simp)) ⟨ZA, cZ, hv.put pl_end_apart 0 rfl (Nat.le_of_ble_eq_true rfl) (Nat.le_of_ble_eq_true rfl) rfl, (Lib.hid (by simpa [EndW, upd] using HO.out))⟩
    · -- 1 load
      rintro L a wc ⟨ZA, cZ, hv, HO⟩ hL hc hd
      have h0 : wc.cell? ⟨B, 0, none⟩ = some (.slice DA s.disks.length cD) := HO.out.1.cell hB.b0
      have h1 : wc.cell? ⟨B, 1, none⟩ = some (.slice KA s.racks.length cK) := HO.out.1.cell hB.b1
      have h2 : wc.cell? ⟨B, 2, none⟩ = some (.slice HA s.houses.length cH) := HO.out.1.cell hB.b2
      have h3 : wc.cell? ⟨B, 3, none⟩ = some (.int .i64 s.owners) := HO.out.1.cell hB.b3
      have h4 : wc.cell? ⟨B, 4, none⟩ = some (.int .i64 s.d) := HO.out.1.cell hB.b4
      have h5 : wc.cell? ⟨B, 5, none⟩ = some (.slice GA s.gs.length cG) := HO.out.1.cell hB.b5
      have h6 : wc.cell? ⟨B, 6, none⟩ = some (.int .i64 s.gl) := HO.out.1.cell hB.b6
      have h7 : wc.cell? ⟨B, 7, none⟩ = some (.int .i64 s.floor) := HO.out.1.cell hB.b7
      have h8 : wc.cell? ⟨B, 8, none⟩ = some (.slice RA s.room.length cR) := HO.out.1.cell hB.b8
      have h9 : wc.cell? ⟨B, 9, none⟩ = some (.slice FA s.src.length cF) := HO.out.1.cell hB.b9
      have h10 : wc.cell? ⟨B, 10, none⟩ = some (.slice TA s.dst.length cT) := HO.out.1.cell hB.b10
      exact wpOp_val rfl rfl (ex_load rfl ((hv.fixed 2 (by decide)).trans rfl) (by go_simp)) ⟨ZA, cZ, hv.put pl_end_apart 1 rfl (Nat.le_of_ble_eq_true rfl) (Nat.le_of_ble_eq_true rfl) rfl, (Lib.hid (by simpa [EndW, upd] using HO.out))⟩
    · -- 2 call
      rintro L a wc ⟨ZA, cZ, hv, HO⟩ hL hc hd
      refine wpOp_call (R := fun v w1 => ∃ A c, v = .slice A (Mv.theEnd s).length c ∧ Ext wc w1 ∧ Rs RI w1 (.slice A (Mv.theEnd s).length c) (Mv.theEnd s)) rfl rfl (ex_call rfl rfl (map1c (hv.get 1 rfl rfl (hd 1 (by decide)))) (enters_of Tryd.func45 (by kernel_rfl) rfl _ _)) ((kEnd_any s hdl h24 _ wc (HS.out.ext HO.out.1).sh).mono (fun e w' h => by obtain ⟨z, rfl, hz, hx⟩ := h; obtain ⟨A, c, rfl, _⟩ := hz.form; exact ⟨_, rfl, A, c, rfl, hx, hz⟩)) ?_
      rintro v w' ⟨ZA2, cZ2, rfl, hx, hz⟩
      exact ⟨ZA2, cZ2, hv.put pl_end_apart 2 rfl (Nat.le_of_ble_eq_true rfl) (Nat.le_of_ble_eq_true rfl) rfl, (Lib.hid ⟨HO.out.1.trans hx, fun _ => hz⟩)⟩
    · -- 3 call
      rintro L a wc ⟨ZA, cZ, hv, HO⟩ hL hc hd
      refine wpOp_call (R := fun v w1 => v = .bool (Mv.right s (Mv.theEnd s) && Mv.safe (fun m => Cd.can s.d s.gl s.gs m) s (Mv.theEnd s)) ∧ Ext wc w1) rfl rfl (ex_call rfl rfl (map2c (hv.get 0 rfl rfl (hd 0 (by decide))) (hv.get 2 rfl rfl (hd 2 (by decide)))) (enters_of Tryd.func15 (by kernel_rfl) rfl _ _)) ((kSafe_any s (Mv.theEnd s) hgn _ _ wc (HS.out.ext HO.out.1).sh (HO.out.2 (hd 2 (by decide)))).mono (fun e w' h => ⟨_, h.1, rfl, h.2⟩)) ?_
      rintro v w' ⟨rfl, hx⟩
      exact ⟨ZA, cZ, hv.put pl_end_apart 3 rfl (Nat.le_of_ble_eq_true rfl) (Nat.le_of_ble_eq_true rfl) rfl, (Lib.hid ⟨HO.out.1.trans hx, fun _ => Rs.ext RI.ext _ _ _ _ hx (HO.out.2 (hd 2 (by decide)))⟩)⟩
    · -- 4 assign
      rintro L a wc ⟨ZA, cZ, hv, HO⟩ hL hc hd
      exact wpOp_val rfl rfl (ex_assign rfl (hv.get 3 rfl rfl (hd 3 (by decide)))) ⟨ZA, cZ, hv.put pl_end_apart 4 rfl (Nat.le_of_ble_eq_true rfl) (Nat.le_of_ble_eq_true rfl) rfl, (Lib.hid (by simpa [EndW, upd] using HO.out))⟩
  · rintro L a wc ⟨ZA, cZ, hv, HO⟩ hall
    show K a wc
    have ha := act_lit a
    rw [hv.size, hv.defers] at ha
    have hl : ∀ f : Nat → Value, ((List.range (⟨#[c0, c1, .pointer (some ⟨B, 0, none⟩), c3, c4, c5, c6, c7, c8, c9, c10, c11, c12, c13, c14, c15, c16, c17, c18, c19, c20, c21, c22, c23, c24, c25, c26, c27, c28, c29, c30, c31, c32, c33, c34, c35, c36, c37, c38, c39, c40, c41, c42, c43, c44], df⟩ : Act).tmps.size).map f).toArray = #[f 0, f 1, f 2, f 3, f 4, f 5, f 6, f 7, f 8, f 9, f 10, f 11, f 12, f 13, f 14, f 15, f 16, f 17, f 18, f 19, f 20, f 21, f 22, f 23, f 24, f 25, f 26, f 27, f 28, f 29, f 30, f 31, f 32, f 33, f 34, f 35, f 36, f 37, f 38, f 39, f 40, f 41, f 42, f 43, f 44] := fun _ => rfl
    rw [hl] at ha
    simp only [hv.fixed 0 (by decide), hv.fixed 1 (by decide), hv.fixed 2 (by decide), hv.fixed 3 (by decide), hv.fixed 4 (by decide), hv.fixed 5 (by decide), hv.fixed 6 (by decide), hv.fixed 7 (by decide), hv.fixed 8 (by decide), hv.fixed 10 (by decide), hv.fixed 11 (by decide), hv.fixed 12 (by decide), hv.fixed 13 (by decide), hv.fixed 14 (by decide), hv.fixed 15 (by decide), hv.fixed 16 (by decide), hv.fixed 17 (by decide), hv.fixed 18 (by decide), hv.fixed 19 (by decide), hv.fixed 20 (by decide), hv.fixed 21 (by decide), hv.fixed 22 (by decide), hv.fixed 23 (by decide), hv.fixed 24 (by decide), hv.fixed 25 (by decide), hv.fixed 26 (by decide), hv.fixed 27 (by decide), hv.fixed 28 (by decide), hv.fixed 29 (by decide), hv.fixed 30 (by decide), hv.fixed 35 (by decide), hv.fixed 36 (by decide), hv.fixed 37 (by decide), hv.fixed 38 (by decide), hv.fixed 39 (by decide), hv.fixed 40 (by decide), hv.fixed 41 (by decide), hv.fixed 42 (by decide), hv.fixed 43 (by decide), hv.fixed 44 (by decide), hv.get 4 (d := 9) rfl rfl (hall 4 (by decide))] at ha
    rw [ha]
    exact hK _ _ _ _ wc HO.out.1
/-- What Plan returns. -/
def PlannedOut (r : List Nat × Int) (w : World) (e : Ending) (w' : World) : Prop := ∃ A c, e = .returned (.agg #[.slice A r.1.length c, .int .i64 r.2]) ∧ Owns w w' [lrow A c r.1]
theorem PlannedOut.none {w w' : World} {c : Int} (h : Ext w w') : PlannedOut ([], c) w (.returned (.agg #[.slice Option.none 0 0, .int .i64 c])) w' := ⟨_, _, rfl, lrow_nil h⟩
theorem PlannedOut.some {w w' : World} {l : List Nat} {A : Option Addr} {c : Nat} {d : Int} (h : Owns w w' [lrow A c l]) : PlannedOut (l, d) w (.returned (.agg #[.slice A l.length c, .int .i64 d])) w' := ⟨A, c, rfl, h⟩
set_option maxHeartbeats 8000000 in
set_option maxRecDepth 100000 in
theorem kPlan_any (s : Mv.Sh) (ph : List Int) (hgn : s.gs.length ≤ 1000000) (v u : Value) (w : World) (hv : RSh w v s) (hu : Rs RI w u ph) :
    Calls Tryd.prog 19 #[v, u] w fun e w' => PlannedOut (Mv.planned (fun m => Cd.can s.d s.gl s.gs m) s ph) w e w' := by
  obtain ⟨DA, KA, HA, GA, RA, FA, TA, cD, cK, cH, cG, cR, cF, cT, rfl, hS⟩ := hv.open
  obtain ⟨PA, cP, rfl, hp64⟩ := hu.form
  have hx0 := (Ext.refl w).alloc (.cells #[.slice DA s.disks.length cD, .slice KA s.racks.length cK, .slice HA s.houses.length cH, .int .i64 s.owners, .int .i64 s.d, .slice GA s.gs.length cG, .int .i64 s.gl, .int .i64 s.floor, .slice RA s.room.length cR, .slice FA s.src.length cF, .slice TA s.dst.length cT] 30)
  have HX0 := Lib.hid hx0
  have hx1 := (Ext.refl (w.alloc (.cells #[.slice DA s.disks.length cD, .slice KA s.racks.length cK, .slice HA s.houses.length cH, .int .i64 s.owners, .int .i64 s.d, .slice GA s.gs.length cG, .int .i64 s.gl, .int .i64 s.floor, .slice RA s.room.length cR, .slice FA s.src.length cF, .slice TA s.dst.length cT] 30))).alloc (.cells #[.slice none 0 0, .int .i64 0] 41)
  have hO : Owns (w.alloc (.cells #[.slice DA s.disks.length cD, .slice KA s.racks.length cK, .slice HA s.houses.length cH, .int .i64 s.owners, .int .i64 s.d, .slice GA s.gs.length cG, .int .i64 s.gl, .int .i64 s.floor, .slice RA s.room.length cR, .slice FA s.src.length cF, .slice TA s.dst.length cT] 30)) ((w.alloc (.cells #[.slice DA s.disks.length cD, .slice KA s.racks.length cK, .slice HA s.houses.length cH, .int .i64 s.owners, .int .i64 s.d, .slice GA s.gs.length cG, .int .i64 s.gl, .int .i64 s.floor, .slice RA s.room.length cR, .slice FA s.src.length cF, .slice TA s.dst.length cT] 30)).alloc (.cells #[.slice none 0 0, .int .i64 0] 41)) [plannedRow (w.heap.size + 1) (.slice none 0 0) (.int .i64 0)] := by
    have h := (Owns.start (w.alloc (.cells #[.slice DA s.disks.length cD, .slice KA s.racks.length cK, .slice HA s.houses.length cH, .int .i64 s.owners, .int .i64 s.d, .slice GA s.gs.length cG, .int .i64 s.gl, .int .i64 s.floor, .slice RA s.room.length cR, .slice FA s.src.length cF, .slice TA s.dst.length cT] 30)) (L := [no]) (by intro r hr; simp [no] at hr; subst hr; simp)).new 0 #[.slice none 0 0, .int .i64 0] 41 (by simp [maxLen])
    simpa [plannedRow] using h
  have HO := Lib.hid hO
  have HS := Lib.hid ((hS.ext hx0).ext hx1)
  have HP := Lib.hid (Rs.ext RI.ext _ _ _ _ hx1 (Rs.ext RI.ext _ _ _ _ hx0 hu))
  have hB := (BoxAt.new w s DA KA HA GA RA FA TA cD cK cH cG cR cF cT).ext hx1
  have HB := Lib.hid hB
  have a0 := hB.b0
  have a1 := hB.b1
  have a2 := hB.b2
  have a3 := hB.b3
  have a4 := hB.b4
  have a5 := hB.b5
  have a6 := hB.b6
  have a7 := hB.b7
  have a8 := hB.b8
  have a9 := hB.b9
  have a10 := hB.b10
  clear hv hu hS hx0 hx1 hB hO
  go_enter Tryd.func19, Tryd.ntmps19
  go_wp2_with fail
  clear a0 a1 a2 a3 a4 a5 a6 a7 a8 a9 a10
  refine (kCheck_any s hgn _ _ HS.out.sh).mono ?_
  rintro e w1 ⟨rfl, hx1⟩
  have HX1 := Lib.hid hx1
  have HO1 := Lib.hid (HO.out.next hx1)
  clear hx1
  by_cases hc : Mv.check s = 0
  case neg =>
    have hp := Mv.planned_check (can := (fun m => Cd.can s.d s.gl s.gs m)) (ph := ph) hc
    have HPN := Lib.hid hp
    have e1 : (Mv.check s != 0) = true := by rw [bne_iff_ne]; exact hc
    clear hp hc
    have hc3 : w1.cell? ⟨w.heap.size + 1, 0, none⟩ = some (.slice none 0 0) := HO1.out.cell 0 rfl 0 rfl
    have hc4 : w1.cell? ⟨w.heap.size + 1, 1, none⟩ = some (.int .i64 0) := HO1.out.cell 0 rfl 1 rfl
    have hf3 : w1.frozen? ⟨w.heap.size + 1, 0, none⟩ = false := HO1.out.frozen 0 rfl 0
    have hf4 : w1.frozen? ⟨w.heap.size + 1, 1, none⟩ = false := HO1.out.frozen 0 rfl 1
    go_wp2_with fail
    have hO7 := (HO1.out.store 0 rfl 0 (.slice none 0 0)).store 0 rfl 1 (.int .i64 (Mv.check s))
    exact bodyPost_ret (v := .agg #[.slice none 0 0, .int .i64 (Mv.check s)]) (by simp [results, Tryd.results19, go_sem, hc3, hc4]) rfl (by rw [HPN.out]; exact PlannedOut.none (HX0.out.trans hO7.ext))
  case pos =>
  have HC := Lib.hid hc
  have HOK := Lib.hid (Mv.ok_of hc)
  rw [hc]
  clear hc
  have a0 := (HB.out.ext HX1.out).b0
  have a1 := (HB.out.ext HX1.out).b1
  have a2 := (HB.out.ext HX1.out).b2
  have a3 := (HB.out.ext HX1.out).b3
  have a4 := (HB.out.ext HX1.out).b4
  have a5 := (HB.out.ext HX1.out).b5
  have a6 := (HB.out.ext HX1.out).b6
  have a7 := (HB.out.ext HX1.out).b7
  have a8 := (HB.out.ext HX1.out).b8
  have a9 := (HB.out.ext HX1.out).b9
  have a10 := (HB.out.ext HX1.out).b10
  go_wp2_with fail
  clear a0 a1 a2 a3 a4 a5 a6 a7 a8 a9 a10
  refine (kRight_any s ph hgn _ _ w1 (HS.out.ext HX1.out).sh (Rs.ext RI.ext _ _ _ _ HX1.out HP.out)).mono ?_
  rintro e w2 ⟨rfl, hx2⟩
  have hx2' := HX1.out.trans hx2
  have HX2 := Lib.hid hx2'
  have HO2 := Lib.hid (HO1.out.next hx2)
  cases hrt : Mv.right s ph with
  | false =>
    have HPN := Lib.hid (Mv.planned_right (can := (fun m => Cd.can s.d s.gl s.gs m)) HC.out hrt)
    clear hrt hx2 hx2'
    have hc3 : w2.cell? ⟨w.heap.size + 1, 0, none⟩ = some (.slice none 0 0) := HO2.out.cell 0 rfl 0 rfl
    have hc4 : w2.cell? ⟨w.heap.size + 1, 1, none⟩ = some (.int .i64 0) := HO2.out.cell 0 rfl 1 rfl
    have hf3 : w2.frozen? ⟨w.heap.size + 1, 0, none⟩ = false := HO2.out.frozen 0 rfl 0
    have hf4 : w2.frozen? ⟨w.heap.size + 1, 1, none⟩ = false := HO2.out.frozen 0 rfl 1
    go_wp2_with fail
    have hO7 := (HO2.out.store 0 rfl 0 (.slice none 0 0)).store 0 rfl 1 (.int .i64 1)
    exact bodyPost_ret (v := .agg #[.slice none 0 0, .int .i64 1]) (by simp [results, Tryd.results19, go_sem, hc3, hc4]) rfl (by rw [HPN.out]; exact PlannedOut.none (HX0.out.trans hO7.ext))
  | true =>
  have HRT := Lib.hid hrt
  have a0 := (HB.out.ext hx2').b0
  have a1 := (HB.out.ext hx2').b1
  have a2 := (HB.out.ext hx2').b2
  have a3 := (HB.out.ext hx2').b3
  have a4 := (HB.out.ext hx2').b4
  have a5 := (HB.out.ext hx2').b5
  have a6 := (HB.out.ext hx2').b6
  have a7 := (HB.out.ext hx2').b7
  have a8 := (HB.out.ext hx2').b8
  have a9 := (HB.out.ext hx2').b9
  have a10 := (HB.out.ext hx2').b10
  clear hrt hx2 hx2'
  go_wp2_with fail
  clear a0 a1 a2 a3 a4 a5 a6 a7 a8 a9 a10
  refine (kFits_any s ph hgn _ _ w2 (HS.out.ext HX2.out).sh (Rs.ext RI.ext _ _ _ _ HX2.out HP.out)).mono ?_
  rintro e w3 ⟨rfl, hx3⟩
  rw [HRT.out, Bool.true_and]
  have hx3' := HX2.out.trans hx3
  have HX3 := Lib.hid hx3'
  have HO3 := Lib.hid (HO2.out.next hx3)
  cases hft : Mv.fits s ph with
  | false =>
    have HPN := Lib.hid (Mv.planned_fits (can := (fun m => Cd.can s.d s.gl s.gs m)) HC.out HRT.out hft)
    clear hft hx3 hx3'
    have hc3 : w3.cell? ⟨w.heap.size + 1, 0, none⟩ = some (.slice none 0 0) := HO3.out.cell 0 rfl 0 rfl
    have hc4 : w3.cell? ⟨w.heap.size + 1, 1, none⟩ = some (.int .i64 0) := HO3.out.cell 0 rfl 1 rfl
    have hf3 : w3.frozen? ⟨w.heap.size + 1, 0, none⟩ = false := HO3.out.frozen 0 rfl 0
    have hf4 : w3.frozen? ⟨w.heap.size + 1, 1, none⟩ = false := HO3.out.frozen 0 rfl 1
    go_wp2_with fail
    have hO7 := (HO3.out.store 0 rfl 0 (.slice none 0 0)).store 0 rfl 1 (.int .i64 13)
    exact bodyPost_ret (v := .agg #[.slice none 0 0, .int .i64 13]) (by simp [results, Tryd.results19, go_sem, hc3, hc4]) rfl (by rw [HPN.out]; exact PlannedOut.none (HX0.out.trans hO7.ext))
  | true =>
  have HFT := Lib.hid hft
  have a0 := (HB.out.ext hx3').b0
  have a1 := (HB.out.ext hx3').b1
  have a2 := (HB.out.ext hx3').b2
  have a3 := (HB.out.ext hx3').b3
  have a4 := (HB.out.ext hx3').b4
  have a5 := (HB.out.ext hx3').b5
  have a6 := (HB.out.ext hx3').b6
  have a7 := (HB.out.ext hx3').b7
  have a8 := (HB.out.ext hx3').b8
  have a9 := (HB.out.ext hx3').b9
  have a10 := (HB.out.ext hx3').b10
  clear hft hx3 hx3'
  go_wp2_with fail
  clear a0 a1 a2 a3 a4 a5 a6 a7 a8 a9 a10
  refine (kSafe_any s ph hgn _ _ w3 (HS.out.ext HX3.out).sh (Rs.ext RI.ext _ _ _ _ HX3.out HP.out)).mono ?_
  rintro e w4 ⟨rfl, hx4⟩
  rw [HRT.out, Bool.true_and]
  have hx4' := HX3.out.trans hx4
  have HX4 := Lib.hid hx4'
  have HO4 := Lib.hid (HO3.out.next hx4)
  clear hx4 hx4'
  go_wp2_with fail
  refine wp_atEnd' (pl_end w4 w.heap.size s DA KA HA GA RA FA TA cD cK cH cG cR cF cT hgn HOK.out.dstLen HOK.out.few (HB.out.ext HX4.out) (Lib.hid (HS.out.ext HX4.out)) _ _ _ _ _ _ _ _ _ _ _ _ _ _ _ _ _ _ _ _ _ _ _ _ _ _ _ _ _ _ _ _ _ _ _ _ _ _ _ _ _ _ _ _ _ _ ?_)
  intro u31 u32 u33 u34 w5 hx5
  rw [Mv.right_end HC.out, Bool.true_and]
  have hx5' := HX4.out.trans hx5
  have HX5 := Lib.hid hx5'
  have HO5 := Lib.hid (HO4.out.next hx5)
  obtain ⟨s1, hs1⟩ : ∃ s1, Mv.safe (fun m => Cd.can s.d s.gl s.gs m) s ph = s1 := ⟨_, rfl⟩
  obtain ⟨s2, hs2⟩ : ∃ s2, Mv.safe (fun m => Cd.can s.d s.gl s.gs m) s (Mv.theEnd s) = s2 := ⟨_, rfl⟩
  rw [hs1, hs2]
  have HS1 := Lib.hid hs1
  have HS2 := Lib.hid hs2
  clear hs1 hs2
  cases s1 with
  | false =>
    have HPN := Lib.hid (Mv.planned_safe (can := (fun m => Cd.can s.d s.gl s.gs m)) HC.out HRT.out HFT.out (.inl HS1.out))
    clear hx5 hx5'
    have hc3 : w5.cell? ⟨w.heap.size + 1, 0, none⟩ = some (.slice none 0 0) := HO5.out.cell 0 rfl 0 rfl
    have hc4 : w5.cell? ⟨w.heap.size + 1, 1, none⟩ = some (.int .i64 0) := HO5.out.cell 0 rfl 1 rfl
    have hf3 : w5.frozen? ⟨w.heap.size + 1, 0, none⟩ = false := HO5.out.frozen 0 rfl 0
    have hf4 : w5.frozen? ⟨w.heap.size + 1, 1, none⟩ = false := HO5.out.frozen 0 rfl 1
    go_wp2_with fail
    have hO7 := (HO5.out.store 0 rfl 0 (.slice none 0 0)).store 0 rfl 1 (.int .i64 20)
    exact bodyPost_ret (v := .agg #[.slice none 0 0, .int .i64 20]) (by simp [results, Tryd.results19, go_sem, hc3, hc4]) rfl (by rw [HPN.out]; exact PlannedOut.none (HX0.out.trans hO7.ext))
  | true =>
  cases s2 with
  | false =>
    have HPN := Lib.hid (Mv.planned_safe (can := (fun m => Cd.can s.d s.gl s.gs m)) HC.out HRT.out HFT.out (.inr HS2.out))
    clear hx5 hx5'
    have hc3 : w5.cell? ⟨w.heap.size + 1, 0, none⟩ = some (.slice none 0 0) := HO5.out.cell 0 rfl 0 rfl
    have hc4 : w5.cell? ⟨w.heap.size + 1, 1, none⟩ = some (.int .i64 0) := HO5.out.cell 0 rfl 1 rfl
    have hf3 : w5.frozen? ⟨w.heap.size + 1, 0, none⟩ = false := HO5.out.frozen 0 rfl 0
    have hf4 : w5.frozen? ⟨w.heap.size + 1, 1, none⟩ = false := HO5.out.frozen 0 rfl 1
    go_wp2_with fail
    have hO7 := (HO5.out.store 0 rfl 0 (.slice none 0 0)).store 0 rfl 1 (.int .i64 20)
    exact bodyPost_ret (v := .agg #[.slice none 0 0, .int .i64 20]) (by simp [results, Tryd.results19, go_sem, hc3, hc4]) rfl (by rw [HPN.out]; exact PlannedOut.none (HX0.out.trans hO7.ext))
  | true =>
  have a0 := (HB.out.ext hx5').b0
  have a1 := (HB.out.ext hx5').b1
  have a2 := (HB.out.ext hx5').b2
  have a3 := (HB.out.ext hx5').b3
  have a4 := (HB.out.ext hx5').b4
  have a5 := (HB.out.ext hx5').b5
  have a6 := (HB.out.ext hx5').b6
  have a7 := (HB.out.ext hx5').b7
  have a8 := (HB.out.ext hx5').b8
  have a9 := (HB.out.ext hx5').b9
  have a10 := (HB.out.ext hx5').b10
  clear hx5 hx5'
  go_wp2_with fail
  clear a0 a1 a2 a3 a4 a5 a6 a7 a8 a9 a10
  refine (kSearch_any s hgn _ ph _ _ w5 rfl HRT.out (HS.out.ext HX5.out).sh (Rs.ext RI.ext _ _ _ _ HX5.out HP.out)).mono ?_
  rintro e w6 ⟨YA, cY, rfl, hz6⟩
  have hO6 := HO5.out.behind hz6.ext (hz6.row 0 rfl)
  have HO6 := Lib.hid hO6
  obtain ⟨op, hop⟩ : ∃ op, Mv.plan (Mv.fine (fun m => Cd.can s.d s.gl s.gs m) s) (Mv.theEnd s) ph = op := ⟨_, rfl⟩
  rw [hop] at HO6 ⊢
  clear hz6 hO6
  cases op with
  | none =>
    have HPN := Lib.hid (Mv.planned_none HC.out HRT.out HFT.out HS1.out HS2.out hop)
    clear hop
    have hc3 : w6.cell? ⟨w.heap.size + 1, 0, none⟩ = some (.slice none 0 0) := HO6.out.cell 0 rfl 0 rfl
    have hc4 : w6.cell? ⟨w.heap.size + 1, 1, none⟩ = some (.int .i64 0) := HO6.out.cell 0 rfl 1 rfl
    have hf3 : w6.frozen? ⟨w.heap.size + 1, 0, none⟩ = false := HO6.out.frozen 0 rfl 0
    have hf4 : w6.frozen? ⟨w.heap.size + 1, 1, none⟩ = false := HO6.out.frozen 0 rfl 1
    go_wp2_with fail
    have hO7 := (HO6.out.store 0 rfl 0 (.slice YA 0 cY)).store 0 rfl 1 (.int .i64 8)
    exact bodyPost_ret (v := .agg #[.slice YA 0 cY, .int .i64 8]) (by simp [results, Tryd.results19, go_sem, hc3, hc4]) rfl (by rw [HPN.out]; exact PlannedOut.some (l := []) ((hO7.sublist (List.sublist_cons_self _ _)).elder HX0.out))
  | some l =>
    have HPN := Lib.hid (Mv.planned_some HC.out HRT.out HFT.out HS1.out HS2.out hop)
    clear hop
    have hc3 : w6.cell? ⟨w.heap.size + 1, 0, none⟩ = some (.slice none 0 0) := HO6.out.cell 0 rfl 0 rfl
    have hc4 : w6.cell? ⟨w.heap.size + 1, 1, none⟩ = some (.int .i64 0) := HO6.out.cell 0 rfl 1 rfl
    have hf3 : w6.frozen? ⟨w.heap.size + 1, 0, none⟩ = false := HO6.out.frozen 0 rfl 0
    have hf4 : w6.frozen? ⟨w.heap.size + 1, 1, none⟩ = false := HO6.out.frozen 0 rfl 1
    go_wp2_with fail
    have hO7 := (HO6.out.store 0 rfl 0 (.slice YA l.length cY)).store 0 rfl 1 (.int .i64 0)
    exact bodyPost_ret (v := .agg #[.slice YA l.length cY, .int .i64 0]) (by simp [results, Tryd.results19, go_sem, hc3, hc4]) rfl (by rw [HPN.out]; exact PlannedOut.some ((hO7.sublist (List.sublist_cons_self _ _)).elder HX0.out))
end Go.Proofs.YtkbiffbmjgmcaaaDoor

/- MOVES, as specified: Check, Left, Safe, Fits. -/
namespace Mv
theorem few_gs {s : Sh} {R M : Nat} (h : few s R M) : s.gs.length ≤ 1000000 := by
  have h1 := h.1
  rw [Cd.few, Bool.and_eq_true, decide_eq_true_eq] at h1
  omega
end Mv
namespace Go.Proofs.YtkbiffbmjgmcaaaDoor
open Go.RowKit
end Go.Proofs.YtkbiffbmjgmcaaaDoor

/- MOVES, as specified: Plan. -/
namespace Mv
/-- What Plan returns is short, and has places of pieces. -/
theorem planned_small (can : Nat → Bool) (s : Sh) (ph : List Int) : (planned can s ph).1.length ≤ 48 ∧ ∀ x ∈ (planned can s ph).1, x < 24 := by
  by_cases h : (planned can s ph).2 = 0
  · obtain ⟨h1, h2, _, _, _, h6⟩ := planned_zero h
    have k := ok_of h1
    obtain ⟨a, b⟩ := plan_small _ ph (right_under h2) h6
    refine ⟨by rw [a]; exact rest_le h2, fun x hx => ?_⟩
    have c := b x hx
    have := k.few
    rw [theEnd_len] at c
    omega
  · have : (planned can s ph).1 = [] := by
      by_cases h1 : check s = 0
      · cases h2 : right s ph with
        | false => rw [planned_right h1 h2]
        | true =>
          cases h3 : fits s ph with
          | false => rw [planned_fits h1 h2 h3]
          | true =>
            cases h4 : safe can s ph with
            | false => rw [planned_safe h1 h2 h3 (.inl h4)]
            | true =>
              cases h5 : safe can s (theEnd s) with
              | false => rw [planned_safe h1 h2 h3 (.inr h5)]
              | true =>
                cases h6 : plan (fine can s) (theEnd s) ph with
                | none => rw [planned_none h1 h2 h3 h4 h5 h6]
                | some l => exact absurd (by rw [planned_some h1 h2 h3 h4 h5 h6]) h
      · rw [planned_check h1]
    rw [this]
    simp
end Mv
namespace Go.Proofs.YtkbiffbmjgmcaaaDoor
open Go.RowKit
theorem lrow_rd {w0 w : World} {A : Option Addr} {c : Nat} {l : List Nat} (h : Owns w0 w [lrow A c l]) (hl : l.length ≤ 1000) (hb : ∀ x ∈ l, x ≤ 1000) : Rs RI w (.slice A l.length c) (Mv.ints l) :=
  Rs.small (h.rd 0 rfl) (Mv.ints_len l).symm (by rw [Mv.ints_len]; omega) fun x hx => by
    obtain ⟨y, hy, rfl⟩ := List.mem_map.1 hx
    have := hb y hy
    omega
set_option maxHeartbeats 8000000 in
set_option maxRecDepth 100000 in
theorem law_plan (s : Mv.Sh) (ph : List Int) (v u : Value) (w : World) (hT : Tab w) (hv : RSh w v s) (hu : Rs RI w u ph) :
    Calls Tryd.prog 4 #[v, u] w fun e w' => e = .returned (.bool true) ∧ Ext w w' := by
  obtain ⟨DA, KA, HA, GA, RA, FA, TA, cD, cK, cH, cG, cR, cF, cT, rfl, hS⟩ := hv.open
  obtain ⟨PA, cP, rfl, hp64⟩ := hu.form
  have hx0 := (Ext.refl w).alloc (.cells #[.slice DA s.disks.length cD, .slice KA s.racks.length cK, .slice HA s.houses.length cH, .int .i64 s.owners, .int .i64 s.d, .slice GA s.gs.length cG, .int .i64 s.gl, .int .i64 s.floor, .slice RA s.room.length cR, .slice FA s.src.length cF, .slice TA s.dst.length cT] 30)
  have HX0 := Lib.hid hx0
  have HT := Lib.hid (hT.ext hx0)
  have HS := Lib.hid (hS.ext hx0)
  have HP := Lib.hid (Rs.ext RI.ext _ _ _ _ hx0 hu)
  have hB := BoxAt.new w s DA KA HA GA RA FA TA cD cK cH cG cR cF cT
  have HB := Lib.hid hB
  have a0 := hB.b0
  have a1 := hB.b1
  have a2 := hB.b2
  have a3 := hB.b3
  have a4 := hB.b4
  have a5 := hB.b5
  have a6 := hB.b6
  have a7 := hB.b7
  have a8 := hB.b8
  have a9 := hB.b9
  have a10 := hB.b10
  clear hT hv hu hS hx0 hB
  go_enter Tryd.func4, Tryd.ntmps4
  go_wp2_with fail
  clear a0 a1 a2 a3 a4 a5 a6 a7 a8 a9 a10
  refine (kFew_any s 7 3 _ _ HS.out.sh).mono ?_
  rintro e w1 ⟨rfl, hx1⟩
  have HX1 := Lib.hid hx1
  clear hx1
  by_cases hf : Mv.few s 7 3
  case neg =>
    rw [decide_eq_false hf]
    clear hf
    go_wp2_with fail
    refine (sanity_any w1 (HT.out.ext HX1.out)).mono ?_
    rintro e w2 ⟨rfl, hx2⟩
    have HX2 := Lib.hid (HX1.out.trans hx2)
    clear hx2
    go_wp2_with fail
    go_ret
    exact ⟨rfl, HX0.out.trans HX2.out⟩
  case pos =>
  rw [decide_eq_true hf]
  have HF := Lib.hid hf
  clear hf
  by_cases h30 : 30 < ph.length
  · skip
    go_wp2_with fail
    refine (sanity_any w1 (HT.out.ext HX1.out)).mono ?_
    rintro e w2 ⟨rfl, hx2⟩
    have HX2 := Lib.hid (HX1.out.trans hx2)
    clear hx2
    go_wp2_with fail
    go_ret
    exact ⟨rfl, HX0.out.trans HX2.out⟩
  have hsm := Mv.planned_small (fun m => Cd.can s.d s.gl s.gs m) s ph
  obtain ⟨r, hr⟩ : ∃ r, Mv.planned (fun m => Cd.can s.d s.gl s.gs m) s ph = r := ⟨_, rfl⟩
  have hm := mPlan_any s ph _ _ w1 (HT.out.ext HX1.out) (HS.out.ext HX1.out).sh (Rs.ext RI.ext _ _ _ _ HX1.out HP.out)
  have hk := fun w2 (hx : Ext w1 w2) => kPlan_any s ph (Mv.few_gs HF.out) _ _ w2 (HS.out.ext (HX1.out.trans hx)).sh (Rs.ext RI.ext _ _ _ _ (HX1.out.trans hx) HP.out)
  rw [hr] at hsm hm
  simp only [hr] at hk
  obtain ⟨l, E⟩ := r
  obtain ⟨hl48, hx24⟩ := hsm
  dsimp only at hl48 hx24
  have HX24 := Lib.hid hx24
  have HM := Lib.hid hm
  have HK := Lib.hid hk
  have a0 := (HB.out.ext HX1.out).b0
  have a1 := (HB.out.ext HX1.out).b1
  have a2 := (HB.out.ext HX1.out).b2
  have a3 := (HB.out.ext HX1.out).b3
  have a4 := (HB.out.ext HX1.out).b4
  have a5 := (HB.out.ext HX1.out).b5
  have a6 := (HB.out.ext HX1.out).b6
  have a7 := (HB.out.ext HX1.out).b7
  have a8 := (HB.out.ext HX1.out).b8
  have a9 := (HB.out.ext HX1.out).b9
  have a10 := (HB.out.ext HX1.out).b10
  clear hr hm hk hx24
  go_wp2_with fail
  clear a0 a1 a2 a3 a4 a5 a6 a7 a8 a9 a10
  refine HM.out.mono ?_
  rintro e w2 ⟨LA, cL, rfl, hO⟩
  have HL := Lib.hid (lrow_rd hO (Nat.le_trans hl48 (by decide)) (fun x hx => by have := HX24.out x hx; omega))
  have HX2 := Lib.hid hO.ext
  clear hO
  dsimp only
  have a0 := (HB.out.ext (HX1.out.trans HX2.out)).b0
  have a1 := (HB.out.ext (HX1.out.trans HX2.out)).b1
  have a2 := (HB.out.ext (HX1.out.trans HX2.out)).b2
  have a3 := (HB.out.ext (HX1.out.trans HX2.out)).b3
  have a4 := (HB.out.ext (HX1.out.trans HX2.out)).b4
  have a5 := (HB.out.ext (HX1.out.trans HX2.out)).b5
  have a6 := (HB.out.ext (HX1.out.trans HX2.out)).b6
  have a7 := (HB.out.ext (HX1.out.trans HX2.out)).b7
  have a8 := (HB.out.ext (HX1.out.trans HX2.out)).b8
  have a9 := (HB.out.ext (HX1.out.trans HX2.out)).b9
  have a10 := (HB.out.ext (HX1.out.trans HX2.out)).b10
  go_wp2_with fail
  clear a0 a1 a2 a3 a4 a5 a6 a7 a8 a9 a10
  refine (HK.out w2 HX2.out).mono ?_
  rintro e w3 ⟨LB, cM, rfl, hO⟩
  dsimp only
  have hx4 := hO.ext.trans ((Ext.refl w3).alloc (.cells #[.slice LB l.length cM, .int .i64 E] 41))
  have HR := Lib.hid (Rs.ext RI.ext _ _ _ _ ((Ext.refl w3).alloc (.cells #[.slice LB l.length cM, .int .i64 E] 41)) (lrow_rd hO (Nat.le_trans hl48 (by decide)) (fun x hx => by have := HX24.out x hx; omega)))
  have HL4 := Lib.hid (Rs.ext RI.ext _ _ _ _ hx4 HL.out)
  have HX4 := Lib.hid (HX1.out.trans (HX2.out.trans hx4))
  have HC := Lib.hid (And.intro (cells_new w3 #[.slice LB l.length cM, .int .i64 E] 41 0 _ rfl) (cells_new w3 #[.slice LB l.length cM, .int .i64 E] 41 1 _ rfl))
  clear hO hx4
  obtain ⟨g8, hg8⟩ : ∃ g8, w3.heap.size = g8 := ⟨_, rfl⟩
  rw [hg8] at HC
  go_upto_region 6 with fail
  obtain ⟨w4, hw4⟩ : ∃ w4, w3.alloc (.cells #[.slice LB l.length cM, .int .i64 E] 41) = w4 := ⟨_, rfl⟩
  rw [hw4] at HR HL4 HX4 HC ⊢
  clear hw4 hg8
  go_wp2_with fail
  refine (sanity_any w4 (HT.out.ext HX4.out)).mono ?_
  rintro e w5 ⟨rfl, hx5⟩
  have q0 := hx5.cell HC.out.1
  have q1 := hx5.cell HC.out.2
  have HR5 := Lib.hid (Rs.ext RI.ext _ _ _ _ hx5 HR.out)
  have HL5 := Lib.hid (Rs.ext RI.ext _ _ _ _ hx5 HL4.out)
  have HX5 := Lib.hid (HX4.out.trans hx5)
  clear hx5
  go_wp2_with fail
  refine (kSame_any (Mv.ints l) (Mv.ints l) _ _ w5 HL5.out HR5.out).mono ?_
  rintro e w6 ⟨rfl, hx6⟩
  rw [decide_eq_true rfl]
  have HX6 := Lib.hid (HX5.out.trans hx6)
  clear hx6 q0 q1
  go_wp2_with fail
  go_ret
  exact ⟨rfl, HX0.out.trans HX6.out⟩
end Go.Proofs.YtkbiffbmjgmcaaaDoor
