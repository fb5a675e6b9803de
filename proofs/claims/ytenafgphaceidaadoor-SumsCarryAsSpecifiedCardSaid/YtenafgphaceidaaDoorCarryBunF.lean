/- What the program's functions do, step by step: part F of the texts for this claim; no condition beyond what each theorem states. -/
import Derived.Deep.Matrix
import Derived.Lib.SmallJoins
import Derived.Deep.Slices
import Derived.Test.YtenafgphaceidaaDoorCarryBunA
import Derived.Test.YtenafgphaceidaaDoorCarryBunB
import Derived.Test.YtenafgphaceidaaDoorCarryBunC
import Derived.Test.YtenafgphaceidaaDoorCarryBunD
import Derived.Test.YtenafgphaceidaaDoorCarryBunE
/- THE WALK over Cost of the specification of layer 19. -/
namespace Go.Proofs.YtenafgphaceidaaDoor
open Go.RowKit
noncomputable def qcost_add_code : Code := ((Tryd.f11.body.bind (regionOf 11)).getD .skip)
def qcost_add_dsts : List (Option Nat) := [some 27, some 28, some 29, some 30, some 31, some 32, some 33, some 34, some 35, some 36, some 37, some 38, some 39, some 40, some 41, some 42, some 43, some 44, some 7]
theorem qcost_add_apart : apartD qcost_add_dsts = true := by decide +kernel
set_option maxRecDepth 1000000 in
set_option maxHeartbeats 16000000 in
theorem qcost_add (wr : World) (B n cA cc aa bb k ln cl : Nat) (ad ad1 ad2 : Addr) (sm pp : Int) (hkl : k < ln) (han : aa < n) (hbn : bb < n) (hs : 0 ≤ sm ∧ sm ≤ 100000000000) (hp : 0 ≤ pp ∧ pp ≤ 100000000000) (b0 : wr.cell? ⟨B, 0, none⟩ = some (.slice (some ad1) n cA)) (x0 : wr.cell? (ad.add (k * 2)) = some (.int .i64 (aa : Int))) (x1 : wr.cell? ⟨(ad.add (k * 2)).block, (ad.add (k * 2)).off + 1, none⟩ = some (.int .i64 (bb : Int))) (g1 : wr.cell? (ad1.add aa) = some (.slice (some ad2) n cc)) (g2 : wr.cell? (ad2.add bb) = some (.int .i64 pp)) (c0 c3 c4 c5 c6 c9 c10 c11 c12 c13 c14 c15 c16 c17 c18 c19 c20 c21 c22 c23 c24 c25 c26 c27 c28 c29 c30 c31 c32 c33 c34 c35 c36 c37 c38 c39 c40 c41 c42 c43 c44 c45 c46 : Value) (df : List Deferred) (K : Act → World → Prop)
    (hK : ∀  (u27 u28 u29 u30 u31 u32 u33 u34 u35 u36 u37 u38 u39 u40 u41 u42 u43 u44 : Value) (wx : World), Ext wr wx → K ⟨#[c0, .slice (some ad) ln cl, .pointer (some ⟨B, 0, none⟩), c3, c4, c5, c6, .int .i64 (sm + pp), .int .i64 (k : Nat), c9, c10, c11, c12, c13, c14, c15, c16, c17, c18, c19, c20, c21, c22, c23, c24, c25, c26, u27, u28, u29, u30, u31, u32, u33, u34, u35, u36, u37, u38, u39, u40, u41, u42, u43, u44, c45, c46], df⟩ wx) :
    Code.wp Tryd.prog qcost_add_code (AtEnd K) ⟨#[c0, .slice (some ad) ln cl, .pointer (some ⟨B, 0, none⟩), c3, c4, c5, c6, .int .i64 sm, .int .i64 (k : Nat), c9, c10, c11, c12, c13, c14, c15, c16, c17, c18, c19, c20, c21, c22, c23, c24, c25, c26, c27, c28, c29, c30, c31, c32, c33, c34, c35, c36, c37, c38, c39, c40, c41, c42, c43, c44, c45, c46], df⟩ wr := by
  conv => arg 2; whnf
  refine region_inv (by kernel_rfl) [[], [], [1], [], [], [3, 4], [5], [6], [2, 7], [8], [], [], [10, 11], [12], [13], [9, 14], [15], [0, 16], [17, 0, 1, 2, 3, 4, 5, 6, 7, 8, 9, 10, 11, 12, 13, 14, 15, 16, 17]] (by kernel_rfl) [0, 1, 2, 3, 4, 5, 6, 7, 8, 9, 10, 11, 12, 13, 14, 15, 16, 17, 18] (by decide +kernel) (by decide +kernel) (by decide +kernel) (fun L a wc => InvO qcost_add_dsts [.int .i64 sm, .pointer (some ⟨B, 0, none⟩), .slice (some ad1) n cA, .slice (some ad) ln cl, .int .i64 (k : Nat), .pointer (some (ad.add (k * 2))), .pointer (some (ad.add (k * 2))), .int .i64 (aa : Int), .pointer (some (ad1.add aa)), .slice (some ad2) n cc, .slice (some ad) ln cl, .int .i64 (k : Nat), .pointer (some (ad.add (k * 2))), .pointer (some ⟨(ad.add (k * 2)).block, (ad.add (k * 2)).off + 1, none⟩), .int .i64 (bb : Int), .pointer (some (ad2.add bb)), .int .i64 pp, .int .i64 (sm + pp), .int .i64 (sm + pp)] ⟨#[c0, .slice (some ad) ln cl, .pointer (some ⟨B, 0, none⟩), c3, c4, c5, c6, .int .i64 sm, .int .i64 (k : Nat), c9, c10, c11, c12, c13, c14, c15, c16, c17, c18, c19, c20, c21, c22, c23, c24, c25, c26, c27, c28, c29, c30, c31, c32, c33, c34, c35, c36, c37, c38, c39, c40, c41, c42, c43, c44, c45, c46], df⟩ L a ∧ Hid (Ext wr wc)) ⟨InvO.start, Lib.hid ((Ext.refl wr).drew)⟩ ?_ ?_
  · refine ⟨?_, ?_, ?_, ?_, ?_, ?_, ?_, ?_, ?_, ?_, ?_, ?_, ?_, ?_, ?_, ?_, ?_, ?_, ?_, trivial⟩
    · -- 0 move
      rintro L a wc ⟨hv, HO⟩ hL hc hd
      exact wpOp_val rfl rfl (ex_move rfl ((hv.old 18 7 rfl (Bool.eq_false_iff.2 fun h => Bool.false_ne_true (hL.symm.trans (hc 18 h 0 (by decide))))).trans rfl)) ⟨hv.put qcost_add_apart 0 rfl (Nat.le_of_ble_eq_true rfl) (Nat.le_of_ble_eq_true rfl) rfl, HO⟩
    · -- 1 field
      rintro L a wc ⟨hv, HO⟩ hL hc hd
      exact wpOp_val rfl rfl (ex_field rfl ((hv.fixed 2 (by decide)).trans rfl) (by go_simp)) ⟨hv.put qcost_add_apart 1 rfl (Nat.le_of_ble_eq_true rfl) (Nat.le_of_ble_eq_true rfl) rfl, HO⟩
    · -- 2 load
      rintro L a wc ⟨hv, HO⟩ hL hc hd
      have h0 : wc.cell? ⟨B, 0, none⟩ = some (.slice (some ad1) n cA) := HO.out.cell b0
      exact wpOp_val rfl rfl (ex_load rfl (hv.get 1 rfl rfl (hd 1 (by decide))) (by go_simp)) ⟨hv.put qcost_add_apart 2 rfl (Nat.le_of_ble_eq_true rfl) (Nat.le_of_ble_eq_true rfl) rfl, HO⟩
    · -- 3 move
      rintro L a wc ⟨hv, HO⟩ hL hc hd
      exact wpOp_val rfl rfl (ex_move rfl ((hv.fixed 1 (by decide)).trans rfl)) ⟨hv.put qcost_add_apart 3 rfl (Nat.le_of_ble_eq_true rfl) (Nat.le_of_ble_eq_true rfl) rfl, HO⟩
    · -- 4 move
      rintro L a wc ⟨hv, HO⟩ hL hc hd
      exact wpOp_val rfl rfl (ex_move rfl ((hv.fixed 8 (by decide)).trans rfl)) ⟨hv.put qcost_add_apart 4 rfl (Nat.le_of_ble_eq_true rfl) (Nat.le_of_ble_eq_true rfl) rfl, HO⟩
    · -- 5 index
      rintro L a wc ⟨hv, HO⟩ hL hc hd
      have b1 : (0 : Int) ≤ (k : Int) := by omega
      have b2 : (k : Int) < (ln : Int) := by omega
      exact wpOp_val rfl rfl (ex_index rfl (hv.get 3 rfl rfl (hd 3 (by decide))) (hv.get 4 rfl rfl (hd 4 (by decide))) (by go_simp)) ⟨hv.put qcost_add_apart 5 rfl (Nat.le_of_ble_eq_true rfl) (Nat.le_of_ble_eq_true rfl) rfl, HO⟩
    · -- 6 field
      rintro L a wc ⟨hv, HO⟩ hL hc hd
      exact wpOp_val rfl rfl (ex_field rfl (hv.get 5 rfl rfl (hd 5 (by decide))) (by go_simp)) ⟨hv.put qcost_add_apart 6 rfl (Nat.le_of_ble_eq_true rfl) (Nat.le_of_ble_eq_true rfl) rfl, HO⟩
    · -- 7 load
      rintro L a wc ⟨hv, HO⟩ hL hc hd
      have h1 : wc.cell? (ad.add (k * 2)) = some (.int .i64 (aa : Int)) := HO.out.cell x0
      exact wpOp_val rfl rfl (ex_load rfl (hv.get 6 rfl rfl (hd 6 (by decide))) (by go_simp)) ⟨hv.put qcost_add_apart 7 rfl (Nat.le_of_ble_eq_true rfl) (Nat.le_of_ble_eq_true rfl) rfl, HO⟩
    · -- 8 index
      rintro L a wc ⟨hv, HO⟩ hL hc hd
      have b1 : (0 : Int) ≤ (aa : Int) := by omega
      have b2 : (aa : Int) < (n : Int) := by omega
      exact wpOp_val rfl rfl (ex_index rfl (hv.get 2 rfl rfl (hd 2 (by decide))) (hv.get 7 rfl rfl (hd 7 (by decide))) (by go_simp)) ⟨hv.put qcost_add_apart 8 rfl (Nat.le_of_ble_eq_true rfl) (Nat.le_of_ble_eq_true rfl) rfl, HO⟩
    · -- 9 load
      rintro L a wc ⟨hv, HO⟩ hL hc hd
      have h1 : wc.cell? (ad1.add aa) = some (.slice (some ad2) n cc) := HO.out.cell g1
      exact wpOp_val rfl rfl (ex_load rfl (hv.get 8 rfl rfl (hd 8 (by decide))) (by go_simp)) ⟨hv.put qcost_add_apart 9 rfl (Nat.le_of_ble_eq_true rfl) (Nat.le_of_ble_eq_true rfl) rfl, HO⟩
    · -- 10 move
      rintro L a wc ⟨hv, HO⟩ hL hc hd
      exact wpOp_val rfl rfl (ex_move rfl ((hv.fixed 1 (by decide)).trans rfl)) ⟨hv.put qcost_add_apart 10 rfl (Nat.le_of_ble_eq_true rfl) (Nat.le_of_ble_eq_true rfl) rfl, HO⟩
    · -- 11 move
      rintro L a wc ⟨hv, HO⟩ hL hc hd
      exact wpOp_val rfl rfl (ex_move rfl ((hv.fixed 8 (by decide)).trans rfl)) ⟨hv.put qcost_add_apart 11 rfl (Nat.le_of_ble_eq_true rfl) (Nat.le_of_ble_eq_true rfl) rfl, HO⟩
    · -- 12 index
      rintro L a wc ⟨hv, HO⟩ hL hc hd
      have b1 : (0 : Int) ≤ (k : Int) := by omega
      have b2 : (k : Int) < (ln : Int) := by omega
      exact wpOp_val rfl rfl (ex_index rfl (hv.get 10 rfl rfl (hd 10 (by decide))) (hv.get 11 rfl rfl (hd 11 (by decide))) (by go_simp)) ⟨hv.put qcost_add_apart 12 rfl (Nat.le_of_ble_eq_true rfl) (Nat.le_of_ble_eq_true rfl) rfl, HO⟩
    · -- 13 field
      rintro L a wc ⟨hv, HO⟩ hL hc hd
      exact wpOp_val rfl rfl (ex_field rfl (hv.get 12 rfl rfl (hd 12 (by decide))) (by go_simp)) ⟨hv.put qcost_add_apart 13 rfl (Nat.le_of_ble_eq_true rfl) (Nat.le_of_ble_eq_true rfl) rfl, HO⟩
    · -- 14 load
      rintro L a wc ⟨hv, HO⟩ hL hc hd
      have h1 : wc.cell? ⟨(ad.add (k * 2)).block, (ad.add (k * 2)).off + 1, none⟩ = some (.int .i64 (bb : Int)) := HO.out.cell x1
      exact wpOp_val rfl rfl (ex_load rfl (hv.get 13 rfl rfl (hd 13 (by decide))) (by go_simp)) ⟨hv.put qcost_add_apart 14 rfl (Nat.le_of_ble_eq_true rfl) (Nat.le_of_ble_eq_true rfl) rfl, HO⟩
    · -- 15 index
      rintro L a wc ⟨hv, HO⟩ hL hc hd
      have b1 : (0 : Int) ≤ (bb : Int) := by omega
      have b2 : (bb : Int) < (n : Int) := by omega
      exact wpOp_val rfl rfl (ex_index rfl (hv.get 9 rfl rfl (hd 9 (by decide))) (hv.get 14 rfl rfl (hd 14 (by decide))) (by go_simp)) ⟨hv.put qcost_add_apart 15 rfl (Nat.le_of_ble_eq_true rfl) (Nat.le_of_ble_eq_true rfl) rfl, HO⟩
    · -- 16 load
      rintro L a wc ⟨hv, HO⟩ hL hc hd
      have h1 : wc.cell? (ad2.add bb) = some (.int .i64 pp) := HO.out.cell g2
      exact wpOp_val rfl rfl (ex_load rfl (hv.get 15 rfl rfl (hd 15 (by decide))) (by go_simp)) ⟨hv.put qcost_add_apart 16 rfl (Nat.le_of_ble_eq_true rfl) (Nat.le_of_ble_eq_true rfl) rfl, HO⟩
    · -- 17 bin
      rintro L a wc ⟨hv, HO⟩ hL hc hd
      have u5 : IntKind.i64.wrap (sm + pp) = sm + pp := by rw [IntKind.wrap_i64]; omega
      exact wpOp_val rfl rfl (ex_bin rfl (hv.get 0 rfl rfl (hd 0 (by decide))) (hv.get 16 rfl rfl (hd 16 (by decide))) (by go_simp)) ⟨hv.put qcost_add_apart 17 rfl (Nat.le_of_ble_eq_true rfl) (Nat.le_of_ble_eq_true rfl) rfl, HO⟩
    · -- 18 assign
      rintro L a wc ⟨hv, HO⟩ hL hc hd
      exact wpOp_val rfl rfl (ex_assign rfl (hv.get 17 rfl rfl (hd 17 (by decide)))) ⟨hv.put qcost_add_apart 18 rfl (Nat.le_of_ble_eq_true rfl) (Nat.le_of_ble_eq_true rfl) rfl, HO⟩
  · rintro L a wc ⟨hv, HO⟩ hall
    show K a wc
    have ha := act_lit a
    rw [hv.size, hv.defers] at ha
    have hl : ∀ f : Nat → Value, ((List.range (⟨#[c0, .slice (some ad) ln cl, .pointer (some ⟨B, 0, none⟩), c3, c4, c5, c6, .int .i64 sm, .int .i64 (k : Nat), c9, c10, c11, c12, c13, c14, c15, c16, c17, c18, c19, c20, c21, c22, c23, c24, c25, c26, c27, c28, c29, c30, c31, c32, c33, c34, c35, c36, c37, c38, c39, c40, c41, c42, c43, c44, c45, c46], df⟩ : Act).tmps.size).map f).toArray = #[f 0, f 1, f 2, f 3, f 4, f 5, f 6, f 7, f 8, f 9, f 10, f 11, f 12, f 13, f 14, f 15, f 16, f 17, f 18, f 19, f 20, f 21, f 22, f 23, f 24, f 25, f 26, f 27, f 28, f 29, f 30, f 31, f 32, f 33, f 34, f 35, f 36, f 37, f 38, f 39, f 40, f 41, f 42, f 43, f 44, f 45, f 46] := fun _ => rfl
    rw [hl] at ha
    simp only [hv.fixed 0 (by decide), hv.fixed 1 (by decide), hv.fixed 2 (by decide), hv.fixed 3 (by decide), hv.fixed 4 (by decide), hv.fixed 5 (by decide), hv.fixed 6 (by decide), hv.fixed 8 (by decide), hv.fixed 9 (by decide), hv.fixed 10 (by decide), hv.fixed 11 (by decide), hv.fixed 12 (by decide), hv.fixed 13 (by decide), hv.fixed 14 (by decide), hv.fixed 15 (by decide), hv.fixed 16 (by decide), hv.fixed 17 (by decide), hv.fixed 18 (by decide), hv.fixed 19 (by decide), hv.fixed 20 (by decide), hv.fixed 21 (by decide), hv.fixed 22 (by decide), hv.fixed 23 (by decide), hv.fixed 24 (by decide), hv.fixed 25 (by decide), hv.fixed 26 (by decide), hv.fixed 45 (by decide), hv.fixed 46 (by decide), hv.get 18 (d := 7) rfl rfl (hall 18 (by decide))] at ha
    rw [ha]
    exact hK _ _ _ _ _ _ _ _ _ _ _ _ _ _ _ _ _ _ wc HO.out
noncomputable def qcost_loop_code : Code := ((Tryd.f11.body.bind (loopOf 11)).getD .skip)
set_option maxRecDepth 1000000 in
set_option maxHeartbeats 16000000 in
theorem qcost_loop (W0 wr : World) (h : Su.Ha) (l : List (Int × Int)) (A LA : Option Addr) (B n c e : Nat) (hl3 : l.length ≤ 9223372036854775807) (HL12 : Hid (l.length ≤ 12)) (HX : Hid (Ext W0 wr)) (HK : Hid (Su.Ok h ∧ h.pr.length = n ∧ True)) (HV : Hid (Su.valid h l = true)) (HG : Hid (Rs (Rs RI) W0 (.slice A n c) h.pr)) (HL : Hid (RL W0 (.slice LA l.length e) l)) (HD : Hid (W0.cell? ⟨B, 0, none⟩ = some (.slice A n c))) (c0 c3 c4 c5 c6 c9 c10 c11 c12 c13 c14 c15 c16 c17 c18 c19 c20 c21 c22 c23 c24 c25 c26 c27 c28 c29 c30 c31 c32 c33 c34 c35 c36 c37 c38 c39 c40 c41 c42 c43 c44 c45 c46 : Value) (df : List Deferred) (Q0 : Exit → Act → World → Prop)
    (hexit : ∀ (u7 u8 u21 u22 u23 u24 u25 u26 u27 u28 u29 u30 u31 u32 u33 u34 u35 u36 u37 u38 u39 u40 u41 u42 u43 u44 : Value) (wx : World), u7 = .int .i64 (Su.costTo h l l.length) ∧ Ext W0 wx → Q0 (.exit 0) ⟨#[c0, .slice LA l.length e, .pointer (some ⟨B, 0, none⟩), c3, c4, c5, c6, u7, u8, c9, c10, c11, c12, c13, c14, c15, c16, c17, c18, c19, c20, u21, u22, u23, u24, u25, u26, u27, u28, u29, u30, u31, u32, u33, u34, u35, u36, u37, u38, u39, u40, u41, u42, u43, u44, c45, c46], df⟩ wx) :
    Code.wp Tryd.prog qcost_loop_code Q0 ⟨#[c0, .slice LA l.length e, .pointer (some ⟨B, 0, none⟩), c3, c4, c5, c6, .int .i64 0, .int .i64 0, c9, c10, c11, c12, c13, c14, c15, c16, c17, c18, c19, c20, c21, c22, c23, c24, c25, c26, c27, c28, c29, c30, c31, c32, c33, c34, c35, c36, c37, c38, c39, c40, c41, c42, c43, c44, c45, c46], df⟩ wr := by
  have HE := Lib.hid hexit
  clear hexit
  conv => arg 2; whnf
  dsimp only
  go_loopw [7, 8] (fun vs vi wr => ∃ (k : Nat) (sm : Int), k ≤ l.length ∧ vi = .int .i64 k ∧ vs = .int .i64 sm ∧ (0 ≤ sm ∧ sm ≤ 1000000 * k) ∧ Hid (Ext W0 wr ∧ Su.costTo h l k = sm)) (fun _ vi _ => l.length - (intOf vi).toNat)
  case atStart => exact ⟨0, 0, Nat.zero_le _, rfl, rfl, by omega, Lib.hid ⟨HX.out, Su.costTo_zero h l⟩⟩
  case round =>
    obtain ⟨k, sm, hk, rfl, rfl, hs, HI⟩ := hrel
    by_cases hlt : k < l.length
    · obtain ⟨ad, f, t, rfl, hft, k1, k2, kb, kb2⟩ := HL.out.at hlt
      have k1' := HI.out.1.cell k1
      have k2' := HI.out.1.cell k2
      have hfine := Su.hop_fine HV.out hlt
      have hcs := Su.costTo_succ h l k
      rw [hft] at hfine hcs
      simp only at hfine hcs
      rw [HK.out.2.1] at hfine
      obtain ⟨⟨f1, f2⟩, ⟨t1, t2⟩, hp0, _⟩ := hfine
      obtain ⟨a, rfl⟩ : ∃ a : Nat, f = a := ⟨f.toNat, by omega⟩
      obtain ⟨b, rfl⟩ : ∃ b : Nat, t = b := ⟨t.toNat, by omega⟩
      have ha : a < n := by omega
      have hb : b < n := by omega
      obtain ⟨ad1, ad2, cc, hA, g1, g2⟩ := price_at HG.out HK.out.1 HK.out.2.1 ha hb
      have g1 := HI.out.1.cell g1
      have g2 := HI.out.1.cell g2
      have d0 : wr.cell? ⟨B, 0, none⟩ = some (.slice A n c) := HI.out.1.cell HD.out
      rw [hA] at d0
      have hpb := Su.price_bound HK.out.1 (a := a) (b := b) (by rw [HK.out.2.1]; exact ⟨f1, f2⟩) (by rw [HK.out.2.1]; exact ⟨t1, t2⟩)
      obtain ⟨pp, hpp⟩ : ∃ pp, Su.price h a b = pp := ⟨_, rfl⟩
      rw [hpp] at g2 hpb hcs hp0
      rw [HI.out.2] at hcs
      have HCS := Lib.hid hcs
      have hl12 : l.length ≤ 12 := HL12.out
      have HALL := Lib.hid (And.intro d0 (And.intro k1' (And.intro k2' (And.intro g1 g2))))
      clear hft kb kb2 hcs k1 k2 g1 g2 d0 hA hpp f1 f2 t1 t2 k1' k2'
      go_wp2_with fail
      refine wp_atEnd' (qcost_add wr B n c cc a b k l.length e ad ad1 ad2 sm pp hlt ha hb (by omega) (by omega) HALL.out.1 HALL.out.2.1 HALL.out.2.2.1 HALL.out.2.2.2.1 HALL.out.2.2.2.2 _ _ _ _ _ _ _ _ _ _ _ _ _ _ _ _ _ _ _ _ _ _ _ _ _ _ _ _ _ _ _ _ _ _ _ _ _ _ _ _ _ _ _ _ _ ?_)
      intro u27 u28 u29 u30 u31 u32 u33 u34 u35 u36 u37 u38 u39 u40 u41 u42 u43 u44 wx hx
      have HX2 := Lib.hid hx
      clear hx
      go_wp2_with fail
      go_roundw
      case rel => exact ⟨k + 1, sm + pp, by omega, by go_num, rfl, by omega, Lib.hid ⟨HI.out.1.trans HX2.out, HCS.out⟩⟩
      case measure => simp [intOf]; omega
    · obtain rfl : k = l.length := by omega
      go_wp2_with fail
      exact HE.out _ _ _ _ _ _ _ _ _ _ _ _ _ _ _ _ _ _ _ _ _ _ _ _ _ _ wr ⟨by rw [HI.out.2], HI.out.1⟩

/-- A new box of cells, as a row. -/
theorem box_new {W : World} (cs : Array Value) (T : TypeId) (hm : cs.size ≤ maxLen) (b : Nat) (hb : W.heap.size = b) : Owns W (W.alloc (.cells cs T)) [⟨.slice (some ⟨b, 0, none⟩) cs.size cs.size, T, 1, cs.size, cs.toList⟩] := by
  subst hb
  exact (Owns.start (L := [no]) W (by intro r hr; simp [no] at hr; subst hr; simp)).new 0 cs T hm
set_option maxHeartbeats 16000000 in
set_option maxRecDepth 100000 in
theorem qCost_any (h : Su.Ha) (l : List (Int × Int)) (v u : Value) (w : World) (hv : RH w v h) (hu : RL w u l) :
    Calls Tryd.prog 11 #[v, u] w fun e w' => e = .returned (.agg #[.int .i64 (Su.cost h l).1, .int .i64 (Su.cost h l).2]) ∧ Ext w w' := by
  have hvv := hv
  obtain ⟨A, SA, c, d, rfl, hG, hS, hl1, hl2, hb1, hb2⟩ := hv.open
  have hx0 := (Ext.refl w).alloc (.cells #[.slice A h.pr.length c, .slice SA h.src.length d, .int .i64 h.tgt] 25)
  have HX0 := Lib.hid hx0
  obtain ⟨LA, e, rfl, hl3⟩ := hu.form
  obtain ⟨n, hn⟩ : ∃ n, h.pr.length = n := ⟨_, rfl⟩
  rw [hn] at HX0 hx0 hG hl1 hvv ⊢
  have HO := Lib.hid (box_new (W := (w.alloc (.cells #[.slice A n c, .slice SA h.src.length d, .int .i64 h.tgt] 25))) #[.int .i64 0, .int .i64 0] 32 (by simp [maxLen]) (w.heap.size + 1) (by simp))
  have hx1 := hx0.alloc (.cells #[.int .i64 0, .int .i64 0] 32)
  have HX1 := Lib.hid hx1
  have HG := Lib.hid (Rs.ext (Rs.ext RI.ext) _ _ _ _ hx1 hG)
  have HS := Lib.hid (Rs.ext RI.ext _ _ _ _ hx1 hS)
  have HL := Lib.hid (RL.ext _ _ _ _ hx1 hu)
  have HV := Lib.hid (RH.ext _ _ _ _ hx1 hvv)
  have HN := Lib.hid hn
  clear hv hvv hG hS hx0 hu hn hx1
  by_cases h0 : Su.check h = 0
  case neg =>
    have e1 : (Su.check h != 0) = true := by rw [bne_iff_ne]; exact h0
    have HC := Lib.hid (Su.cost_err (l := l) h0)
    clear h0
    go_enter Tryd.func11, Tryd.ntmps11
    go_wp2_with fail
    refine (qCheck_any h _ _ HV.out).mono ?_
    rintro ee w1 ⟨rfl, hx1⟩
    have HO1 := Lib.hid (HO.out.next hx1)
    clear hx1
    have hc3 : w1.cell? ⟨w.heap.size + 1, 0, none⟩ = some (.int .i64 0) := HO1.out.cell 0 rfl 0 rfl
    have hc4 : w1.cell? ⟨w.heap.size + 1, 1, none⟩ = some (.int .i64 0) := HO1.out.cell 0 rfl 1 rfl
    have hf3 : w1.frozen? ⟨w.heap.size + 1, 0, none⟩ = false := HO1.out.frozen 0 rfl 0
    have hf4 : w1.frozen? ⟨w.heap.size + 1, 1, none⟩ = false := HO1.out.frozen 0 rfl 1
    go_wp2_with fail
    have hO7 := (HO1.out.store 0 rfl 0 (.int .i64 (0))).store 0 rfl 1 (.int .i64 (Su.check h))
    exact bodyPost_ret (v := .agg #[.int .i64 (0), .int .i64 (Su.check h)]) (by simp [results, Tryd.results11, go_sem, hc3, hc4]) rfl ⟨by rw [HC.out], HX0.out.trans hO7.ext⟩
  case pos =>
  have e1 : (Su.check h != 0) = false := by rw [h0]; rfl
  have HH0 := Lib.hid h0
  clear h0
  cases hval : Su.valid h l with
  | false =>
    have HC := Lib.hid (And.intro (Su.cost_bad HH0.out hval) hval)
    clear hval
    go_enter Tryd.func11, Tryd.ntmps11
    go_wp2_with fail
    refine (qCheck_any h _ _ HV.out).mono ?_
    rintro ee w1 ⟨rfl, hx1⟩
    have HXa := Lib.hid hx1
    have d0 : w1.cell? ⟨w.heap.size, 0, none⟩ = some (.slice A n c) := hx1.cell (by go_simp)
    have d1 : w1.cell? ⟨w.heap.size, 1, none⟩ = some (.slice SA h.src.length d) := hx1.cell (by go_simp)
    have d2 : w1.cell? ⟨w.heap.size, 2, none⟩ = some (.int .i64 h.tgt) := hx1.cell (by go_simp)
    clear hx1
    go_wp2_with fail
    clear d0 d1 d2
    refine (qValid_any h l _ _ _ (RH.ext _ _ _ _ HXa.out HV.out) (RL.ext _ _ _ _ HXa.out HL.out) HH0.out).mono ?_
    rintro ee w2 ⟨rfl, hx2⟩
    rw [HC.out.2]
    have HO2 := Lib.hid (HO.out.next (HXa.out.trans hx2))
    clear hx2
    have hc3 : w2.cell? ⟨w.heap.size + 1, 0, none⟩ = some (.int .i64 0) := HO2.out.cell 0 rfl 0 rfl
    have hc4 : w2.cell? ⟨w.heap.size + 1, 1, none⟩ = some (.int .i64 0) := HO2.out.cell 0 rfl 1 rfl
    have hf3 : w2.frozen? ⟨w.heap.size + 1, 0, none⟩ = false := HO2.out.frozen 0 rfl 0
    have hf4 : w2.frozen? ⟨w.heap.size + 1, 1, none⟩ = false := HO2.out.frozen 0 rfl 1
    go_wp2_with fail
    have hO7 := (HO2.out.store 0 rfl 0 (.int .i64 (0))).store 0 rfl 1 (.int .i64 (22))
    exact bodyPost_ret (v := .agg #[.int .i64 (0), .int .i64 (22)]) (by simp [results, Tryd.results11, go_sem, hc3, hc4]) rfl ⟨by rw [HC.out.1], HX0.out.trans hO7.ext⟩
  | true =>
    have HC := Lib.hid (And.intro (Su.cost_ok hval) hval)
    have hlen : l.length ≤ 12 := by
      have := Su.hops_few (Su.valid_iff.1 hval).2.1
      have := (Su.ok_of HH0.out).few
      omega
    have HL12 := Lib.hid hlen
    clear hval hlen
    go_enter Tryd.func11, Tryd.ntmps11
    go_wp2_with fail
    refine (qCheck_any h _ _ HV.out).mono ?_
    rintro ee w1 ⟨rfl, hx1⟩
    have HXa := Lib.hid hx1
    have d0 : w1.cell? ⟨w.heap.size, 0, none⟩ = some (.slice A n c) := hx1.cell (by go_simp)
    have d1 : w1.cell? ⟨w.heap.size, 1, none⟩ = some (.slice SA h.src.length d) := hx1.cell (by go_simp)
    have d2 : w1.cell? ⟨w.heap.size, 2, none⟩ = some (.int .i64 h.tgt) := hx1.cell (by go_simp)
    have HD0 := Lib.hid d0
    clear hx1
    go_wp2_with fail
    clear d0 d1 d2
    refine (qValid_any h l _ _ _ (RH.ext _ _ _ _ HXa.out HV.out) (RL.ext _ _ _ _ HXa.out HL.out) HH0.out).mono ?_
    rintro ee w2 ⟨rfl, hx2⟩
    rw [HC.out.2]
    have HXb := Lib.hid (HXa.out.trans hx2)
    clear hx2
    go_wp2_with fail
    refine qcost_loop _ _ h l A LA w.heap.size n c e hl3 HL12 HXb (Lib.hid ⟨Su.ok_of HH0.out, HN.out, trivial⟩) (Lib.hid HC.out.2) HG HL (Lib.hid (by go_simp)) _ _ _ _ _ _ _ _ _ _ _ _ _ _ _ _ _ _ _ _ _ _ _ _ _ _ _ _ _ _ _ _ _ _ _ _ _ _ _ _ _ _ _ _ _ ?_
    rintro u7 u8 u21 u22 u23 u24 u25 u26 u27 u28 u29 u30 u31 u32 u33 u34 u35 u36 u37 u38 u39 u40 u41 u42 u43 u44 w3 ⟨rfl, hx3⟩
    have HO3 := Lib.hid (HO.out.next hx3)
    clear hx3
    obtain ⟨sm, hsm⟩ : ∃ sm, Su.costTo h l l.length = sm := ⟨_, rfl⟩
    have HSM := Lib.hid hsm
    rw [hsm]
    clear hsm
    have hc3 : w3.cell? ⟨w.heap.size + 1, 0, none⟩ = some (.int .i64 0) := HO3.out.cell 0 rfl 0 rfl
    have hc4 : w3.cell? ⟨w.heap.size + 1, 1, none⟩ = some (.int .i64 0) := HO3.out.cell 0 rfl 1 rfl
    have hf3 : w3.frozen? ⟨w.heap.size + 1, 0, none⟩ = false := HO3.out.frozen 0 rfl 0
    have hf4 : w3.frozen? ⟨w.heap.size + 1, 1, none⟩ = false := HO3.out.frozen 0 rfl 1
    go_wp2_with fail
    have hO7 := (HO3.out.store 0 rfl 0 (.int .i64 (sm))).store 0 rfl 1 (.int .i64 (0))
    exact bodyPost_ret (v := .agg #[.int .i64 (sm), .int .i64 (0)]) (by simp [results, Tryd.results11, go_sem, hc3, hc4]) rfl ⟨by rw [HC.out.1, HSM.out], HX0.out.trans hO7.ext⟩
end Go.Proofs.YtenafgphaceidaaDoor

/- THE DRAWN REGIONS AND LOOPS of Carry of the specification of layer 19. -/
namespace Go.Proofs.YtenafgphaceidaaDoor
open Go.RowKit
theorem ex_lens {P : Program} {o : Oper} {a : Act} {w : World} {x : Operand} {t : TypeId} {b : ByteArray} {n : Nat} (ho : o.op = .call { callee := .builtin .len, args := #[x], argTypes := #[t] }) (ht : P.underlying t = some .string) (hx : a.eval x = .string b) (hn : b.size = n) : (execOp a.eval o).run P w = .ok (.value (.int .i64 n)) w := by
  subst hn
  unfold execOp
  simp only [ho, resolve, invoke, builtin, Sem.run_bind, Sem.run_pure, Result.andThen_ok, List.map_toArray, List.map_cons, List.map_nil, hx]
  simp [Builtin.len_, run_underlying ht, Result.andThen]
  rfl
noncomputable def qcar_same_code : Code := ((Tryd.f19.body.bind (regionOf 12)).getD .skip)
def qcar_same_dsts : List (Option Nat) := [some 47, some 48, some 49, some 50, some 51, some 52, some 53, some 54, some 55, some 56]
theorem qcar_same_apart : apartD qcar_same_dsts = true := by decide +kernel
set_option maxRecDepth 1000000 in
set_option maxHeartbeats 16000000 in
theorem qcar_same (wr : World) (m cp k ly lz : Nat) (ap : Addr) (y z : List UInt8) (hkm : k < m) (hly : y.length = ly) (hlz : z.length = lz) (cy : wr.cell? (ap.add k) = some (.string (sb y))) (cz : wr.cell? ap = some (.string (sb z))) (hq : ((ly : Int) != (lz : Int)) = false) (c0 c1 c2 c4 c5 c6 c7 c8 c9 c10 c12 c13 c14 c15 c16 c17 c18 c19 c20 c21 c22 c23 c24 c25 c26 c27 c28 c29 c30 c31 c32 c33 c34 c35 c36 c37 c38 c39 c40 c41 c42 c43 c44 c45 c46 c47 c48 c49 c50 c51 c52 c53 c54 c55 c56 c57 c58 c59 c60 c61 c62 c63 c64 c65 c66 c67 c68 c69 c70 c71 c72 c73 c74 c75 c76 c77 c78 c79 c80 c81 c82 c83 c84 c85 : Value) (df : List Deferred) (K : Act → World → Prop)
    (hK : ∀  (u47 u48 u49 u50 u51 u52 u53 u54 u55 : Value) (wx : World), Ext wr wx → K ⟨#[c0, c1, c2, .slice (some ap) m cp, c4, c5, c6, c7, c8, c9, c10, .int .i64 (k : Nat), c12, c13, c14, c15, c16, c17, c18, c19, c20, c21, c22, c23, c24, c25, c26, c27, c28, c29, c30, c31, c32, c33, c34, c35, c36, c37, c38, c39, c40, c41, c42, c43, c44, c45, c46, u47, u48, u49, u50, u51, u52, u53, u54, u55, .bool false, c57, c58, c59, c60, c61, c62, c63, c64, c65, c66, c67, c68, c69, c70, c71, c72, c73, c74, c75, c76, c77, c78, c79, c80, c81, c82, c83, c84, c85], df⟩ wx) :
    Code.wp Tryd.prog qcar_same_code (AtEnd K) ⟨#[c0, c1, c2, .slice (some ap) m cp, c4, c5, c6, c7, c8, c9, c10, .int .i64 (k : Nat), c12, c13, c14, c15, c16, c17, c18, c19, c20, c21, c22, c23, c24, c25, c26, c27, c28, c29, c30, c31, c32, c33, c34, c35, c36, c37, c38, c39, c40, c41, c42, c43, c44, c45, c46, c47, c48, c49, c50, c51, c52, c53, c54, c55, c56, c57, c58, c59, c60, c61, c62, c63, c64, c65, c66, c67, c68, c69, c70, c71, c72, c73, c74, c75, c76, c77, c78, c79, c80, c81, c82, c83, c84, c85], df⟩ wr := by
  conv => arg 2; whnf
  refine region_inv (by kernel_rfl) [[], [], [0, 1], [2], [3], [], [5], [6], [7], [4, 8]] (by kernel_rfl) [0, 1, 2, 3, 4, 5, 6, 7, 8, 9] (by decide +kernel) (by decide +kernel) (by decide +kernel) (fun L a wc => InvO qcar_same_dsts [.slice (some ap) m cp, .int .i64 (k : Nat), .pointer (some (ap.add k)), .string (sb y), .int .i64 (ly : Nat), .slice (some ap) m cp, .pointer (some ap), .string (sb z), .int .i64 (lz : Nat), .bool false] ⟨#[c0, c1, c2, .slice (some ap) m cp, c4, c5, c6, c7, c8, c9, c10, .int .i64 (k : Nat), c12, c13, c14, c15, c16, c17, c18, c19, c20, c21, c22, c23, c24, c25, c26, c27, c28, c29, c30, c31, c32, c33, c34, c35, c36, c37, c38, c39, c40, c41, c42, c43, c44, c45, c46, c47, c48, c49, c50, c51, c52, c53, c54, c55, c56, c57, c58, c59, c60, c61, c62, c63, c64, c65, c66, c67, c68, c69, c70, c71, c72, c73, c74, c75, c76, c77, c78, c79, c80, c81, c82, c83, c84, c85], df⟩ L a ∧ Hid (Ext wr wc)) ⟨InvO.start, Lib.hid ((Ext.refl wr).drew)⟩ ?_ ?_
  · refine ⟨?_, ?_, ?_, ?_, ?_, ?_, ?_, ?_, ?_, ?_, trivial⟩
    · -- 0 move
      rintro L a wc ⟨hv, HO⟩ hL hc hd
      exact wpOp_val rfl rfl (ex_move rfl ((hv.fixed 3 (by decide)).trans rfl)) ⟨hv.put qcar_same_apart 0 rfl (Nat.le_of_ble_eq_true rfl) (Nat.le_of_ble_eq_true rfl) rfl, HO⟩
    · -- 1 move
      rintro L a wc ⟨hv, HO⟩ hL hc hd
      exact wpOp_val rfl rfl (ex_move rfl ((hv.fixed 11 (by decide)).trans rfl)) ⟨hv.put qcar_same_apart 1 rfl (Nat.le_of_ble_eq_true rfl) (Nat.le_of_ble_eq_true rfl) rfl, HO⟩
    · -- 2 index
      rintro L a wc ⟨hv, HO⟩ hL hc hd
      have b1 : (0 : Int) ≤ (k : Int) := by omega
      have b2 : (k : Int) < (m : Int) := by omega
      exact wpOp_val rfl rfl (ex_index rfl (hv.get 0 rfl rfl (hd 0 (by decide))) (hv.get 1 rfl rfl (hd 1 (by decide))) (by go_simp)) ⟨hv.put qcar_same_apart 2 rfl (Nat.le_of_ble_eq_true rfl) (Nat.le_of_ble_eq_true rfl) rfl, HO⟩
    · -- 3 load
      rintro L a wc ⟨hv, HO⟩ hL hc hd
      have h1 : wc.cell? (ap.add k) = some (.string (sb y)) := HO.out.cell cy
      exact wpOp_val rfl rfl (ex_load rfl (hv.get 2 rfl rfl (hd 2 (by decide))) (by go_simp)) ⟨hv.put qcar_same_apart 3 rfl (Nat.le_of_ble_eq_true rfl) (Nat.le_of_ble_eq_true rfl) rfl, HO⟩
    · -- 4 raw
      rintro L a wc ⟨hv, HO⟩ hL hc hd
      exact wpOp_val rfl rfl (ex_lens rfl Tryd.underlying9 (hv.get 3 rfl rfl (hd 3 (by decide))) (by rw [size_sb]; exact hly)) ⟨hv.put qcar_same_apart 4 rfl (Nat.le_of_ble_eq_true rfl) (Nat.le_of_ble_eq_true rfl) rfl, HO⟩
    · -- 5 move
      rintro L a wc ⟨hv, HO⟩ hL hc hd
      exact wpOp_val rfl rfl (ex_move rfl ((hv.fixed 3 (by decide)).trans rfl)) ⟨hv.put qcar_same_apart 5 rfl (Nat.le_of_ble_eq_true rfl) (Nat.le_of_ble_eq_true rfl) rfl, HO⟩
    · -- 6 index
      rintro L a wc ⟨hv, HO⟩ hL hc hd
      have b2 : 0 < m := by omega
      exact wpOp_val rfl rfl (ex_index rfl (hv.get 5 rfl rfl (hd 5 (by decide))) rfl (by go_simp)) ⟨hv.put qcar_same_apart 6 rfl (Nat.le_of_ble_eq_true rfl) (Nat.le_of_ble_eq_true rfl) rfl, HO⟩
    · -- 7 load
      rintro L a wc ⟨hv, HO⟩ hL hc hd
      have h1 : wc.cell? ap = some (.string (sb z)) := HO.out.cell cz
      exact wpOp_val rfl rfl (ex_load rfl (hv.get 6 rfl rfl (hd 6 (by decide))) (by go_simp)) ⟨hv.put qcar_same_apart 7 rfl (Nat.le_of_ble_eq_true rfl) (Nat.le_of_ble_eq_true rfl) rfl, HO⟩
    · -- 8 raw
      rintro L a wc ⟨hv, HO⟩ hL hc hd
      exact wpOp_val rfl rfl (ex_lens rfl Tryd.underlying9 (hv.get 7 rfl rfl (hd 7 (by decide))) (by rw [size_sb]; exact hlz)) ⟨hv.put qcar_same_apart 8 rfl (Nat.le_of_ble_eq_true rfl) (Nat.le_of_ble_eq_true rfl) rfl, HO⟩
    · -- 9 bin
      rintro L a wc ⟨hv, HO⟩ hL hc hd
      exact wpOp_val rfl rfl (ex_bin rfl (hv.get 4 rfl rfl (hd 4 (by decide))) (hv.get 8 rfl rfl (hd 8 (by decide))) (by go_simp)) ⟨hv.put qcar_same_apart 9 rfl (Nat.le_of_ble_eq_true rfl) (Nat.le_of_ble_eq_true rfl) rfl, HO⟩
  · rintro L a wc ⟨hv, HO⟩ hall
    show K a wc
    have ha := act_lit a
    rw [hv.size, hv.defers] at ha
    have hl : ∀ f : Nat → Value, ((List.range (⟨#[c0, c1, c2, .slice (some ap) m cp, c4, c5, c6, c7, c8, c9, c10, .int .i64 (k : Nat), c12, c13, c14, c15, c16, c17, c18, c19, c20, c21, c22, c23, c24, c25, c26, c27, c28, c29, c30, c31, c32, c33, c34, c35, c36, c37, c38, c39, c40, c41, c42, c43, c44, c45, c46, c47, c48, c49, c50, c51, c52, c53, c54, c55, c56, c57, c58, c59, c60, c61, c62, c63, c64, c65, c66, c67, c68, c69, c70, c71, c72, c73, c74, c75, c76, c77, c78, c79, c80, c81, c82, c83, c84, c85], df⟩ : Act).tmps.size).map f).toArray = #[f 0, f 1, f 2, f 3, f 4, f 5, f 6, f 7, f 8, f 9, f 10, f 11, f 12, f 13, f 14, f 15, f 16, f 17, f 18, f 19, f 20, f 21, f 22, f 23, f 24, f 25, f 26, f 27, f 28, f 29, f 30, f 31, f 32, f 33, f 34, f 35, f 36, f 37, f 38, f 39, f 40, f 41, f 42, f 43, f 44, f 45, f 46, f 47, f 48, f 49, f 50, f 51, f 52, f 53, f 54, f 55, f 56, f 57, f 58, f 59, f 60, f 61, f 62, f 63, f 64, f 65, f 66, f 67, f 68, f 69, f 70, f 71, f 72, f 73, f 74, f 75, f 76, f 77, f 78, f 79, f 80, f 81, f 82, f 83, f 84, f 85] := fun _ => rfl
    rw [hl] at ha
    simp only [hv.fixed 0 (by decide), hv.fixed 1 (by decide), hv.fixed 2 (by decide), hv.fixed 3 (by decide), hv.fixed 4 (by decide), hv.fixed 5 (by decide), hv.fixed 6 (by decide), hv.fixed 7 (by decide), hv.fixed 8 (by decide), hv.fixed 9 (by decide), hv.fixed 10 (by decide), hv.fixed 11 (by decide), hv.fixed 12 (by decide), hv.fixed 13 (by decide), hv.fixed 14 (by decide), hv.fixed 15 (by decide), hv.fixed 16 (by decide), hv.fixed 17 (by decide), hv.fixed 18 (by decide), hv.fixed 19 (by decide), hv.fixed 20 (by decide), hv.fixed 21 (by decide), hv.fixed 22 (by decide), hv.fixed 23 (by decide), hv.fixed 24 (by decide), hv.fixed 25 (by decide), hv.fixed 26 (by decide), hv.fixed 27 (by decide), hv.fixed 28 (by decide), hv.fixed 29 (by decide), hv.fixed 30 (by decide), hv.fixed 31 (by decide), hv.fixed 32 (by decide), hv.fixed 33 (by decide), hv.fixed 34 (by decide), hv.fixed 35 (by decide), hv.fixed 36 (by decide), hv.fixed 37 (by decide), hv.fixed 38 (by decide), hv.fixed 39 (by decide), hv.fixed 40 (by decide), hv.fixed 41 (by decide), hv.fixed 42 (by decide), hv.fixed 43 (by decide), hv.fixed 44 (by decide), hv.fixed 45 (by decide), hv.fixed 46 (by decide), hv.fixed 57 (by decide), hv.fixed 58 (by decide), hv.fixed 59 (by decide), hv.fixed 60 (by decide), hv.fixed 61 (by decide), hv.fixed 62 (by decide), hv.fixed 63 (by decide), hv.fixed 64 (by decide), hv.fixed 65 (by decide), hv.fixed 66 (by decide), hv.fixed 67 (by decide), hv.fixed 68 (by decide), hv.fixed 69 (by decide), hv.fixed 70 (by decide), hv.fixed 71 (by decide), hv.fixed 72 (by decide), hv.fixed 73 (by decide), hv.fixed 74 (by decide), hv.fixed 75 (by decide), hv.fixed 76 (by decide), hv.fixed 77 (by decide), hv.fixed 78 (by decide), hv.fixed 79 (by decide), hv.fixed 80 (by decide), hv.fixed 81 (by decide), hv.fixed 82 (by decide), hv.fixed 83 (by decide), hv.fixed 84 (by decide), hv.fixed 85 (by decide), hv.get 9 (d := 56) rfl rfl (hall 9 (by decide))] at ha
    rw [ha]
    exact hK _ _ _ _ _ _ _ _ _ wc HO.out
noncomputable def qcar_other_code : Code := ((Tryd.f19.body.bind (regionOf 12)).getD .skip)
def qcar_other_dsts : List (Option Nat) := [some 47, some 48, some 49, some 50, some 51, some 52, some 53, some 54, some 55, some 56]
theorem qcar_other_apart : apartD qcar_other_dsts = true := by decide +kernel
set_option maxRecDepth 1000000 in
set_option maxHeartbeats 16000000 in
theorem qcar_other (wr : World) (m cp k ly lz : Nat) (ap : Addr) (y z : List UInt8) (hkm : k < m) (hly : y.length = ly) (hlz : z.length = lz) (cy : wr.cell? (ap.add k) = some (.string (sb y))) (cz : wr.cell? ap = some (.string (sb z))) (hq : ((ly : Int) != (lz : Int)) = true) (c0 c1 c2 c4 c5 c6 c7 c8 c9 c10 c12 c13 c14 c15 c16 c17 c18 c19 c20 c21 c22 c23 c24 c25 c26 c27 c28 c29 c30 c31 c32 c33 c34 c35 c36 c37 c38 c39 c40 c41 c42 c43 c44 c45 c46 c47 c48 c49 c50 c51 c52 c53 c54 c55 c56 c57 c58 c59 c60 c61 c62 c63 c64 c65 c66 c67 c68 c69 c70 c71 c72 c73 c74 c75 c76 c77 c78 c79 c80 c81 c82 c83 c84 c85 : Value) (df : List Deferred) (K : Act → World → Prop)
    (hK : ∀  (u47 u48 u49 u50 u51 u52 u53 u54 u55 : Value) (wx : World), Ext wr wx → K ⟨#[c0, c1, c2, .slice (some ap) m cp, c4, c5, c6, c7, c8, c9, c10, .int .i64 (k : Nat), c12, c13, c14, c15, c16, c17, c18, c19, c20, c21, c22, c23, c24, c25, c26, c27, c28, c29, c30, c31, c32, c33, c34, c35, c36, c37, c38, c39, c40, c41, c42, c43, c44, c45, c46, u47, u48, u49, u50, u51, u52, u53, u54, u55, .bool true, c57, c58, c59, c60, c61, c62, c63, c64, c65, c66, c67, c68, c69, c70, c71, c72, c73, c74, c75, c76, c77, c78, c79, c80, c81, c82, c83, c84, c85], df⟩ wx) :
    Code.wp Tryd.prog qcar_other_code (AtEnd K) ⟨#[c0, c1, c2, .slice (some ap) m cp, c4, c5, c6, c7, c8, c9, c10, .int .i64 (k : Nat), c12, c13, c14, c15, c16, c17, c18, c19, c20, c21, c22, c23, c24, c25, c26, c27, c28, c29, c30, c31, c32, c33, c34, c35, c36, c37, c38, c39, c40, c41, c42, c43, c44, c45, c46, c47, c48, c49, c50, c51, c52, c53, c54, c55, c56, c57, c58, c59, c60, c61, c62, c63, c64, c65, c66, c67, c68, c69, c70, c71, c72, c73, c74, c75, c76, c77, c78, c79, c80, c81, c82, c83, c84, c85], df⟩ wr := by
  conv => arg 2; whnf
  refine region_inv (by kernel_rfl) [[], [], [0, 1], [2], [3], [], [5], [6], [7], [4, 8]] (by kernel_rfl) [0, 1, 2, 3, 4, 5, 6, 7, 8, 9] (by decide +kernel) (by decide +kernel) (by decide +kernel) (fun L a wc => InvO qcar_other_dsts [.slice (some ap) m cp, .int .i64 (k : Nat), .pointer (some (ap.add k)), .string (sb y), .int .i64 (ly : Nat), .slice (some ap) m cp, .pointer (some ap), .string (sb z), .int .i64 (lz : Nat), .bool true] ⟨#[c0, c1, c2, .slice (some ap) m cp, c4, c5, c6, c7, c8, c9, c10, .int .i64 (k : Nat), c12, c13, c14, c15, c16, c17, c18, c19, c20, c21, c22, c23, c24, c25, c26, c27, c28, c29, c30, c31, c32, c33, c34, c35, c36, c37, c38, c39, c40, c41, c42, c43, c44, c45, c46, c47, c48, c49, c50, c51, c52, c53, c54, c55, c56, c57, c58, c59, c60, c61, c62, c63, c64, c65, c66, c67, c68, c69, c70, c71, c72, c73, c74, c75, c76, c77, c78, c79, c80, c81, c82, c83, c84, c85], df⟩ L a ∧ Hid (Ext wr wc)) ⟨InvO.start, Lib.hid ((Ext.refl wr).drew)⟩ ?_ ?_
  · refine ⟨?_, ?_, ?_, ?_, ?_, ?_, ?_, ?_, ?_, ?_, trivial⟩
    · -- 0 move
      rintro L a wc ⟨hv, HO⟩ hL hc hd
      exact wpOp_val rfl rfl (ex_move rfl ((hv.fixed 3 (by decide)).trans rfl)) ⟨hv.put qcar_other_apart 0 rfl (Nat.le_of_ble_eq_true rfl) (Nat.le_of_ble_eq_true rfl) rfl, HO⟩
    · -- 1 move
      rintro L a wc ⟨hv, HO⟩ hL hc hd
      exact wpOp_val rfl rfl (ex_move rfl ((hv.fixed 11 (by decide)).trans rfl)) ⟨hv.put qcar_other_apart 1 rfl (Nat.le_of_ble_eq_true rfl) (Nat.le_of_ble_eq_true rfl) rfl, HO⟩
    · -- 2 index
      rintro L a wc ⟨hv, HO⟩ hL hc hd
      have b1 : (0 : Int) ≤ (k : Int) := by omega
      have b2 : (k : Int) < (m : Int) := by omega
      exact wpOp_val rfl rfl (ex_index rfl (hv.get 0 rfl rfl (hd 0 (by decide))) (hv.get 1 rfl rfl (hd 1 (by decide))) (by go_simp)) ⟨hv.put qcar_other_apart 2 rfl (Nat.le_of_ble_eq_true rfl) (Nat.le_of_ble_eq_true rfl) rfl, HO⟩
    · -- 3 load
      rintro L a wc ⟨hv, HO⟩ hL hc hd
      have h1 : wc.cell? (ap.add k) = some (.string (sb y)) := HO.out.cell cy
      exact wpOp_val rfl rfl (ex_load rfl (hv.get 2 rfl rfl (hd 2 (by decide))) (by go_simp)) ⟨hv.put qcar_other_apart 3 rfl (Nat.le_of_ble_eq_true rfl) (Nat.le_of_ble_eq_true rfl) rfl, HO⟩
    · -- 4 raw
      rintro L a wc ⟨hv, HO⟩ hL hc hd
      exact wpOp_val rfl rfl (ex_lens rfl Tryd.underlying9 (hv.get 3 rfl rfl (hd 3 (by decide))) (by rw [size_sb]; exact hly)) ⟨hv.put qcar_other_apart 4 rfl (Nat.le_of_ble_eq_true rfl) (Nat.le_of_ble_eq_true rfl) rfl, HO⟩
    · -- 5 move
      rintro L a wc ⟨hv, HO⟩ hL hc hd
      exact wpOp_val rfl rfl (ex_move rfl ((hv.fixed 3 (by decide)).trans rfl)) ⟨hv.put qcar_other_apart 5 rfl (Nat.le_of_ble_eq_true rfl) (Nat.le_of_ble_eq_true rfl) rfl, HO⟩
    · -- 6 index
      rintro L a wc ⟨hv, HO⟩ hL hc hd
      have b2 : 0 < m := by omega
      exact wpOp_val rfl rfl (ex_index rfl (hv.get 5 rfl rfl (hd 5 (by decide))) rfl (by go_simp)) ⟨hv.put qcar_other_apart 6 rfl (Nat.le_of_ble_eq_true rfl) (Nat.le_of_ble_eq_true rfl) rfl, HO⟩
    · -- 7 load
      rintro L a wc ⟨hv, HO⟩ hL hc hd
      have h1 : wc.cell? ap = some (.string (sb z)) := HO.out.cell cz
      exact wpOp_val rfl rfl (ex_load rfl (hv.get 6 rfl rfl (hd 6 (by decide))) (by go_simp)) ⟨hv.put qcar_other_apart 7 rfl (Nat.le_of_ble_eq_true rfl) (Nat.le_of_ble_eq_true rfl) rfl, HO⟩
    · -- 8 raw
      rintro L a wc ⟨hv, HO⟩ hL hc hd
      exact wpOp_val rfl rfl (ex_lens rfl Tryd.underlying9 (hv.get 7 rfl rfl (hd 7 (by decide))) (by rw [size_sb]; exact hlz)) ⟨hv.put qcar_other_apart 8 rfl (Nat.le_of_ble_eq_true rfl) (Nat.le_of_ble_eq_true rfl) rfl, HO⟩
    · -- 9 bin
      rintro L a wc ⟨hv, HO⟩ hL hc hd
      exact wpOp_val rfl rfl (ex_bin rfl (hv.get 4 rfl rfl (hd 4 (by decide))) (hv.get 8 rfl rfl (hd 8 (by decide))) (by go_simp)) ⟨hv.put qcar_other_apart 9 rfl (Nat.le_of_ble_eq_true rfl) (Nat.le_of_ble_eq_true rfl) rfl, HO⟩
  · rintro L a wc ⟨hv, HO⟩ hall
    show K a wc
    have ha := act_lit a
    rw [hv.size, hv.defers] at ha
    have hl : ∀ f : Nat → Value, ((List.range (⟨#[c0, c1, c2, .slice (some ap) m cp, c4, c5, c6, c7, c8, c9, c10, .int .i64 (k : Nat), c12, c13, c14, c15, c16, c17, c18, c19, c20, c21, c22, c23, c24, c25, c26, c27, c28, c29, c30, c31, c32, c33, c34, c35, c36, c37, c38, c39, c40, c41, c42, c43, c44, c45, c46, c47, c48, c49, c50, c51, c52, c53, c54, c55, c56, c57, c58, c59, c60, c61, c62, c63, c64, c65, c66, c67, c68, c69, c70, c71, c72, c73, c74, c75, c76, c77, c78, c79, c80, c81, c82, c83, c84, c85], df⟩ : Act).tmps.size).map f).toArray = #[f 0, f 1, f 2, f 3, f 4, f 5, f 6, f 7, f 8, f 9, f 10, f 11, f 12, f 13, f 14, f 15, f 16, f 17, f 18, f 19, f 20, f 21, f 22, f 23, f 24, f 25, f 26, f 27, f 28, f 29, f 30, f 31, f 32, f 33, f 34, f 35, f 36, f 37, f 38, f 39, f 40, f 41, f 42, f 43, f 44, f 45, f 46, f 47, f 48, f 49, f 50, f 51, f 52, f 53, f 54, f 55, f 56, f 57, f 58, f 59, f 60, f 61, f 62, f 63, f 64, f 65, f 66, f 67, f 68, f 69, f 70, f 71, f 72, f 73, f 74, f 75, f 76, f 77, f 78, f 79, f 80, f 81, f 82, f 83, f 84, f 85] := fun _ => rfl
    rw [hl] at ha
    simp only [hv.fixed 0 (by decide), hv.fixed 1 (by decide), hv.fixed 2 (by decide), hv.fixed 3 (by decide), hv.fixed 4 (by decide), hv.fixed 5 (by decide), hv.fixed 6 (by decide), hv.fixed 7 (by decide), hv.fixed 8 (by decide), hv.fixed 9 (by decide), hv.fixed 10 (by decide), hv.fixed 11 (by decide), hv.fixed 12 (by decide), hv.fixed 13 (by decide), hv.fixed 14 (by decide), hv.fixed 15 (by decide), hv.fixed 16 (by decide), hv.fixed 17 (by decide), hv.fixed 18 (by decide), hv.fixed 19 (by decide), hv.fixed 20 (by decide), hv.fixed 21 (by decide), hv.fixed 22 (by decide), hv.fixed 23 (by decide), hv.fixed 24 (by decide), hv.fixed 25 (by decide), hv.fixed 26 (by decide), hv.fixed 27 (by decide), hv.fixed 28 (by decide), hv.fixed 29 (by decide), hv.fixed 30 (by decide), hv.fixed 31 (by decide), hv.fixed 32 (by decide), hv.fixed 33 (by decide), hv.fixed 34 (by decide), hv.fixed 35 (by decide), hv.fixed 36 (by decide), hv.fixed 37 (by decide), hv.fixed 38 (by decide), hv.fixed 39 (by decide), hv.fixed 40 (by decide), hv.fixed 41 (by decide), hv.fixed 42 (by decide), hv.fixed 43 (by decide), hv.fixed 44 (by decide), hv.fixed 45 (by decide), hv.fixed 46 (by decide), hv.fixed 57 (by decide), hv.fixed 58 (by decide), hv.fixed 59 (by decide), hv.fixed 60 (by decide), hv.fixed 61 (by decide), hv.fixed 62 (by decide), hv.fixed 63 (by decide), hv.fixed 64 (by decide), hv.fixed 65 (by decide), hv.fixed 66 (by decide), hv.fixed 67 (by decide), hv.fixed 68 (by decide), hv.fixed 69 (by decide), hv.fixed 70 (by decide), hv.fixed 71 (by decide), hv.fixed 72 (by decide), hv.fixed 73 (by decide), hv.fixed 74 (by decide), hv.fixed 75 (by decide), hv.fixed 76 (by decide), hv.fixed 77 (by decide), hv.fixed 78 (by decide), hv.fixed 79 (by decide), hv.fixed 80 (by decide), hv.fixed 81 (by decide), hv.fixed 82 (by decide), hv.fixed 83 (by decide), hv.fixed 84 (by decide), hv.fixed 85 (by decide), hv.get 9 (d := 56) rfl rfl (hall 9 (by decide))] at ha
    rw [ha]
    exact hK _ _ _ _ _ _ _ _ _ wc HO.out
noncomputable def qcar_app_code : Code := ((Tryd.f19.body.bind (regionOf 18)).getD .skip)
def qcar_app_dsts : List (Option Nat) := [some 64, some 65, some 66, some 67, some 68, some 69, some 70, some 71, some 72, some 73, some 74, some 75, some 76, some 12]
theorem qcar_app_apart : apartD qcar_app_dsts = true := by decide +kernel
set_option maxRecDepth 1000000 in
set_option maxHeartbeats 16000000 in
theorem qcar_app (W0 wr : World) (bx : LRow) (A : Option Addr) (B ln cl k ca : Nat) (ad : Addr) (G S CV PV : Value) (tg f : Int) (r : List UInt8) (vs : List Value) (hi8 : k < 1000000) (hkn : k < ln) (h0 : W0.cell? ⟨B, 0, none⟩ = some G) (h1 : W0.cell? ⟨B, 1, none⟩ = some S) (h2 : W0.cell? ⟨B, 2, none⟩ = some (.int .i64 tg)) (cf : W0.cell? (ad.add (k * 2)) = some (.int .i64 f)) (HR : Hid (∀ w1, Ext W0 w1 → Calls Tryd.prog 40 #[.agg #[G, S, .int .i64 tg], .slice (some ad) ln cl, CV, PV, .int .i64 f] w1 fun e w' => e = .returned (.string (sb r)) ∧ Ext w1 w')) (HOO : Hid (Owns W0 { wr with drawn := wr.drawn + 1 } [⟨.slice A k ca, 9, 1, k, vs⟩, no, bx])) (c0 c5 c6 c7 c8 c9 c10 c11 c14 c15 c16 c17 c18 c19 c20 c21 c22 c23 c24 c25 c26 c27 c28 c29 c30 c31 c32 c33 c34 c35 c36 c37 c38 c39 c40 c41 c42 c43 c44 c45 c46 c47 c48 c49 c50 c51 c52 c53 c54 c55 c56 c57 c58 c59 c60 c61 c62 c63 c64 c65 c66 c67 c68 c69 c70 c71 c72 c73 c74 c75 c76 c77 c78 c79 c80 c81 c82 c83 c84 c85 : Value) (df : List Deferred) (K : Act → World → Prop)
    (hK : ∀ (g12 k12 : Nat) (u64 u65 u66 u67 u68 u69 u70 u71 u72 u73 u74 u75 u76 : Value) (wx : World), Owns W0 wx [⟨.slice (some ⟨g12, 0, none⟩) (k + 1) k12, 9, 1, k + 1, vs ++ [.string (sb r)]⟩, no, bx] → K ⟨#[c0, .slice (some ad) ln cl, CV, PV, .pointer (some ⟨B, 0, none⟩), c5, c6, c7, c8, c9, c10, c11, .slice (some ⟨g12, 0, none⟩) (k + 1) k12, .int .i64 (k : Nat), c14, c15, c16, c17, c18, c19, c20, c21, c22, c23, c24, c25, c26, c27, c28, c29, c30, c31, c32, c33, c34, c35, c36, c37, c38, c39, c40, c41, c42, c43, c44, c45, c46, c47, c48, c49, c50, c51, c52, c53, c54, c55, c56, c57, c58, c59, c60, c61, c62, c63, u64, u65, u66, u67, u68, u69, u70, u71, u72, u73, u74, u75, u76, c77, c78, c79, c80, c81, c82, c83, c84, c85], df⟩ wx) :
    Code.wp Tryd.prog qcar_app_code (AtEnd K) ⟨#[c0, .slice (some ad) ln cl, CV, PV, .pointer (some ⟨B, 0, none⟩), c5, c6, c7, c8, c9, c10, c11, .slice A k ca, .int .i64 (k : Nat), c14, c15, c16, c17, c18, c19, c20, c21, c22, c23, c24, c25, c26, c27, c28, c29, c30, c31, c32, c33, c34, c35, c36, c37, c38, c39, c40, c41, c42, c43, c44, c45, c46, c47, c48, c49, c50, c51, c52, c53, c54, c55, c56, c57, c58, c59, c60, c61, c62, c63, c64, c65, c66, c67, c68, c69, c70, c71, c72, c73, c74, c75, c76, c77, c78, c79, c80, c81, c82, c83, c84, c85], df⟩ wr := by
  conv => arg 2; whnf
  refine region_inv (by kernel_rfl) [[], [], [], [], [], [], [], [5, 6], [7], [8], [1, 2, 3, 4, 9], [10], [0, 11, 10], [12, 12, 0, 1, 2, 3, 4, 5, 6, 7, 8, 9, 10, 11, 12]] (by kernel_rfl) [0, 1, 2, 3, 4, 5, 6, 7, 8, 9, 10, 11, 12, 13] (by decide +kernel) (by decide +kernel) (by decide +kernel) (fun L a wc => ∃ (g11 : Nat) (g12 : Nat) (k12 : Nat), InvO qcar_app_dsts [.slice A k ca, .agg #[G, S, .int .i64 tg], .slice (some ad) ln cl, CV, PV, .slice (some ad) ln cl, .int .i64 (k : Nat), .pointer (some (ad.add (k * 2))), .pointer (some (ad.add (k * 2))), .int .i64 f, .string (sb r), .slice (some ⟨g11, 0, none⟩) 1 1, .slice (some ⟨g12, 0, none⟩) (k + 1) k12, .slice (some ⟨g12, 0, none⟩) (k + 1) k12] ⟨#[c0, .slice (some ad) ln cl, CV, PV, .pointer (some ⟨B, 0, none⟩), c5, c6, c7, c8, c9, c10, c11, .slice A k ca, .int .i64 (k : Nat), c14, c15, c16, c17, c18, c19, c20, c21, c22, c23, c24, c25, c26, c27, c28, c29, c30, c31, c32, c33, c34, c35, c36, c37, c38, c39, c40, c41, c42, c43, c44, c45, c46, c47, c48, c49, c50, c51, c52, c53, c54, c55, c56, c57, c58, c59, c60, c61, c62, c63, c64, c65, c66, c67, c68, c69, c70, c71, c72, c73, c74, c75, c76, c77, c78, c79, c80, c81, c82, c83, c84, c85], df⟩ L a ∧ Hid (Owns W0 wc [(if L 12 = true then ⟨.slice (some ⟨g12, 0, none⟩) (k + 1) k12, 9, 1, k + 1, vs ++ [.string (sb r)]⟩ else ⟨.slice A k ca, 9, 1, k, vs⟩), (if L 11 = true then ⟨.slice (some ⟨g11, 0, none⟩) 1 1, 9, 1, 1, [.string (sb r)]⟩ else no), bx])) ⟨0, 0, 0, InvO.start, HOO⟩ ?_ ?_
  · refine ⟨?_, ?_, ?_, ?_, ?_, ?_, ?_, ?_, ?_, ?_, ?_, ?_, ?_, ?_, trivial⟩
    · -- 0 move
      rintro L a wc ⟨g11, g12, k12, hv, HO⟩ hL hc hd
      exact wpOp_val rfl rfl (ex_move rfl ((hv.old 13 12 rfl (Bool.eq_false_iff.2 fun h => Bool.false_ne_true (hL.symm.trans (hc 13 h 0 (by decide))))).trans rfl)) ⟨g11, g12, k12, hv.put qcar_app_apart 0 rfl (Nat.le_of_ble_eq_true rfl) (Nat.le_of_ble_eq_true rfl) rfl, HO⟩
    · -- 1 load
      rintro L a wc ⟨g11, g12, k12, hv, HO⟩ hL hc hd
      have e0 : wc.cell? ⟨B, 0, none⟩ = some G := HO.out.ext.cell h0
      have e1 : wc.cell? ⟨B, 1, none⟩ = some S := HO.out.ext.cell h1
      have e2 : wc.cell? ⟨B, 2, none⟩ = some (.int .i64 tg) := HO.out.ext.cell h2
      exact wpOp_val rfl rfl (ex_load rfl ((hv.fixed 4 (by decide)).trans rfl) (by go_simp)) ⟨g11, g12, k12, hv.put qcar_app_apart 1 rfl (Nat.le_of_ble_eq_true rfl) (Nat.le_of_ble_eq_true rfl) rfl, HO⟩
    · -- 2 move
      rintro L a wc ⟨g11, g12, k12, hv, HO⟩ hL hc hd
      exact wpOp_val rfl rfl (ex_move rfl ((hv.fixed 1 (by decide)).trans rfl)) ⟨g11, g12, k12, hv.put qcar_app_apart 2 rfl (Nat.le_of_ble_eq_true rfl) (Nat.le_of_ble_eq_true rfl) rfl, HO⟩
    · -- 3 move
      rintro L a wc ⟨g11, g12, k12, hv, HO⟩ hL hc hd
      exact wpOp_val rfl rfl (ex_move rfl ((hv.fixed 2 (by decide)).trans rfl)) ⟨g11, g12, k12, hv.put qcar_app_apart 3 rfl (Nat.le_of_ble_eq_true rfl) (Nat.le_of_ble_eq_true rfl) rfl, HO⟩
    · -- 4 move
      rintro L a wc ⟨g11, g12, k12, hv, HO⟩ hL hc hd
      exact wpOp_val rfl rfl (ex_move rfl ((hv.fixed 3 (by decide)).trans rfl)) ⟨g11, g12, k12, hv.put qcar_app_apart 4 rfl (Nat.le_of_ble_eq_true rfl) (Nat.le_of_ble_eq_true rfl) rfl, HO⟩
    · -- 5 move
      rintro L a wc ⟨g11, g12, k12, hv, HO⟩ hL hc hd
      exact wpOp_val rfl rfl (ex_move rfl ((hv.fixed 1 (by decide)).trans rfl)) ⟨g11, g12, k12, hv.put qcar_app_apart 5 rfl (Nat.le_of_ble_eq_true rfl) (Nat.le_of_ble_eq_true rfl) rfl, HO⟩
    · -- 6 move
      rintro L a wc ⟨g11, g12, k12, hv, HO⟩ hL hc hd
      exact wpOp_val rfl rfl (ex_move rfl ((hv.fixed 13 (by decide)).trans rfl)) ⟨g11, g12, k12, hv.put qcar_app_apart 6 rfl (Nat.le_of_ble_eq_true rfl) (Nat.le_of_ble_eq_true rfl) rfl, HO⟩
    · -- 7 index
      rintro L a wc ⟨g11, g12, k12, hv, HO⟩ hL hc hd
      have b1 : (0 : Int) ≤ (k : Int) := by omega
      have b2 : (k : Int) < (ln : Int) := by omega
      exact wpOp_val rfl rfl (ex_index rfl (hv.get 5 rfl rfl (hd 5 (by decide))) (hv.get 6 rfl rfl (hd 6 (by decide))) (by go_simp)) ⟨g11, g12, k12, hv.put qcar_app_apart 7 rfl (Nat.le_of_ble_eq_true rfl) (Nat.le_of_ble_eq_true rfl) rfl, HO⟩
    · -- 8 field
      rintro L a wc ⟨g11, g12, k12, hv, HO⟩ hL hc hd
      exact wpOp_val rfl rfl (ex_field rfl (hv.get 7 rfl rfl (hd 7 (by decide))) (by go_simp)) ⟨g11, g12, k12, hv.put qcar_app_apart 8 rfl (Nat.le_of_ble_eq_true rfl) (Nat.le_of_ble_eq_true rfl) rfl, HO⟩
    · -- 9 load
      rintro L a wc ⟨g11, g12, k12, hv, HO⟩ hL hc hd
      have eX : wc.cell? (ad.add (k * 2)) = some (.int .i64 f) := HO.out.ext.cell cf
      exact wpOp_val rfl rfl (ex_load rfl (hv.get 8 rfl rfl (hd 8 (by decide))) (by go_simp)) ⟨g11, g12, k12, hv.put qcar_app_apart 9 rfl (Nat.le_of_ble_eq_true rfl) (Nat.le_of_ble_eq_true rfl) rfl, HO⟩
    · -- 10 call
      rintro L a wc ⟨g11, g12, k12, hv, HO⟩ hL hc hd
      refine wpOp_call (R := fun v w1 => v = .string (sb r) ∧ Ext wc w1) rfl rfl (ex_call rfl rfl (map5c (hv.get 1 rfl rfl (hd 1 (by decide))) (hv.get 2 rfl rfl (hd 2 (by decide))) (hv.get 3 rfl rfl (hd 3 (by decide))) (hv.get 4 rfl rfl (hd 4 (by decide))) (hv.get 9 rfl rfl (hd 9 (by decide)))) (ent_qsum _ _)) ((HR.out wc HO.out.ext).mono (fun e w' h => ⟨_, h.1, rfl, h.2⟩)) ?_
      rintro v w' ⟨rfl, hx⟩
      exact ⟨g11, g12, k12, hv.put qcar_app_apart 10 rfl (Nat.le_of_ble_eq_true rfl) (Nat.le_of_ble_eq_true rfl) rfl, Lib.hid (HO.out.next hx)⟩
    · -- 11 lines
      rintro L a wc ⟨g11, g12, k12, hv, HO⟩ hL hc hd
      have hn := HO.out.new 1 #[.string (sb r)] 9 (by simp [maxLen])
      exact wpOp_value rfl rfl (ex_build rfl Tryd.underlying45 info_str (hv.get 10 rfl rfl (hd 10 (by decide))) rfl) ⟨wc.heap.size, g12, k12, hv.put qcar_app_apart 11 rfl (Nat.le_of_ble_eq_true rfl) (Nat.le_of_ble_eq_true rfl) rfl, Lib.hid hn⟩
    · -- 12 lines
      rintro L a wc ⟨g11, g12, k12, hv, HO⟩ hL hc hd
      refine wpOp_append rfl rfl 45 9 rfl Tryd.underlying45 info_str rfl HO.out 0 (congrArg some (if_neg (by simp [hL]))) (hv.get 0 rfl rfl (hd 0 (by decide))) (hv.get 11 rfl rfl (hd 11 (by decide))) (HO.out.cell 1 (congrArg some (if_pos (hd 11 (by decide)))) 0 rfl) rfl (by omega) (by decide) ?_
      intro gg cc w2 hO2
      have hv := hv.reset 13 (Bool.eq_false_iff.2 fun h => Bool.false_ne_true (hL.symm.trans (hc 13 h 12 (by decide)))) (.slice (some ⟨gg, 0, none⟩) (k + 1) cc)
      exact ⟨g11, gg, cc, hv.put qcar_app_apart 12 rfl (Nat.le_of_ble_eq_true rfl) (Nat.le_of_ble_eq_true rfl) rfl, Lib.hid hO2⟩
    · -- 13 assign
      rintro L a wc ⟨g11, g12, k12, hv, HO⟩ hL hc hd
      exact wpOp_val rfl rfl (ex_assign rfl (hv.get 12 rfl rfl (hd 12 (by decide)))) ⟨g11, g12, k12, hv.put qcar_app_apart 13 rfl (Nat.le_of_ble_eq_true rfl) (Nat.le_of_ble_eq_true rfl) rfl, HO⟩
  · rintro L a wc ⟨g11, g12, k12, hv, HO⟩ hall
    show K a wc
    have ha := act_lit a
    rw [hv.size, hv.defers] at ha
    have hl : ∀ f : Nat → Value, ((List.range (⟨#[c0, .slice (some ad) ln cl, CV, PV, .pointer (some ⟨B, 0, none⟩), c5, c6, c7, c8, c9, c10, c11, .slice A k ca, .int .i64 (k : Nat), c14, c15, c16, c17, c18, c19, c20, c21, c22, c23, c24, c25, c26, c27, c28, c29, c30, c31, c32, c33, c34, c35, c36, c37, c38, c39, c40, c41, c42, c43, c44, c45, c46, c47, c48, c49, c50, c51, c52, c53, c54, c55, c56, c57, c58, c59, c60, c61, c62, c63, c64, c65, c66, c67, c68, c69, c70, c71, c72, c73, c74, c75, c76, c77, c78, c79, c80, c81, c82, c83, c84, c85], df⟩ : Act).tmps.size).map f).toArray = #[f 0, f 1, f 2, f 3, f 4, f 5, f 6, f 7, f 8, f 9, f 10, f 11, f 12, f 13, f 14, f 15, f 16, f 17, f 18, f 19, f 20, f 21, f 22, f 23, f 24, f 25, f 26, f 27, f 28, f 29, f 30, f 31, f 32, f 33, f 34, f 35, f 36, f 37, f 38, f 39, f 40, f 41, f 42, f 43, f 44, f 45, f 46, f 47, f 48, f 49, f 50, f 51, f 52, f 53, f 54, f 55, f 56, f 57, f 58, f 59, f 60, f 61, f 62, f 63, f 64, f 65, f 66, f 67, f 68, f 69, f 70, f 71, f 72, f 73, f 74, f 75, f 76, f 77, f 78, f 79, f 80, f 81, f 82, f 83, f 84, f 85] := fun _ => rfl
    rw [hl] at ha
    simp only [hv.fixed 0 (by decide), hv.fixed 1 (by decide), hv.fixed 2 (by decide), hv.fixed 3 (by decide), hv.fixed 4 (by decide), hv.fixed 5 (by decide), hv.fixed 6 (by decide), hv.fixed 7 (by decide), hv.fixed 8 (by decide), hv.fixed 9 (by decide), hv.fixed 10 (by decide), hv.fixed 11 (by decide), hv.fixed 13 (by decide), hv.fixed 14 (by decide), hv.fixed 15 (by decide), hv.fixed 16 (by decide), hv.fixed 17 (by decide), hv.fixed 18 (by decide), hv.fixed 19 (by decide), hv.fixed 20 (by decide), hv.fixed 21 (by decide), hv.fixed 22 (by decide), hv.fixed 23 (by decide), hv.fixed 24 (by decide), hv.fixed 25 (by decide), hv.fixed 26 (by decide), hv.fixed 27 (by decide), hv.fixed 28 (by decide), hv.fixed 29 (by decide), hv.fixed 30 (by decide), hv.fixed 31 (by decide), hv.fixed 32 (by decide), hv.fixed 33 (by decide), hv.fixed 34 (by decide), hv.fixed 35 (by decide), hv.fixed 36 (by decide), hv.fixed 37 (by decide), hv.fixed 38 (by decide), hv.fixed 39 (by decide), hv.fixed 40 (by decide), hv.fixed 41 (by decide), hv.fixed 42 (by decide), hv.fixed 43 (by decide), hv.fixed 44 (by decide), hv.fixed 45 (by decide), hv.fixed 46 (by decide), hv.fixed 47 (by decide), hv.fixed 48 (by decide), hv.fixed 49 (by decide), hv.fixed 50 (by decide), hv.fixed 51 (by decide), hv.fixed 52 (by decide), hv.fixed 53 (by decide), hv.fixed 54 (by decide), hv.fixed 55 (by decide), hv.fixed 56 (by decide), hv.fixed 57 (by decide), hv.fixed 58 (by decide), hv.fixed 59 (by decide), hv.fixed 60 (by decide), hv.fixed 61 (by decide), hv.fixed 62 (by decide), hv.fixed 63 (by decide), hv.fixed 77 (by decide), hv.fixed 78 (by decide), hv.fixed 79 (by decide), hv.fixed 80 (by decide), hv.fixed 81 (by decide), hv.fixed 82 (by decide), hv.fixed 83 (by decide), hv.fixed 84 (by decide), hv.fixed 85 (by decide), hv.get 13 (d := 12) rfl rfl (hall 13 (by decide))] at ha
    rw [ha]
    have hO := HO.out
    simp only [hall 11 (by decide), hall 12 (by decide), if_true] at hO
    exact hK g12 k12 _ _ _ _ _ _ _ _ _ _ _ _ _ wc (hO.drop 1)
noncomputable def qcar_loop1_code : Code := ((Tryd.f19.body.bind (loopOf 12)).getD .skip)
set_option maxRecDepth 1000000 in
set_option maxHeartbeats 16000000 in
theorem qcar_loop1 (W1 W0 wr : World) (ps : List (List UInt8)) (coef : List UInt8) (PA : Option Addr) (X cp : Nat) (hp64 : ps.length ≤ 9223372036854775807) (HX : Hid (Ext W0 wr)) (HB : Hid (Rd W0 PA (ps.map fun p => .string (sb p)))) (HO : Hid (Owns W1 W0 [(⟨.slice (some ⟨X, 0, none⟩) 3 3, 49, 1, 3, [.slice none 0 0, .string (sb []), .int .i64 0]⟩ : LRow)])) (c0 c1 c2 c4 c5 c6 c7 c9 c10 c12 c13 c14 c15 c16 c17 c18 c19 c20 c21 c22 c23 c24 c25 c26 c27 c28 c29 c30 c31 c32 c33 c34 c35 c36 c37 c38 c39 c40 c41 c42 c43 c44 c45 c46 c47 c48 c49 c50 c51 c52 c53 c54 c55 c56 c57 c58 c59 c60 c61 c62 c63 c64 c65 c66 c67 c68 c69 c70 c71 c72 c73 c74 c75 c76 c77 c78 c79 c80 c81 c82 c83 c84 c85 : Value) (df : List Deferred) (Q0 : Exit → Act → World → Prop)
    (hret : ∀ (u11 u41 u42 u43 u44 u45 u46 u47 u48 u49 u50 u51 u52 u53 u54 u55 u56 u57 : Value) (wx : World), Gf.combOk coef ps = false ∧ Owns W1 wx [(⟨.slice (some ⟨X, 0, none⟩) 3 3, 49, 1, 3, [.slice none 0 0, .string (sb []), .int .i64 1]⟩ : LRow)] → Q0 .ret ⟨#[c0, c1, c2, .slice PA ps.length cp, c4, c5, c6, c7, .pointer (some ⟨X, 0, none⟩), c9, c10, u11, c12, c13, c14, c15, c16, c17, c18, c19, c20, c21, c22, c23, c24, c25, c26, c27, c28, c29, c30, c31, c32, c33, c34, c35, c36, c37, c38, c39, c40, u41, u42, u43, u44, u45, u46, u47, u48, u49, u50, u51, u52, u53, u54, u55, u56, u57, c58, c59, c60, c61, c62, c63, c64, c65, c66, c67, c68, c69, c70, c71, c72, c73, c74, c75, c76, c77, c78, c79, c80, c81, c82, c83, c84, c85], df⟩ wx)
    (hexit : ∀ (u11 u41 u42 u43 u44 u45 u46 u47 u48 u49 u50 u51 u52 u53 u54 u55 u56 u57 : Value) (wx : World), (∀ j, j < ps.length → (ps.getD j []).length = (ps.headD []).length) ∧ Ext W0 wx → Q0 (.exit 0) ⟨#[c0, c1, c2, .slice PA ps.length cp, c4, c5, c6, c7, .pointer (some ⟨X, 0, none⟩), c9, c10, u11, c12, c13, c14, c15, c16, c17, c18, c19, c20, c21, c22, c23, c24, c25, c26, c27, c28, c29, c30, c31, c32, c33, c34, c35, c36, c37, c38, c39, c40, u41, u42, u43, u44, u45, u46, u47, u48, u49, u50, u51, u52, u53, u54, u55, u56, u57, c58, c59, c60, c61, c62, c63, c64, c65, c66, c67, c68, c69, c70, c71, c72, c73, c74, c75, c76, c77, c78, c79, c80, c81, c82, c83, c84, c85], df⟩ wx) :
    Code.wp Tryd.prog qcar_loop1_code Q0 ⟨#[c0, c1, c2, .slice PA ps.length cp, c4, c5, c6, c7, .pointer (some ⟨X, 0, none⟩), c9, c10, .int .i64 0, c12, c13, c14, c15, c16, c17, c18, c19, c20, c21, c22, c23, c24, c25, c26, c27, c28, c29, c30, c31, c32, c33, c34, c35, c36, c37, c38, c39, c40, c41, c42, c43, c44, c45, c46, c47, c48, c49, c50, c51, c52, c53, c54, c55, c56, c57, c58, c59, c60, c61, c62, c63, c64, c65, c66, c67, c68, c69, c70, c71, c72, c73, c74, c75, c76, c77, c78, c79, c80, c81, c82, c83, c84, c85], df⟩ wr := by
  have HE := Lib.hid hexit
  clear hexit
  have HRT := Lib.hid hret
  clear hret
  conv => arg 2; whnf
  dsimp only
  go_loopw [11] (fun vi wr => ∃ k : Nat, k ≤ ps.length ∧ vi = .int .i64 k ∧ Hid (Ext W0 wr ∧ ∀ j, j < k → (ps.getD j []).length = (ps.headD []).length)) (fun vi _ => ps.length - (intOf vi).toNat)
  case atStart => exact ⟨0, Nat.zero_le _, rfl, Lib.hid ⟨HX.out, fun j hj => absurd hj (Nat.not_lt_zero j)⟩⟩
  case round =>
    obtain ⟨k, hk, rfl, HI⟩ := hrel
    by_cases hlt : k < ps.length
    · obtain ⟨ap, eB, _, hcy⟩ := (HB.out.ext HI.out.1).at (k := k) (by simpa using hlt)
      obtain ⟨ap', eB', _, hcz⟩ := (HB.out.ext HI.out.1).at (k := 0) (by simp; omega)
      rw [eB] at eB'
      injection eB' with eB'
      subst eB'
      subst eB
      rw [List.getElem_map] at hcy hcz
      have hgd := getD_get (x := ([] : List UInt8)) hlt
      have hg0 : ps[0]'(by omega) = ps.headD [] := by
        cases ps with
        | nil => simp at hlt
        | cons p q => rfl
      rw [hg0, show ap.add 0 = ap from by go_simp] at hcz
      obtain ⟨y, hy⟩ : ∃ y, ps[k] = y := ⟨_, rfl⟩
      obtain ⟨z, hz⟩ : ∃ z, ps.headD [] = z := ⟨_, rfl⟩
      rw [hy] at hcy hgd
      rw [hz] at hcz
      have HF := Lib.hid (And.intro hgd hz)
      clear hgd hg0 hy hz
      by_cases hyz : y.length = z.length
      · have HYZ := Lib.hid hyz
        go_wp2_with fail
        refine wp_atEnd (qcar_same wr ps.length cp k y.length z.length ap y z hlt rfl rfl hcy hcz (by rw [HYZ.out]; simp) _ _ _ _ _ _ _ _ _ _ _ _ _ _ _ _ _ _ _ _ _ _ _ _ _ _ _ _ _ _ _ _ _ _ _ _ _ _ _ _ _ _ _ _ _ _ _ _ _ _ _ _ _ _ _ _ _ _ _ _ _ _ _ _ _ _ _ _ _ _ _ _ _ _ _ _ _ _ _ _ _ _ _ _ _ _ ?_)
        intro u47 u48 u49 u50 u51 u52 u53 u54 u55 wx hx
        have HX2 := Lib.hid hx
        clear hx hyz hcy hcz
        go_wp2_with fail
        go_roundw
        case rel => exact ⟨k + 1, by omega, by go_num, Lib.hid ⟨HI.out.1.trans HX2.out, fun j hj => by
          by_cases hjk : j = k
          · rw [hjk, HF.out.1, HF.out.2]; exact HYZ.out
          · exact HI.out.2 j (by omega)⟩⟩
        case measure => simp [intOf]; omega
      · have hbad : Gf.combOk coef ps = false := by
          cases hq : Gf.combOk coef ps with
          | false => rfl
          | true =>
            exfalso
            unfold Gf.combOk at hq
            rw [Bool.and_eq_true] at hq
            have h2 := List.all_eq_true.1 hq.2 y (by
              have h3 := HF.out.1
              rw [getD_get hlt] at h3
              rw [← h3]; exact List.getElem_mem hlt)
            rw [HF.out.2] at h2
            exact hyz (by simpa using h2)
        have HBAD := Lib.hid hbad
        have HYZ := Lib.hid hyz
        go_wp2_with fail
        refine wp_atEnd (qcar_other wr ps.length cp k y.length z.length ap y z hlt rfl rfl hcy hcz (by rw [bne_iff_ne]; have := HYZ.out; omega) _ _ _ _ _ _ _ _ _ _ _ _ _ _ _ _ _ _ _ _ _ _ _ _ _ _ _ _ _ _ _ _ _ _ _ _ _ _ _ _ _ _ _ _ _ _ _ _ _ _ _ _ _ _ _ _ _ _ _ _ _ _ _ _ _ _ _ _ _ _ _ _ _ _ _ _ _ _ _ _ _ _ _ _ _ _ ?_)
        intro u47 u48 u49 u50 u51 u52 u53 u54 u55 wx hx
        have HO2 := Lib.hid (HO.out.next ((HI.out.1).trans hx))
        clear hx hyz hcy hcz hbad
        have hc0 := HO2.out.cell 0 rfl 0 rfl
        have hc1 := HO2.out.cell 0 rfl 1 rfl
        have hc2 := HO2.out.cell 0 rfl 2 rfl
        have hf0 := HO2.out.frozen 0 rfl 0
        have hf1 := HO2.out.frozen 0 rfl 1
        have hf2 := HO2.out.frozen 0 rfl 2
        go_wp2_with fail
        exact HRT.out _ _ _ _ _ _ _ _ _ _ _ _ _ _ _ _ _ _ _ ⟨HBAD.out, ((HO2.out.store 0 rfl 0 _).store 0 rfl 1 _).store 0 rfl 2 _⟩
    · obtain rfl : k = ps.length := by omega
      go_wp2_with fail
      exact HE.out _ _ _ _ _ _ _ _ _ _ _ _ _ _ _ _ _ _ wr ⟨HI.out.2, HI.out.1⟩

noncomputable def qcar_loop2_code : Code := ((Tryd.f19.body.bind (loopOf 18)).getD .skip)
set_option maxRecDepth 1000000 in
set_option maxHeartbeats 16000000 in
theorem qcar_loop2 (W0 wr : World) (bx : LRow) (rec : Int → Option (List UInt8)) (l : List (Int × Int)) (LA : Option Addr) (G S CV PV : Value) (B cl : Nat) (tg : Int) (hl12 : l.length ≤ 12) (HD : Hid (W0.cell? ⟨B, 0, none⟩ = some G ∧ W0.cell? ⟨B, 1, none⟩ = some S ∧ W0.cell? ⟨B, 2, none⟩ = some (.int .i64 tg))) (HL : Hid (RL W0 (.slice LA l.length cl) l)) (HALL : Hid (∀ x ∈ l, ∃ V, rec x.1 = some V)) (IH : Hid (∀ f r, rec f = some r → ∀ w1, Ext W0 w1 → Calls Tryd.prog 40 #[.agg #[G, S, .int .i64 tg], .slice LA l.length cl, CV, PV, .int .i64 f] w1 fun e w' => e = .returned (.string (sb r)) ∧ Ext w1 w')) (HO0 : Hid (Owns W0 wr [⟨.slice none 0 0, 9, 1, 0, []⟩, no, bx])) (c0 c5 c6 c7 c8 c9 c10 c11 c14 c15 c16 c17 c18 c19 c20 c21 c22 c23 c24 c25 c26 c27 c28 c29 c30 c31 c32 c33 c34 c35 c36 c37 c38 c39 c40 c41 c42 c43 c44 c45 c46 c47 c48 c49 c50 c51 c52 c53 c54 c55 c56 c57 c58 c59 c60 c61 c62 c63 c64 c65 c66 c67 c68 c69 c70 c71 c72 c73 c74 c75 c76 c77 c78 c79 c80 c81 c82 c83 c84 c85 : Value) (df : List Deferred) (Q0 : Exit → Act → World → Prop)
    (hexit : ∀ (u12 u13 u58 u59 u60 u61 u62 u63 u64 u65 u66 u67 u68 u69 u70 u71 u72 u73 u74 u75 u76 : Value) (wx : World), (∃ A' c', u12 = .slice A' l.length c' ∧ Owns W0 wx [⟨.slice A' l.length c', 9, 1, l.length, (l.map fun x => (rec x.1).getD []).map sv⟩, no, bx]) → Q0 (.exit 2) ⟨#[c0, .slice LA l.length cl, CV, PV, .pointer (some ⟨B, 0, none⟩), c5, c6, c7, c8, c9, c10, c11, u12, u13, c14, c15, c16, c17, c18, c19, c20, c21, c22, c23, c24, c25, c26, c27, c28, c29, c30, c31, c32, c33, c34, c35, c36, c37, c38, c39, c40, c41, c42, c43, c44, c45, c46, c47, c48, c49, c50, c51, c52, c53, c54, c55, c56, c57, u58, u59, u60, u61, u62, u63, u64, u65, u66, u67, u68, u69, u70, u71, u72, u73, u74, u75, u76, c77, c78, c79, c80, c81, c82, c83, c84, c85], df⟩ wx) :
    Code.wp Tryd.prog qcar_loop2_code Q0 ⟨#[c0, .slice LA l.length cl, CV, PV, .pointer (some ⟨B, 0, none⟩), c5, c6, c7, c8, c9, c10, c11, .slice none 0 0, .int .i64 0, c14, c15, c16, c17, c18, c19, c20, c21, c22, c23, c24, c25, c26, c27, c28, c29, c30, c31, c32, c33, c34, c35, c36, c37, c38, c39, c40, c41, c42, c43, c44, c45, c46, c47, c48, c49, c50, c51, c52, c53, c54, c55, c56, c57, c58, c59, c60, c61, c62, c63, c64, c65, c66, c67, c68, c69, c70, c71, c72, c73, c74, c75, c76, c77, c78, c79, c80, c81, c82, c83, c84, c85], df⟩ wr := by
  have HE := Lib.hid hexit
  clear hexit
  conv => arg 2; whnf
  dsimp only
  go_loopw [12, 13] (fun vo vi wr => ∃ (k : Nat) (A' : Option Addr) (c' : Nat), k ≤ l.length ∧ vi = .int .i64 k ∧ vo = .slice A' k c' ∧ Hid (Owns W0 wr [⟨.slice A' k c', 9, 1, k, ((l.take k).map fun x => (rec x.1).getD []).map sv⟩, no, bx])) (fun _ vi _ => l.length - (intOf vi).toNat)
  case atStart => exact ⟨0, none, 0, Nat.zero_le _, rfl, rfl, HO0⟩
  case round =>
    obtain ⟨k, A', c', hk, rfl, rfl, HI⟩ := hrel
    by_cases hlt : k < l.length
    · obtain ⟨ad, f, t, hLA, hft, k1, k2, kb, kb2⟩ := HL.out.at hlt
      subst hLA
      have hmem : l.getD k (0, 0) ∈ l := by rw [getD_get hlt]; exact List.getElem_mem _
      obtain ⟨r, hr⟩ := HALL.out _ hmem
      have htk := Su.take_snoc hlt
      rw [hft] at hr htk
      simp only at hr
      have HV2 := Lib.hid (And.intro hr htk)
      have HIH := Lib.hid (IH.out f r hr)
      clear hr htk hft hmem k2
      go_wp2_with fail
      refine wp_atEnd' (qcar_app W0 wr bx A' B l.length cl k c' ad G S CV PV tg f r _ (by have := hl12; omega) hlt HD.out.1 HD.out.2.1 HD.out.2.2 k1 HIH (Lib.hid (HI.out.next (Ext.refl wr).drew)) _ _ _ _ _ _ _ _ _ _ _ _ _ _ _ _ _ _ _ _ _ _ _ _ _ _ _ _ _ _ _ _ _ _ _ _ _ _ _ _ _ _ _ _ _ _ _ _ _ _ _ _ _ _ _ _ _ _ _ _ _ _ _ _ _ _ _ _ _ _ _ _ _ _ _ _ _ _ _ _ _ _ ?_)
      intro g12 k12 u64 u65 u66 u67 u68 u69 u70 u71 u72 u73 u74 u75 u76 wx hx
      have HX2 := Lib.hid hx
      clear hx k1
      go_wp2_with fail
      go_roundw
      case rel => exact ⟨k + 1, some ⟨g12, 0, none⟩, k12, by omega, by go_num, rfl, Lib.hid (by
        rw [HV2.out.2, List.map_append, List.map_append, List.map_singleton, List.map_singleton, HV2.out.1]
        exact HX2.out)⟩
      case measure => simp [intOf]; omega
    · obtain rfl : k = l.length := by omega
      have ho := HI.out
      rw [List.take_length] at ho
      have HO := Lib.hid ho
      clear ho
      go_wp2_with fail
      exact HE.out _ _ _ _ _ _ _ _ _ _ _ _ _ _ _ _ _ _ _ _ _ wr ⟨A', c', rfl, HO.out⟩

end Go.Proofs.YtenafgphaceidaaDoor

/- THE WALK over Carry of the specification of layer 19. -/
namespace Su
theorem combS_len {coef : List UInt8} {ps : List (List UInt8)} (h : Gf.combOk coef ps = true) : (Gf.combS coef ps).length = (ps.headD []).length := by
  rw [Gf.combS_ok h, Gf.combine, List.length_map, List.length_range]
theorem combOk_same {coef : List UInt8} {ps : List (List UInt8)} (h1 : coef.length = ps.length) (h : ∀ j, j < ps.length → (ps.getD j []).length = (ps.headD []).length) : Gf.combOk coef ps = true := by
  unfold Gf.combOk
  rw [Bool.and_eq_true]
  refine ⟨by simpa using h1, List.all_eq_true.2 fun p hp => ?_⟩
  obtain ⟨j, hj, rfl⟩ := List.getElem_of_mem hp
  have := h j hj
  rw [List.getD_eq_getElem?_getD, List.getElem?_eq_getElem hj] at this
  simpa using this
end Su
namespace Go.Proofs.YtenafgphaceidaaDoor
open Go.RowKit
/-- What Carry of the specification leaves. -/
def QCarryOut (res : List (List UInt8) × List UInt8 × Int) (w : World) (e : Ending) (w' : World) : Prop :=
  ∃ A n c, e = .returned (.agg #[.slice A n c, .string (sb res.2.1), .int .i64 res.2.2]) ∧ Rs RS w' (.slice A n c) res.1 ∧ Ext w w'
theorem qcarry_nil {w w' : World} {res : List (List UInt8) × List UInt8 × Int} {x : Int} (hr : res = ([], [], x)) (hx : Ext w w') : QCarryOut res w (.returned (.agg #[.slice none 0 0, .string (sb []), .int .i64 x])) w' :=
  ⟨none, 0, 0, by rw [hr], by rw [hr]; exact ⟨none, 0, rfl, by simp, fun i x hi => by simp at hi⟩, hx⟩
set_option maxHeartbeats 16000000 in
set_option maxRecDepth 100000 in
theorem qCarry_any (fuel : Nat) (h : Su.Ha) (l : List (Int × Int)) (coef : List UInt8) (ps : List (List UInt8)) (v u : Value) (CA PA : Option Addr) (ca cb : Nat) (w : World) (hv : RH w v h) (hu : RL w u l) (hA : Rd w CA (coef.map bv)) (hB : Rd w PA (ps.map fun p => .string (sb p)))
    (hcl : coef.length ≤ 1000000) (hp : ∀ p ∈ ps, p.length ≤ 1000000)
    (hterm : Su.valid h l = true → Gf.combE coef ps = 0 → ps.length = h.src.length → (∀ x ∈ l, ∃ V, Su.sumF h.src l coef ps (Gf.combS coef ps).length fuel x.1 = some V) ∧ ∃ V, Su.sumF h.src l coef ps (Gf.combS coef ps).length fuel h.tgt = some V) :
    Calls Tryd.prog 19 #[v, u, .slice CA coef.length ca, .slice PA ps.length cb] w fun e w' => QCarryOut (Su.carry fuel h l coef ps) w e w' := by
  have hvv := hv
  obtain ⟨A, SA, c, d, rfl, hG, hS, hl1, hl2, hb1, hb2⟩ := hv.open
  have hx0 := (Ext.refl w).alloc (.cells #[.slice A h.pr.length c, .slice SA h.src.length d, .int .i64 h.tgt] 25)
  have HX0 := Lib.hid hx0
  obtain ⟨LA, e, rfl, hl3⟩ := hu.form
  obtain ⟨n, hn⟩ : ∃ n, h.pr.length = n := ⟨_, rfl⟩
  rw [hn] at HX0 hx0 hG hl1 hvv ⊢
  have HO3 : Hid (Owns (w.alloc (.cells #[.slice A n c, .slice SA h.src.length d, .int .i64 h.tgt] 25)) ((w.alloc (.cells #[.slice A n c, .slice SA h.src.length d, .int .i64 h.tgt] 25)).alloc (.cells #[.slice none 0 0, .string (sb []), .int .i64 0] 49)) [⟨.slice none 0 0, 9, 1, 0, []⟩, no, (⟨.slice (some ⟨w.heap.size + 1, 0, none⟩) 3 3, 49, 1, 3, [.slice none 0 0, .string (sb []), .int .i64 0]⟩ : LRow)]) := Lib.hid (by
    have h3 := (Owns.start (L := [⟨.slice none 0 0, 9, 1, 0, []⟩, no, no]) (w.alloc (.cells #[.slice A n c, .slice SA h.src.length d, .int .i64 h.tgt] 25)) (by intro r hr; simp [no] at hr; rcases hr with rfl | rfl <;> simp)).new 2 #[.slice none 0 0, .string (sb []), .int .i64 0] 49 (by simp [maxLen])
    simpa using h3)
  have HO : Hid (Owns (w.alloc (.cells #[.slice A n c, .slice SA h.src.length d, .int .i64 h.tgt] 25)) ((w.alloc (.cells #[.slice A n c, .slice SA h.src.length d, .int .i64 h.tgt] 25)).alloc (.cells #[.slice none 0 0, .string (sb []), .int .i64 0] 49)) [(⟨.slice (some ⟨w.heap.size + 1, 0, none⟩) 3 3, 49, 1, 3, [.slice none 0 0, .string (sb []), .int .i64 0]⟩ : LRow)]) := Lib.hid (HO3.out.sublist (by simp))
  have hx1 := hx0.alloc (.cells #[.slice none 0 0, .string (sb []), .int .i64 0] 49)
  have HX1 := Lib.hid hx1
  have HVW := Lib.hid (RH.ext _ _ _ _ hx0 hvv)
  have HLW := Lib.hid (RL.ext _ _ _ _ hx0 hu)
  have HAW := Lib.hid (hA.ext hx0)
  have HBW := Lib.hid (hB.ext hx0)
  have HL := Lib.hid (RL.ext _ _ _ _ hx1 hu)
  have HV := Lib.hid (RH.ext _ _ _ _ hx1 hvv)
  have HB := Lib.hid (hB.ext hx1)
  have HN := Lib.hid hn
  have HT := Lib.hid hterm
  have HP := Lib.hid hp
  clear hv hvv hG hS hx0 hu hn hx1 hA hB hterm hp
  by_cases h0 : Su.check h = 0
  case neg =>
    have e1 : (Su.check h != 0) = true := by rw [bne_iff_ne]; exact h0
    have HC := Lib.hid (Su.carry_err (f := fuel) (l := l) (coef := coef) (ps := ps) h0)
    clear h0
    go_enter Tryd.func19, Tryd.ntmps19
    go_wp2_with fail
    refine (qCheck_any h _ _ HV.out).mono ?_
    rintro ee w1 ⟨rfl, hx1⟩
    have HO1 := Lib.hid (HO.out.next hx1)
    clear hx1
    have hc0 := HO1.out.cell 0 rfl 0 rfl
    have hf0 := HO1.out.frozen 0 rfl 0
    have hc1 := HO1.out.cell 0 rfl 1 rfl
    have hf1 := HO1.out.frozen 0 rfl 1
    have hc2 := HO1.out.cell 0 rfl 2 rfl
    have hf2 := HO1.out.frozen 0 rfl 2
    go_wp2_with fail
    have hO7 := ((HO1.out.store 0 rfl 0 (.slice none 0 0)).store 0 rfl 1 (.string { data := #[] })).store 0 rfl 2 (.int .i64 (Su.check h))
    exact bodyPost_ret (v := .agg #[.slice none 0 0, .string { data := #[] }, .int .i64 (Su.check h)]) (by simp [results, Tryd.results19, go_sem, hc0, hc1, hc2]) rfl (qcarry_nil (HC.out) (HX0.out.trans hO7.ext))
  case pos =>
  have e1 : (Su.check h != 0) = false := by rw [h0]; rfl
  have HH0 := Lib.hid h0
  clear h0
  cases hval : Su.valid h l with
  | false =>
    have HC := Lib.hid (And.intro (Su.carry_bad (f := fuel) (coef := coef) (ps := ps) HH0.out hval) hval)
    clear hval
    go_enter Tryd.func19, Tryd.ntmps19
    go_wp2_with fail
    refine (qCheck_any h _ _ HV.out).mono ?_
    rintro ee w1 ⟨rfl, hx1⟩
    have HXa := Lib.hid hx1
    have d0 : w1.cell? ⟨w.heap.size, 0, none⟩ = some (.slice A n c) := hx1.cell (by go_simp)
    have d1 : w1.cell? ⟨w.heap.size, 1, none⟩ = some (.slice SA h.src.length d) := hx1.cell (by go_simp)
    have d2 : w1.cell? ⟨w.heap.size, 2, none⟩ = some (.int .i64 h.tgt) := hx1.cell (by go_simp)
    have HD1 := Lib.hid d1
    clear hx1
    go_wp2_with fail
    clear d0 d1 d2
    refine (qValid_any h l _ _ _ (RH.ext _ _ _ _ HXa.out HV.out) (RL.ext _ _ _ _ HXa.out HL.out) HH0.out).mono ?_
    rintro ee w2 ⟨rfl, hx2⟩
    rw [HC.out.2]
    have HO2 := Lib.hid (HO.out.next (HXa.out.trans hx2))
    clear hx2
    have hc0 := HO2.out.cell 0 rfl 0 rfl
    have hf0 := HO2.out.frozen 0 rfl 0
    have hc1 := HO2.out.cell 0 rfl 1 rfl
    have hf1 := HO2.out.frozen 0 rfl 1
    have hc2 := HO2.out.cell 0 rfl 2 rfl
    have hf2 := HO2.out.frozen 0 rfl 2
    go_wp2_with fail
    have hO7 := ((HO2.out.store 0 rfl 0 (.slice none 0 0)).store 0 rfl 1 (.string { data := #[] })).store 0 rfl 2 (.int .i64 (22))
    exact bodyPost_ret (v := .agg #[.slice none 0 0, .string { data := #[] }, .int .i64 (22)]) (by simp [results, Tryd.results19, go_sem, hc0, hc1, hc2]) rfl (qcarry_nil (HC.out.1) (HX0.out.trans hO7.ext))
  | true =>
    have HVAL := Lib.hid hval
    have hlen : l.length ≤ 12 := by
      have := Su.hops_few (Su.valid_iff.1 hval).2.1
      have := (Su.ok_of HH0.out).few
      omega
    clear hval
    by_cases q1 : coef.length = h.src.length ∧ ps.length = h.src.length
    case neg =>
      have hbad : Gf.combE coef ps ≠ 0 ∨ ps.length ≠ h.src.length := by
        by_cases q2 : ps.length = h.src.length
        · left
          have : Gf.combOk coef ps = false := Gf.combOk_ne (fun e => q1 ⟨by omega, q2⟩)
          rw [Gf.combE_no this]
          decide
        · exact .inr q2
      have HC := Lib.hid (Su.carry_arg (f := fuel) HVAL.out hbad)
      clear hbad
      by_cases q3 : coef.length = h.src.length
      all_goals
        first
          | have q4 : ((coef.length : Int) != (h.src.length : Int)) = false := by rw [q3]; simp
            have q5 : ((ps.length : Int) != (h.src.length : Int)) = true := by rw [bne_iff_ne]; intro e; exact q1 ⟨q3, by omega⟩
            skip
          | have q4 : ((coef.length : Int) != (h.src.length : Int)) = true := by rw [bne_iff_ne]; omega
            skip
        clear q1 q3
        go_enter Tryd.func19, Tryd.ntmps19
        go_wp2_with fail
        refine (qCheck_any h _ _ HV.out).mono ?_
        rintro ee w1 ⟨rfl, hx1⟩
        have HXa := Lib.hid hx1
        have d0 : w1.cell? ⟨w.heap.size, 0, none⟩ = some (.slice A n c) := hx1.cell (by go_simp)
        have d1 : w1.cell? ⟨w.heap.size, 1, none⟩ = some (.slice SA h.src.length d) := hx1.cell (by go_simp)
        have d2 : w1.cell? ⟨w.heap.size, 2, none⟩ = some (.int .i64 h.tgt) := hx1.cell (by go_simp)
        have HD1 := Lib.hid d1
        clear hx1
        go_wp2_with fail
        clear d0 d1 d2
        refine (qValid_any h l _ _ _ (RH.ext _ _ _ _ HXa.out HV.out) (RL.ext _ _ _ _ HXa.out HL.out) HH0.out).mono ?_
        rintro ee w2 ⟨rfl, hx2⟩
        rw [HVAL.out]
        have HO2 := Lib.hid (HO.out.next (HXa.out.trans hx2))
        have d1 := hx2.cell HD1.out
        clear hx2
        have hc0 := HO2.out.cell 0 rfl 0 rfl
        have hf0 := HO2.out.frozen 0 rfl 0
        have hc1 := HO2.out.cell 0 rfl 1 rfl
        have hf1 := HO2.out.frozen 0 rfl 1
        have hc2 := HO2.out.cell 0 rfl 2 rfl
        have hf2 := HO2.out.frozen 0 rfl 2
        go_wp2_with fail
        have hO7 := ((HO2.out.store 0 rfl 0 (.slice none 0 0)).store 0 rfl 1 (.string { data := #[] })).store 0 rfl 2 (.int .i64 (1))
        exact bodyPost_ret (v := .agg #[.slice none 0 0, .string { data := #[] }, .int .i64 (1)]) (by simp [results, Tryd.results19, go_sem, hc0, hc1, hc2]) rfl (qcarry_nil (HC.out) (HX0.out.trans hO7.ext))
    case pos =>
    obtain ⟨q2, q3⟩ := q1
    have q4 : ((coef.length : Int) != (h.src.length : Int)) = false := by rw [q2]; simp
    have q5 : ((ps.length : Int) != (h.src.length : Int)) = false := by rw [q3]; simp
    have HQ := Lib.hid (And.intro q2 q3)
    have p64 : ps.length ≤ 9223372036854775807 := by omega
    clear q2 q3
    go_enter Tryd.func19, Tryd.ntmps19
    go_wp2_with fail
    refine (qCheck_any h _ _ HV.out).mono ?_
    rintro ee w1 ⟨rfl, hx1⟩
    have HXa := Lib.hid hx1
    have d0 : w1.cell? ⟨w.heap.size, 0, none⟩ = some (.slice A n c) := hx1.cell (by go_simp)
    have d1 : w1.cell? ⟨w.heap.size, 1, none⟩ = some (.slice SA h.src.length d) := hx1.cell (by go_simp)
    have d2 : w1.cell? ⟨w.heap.size, 2, none⟩ = some (.int .i64 h.tgt) := hx1.cell (by go_simp)
    have HD1 := Lib.hid d1
    clear hx1
    go_wp2_with fail
    clear d0 d1 d2
    refine (qValid_any h l _ _ _ (RH.ext _ _ _ _ HXa.out HV.out) (RL.ext _ _ _ _ HXa.out HL.out) HH0.out).mono ?_
    rintro ee w2 ⟨rfl, hx2⟩
    rw [HVAL.out]
    have HO2 := Lib.hid (HO.out.next (HXa.out.trans hx2))
    have HXb := Lib.hid (HXa.out.trans hx2)
    have d1 := hx2.cell HD1.out
    clear hx2
    go_wp2_with fail
    clear d1
    refine qcar_loop1 (w.alloc (.cells #[.slice A n c, .slice SA h.src.length d, .int .i64 h.tgt] 25)) _ _ ps coef PA (w.heap.size + 1) cb p64 (Lib.hid (Ext.refl _)) (Lib.hid (HB.out.ext HXb.out)) HO2 _ _ _ _ _ _ _ _ _ _ _ _ _ _ _ _ _ _ _ _ _ _ _ _ _ _ _ _ _ _ _ _ _ _ _ _ _ _ _ _ _ _ _ _ _ _ _ _ _ _ _ _ _ _ _ _ _ _ _ _ _ _ _ _ _ _ _ _ _ _ _ _ _ _ _ _ _ _ _ _ _ _ _ _ _ ?_ ?_
    · rintro u11 u41 u42 u43 u44 u45 u46 u47 u48 u49 u50 u51 u52 u53 u54 u55 u56 u57 wx ⟨hbad, hO5⟩
      have HC := Lib.hid (Su.carry_arg (f := fuel) (coef := coef) (ps := ps) HVAL.out (.inl (by rw [Gf.combE_no hbad]; decide)))
      have hc0 := hO5.cell 0 rfl 0 rfl
      have hc1 := hO5.cell 0 rfl 1 rfl
      have hc2 := hO5.cell 0 rfl 2 rfl
      have HE5 := Lib.hid hO5.ext
      clear hbad hO5
      exact bodyPost_ret (v := .agg #[.slice none 0 0, .string (sb []), .int .i64 1]) (by simp [results, Tryd.results19, go_sem, hc0, hc1, hc2]) rfl (qcarry_nil HC.out (HX0.out.trans HE5.out))
    rintro u11 u41 u42 u43 u44 u45 u46 u47 u48 u49 u50 u51 u52 u53 u54 u55 u56 u57 wa ⟨hsame, hxa⟩
    have hok := Su.combOk_same (coef := coef) (by rw [HQ.out.1, HQ.out.2]) hsame
    have hsl := Su.combS_len hok
    have hce := Gf.combE_ok hok
    obtain ⟨hall, V, hV⟩ := HT.out HVAL.out hce HQ.out.2
    have HC := Lib.hid (Su.carry_ok (f := fuel) (coef := coef) (ps := ps) HVAL.out (by rw [hce]; intro e; rcases e with e | e; exact e rfl; exact e HQ.out.2))
    rw [hsl] at hall hV HC
    have HALL := Lib.hid hall
    have HVT := Lib.hid hV
    have HXc := Lib.hid (HXb.out.trans hxa)
    have hO5 := HO3.out.next HXc.out
    have HO5 := Lib.hid hO5
    have e0 : (w.alloc (.cells #[.slice A n c, .slice SA h.src.length d, .int .i64 h.tgt] 25)).cell? ⟨w.heap.size, 0, none⟩ = some (.slice A n c) := by go_simp
    have e1 : (w.alloc (.cells #[.slice A n c, .slice SA h.src.length d, .int .i64 h.tgt] 25)).cell? ⟨w.heap.size, 1, none⟩ = some (.slice SA h.src.length d) := by go_simp
    have e2 : (w.alloc (.cells #[.slice A n c, .slice SA h.src.length d, .int .i64 h.tgt] 25)).cell? ⟨w.heap.size, 2, none⟩ = some (.int .i64 h.tgt) := by go_simp
    have HEC := Lib.hid (And.intro e0 (And.intro e1 e2))
    have HIH : Hid (∀ f r, Su.sumF h.src l coef ps (ps.headD []).length fuel f = some r → ∀ w1, Ext (w.alloc (.cells #[.slice A n c, .slice SA h.src.length d, .int .i64 h.tgt] 25)) w1 → Calls Tryd.prog 40 #[.agg #[.slice A n c, .slice SA h.src.length d, .int .i64 h.tgt], .slice LA l.length e, .slice CA coef.length ca, .slice PA ps.length cb, .int .i64 f] w1 fun e w' => e = .returned (.string (sb r)) ∧ Ext w1 w') :=
      Lib.hid fun f r hr w1 hx1 => qSum_any h l coef ps HQ.out.1.symm HQ.out.2.symm HP.out fuel f r _ _ CA PA ca cb w1 hr (RH.ext _ _ _ _ hx1 HVW.out) (RL.ext _ _ _ _ hx1 HLW.out) (HAW.out.ext hx1) (HBW.out.ext hx1)
    clear hsame hok hsl hce hall hV hxa hO5 e0 e1 e2
    go_wp2_with fail
    refine qcar_loop2 (w.alloc (.cells #[.slice A n c, .slice SA h.src.length d, .int .i64 h.tgt] 25)) _ (⟨.slice (some ⟨w.heap.size + 1, 0, none⟩) 3 3, 49, 1, 3, [.slice none 0 0, .string (sb []), .int .i64 0]⟩ : LRow) (Su.sumF h.src l coef ps (ps.headD []).length fuel) l LA (.slice A n c) (.slice SA h.src.length d) (.slice CA coef.length ca) (.slice PA ps.length cb) w.heap.size e h.tgt hlen HEC HLW HALL HIH HO5 _ _ _ _ _ _ _ _ _ _ _ _ _ _ _ _ _ _ _ _ _ _ _ _ _ _ _ _ _ _ _ _ _ _ _ _ _ _ _ _ _ _ _ _ _ _ _ _ _ _ _ _ _ _ _ _ _ _ _ _ _ _ _ _ _ _ _ _ _ _ _ _ _ _ _ _ _ _ _ _ _ _ ?_
    rintro u12 u13 u58 u59 u60 u61 u62 u63 u64 u65 u66 u67 u68 u69 u70 u71 u72 u73 u74 u75 u76 wx ⟨A', c', rfl, hO6⟩
    have d0 := hO6.ext.cell HEC.out.1
    have d1 := hO6.ext.cell HEC.out.2.1
    have d2 := hO6.ext.cell HEC.out.2.2
    have HO6 := Lib.hid hO6
    clear hO6
    go_wp2_with fail
    clear d0 d1 d2
    refine (HIH.out h.tgt V HVT.out wx HO6.out.ext).mono ?_
    rintro ee w8 ⟨rfl, hx8⟩
    have hO8 := HO6.out.next hx8
    have HO8 := Lib.hid hO8
    clear hx8 hO8
    have hc0 := HO8.out.cell 2 rfl 0 rfl
    have hf0 := HO8.out.frozen 2 rfl 0
    have hc1 := HO8.out.cell 2 rfl 1 rfl
    have hf1 := HO8.out.frozen 2 rfl 1
    have hc2 := HO8.out.cell 2 rfl 2 rfl
    have hf2 := HO8.out.frozen 2 rfl 2
    go_wp2_with fail
    have hO7 := ((HO8.out.store 2 rfl 0 (.slice A' l.length c')).store 2 rfl 1 (.string (sb V))).store 2 rfl 2 (.int .i64 0)
    have hrs : Rs RS _ (.slice A' l.length c') (l.map fun x => (Su.sumF h.src l coef ps (ps.headD []).length fuel x.1).getD []) := Rs.of_rdS (hO7.rd 0 rfl) (by simp) (by rw [List.length_map]; omega)
    refine bodyPost_ret (v := .agg #[.slice A' l.length c', .string (sb V), .int .i64 0]) (by simp [results, Tryd.results19, go_sem, hc0, hc1, hc2]) rfl ⟨A', l.length, c', ?_, ?_, HX0.out.trans hO7.ext⟩
    · rw [HC.out, HVT.out]; rfl
    · rw [HC.out]; exact hrs
end Go.Proofs.YtenafgphaceidaaDoor

/- THE SUMS END; the example of the documentation of sums, worked out. -/
namespace Su
theorem hopsTo_some {rec : Int → Option (List UInt8)} {l : List (Int × Int)} {a : Int} {z : List UInt8} : ∀ m, (∀ k, k < m → (l.getD k (0, 0)).2 = a → ∃ r, rec (l.getD k (0, 0)).1 = some r) → ∃ V, hopsTo rec l a z m = some V
  | 0, _ => ⟨z, rfl⟩
  | m + 1, h => by
    obtain ⟨s, hs⟩ := hopsTo_some m fun k hk => h k (by omega)
    rw [hopsTo, hs, Option.bind_some]
    by_cases he : (l.getD m (0, 0)).2 = a
    · obtain ⟨r, hr⟩ := h m (Nat.lt_succ_self m) he
      exact ⟨Gf.sum s r, by rw [if_pos he, hr]; rfl⟩
    · exact ⟨s, by rw [if_neg he]⟩
/-- The sum of a house ends: what flows into it comes from further off. -/
theorem sumF_ends {h : Ha} {l : List (Int × Int)} (hv : valid h l = true) (coef : List UInt8) (ps : List (List UInt8)) (n : Nat) : ∀ (f j : Nat) (a : Int), j ≤ h.pr.length → h.pr.length + 1 - j ≤ f → (∀ s, s < j → go l s a ≠ h.tgt) → ∃ V, sumF h.src l coef ps n f a = some V
  | 0, j, a, h1, h2, _ => by omega
  | f + 1, j, a, h1, h2, h3 => by
    rw [sumF_succ]
    refine hopsTo_some _ fun k hk he => ?_
    have hx : l.getD k (0, 0) ∈ l := by rw [List.getD_eq_getElem?_getD, List.getElem?_eq_getElem hk]; exact List.getElem_mem hk
    obtain ⟨hc, ho, _, hg⟩ := valid_iff.1 hv
    have hnx := next_mem ho hx
    rw [he] at hnx
    have h4 : ∀ s, s < j + 1 → go l s (l.getD k (0, 0)).1 ≠ h.tgt := fun s hs => by
      cases s with
      | zero =>
        rw [go_zero]
        exact (hop_fine hv hk).2.2.2
      | succ s =>
        rw [go_add l _ 1 s, go_some (n := 0) (b := a) hnx]
        exact h3 s (by omega)
    have h5 : j + 1 ≤ h.pr.length := by
      rcases Nat.lt_or_ge h.pr.length (j + 1) with h6 | h6
      · exact absurd (hg _ hx) (h4 _ h6)
      · exact h6
    exact sumF_ends hv coef ps n f (j + 1) _ h5 (by omega) h4
theorem carry_term {h : Ha} {l : List (Int × Int)} {f : Nat} (hf : h.pr.length + 1 ≤ f) (coef : List UInt8) (ps : List (List UInt8)) (n : Nat) (hv : valid h l = true) : (∀ x ∈ l, ∃ V, sumF h.src l coef ps n f x.1 = some V) ∧ ∃ V, sumF h.src l coef ps n f h.tgt = some V :=
  ⟨fun x _ => sumF_ends hv coef ps n f 0 x.1 (Nat.zero_le _) (by omega) (fun s hs => absurd hs (Nat.not_lt_zero s)), sumF_ends hv coef ps n f 0 h.tgt (Nat.zero_le _) (by omega) (fun s hs => absurd hs (Nat.not_lt_zero s))⟩
def ex (src : List Int) : Ha := ⟨[[-1, -1, -1, -1], [4, -1, -1, 1], [4, -1, -1, 1], [4, -1, -1, -1]], src, 0⟩
def exT : List (Int × Int) := [(1, 3), (2, 3), (3, 0)]
def exS : List (Int × Int) := [(1, 0), (2, 0)]
def exO : List (List UInt8) := [[1], [1], [1]]
theorem ex_least : least (ex [1, 2, 1]) = (6, 0) := by decide +kernel
theorem ex_least3 : least (ex [3]) = (4, 0) := by decide +kernel
theorem ex_least0 : least (ex []) = (0, 0) := by decide +kernel
theorem ex_walk0 : (walkF (2 ^ (senders (ex [1, 2, 1])).length) (ways (ex [1, 2, 1])) 100 (2 ^ (senders (ex [1, 2, 1])).length - 1) (ex [1, 2, 1]).tgt.toNat []).isSome = true := by decide +kernel
theorem ex_walk : ∃ U, walkF (2 ^ (senders (ex [1, 2, 1])).length) (ways (ex [1, 2, 1])) 100 (2 ^ (senders (ex [1, 2, 1])).length - 1) (ex [1, 2, 1]).tgt.toNat [] = some U := Option.isSome_iff_exists.1 ex_walk0
theorem ex_tree : tree 100 (ex [1, 2, 1]) = (exT, 0) := by decide +kernel
theorem ex_cost : cost (ex [1, 2, 1]) exS = (8, 0) := by decide +kernel
theorem ex_carryS : carry 5 (ex [1, 2, 1]) exS [1, 2, 3] exO = ([[2], [2]], [0], 0) := by decide +kernel
theorem ex_carryT : carry 5 (ex [1, 2, 1]) exT [1, 2, 3] exO = ([[2], [2], [0]], [0], 0) := by decide +kernel
theorem ex_valid : valid (ex [1, 2, 1]) exT = true := by decide +kernel
theorem ex_valid2 : valid (ex [1, 2, 1]) (exT.take 2) = false := by decide +kernel
end Su

/- THE DRAWN REGION of law 19's sanity. -/
namespace Go.Proofs.YtenafgphaceidaaDoor
open Go.RowKit
set_option maxRecDepth 100000 in
theorem ent_same : ∀ args w, (callFunc 26 args).run Tryd.prog w = .ok (.enter 26 args) w := enters_of Tryd.func26 (by kernel_rfl) rfl
set_option maxRecDepth 100000 in
theorem ent_valid : ∀ args w, (callFunc 14 args).run Tryd.prog w = .ok (.enter 14 args) w := enters_of Tryd.func14 (by kernel_rfl) rfl
set_option maxRecDepth 100000 in
theorem tree2 (gT : Nat) (w : World) : (Instr.sliceAt 26 (.slice (some ⟨gT, 0, none⟩) 3 3) none (some (.int .i64 2)) none).run Tryd.prog w = .ok (.slice (some ⟨gT, 0, none⟩) 2 3) w := by
  rw [run_sliceAt_slice _ _ _ _ _ _ Tryd.underlying26, run_slice_h _ _ _ _ _ Tryd.underlying26 .i64 2 (by decide) (by decide)]
  rfl
noncomputable def san_costs_code : Code := ((Tryd.f9.body.bind (regionOf 13)).getD .skip)
def san_costs_dsts : List (Option Nat) := [some 104, some 105, some 106, some 107, some 108, some 109, some 110, some 111, some 112, some 113, some 114, some 115, some 116, some 117, some 118, some 119, some 120, some 121, some 122, some 123, some 124, some 125, some 126, some 127, some 128, some 129, some 130, some 131, some 132, some 133, some 134, some 22]
theorem san_costs_apart : apartD san_costs_dsts = true := by decide +kernel
set_option maxRecDepth 1000000 in
set_option maxHeartbeats 16000000 in
theorem san_costs (wr : World) (B gT m cl : Nat) (A : Option Addr) (G S : Value) (b0 : wr.cell? ⟨B, 0, none⟩ = some G) (b1 : wr.cell? ⟨B, 1, none⟩ = some S) (b2 : wr.cell? ⟨B, 2, none⟩ = some (.int .i64 0)) (HS : Hid (∀ w1, Ext wr w1 → Calls Tryd.prog 26 #[.slice A m cl, .slice (some ⟨gT, 0, none⟩) 3 3] w1 fun e w' => e = .returned (.bool true) ∧ Ext w1 w')) (HV2 : Hid (∀ w1, Ext wr w1 → Calls Tryd.prog 14 #[.agg #[G, S, .int .i64 0], .slice (some ⟨gT, 0, none⟩) 2 3] w1 fun e w' => e = .returned (.bool false) ∧ Ext w1 w')) (HV3 : Hid (∀ w1, Ext wr w1 → Calls Tryd.prog 14 #[.agg #[G, S, .int .i64 0], .slice (some ⟨gT, 0, none⟩) 3 3] w1 fun e w' => e = .returned (.bool true) ∧ Ext w1 w')) (c0 c2 c4 c6 c8 c10 c11 c12 c13 c14 c15 c16 c18 c20 c21 c22 c23 c24 c25 c26 c27 c28 c29 c30 c31 c32 c33 c34 c35 c36 c37 c38 c39 c40 c41 c42 c43 c44 c45 c46 c47 c48 c49 c50 c51 c52 c53 c54 c55 c56 c57 c58 c59 c60 c61 c62 c63 c64 c65 c66 c67 c68 c69 c70 c71 c72 c73 c74 c75 c76 c77 c78 c79 c80 c81 c82 c83 c84 c85 c86 c87 c88 c89 c90 c91 c92 c93 c94 c95 c96 c97 c98 c99 c100 c101 c102 c103 c104 c105 c106 c107 c108 c109 c110 c111 c112 c113 c114 c115 c116 c117 c118 c119 c120 c121 c122 c123 c124 c125 c126 c127 c128 c129 c130 c131 c132 c133 c134 c135 c136 c137 c138 c139 c140 c141 c142 c143 c144 c145 c146 c147 c148 c149 c150 c151 c152 c153 c154 c155 c156 : Value) (df : List Deferred) (K : Act → World → Prop)
    (hK : ∀  (u104 u105 u106 u107 u108 u109 u110 u111 u112 u113 u114 u115 u116 u117 u118 u119 u120 u121 u122 u123 u124 u125 u126 u127 u128 u129 u130 u131 u132 u133 u134 : Value) (wx : World), Ext wr wx → K ⟨#[c0, .pointer (some ⟨B, 0, none⟩), c2, .slice (some ⟨gT, 0, none⟩) 3 3, c4, .int .i64 6, c6, .slice A m cl, c8, .int .i64 8, c10, c11, c12, c13, c14, c15, c16, .int .i64 4, c18, .int .i64 0, c20, c21, .bool true, c23, c24, c25, c26, c27, c28, c29, c30, c31, c32, c33, c34, c35, c36, c37, c38, c39, c40, c41, c42, c43, c44, c45, c46, c47, c48, c49, c50, c51, c52, c53, c54, c55, c56, c57, c58, c59, c60, c61, c62, c63, c64, c65, c66, c67, c68, c69, c70, c71, c72, c73, c74, c75, c76, c77, c78, c79, c80, c81, c82, c83, c84, c85, c86, c87, c88, c89, c90, c91, c92, c93, c94, c95, c96, c97, c98, c99, c100, c101, c102, c103, u104, u105, u106, u107, u108, u109, u110, u111, u112, u113, u114, u115, u116, u117, u118, u119, u120, u121, u122, u123, u124, u125, u126, u127, u128, u129, u130, u131, u132, u133, u134, c135, c136, c137, c138, c139, c140, c141, c142, c143, c144, c145, c146, c147, c148, c149, c150, c151, c152, c153, c154, c155, c156], df⟩ wx) :
    Code.wp Tryd.prog san_costs_code (AtEnd K) ⟨#[c0, .pointer (some ⟨B, 0, none⟩), c2, .slice (some ⟨gT, 0, none⟩) 3 3, c4, .int .i64 6, c6, .slice A m cl, c8, .int .i64 8, c10, c11, c12, c13, c14, c15, c16, .int .i64 4, c18, .int .i64 0, c20, c21, c22, c23, c24, c25, c26, c27, c28, c29, c30, c31, c32, c33, c34, c35, c36, c37, c38, c39, c40, c41, c42, c43, c44, c45, c46, c47, c48, c49, c50, c51, c52, c53, c54, c55, c56, c57, c58, c59, c60, c61, c62, c63, c64, c65, c66, c67, c68, c69, c70, c71, c72, c73, c74, c75, c76, c77, c78, c79, c80, c81, c82, c83, c84, c85, c86, c87, c88, c89, c90, c91, c92, c93, c94, c95, c96, c97, c98, c99, c100, c101, c102, c103, c104, c105, c106, c107, c108, c109, c110, c111, c112, c113, c114, c115, c116, c117, c118, c119, c120, c121, c122, c123, c124, c125, c126, c127, c128, c129, c130, c131, c132, c133, c134, c135, c136, c137, c138, c139, c140, c141, c142, c143, c144, c145, c146, c147, c148, c149, c150, c151, c152, c153, c154, c155, c156], df⟩ wr := by
  conv => arg 2; whnf
  refine region_inv (by kernel_rfl) [[], [0], [1], [2], [2], [3, 4, 2, 2], [2, 5], [6, 5], [7], [8, 7], [7, 9], [10, 7], [11], [12, 11], [11, 13], [14, 11], [15], [16, 15], [15, 17], [18, 15], [19], [19], [21, 19], [20, 22, 19, 19], [23, 19], [19, 24], [25, 23], [26], [26], [27, 28, 26, 26], [26, 29], [30, 29, 0, 1, 2, 3, 4, 5, 6, 7, 8, 9, 10, 11, 12, 13, 14, 15, 16, 17, 18, 19, 20, 21, 22, 23, 24, 25, 26, 27, 28, 29, 30]] (by kernel_rfl) [0, 1, 2, 3, 4, 5, 6, 7, 8, 9, 10, 11, 12, 13, 14, 15, 16, 17, 18, 19, 20, 21, 22, 23, 24, 25, 26, 27, 28, 29, 30, 31] (by decide +kernel) (by decide +kernel) (by decide +kernel) (fun L a wc => Inv san_costs_dsts [.int .i64 6, .bool true, .bool true, .slice A m cl, .slice (some ⟨gT, 0, none⟩) 3 3, .bool true, .bool true, .bool true, .int .i64 8, .bool true, .bool true, .bool true, .int .i64 4, .bool true, .bool true, .bool true, .int .i64 0, .bool true, .bool true, .bool true, .agg #[G, S, .int .i64 0], .slice (some ⟨gT, 0, none⟩) 3 3, .slice (some ⟨gT, 0, none⟩) 2 3, .bool false, .bool true, .bool true, .bool true, .agg #[G, S, .int .i64 0], .slice (some ⟨gT, 0, none⟩) 3 3, .bool true, .bool true, .bool true] ⟨#[c0, .pointer (some ⟨B, 0, none⟩), c2, .slice (some ⟨gT, 0, none⟩) 3 3, c4, .int .i64 6, c6, .slice A m cl, c8, .int .i64 8, c10, c11, c12, c13, c14, c15, c16, .int .i64 4, c18, .int .i64 0, c20, c21, c22, c23, c24, c25, c26, c27, c28, c29, c30, c31, c32, c33, c34, c35, c36, c37, c38, c39, c40, c41, c42, c43, c44, c45, c46, c47, c48, c49, c50, c51, c52, c53, c54, c55, c56, c57, c58, c59, c60, c61, c62, c63, c64, c65, c66, c67, c68, c69, c70, c71, c72, c73, c74, c75, c76, c77, c78, c79, c80, c81, c82, c83, c84, c85, c86, c87, c88, c89, c90, c91, c92, c93, c94, c95, c96, c97, c98, c99, c100, c101, c102, c103, c104, c105, c106, c107, c108, c109, c110, c111, c112, c113, c114, c115, c116, c117, c118, c119, c120, c121, c122, c123, c124, c125, c126, c127, c128, c129, c130, c131, c132, c133, c134, c135, c136, c137, c138, c139, c140, c141, c142, c143, c144, c145, c146, c147, c148, c149, c150, c151, c152, c153, c154, c155, c156], df⟩ L a ∧ Hid (Ext wr wc)) ⟨Inv.start, Lib.hid ((Ext.refl wr).drew)⟩ ?_ ?_
  · refine ⟨?_, ?_, ?_, ?_, ?_, ?_, ?_, ?_, ?_, ?_, ?_, ?_, ?_, ?_, ?_, ?_, ?_, ?_, ?_, ?_, ?_, ?_, ?_, ?_, ?_, ?_, ?_, ?_, ?_, ?_, ?_, ?_, trivial⟩
    · -- 0 move
      rintro L a wc ⟨hv, HO⟩ hL hc hd
      exact wpOp_val rfl rfl (ex_move rfl ((hv.fixed 5 (by decide)).trans rfl)) ⟨hv.put san_costs_apart 0 rfl (Nat.le_of_ble_eq_true rfl) (Nat.le_of_ble_eq_true rfl) rfl, HO⟩
    · -- 1 bin
      rintro L a wc ⟨hv, HO⟩ hL hc hd
      exact wpOp_val rfl rfl (ex_bin rfl (hv.get 0 rfl rfl (hd 0 (by decide))) rfl (by go_simp)) ⟨hv.put san_costs_apart 1 rfl (Nat.le_of_ble_eq_true rfl) (Nat.le_of_ble_eq_true rfl) rfl, HO⟩
    · -- 2 move
      rintro L a wc ⟨hv, HO⟩ hL hc hd
      exact wpOp_val rfl rfl (ex_move rfl (hv.get 1 rfl rfl (hd 1 (by decide)))) ⟨hv.put san_costs_apart 2 rfl (Nat.le_of_ble_eq_true rfl) (Nat.le_of_ble_eq_true rfl) rfl, HO⟩
    · -- 3 move
      rintro L a wc ⟨hv, HO⟩ hL hc hd
      exact wpOp_val rfl ((wanted_at rfl rfl (hv.get 2 rfl rfl (hd 2 (by decide)))).trans rfl) (ex_move rfl ((hv.fixed 7 (by decide)).trans rfl)) ⟨hv.put san_costs_apart 3 rfl (Nat.le_of_ble_eq_true rfl) (Nat.le_of_ble_eq_true rfl) rfl, HO⟩
    · -- 4 move
      rintro L a wc ⟨hv, HO⟩ hL hc hd
      exact wpOp_val rfl ((wanted_at rfl rfl (hv.get 2 rfl rfl (hd 2 (by decide)))).trans rfl) (ex_move rfl ((hv.fixed 3 (by decide)).trans rfl)) ⟨hv.put san_costs_apart 4 rfl (Nat.le_of_ble_eq_true rfl) (Nat.le_of_ble_eq_true rfl) rfl, HO⟩
    · -- 5 call
      rintro L a wc ⟨hv, HO⟩ hL hc hd
      refine wpOp_callw (R := fun v w1 => v = .bool true ∧ Ext wc w1) rfl ((wanted_at rfl rfl (hv.get 2 rfl rfl (hd 2 (by decide)))).trans rfl) (ex_call rfl rfl (map2c (hv.get 3 rfl rfl (hd 3 (by decide))) (hv.get 4 rfl rfl (hd 4 (by decide)))) (ent_same _ _)) ((HS.out wc HO.out).mono (fun e w' h => ⟨_, h.1, rfl, h.2⟩)) ?_
      rintro v w' ⟨rfl, hx⟩
      exact ⟨hv.put san_costs_apart 5 rfl (Nat.le_of_ble_eq_true rfl) (Nat.le_of_ble_eq_true rfl) rfl, Lib.hid (HO.out.trans hx)⟩
    · -- 6 pick
      rintro L a wc ⟨hv, HO⟩ hL hc hd
      exact wpOp_val rfl rfl (ex_pick rfl (hv.get 2 rfl rfl (hd 2 (by decide))) ((if_pos rfl).trans (hv.get 5 rfl rfl (hd 5 (by decide))))) ⟨hv.put san_costs_apart 6 rfl (Nat.le_of_ble_eq_true rfl) (Nat.le_of_ble_eq_true rfl) rfl, HO⟩
    · -- 7 move
      rintro L a wc ⟨hv, HO⟩ hL hc hd
      exact wpOp_val rfl rfl (ex_move rfl (hv.get 6 rfl rfl (hd 6 (by decide)))) ⟨hv.put san_costs_apart 7 rfl (Nat.le_of_ble_eq_true rfl) (Nat.le_of_ble_eq_true rfl) rfl, HO⟩
    · -- 8 move
      rintro L a wc ⟨hv, HO⟩ hL hc hd
      exact wpOp_val rfl ((wanted_at rfl rfl (hv.get 7 rfl rfl (hd 7 (by decide)))).trans rfl) (ex_move rfl ((hv.fixed 9 (by decide)).trans rfl)) ⟨hv.put san_costs_apart 8 rfl (Nat.le_of_ble_eq_true rfl) (Nat.le_of_ble_eq_true rfl) rfl, HO⟩
    · -- 9 bin
      rintro L a wc ⟨hv, HO⟩ hL hc hd
      exact wpOp_val rfl ((wanted_at rfl rfl (hv.get 7 rfl rfl (hd 7 (by decide)))).trans rfl) (ex_bin rfl (hv.get 8 rfl rfl (hd 8 (by decide))) rfl (by go_simp)) ⟨hv.put san_costs_apart 9 rfl (Nat.le_of_ble_eq_true rfl) (Nat.le_of_ble_eq_true rfl) rfl, HO⟩
    · -- 10 pick
      rintro L a wc ⟨hv, HO⟩ hL hc hd
      exact wpOp_val rfl rfl (ex_pick rfl (hv.get 7 rfl rfl (hd 7 (by decide))) ((if_pos rfl).trans (hv.get 9 rfl rfl (hd 9 (by decide))))) ⟨hv.put san_costs_apart 10 rfl (Nat.le_of_ble_eq_true rfl) (Nat.le_of_ble_eq_true rfl) rfl, HO⟩
    · -- 11 move
      rintro L a wc ⟨hv, HO⟩ hL hc hd
      exact wpOp_val rfl rfl (ex_move rfl (hv.get 10 rfl rfl (hd 10 (by decide)))) ⟨hv.put san_costs_apart 11 rfl (Nat.le_of_ble_eq_true rfl) (Nat.le_of_ble_eq_true rfl) rfl, HO⟩
    · -- 12 move
      rintro L a wc ⟨hv, HO⟩ hL hc hd
      exact wpOp_val rfl ((wanted_at rfl rfl (hv.get 11 rfl rfl (hd 11 (by decide)))).trans rfl) (ex_move rfl ((hv.fixed 17 (by decide)).trans rfl)) ⟨hv.put san_costs_apart 12 rfl (Nat.le_of_ble_eq_true rfl) (Nat.le_of_ble_eq_true rfl) rfl, HO⟩
    · -- 13 bin
      rintro L a wc ⟨hv, HO⟩ hL hc hd
      exact wpOp_val rfl ((wanted_at rfl rfl (hv.get 11 rfl rfl (hd 11 (by decide)))).trans rfl) (ex_bin rfl (hv.get 12 rfl rfl (hd 12 (by decide))) rfl (by go_simp)) ⟨hv.put san_costs_apart 13 rfl (Nat.le_of_ble_eq_true rfl) (Nat.le_of_ble_eq_true rfl) rfl, HO⟩
    · -- 14 pick
      rintro L a wc ⟨hv, HO⟩ hL hc hd
      exact wpOp_val rfl rfl (ex_pick rfl (hv.get 11 rfl rfl (hd 11 (by decide))) ((if_pos rfl).trans (hv.get 13 rfl rfl (hd 13 (by decide))))) ⟨hv.put san_costs_apart 14 rfl (Nat.le_of_ble_eq_true rfl) (Nat.le_of_ble_eq_true rfl) rfl, HO⟩
    · -- 15 move
      rintro L a wc ⟨hv, HO⟩ hL hc hd
      exact wpOp_val rfl rfl (ex_move rfl (hv.get 14 rfl rfl (hd 14 (by decide)))) ⟨hv.put san_costs_apart 15 rfl (Nat.le_of_ble_eq_true rfl) (Nat.le_of_ble_eq_true rfl) rfl, HO⟩
    · -- 16 move
      rintro L a wc ⟨hv, HO⟩ hL hc hd
      exact wpOp_val rfl ((wanted_at rfl rfl (hv.get 15 rfl rfl (hd 15 (by decide)))).trans rfl) (ex_move rfl ((hv.fixed 19 (by decide)).trans rfl)) ⟨hv.put san_costs_apart 16 rfl (Nat.le_of_ble_eq_true rfl) (Nat.le_of_ble_eq_true rfl) rfl, HO⟩
    · -- 17 bin
      rintro L a wc ⟨hv, HO⟩ hL hc hd
      exact wpOp_val rfl ((wanted_at rfl rfl (hv.get 15 rfl rfl (hd 15 (by decide)))).trans rfl) (ex_bin rfl (hv.get 16 rfl rfl (hd 16 (by decide))) rfl (by go_simp)) ⟨hv.put san_costs_apart 17 rfl (Nat.le_of_ble_eq_true rfl) (Nat.le_of_ble_eq_true rfl) rfl, HO⟩
    · -- 18 pick
      rintro L a wc ⟨hv, HO⟩ hL hc hd
      exact wpOp_val rfl rfl (ex_pick rfl (hv.get 15 rfl rfl (hd 15 (by decide))) ((if_pos rfl).trans (hv.get 17 rfl rfl (hd 17 (by decide))))) ⟨hv.put san_costs_apart 18 rfl (Nat.le_of_ble_eq_true rfl) (Nat.le_of_ble_eq_true rfl) rfl, HO⟩
    · -- 19 move
      rintro L a wc ⟨hv, HO⟩ hL hc hd
      exact wpOp_val rfl rfl (ex_move rfl (hv.get 18 rfl rfl (hd 18 (by decide)))) ⟨hv.put san_costs_apart 19 rfl (Nat.le_of_ble_eq_true rfl) (Nat.le_of_ble_eq_true rfl) rfl, HO⟩
    · -- 20 load
      rintro L a wc ⟨hv, HO⟩ hL hc hd
      have e0 : wc.cell? ⟨B, 0, none⟩ = some G := HO.out.cell b0
      have e1 : wc.cell? ⟨B, 1, none⟩ = some S := HO.out.cell b1
      have e2 : wc.cell? ⟨B, 2, none⟩ = some (.int .i64 0) := HO.out.cell b2
      exact wpOp_val rfl ((wanted_at rfl rfl (hv.get 19 rfl rfl (hd 19 (by decide)))).trans rfl) (ex_load rfl ((hv.fixed 1 (by decide)).trans rfl) (by go_simp)) ⟨hv.put san_costs_apart 20 rfl (Nat.le_of_ble_eq_true rfl) (Nat.le_of_ble_eq_true rfl) rfl, HO⟩
    · -- 21 move
      rintro L a wc ⟨hv, HO⟩ hL hc hd
      exact wpOp_val rfl ((wanted_at rfl rfl (hv.get 19 rfl rfl (hd 19 (by decide)))).trans rfl) (ex_move rfl ((hv.fixed 3 (by decide)).trans rfl)) ⟨hv.put san_costs_apart 21 rfl (Nat.le_of_ble_eq_true rfl) (Nat.le_of_ble_eq_true rfl) rfl, HO⟩
    · -- 22 raw
      rintro L a wc ⟨hv, HO⟩ hL hc hd
      exact wpOp_val rfl ((wanted_at rfl rfl (hv.get 19 rfl rfl (hd 19 (by decide)))).trans rfl) (ex_slice rfl (by rw [hv.get 21 rfl rfl (hd 21 (by decide))]; exact tree2 gT wc)) ⟨hv.put san_costs_apart 22 rfl (Nat.le_of_ble_eq_true rfl) (Nat.le_of_ble_eq_true rfl) rfl, HO⟩
    · -- 23 call
      rintro L a wc ⟨hv, HO⟩ hL hc hd
      refine wpOp_callw (R := fun v w1 => v = .bool false ∧ Ext wc w1) rfl ((wanted_at rfl rfl (hv.get 19 rfl rfl (hd 19 (by decide)))).trans rfl) (ex_call rfl rfl (map2c (hv.get 20 rfl rfl (hd 20 (by decide))) (hv.get 22 rfl rfl (hd 22 (by decide)))) (ent_valid _ _)) ((HV2.out wc HO.out).mono (fun e w' h => ⟨_, h.1, rfl, h.2⟩)) ?_
      rintro v w' ⟨rfl, hx⟩
      exact ⟨hv.put san_costs_apart 23 rfl (Nat.le_of_ble_eq_true rfl) (Nat.le_of_ble_eq_true rfl) rfl, Lib.hid (HO.out.trans hx)⟩
    · -- 24 un
      rintro L a wc ⟨hv, HO⟩ hL hc hd
      exact wpOp_val rfl ((wanted_at rfl rfl (hv.get 19 rfl rfl (hd 19 (by decide)))).trans rfl) (ex_un rfl (hv.get 23 rfl rfl (hd 23 (by decide))) (by go_simp)) ⟨hv.put san_costs_apart 24 rfl (Nat.le_of_ble_eq_true rfl) (Nat.le_of_ble_eq_true rfl) rfl, HO⟩
    · -- 25 pick
      rintro L a wc ⟨hv, HO⟩ hL hc hd
      exact wpOp_val rfl rfl (ex_pick rfl (hv.get 19 rfl rfl (hd 19 (by decide))) ((if_pos rfl).trans (hv.get 24 rfl rfl (hd 24 (by decide))))) ⟨hv.put san_costs_apart 25 rfl (Nat.le_of_ble_eq_true rfl) (Nat.le_of_ble_eq_true rfl) rfl, HO⟩
    · -- 26 move
      rintro L a wc ⟨hv, HO⟩ hL hc hd
      exact wpOp_val rfl rfl (ex_move rfl (hv.get 25 rfl rfl (hd 25 (by decide)))) ⟨hv.put san_costs_apart 26 rfl (Nat.le_of_ble_eq_true rfl) (Nat.le_of_ble_eq_true rfl) rfl, HO⟩
    · -- 27 load
      rintro L a wc ⟨hv, HO⟩ hL hc hd
      have e0 : wc.cell? ⟨B, 0, none⟩ = some G := HO.out.cell b0
      have e1 : wc.cell? ⟨B, 1, none⟩ = some S := HO.out.cell b1
      have e2 : wc.cell? ⟨B, 2, none⟩ = some (.int .i64 0) := HO.out.cell b2
      exact wpOp_val rfl ((wanted_at rfl rfl (hv.get 26 rfl rfl (hd 26 (by decide)))).trans rfl) (ex_load rfl ((hv.fixed 1 (by decide)).trans rfl) (by go_simp)) ⟨hv.put san_costs_apart 27 rfl (Nat.le_of_ble_eq_true rfl) (Nat.le_of_ble_eq_true rfl) rfl, HO⟩
    · -- 28 move
      rintro L a wc ⟨hv, HO⟩ hL hc hd
      exact wpOp_val rfl ((wanted_at rfl rfl (hv.get 26 rfl rfl (hd 26 (by decide)))).trans rfl) (ex_move rfl ((hv.fixed 3 (by decide)).trans rfl)) ⟨hv.put san_costs_apart 28 rfl (Nat.le_of_ble_eq_true rfl) (Nat.le_of_ble_eq_true rfl) rfl, HO⟩
    · -- 29 call
      rintro L a wc ⟨hv, HO⟩ hL hc hd
      refine wpOp_callw (R := fun v w1 => v = .bool true ∧ Ext wc w1) rfl ((wanted_at rfl rfl (hv.get 26 rfl rfl (hd 26 (by decide)))).trans rfl) (ex_call rfl rfl (map2c (hv.get 27 rfl rfl (hd 27 (by decide))) (hv.get 28 rfl rfl (hd 28 (by decide)))) (ent_valid _ _)) ((HV3.out wc HO.out).mono (fun e w' h => ⟨_, h.1, rfl, h.2⟩)) ?_
      rintro v w' ⟨rfl, hx⟩
      exact ⟨hv.put san_costs_apart 29 rfl (Nat.le_of_ble_eq_true rfl) (Nat.le_of_ble_eq_true rfl) rfl, Lib.hid (HO.out.trans hx)⟩
    · -- 30 pick
      rintro L a wc ⟨hv, HO⟩ hL hc hd
      exact wpOp_val rfl rfl (ex_pick rfl (hv.get 26 rfl rfl (hd 26 (by decide))) ((if_pos rfl).trans (hv.get 29 rfl rfl (hd 29 (by decide))))) ⟨hv.put san_costs_apart 30 rfl (Nat.le_of_ble_eq_true rfl) (Nat.le_of_ble_eq_true rfl) rfl, HO⟩
    · -- 31 assign
      rintro L a wc ⟨hv, HO⟩ hL hc hd
      exact wpOp_val rfl rfl (ex_assign rfl (hv.get 30 rfl rfl (hd 30 (by decide)))) ⟨hv.put san_costs_apart 31 rfl (Nat.le_of_ble_eq_true rfl) (Nat.le_of_ble_eq_true rfl) rfl, HO⟩
  · rintro L a wc ⟨hv, HO⟩ hall
    show K a wc
    have ha := act_lit a
    rw [hv.size, hv.defers] at ha
    have hl : ∀ f : Nat → Value, ((List.range (⟨#[c0, .pointer (some ⟨B, 0, none⟩), c2, .slice (some ⟨gT, 0, none⟩) 3 3, c4, .int .i64 6, c6, .slice A m cl, c8, .int .i64 8, c10, c11, c12, c13, c14, c15, c16, .int .i64 4, c18, .int .i64 0, c20, c21, c22, c23, c24, c25, c26, c27, c28, c29, c30, c31, c32, c33, c34, c35, c36, c37, c38, c39, c40, c41, c42, c43, c44, c45, c46, c47, c48, c49, c50, c51, c52, c53, c54, c55, c56, c57, c58, c59, c60, c61, c62, c63, c64, c65, c66, c67, c68, c69, c70, c71, c72, c73, c74, c75, c76, c77, c78, c79, c80, c81, c82, c83, c84, c85, c86, c87, c88, c89, c90, c91, c92, c93, c94, c95, c96, c97, c98, c99, c100, c101, c102, c103, c104, c105, c106, c107, c108, c109, c110, c111, c112, c113, c114, c115, c116, c117, c118, c119, c120, c121, c122, c123, c124, c125, c126, c127, c128, c129, c130, c131, c132, c133, c134, c135, c136, c137, c138, c139, c140, c141, c142, c143, c144, c145, c146, c147, c148, c149, c150, c151, c152, c153, c154, c155, c156], df⟩ : Act).tmps.size).map f).toArray = #[f 0, f 1, f 2, f 3, f 4, f 5, f 6, f 7, f 8, f 9, f 10, f 11, f 12, f 13, f 14, f 15, f 16, f 17, f 18, f 19, f 20, f 21, f 22, f 23, f 24, f 25, f 26, f 27, f 28, f 29, f 30, f 31, f 32, f 33, f 34, f 35, f 36, f 37, f 38, f 39, f 40, f 41, f 42, f 43, f 44, f 45, f 46, f 47, f 48, f 49, f 50, f 51, f 52, f 53, f 54, f 55, f 56, f 57, f 58, f 59, f 60, f 61, f 62, f 63, f 64, f 65, f 66, f 67, f 68, f 69, f 70, f 71, f 72, f 73, f 74, f 75, f 76, f 77, f 78, f 79, f 80, f 81, f 82, f 83, f 84, f 85, f 86, f 87, f 88, f 89, f 90, f 91, f 92, f 93, f 94, f 95, f 96, f 97, f 98, f 99, f 100, f 101, f 102, f 103, f 104, f 105, f 106, f 107, f 108, f 109, f 110, f 111, f 112, f 113, f 114, f 115, f 116, f 117, f 118, f 119, f 120, f 121, f 122, f 123, f 124, f 125, f 126, f 127, f 128, f 129, f 130, f 131, f 132, f 133, f 134, f 135, f 136, f 137, f 138, f 139, f 140, f 141, f 142, f 143, f 144, f 145, f 146, f 147, f 148, f 149, f 150, f 151, f 152, f 153, f 154, f 155, f 156] := fun _ => rfl
    rw [hl] at ha
    simp only [hv.fixed 0 (by decide), hv.fixed 1 (by decide), hv.fixed 2 (by decide), hv.fixed 3 (by decide), hv.fixed 4 (by decide), hv.fixed 5 (by decide), hv.fixed 6 (by decide), hv.fixed 7 (by decide), hv.fixed 8 (by decide), hv.fixed 9 (by decide), hv.fixed 10 (by decide), hv.fixed 11 (by decide), hv.fixed 12 (by decide), hv.fixed 13 (by decide), hv.fixed 14 (by decide), hv.fixed 15 (by decide), hv.fixed 16 (by decide), hv.fixed 17 (by decide), hv.fixed 18 (by decide), hv.fixed 19 (by decide), hv.fixed 20 (by decide), hv.fixed 21 (by decide), hv.fixed 23 (by decide), hv.fixed 24 (by decide), hv.fixed 25 (by decide), hv.fixed 26 (by decide), hv.fixed 27 (by decide), hv.fixed 28 (by decide), hv.fixed 29 (by decide), hv.fixed 30 (by decide), hv.fixed 31 (by decide), hv.fixed 32 (by decide), hv.fixed 33 (by decide), hv.fixed 34 (by decide), hv.fixed 35 (by decide), hv.fixed 36 (by decide), hv.fixed 37 (by decide), hv.fixed 38 (by decide), hv.fixed 39 (by decide), hv.fixed 40 (by decide), hv.fixed 41 (by decide), hv.fixed 42 (by decide), hv.fixed 43 (by decide), hv.fixed 44 (by decide), hv.fixed 45 (by decide), hv.fixed 46 (by decide), hv.fixed 47 (by decide), hv.fixed 48 (by decide), hv.fixed 49 (by decide), hv.fixed 50 (by decide), hv.fixed 51 (by decide), hv.fixed 52 (by decide), hv.fixed 53 (by decide), hv.fixed 54 (by decide), hv.fixed 55 (by decide), hv.fixed 56 (by decide), hv.fixed 57 (by decide), hv.fixed 58 (by decide), hv.fixed 59 (by decide), hv.fixed 60 (by decide), hv.fixed 61 (by decide), hv.fixed 62 (by decide), hv.fixed 63 (by decide), hv.fixed 64 (by decide), hv.fixed 65 (by decide), hv.fixed 66 (by decide), hv.fixed 67 (by decide), hv.fixed 68 (by decide), hv.fixed 69 (by decide), hv.fixed 70 (by decide), hv.fixed 71 (by decide), hv.fixed 72 (by decide), hv.fixed 73 (by decide), hv.fixed 74 (by decide), hv.fixed 75 (by decide), hv.fixed 76 (by decide), hv.fixed 77 (by decide), hv.fixed 78 (by decide), hv.fixed 79 (by decide), hv.fixed 80 (by decide), hv.fixed 81 (by decide), hv.fixed 82 (by decide), hv.fixed 83 (by decide), hv.fixed 84 (by decide), hv.fixed 85 (by decide), hv.fixed 86 (by decide), hv.fixed 87 (by decide), hv.fixed 88 (by decide), hv.fixed 89 (by decide), hv.fixed 90 (by decide), hv.fixed 91 (by decide), hv.fixed 92 (by decide), hv.fixed 93 (by decide), hv.fixed 94 (by decide), hv.fixed 95 (by decide), hv.fixed 96 (by decide), hv.fixed 97 (by decide), hv.fixed 98 (by decide), hv.fixed 99 (by decide), hv.fixed 100 (by decide), hv.fixed 101 (by decide), hv.fixed 102 (by decide), hv.fixed 103 (by decide), hv.fixed 135 (by decide), hv.fixed 136 (by decide), hv.fixed 137 (by decide), hv.fixed 138 (by decide), hv.fixed 139 (by decide), hv.fixed 140 (by decide), hv.fixed 141 (by decide), hv.fixed 142 (by decide), hv.fixed 143 (by decide), hv.fixed 144 (by decide), hv.fixed 145 (by decide), hv.fixed 146 (by decide), hv.fixed 147 (by decide), hv.fixed 148 (by decide), hv.fixed 149 (by decide), hv.fixed 150 (by decide), hv.fixed 151 (by decide), hv.fixed 152 (by decide), hv.fixed 153 (by decide), hv.fixed 154 (by decide), hv.fixed 155 (by decide), hv.fixed 156 (by decide), hv.get 31 (d := 22) rfl rfl (hall 31 (by decide))] at ha
    rw [ha]
    exact hK _ _ _ _ _ _ _ _ _ _ _ _ _ _ _ _ _ _ _ _ _ _ _ _ _ _ _ _ _ _ _ wc HO.out
end Go.Proofs.YtenafgphaceidaaDoor

/- THE WALKS over example and sanity of law 19. -/
namespace Go.Proofs.YtenafgphaceidaaDoor
open Go.RowKit
theorem results_cell1 {P : Program} {fn : Func} {a : Tmp} {t : TypeId} (h : fn.results = #[.cell a t]) {tmps : Array Value} {ad : Addr} {v : Value} {w : World} (ha : tmps.getD a undef = .pointer (some ad)) (hl : (loadVar t ad).run P w = .ok v w) :
    (results fn tmps).run P w = .ok v w := by
  rw [Array.getD_eq_getD_getElem?] at ha
  simp [results, h, asAddr, ha, hl]
/-- The cells of a block. -/
def Cells (w : World) (B : Nat) (cs : List Value) : Prop := ∀ (i : Nat) v, cs[i]? = some v → w.cell? ⟨B, i, none⟩ = some v
theorem Cells.ext {w w' : World} {B : Nat} {cs : List Value} (h : Cells w B cs) (hx : Ext w w') : Cells w' B cs := fun i v hi => hx.cell (h i v hi)
theorem cells_new (w : World) (cs : Array Value) (t : TypeId) : Cells (w.alloc (.cells cs t)) w.heap.size cs.toList := fun i v hi => cell_of_row _ _ i cs t (0, 0) (heap_new _ _) |>.trans (by simpa using hi)
theorem Cells.ints {w : World} {g : Nat} {l : List Int} (h : Cells w g (l.map (.int .i64))) (hl : l.length ≤ 100) (hb : ∀ x ∈ l, -9223372036854775808 ≤ x ∧ x ≤ 9223372036854775807) (n : Nat) (hn : n = l.length) : Rs RI w (.slice (some ⟨g, 0, none⟩) n n) l := by
  subst hn
  refine ⟨_, _, rfl, by omega, fun i x hi => ⟨⟨g, 0, none⟩, .int .i64 x, rfl, ?_, rfl, hb x (List.mem_of_getElem? hi)⟩⟩
  rw [Addr.add_lit, Nat.zero_add]
  exact h i _ (by rw [List.getElem?_map, hi]; rfl)
theorem Cells.rd {w : World} {g : Nat} {xs : List Value} (h : Cells w g xs) : Rd w (some ⟨g, 0, none⟩) xs := fun k x hx => by
  have hc := h k x hx
  have hlt : g < w.heap.size := lt_of_cell (p := ⟨g, k, none⟩) hc
  refine ⟨⟨g, 0, none⟩, rfl, hlt, ?_⟩
  rw [Addr.add_lit, Nat.zero_add]
  exact hc
theorem Cells.hops {w : World} {g : Nat} {l : List (Int × Int)} (h : Cells w g (hcells l)) (hl : l.length ≤ 100) (hb : ∀ x ∈ l, r64 x.1 ∧ r64 x.2) (n c : Nat) (hn : n = l.length) : RL w (.slice (some ⟨g, 0, none⟩) n c) l := by
  subst hn
  refine ⟨_, _, rfl, by omega, fun i x hi => ?_⟩
  obtain ⟨c1, c2⟩ := hcells_at l i x hi
  have hx := hb x (List.mem_of_getElem? hi)
  refine ⟨⟨g, 0, none⟩, rfl, ?_, ?_, hx.1.1, hx.1.2, hx.2.1, hx.2.2⟩
  · rw [Addr.add_lit, Nat.zero_add]; exact h _ _ c1
  · rw [Addr.add_lit]
    show w.cell? ⟨g, 0 + i * 2 + 1, none⟩ = _
    rw [Nat.zero_add]; exact h _ _ c2
theorem Rs.four {α : Type} {R : World → Value → α → Prop} {w : World} {g c : Nat} {u0 u1 u2 u3 : Value} {x0 x1 x2 x3 : α} (h0 : w.cell? ⟨g, 0, none⟩ = some u0) (r0 : R w u0 x0) (h1 : w.cell? ⟨g, 1, none⟩ = some u1) (r1 : R w u1 x1) (h2 : w.cell? ⟨g, 2, none⟩ = some u2) (r2 : R w u2 x2) (h3 : w.cell? ⟨g, 3, none⟩ = some u3) (r3 : R w u3 x3) : Rs R w (.slice (some ⟨g, 0, none⟩) 4 c) [x0, x1, x2, x3] :=
  ⟨some ⟨g, 0, none⟩, c, rfl, by simp, fun i x hi => by
    match i, hi with
    | 0, hi => simp at hi; subst hi; exact ⟨_, u0, rfl, h0, r0⟩
    | 1, hi => simp at hi; subst hi; exact ⟨_, u1, rfl, h1, r1⟩
    | 2, hi => simp at hi; subst hi; exact ⟨_, u2, rfl, h2, r2⟩
    | 3, hi => simp at hi; subst hi; exact ⟨_, u3, rfl, h3, r3⟩
    | i + 4, hi => simp at hi⟩
set_option maxRecDepth 100000 in
set_option maxHeartbeats 2000000 in
theorem example_any (src : List Int) (S : Value) (w : World) (hS : Rs RI w S src) :
    Calls Tryd.prog 25 #[S] w fun e w' => ∃ g, e = .returned (.agg #[.slice (some ⟨g, 0, none⟩) 4 4, S, .int .i64 0]) ∧ RH w' (.agg #[.slice (some ⟨g, 0, none⟩) 4 4, S, .int .i64 0]) (Su.ex src) ∧ Ext w w' := by
  obtain ⟨A, c, rfl, hl⟩ := hS.form
  have HS := Lib.hid hS
  clear hS
  go_enter Tryd.func25, Tryd.ntmps25
  go_wp2_with fail
  refine bodyPost_ret (results_cell1 (v := .agg #[.slice (some ⟨w.heap.size + 1 + 1 + 1 + 1 + 1, 0, none⟩) 4 4, .slice A src.length c, .int .i64 0]) rfl rfl ?_) rfl ?_
  · go_simp
  refine ⟨w.heap.size + 1 + 1 + 1 + 1 + 1, rfl, ⟨_, _, rfl, ?_, Rs.ext RI.ext _ _ _ _ (by exact ((((((Ext.refl w).alloc _).alloc _).alloc _).alloc _).alloc _).alloc _) HS.out, by simp [Su.ex], by simp [Su.ex]⟩, ((((((Ext.refl w).alloc _).alloc _).alloc _).alloc _).alloc _).alloc _⟩
  refine Rs.four (u0 := .slice (some ⟨w.heap.size + 1, 0, none⟩) 4 4) (u1 := .slice (some ⟨w.heap.size + 1 + 1, 0, none⟩) 4 4) (u2 := .slice (some ⟨w.heap.size + 1 + 1 + 1, 0, none⟩) 4 4) (u3 := .slice (some ⟨w.heap.size + 1 + 1 + 1 + 1, 0, none⟩) 4 4) (by go_simp) ?_ (by go_simp) ?_ (by go_simp) ?_ (by go_simp) ?_
  · exact Rs.four (u0 := .int .i64 (-1)) (u1 := .int .i64 (-1)) (u2 := .int .i64 (-1)) (u3 := .int .i64 (-1)) (by go_simp) ⟨rfl, by decide, by decide⟩ (by go_simp) ⟨rfl, by decide, by decide⟩ (by go_simp) ⟨rfl, by decide, by decide⟩ (by go_simp) ⟨rfl, by decide, by decide⟩
  · exact Rs.four (u0 := .int .i64 4) (u1 := .int .i64 (-1)) (u2 := .int .i64 (-1)) (u3 := .int .i64 1) (by go_simp) ⟨rfl, by decide, by decide⟩ (by go_simp) ⟨rfl, by decide, by decide⟩ (by go_simp) ⟨rfl, by decide, by decide⟩ (by go_simp) ⟨rfl, by decide, by decide⟩
  · exact Rs.four (u0 := .int .i64 4) (u1 := .int .i64 (-1)) (u2 := .int .i64 (-1)) (u3 := .int .i64 1) (by go_simp) ⟨rfl, by decide, by decide⟩ (by go_simp) ⟨rfl, by decide, by decide⟩ (by go_simp) ⟨rfl, by decide, by decide⟩ (by go_simp) ⟨rfl, by decide, by decide⟩
  · exact Rs.four (u0 := .int .i64 4) (u1 := .int .i64 (-1)) (u2 := .int .i64 (-1)) (u3 := .int .i64 (-1)) (by go_simp) ⟨rfl, by decide, by decide⟩ (by go_simp) ⟨rfl, by decide, by decide⟩ (by go_simp) ⟨rfl, by decide, by decide⟩ (by go_simp) ⟨rfl, by decide, by decide⟩
/-- The example's things. -/
structure SW (w : World) (B gH gS gO gT gX : Nat) : Prop where
  tab : Tab w
  box : Cells w B [.slice (some ⟨gH, 0, none⟩) 4 4, .slice (some ⟨gS, 0, none⟩) 3 3, .int .i64 0]
  rh : RH w (.agg #[.slice (some ⟨gH, 0, none⟩) 4 4, .slice (some ⟨gS, 0, none⟩) 3 3, .int .i64 0]) (Su.ex [1, 2, 1])
  ones : Rd w (some ⟨gO, 0, none⟩) (Su.exO.map fun p => .string (sb p))
  tree : Cells w gT (hcells Su.exT)
  star : Cells w gX (hcells Su.exS)
theorem SW.ext {w w' : World} {B gH gS gO gT gX : Nat} (h : SW w B gH gS gO gT gX) (hx : Ext w w') : SW w' B gH gS gO gT gX :=
  ⟨h.tab.ext hx, h.box.ext hx, RH.ext _ _ _ _ hx h.rh, h.ones.ext hx, h.tree.ext hx, h.star.ext hx⟩
theorem rl_tree {w : World} {gT : Nat} (h : Cells w gT (hcells Su.exT)) : RL w (.slice (some ⟨gT, 0, none⟩) 3 3) Su.exT := h.hops (by decide) (by unfold Su.exT r64; decide) _ _ rfl
theorem rl_star {w : World} {gT : Nat} (h : Cells w gT (hcells Su.exS)) : RL w (.slice (some ⟨gT, 0, none⟩) 2 2) Su.exS := h.hops (by decide) (by unfold Su.exS r64; decide) _ _ rfl
theorem rl_tree2 {w : World} {gT : Nat} (h : Cells w gT (hcells Su.exT)) : RL w (.slice (some ⟨gT, 0, none⟩) 2 3) (Su.exT.take 2) :=
  Cells.hops (l := Su.exT.take 2) (fun i v hi => h i v (by
    match i, hi with
    | 0, hi => exact hi
    | 1, hi => exact hi
    | 2, hi => exact hi
    | 3, hi => exact hi
    | i + 4, hi => simp [Su.exT, hcells] at hi)) (by decide) (by unfold Su.exT r64; decide) _ _ rfl
theorem rd_coef (w : World) : Rd (w.alloc (.cells #[.int .u8 1, .int .u8 2, .int .u8 3] 5)) (some ⟨w.heap.size, 0, none⟩) (([1, 2, 3] : List UInt8).map bv) := (cells_new w _ _).rd
theorem one_string : Value.string (sb [0]) = .string { data := #[0] } := rfl
theorem two_texts (w : World) : Rs RS (w.alloc (.cells #[.string { data := #[2] }, .string { data := #[2] }] 9)) (.slice (some ⟨w.heap.size, 0, none⟩) 2 2) [[2], [2]] := Rs.of_rdS (l := [[2], [2]]) (cells_new w _ _).rd rfl (by decide)
theorem three_texts (w : World) : Rs RS (w.alloc (.cells #[.string { data := #[2] }, .string { data := #[2] }, .string { data := #[0] }] 9)) (.slice (some ⟨w.heap.size, 0, none⟩) 3 3) [[2], [2], [0]] := Rs.of_rdS (l := [[2], [2], [0]]) (cells_new w _ _).rd rfl (by decide)
theorem exp_len : ∀ p ∈ Su.exO, p.length ≤ 140737488351232 := by decide
set_option maxRecDepth 100000 in
set_option maxHeartbeats 16000000 in
theorem sanity_any (w : World) (hT : Tab w) :
    Calls Tryd.prog 9 #[] w fun e w' => e = .returned (.bool true) ∧ Ext w w' := by
  have HT := Lib.hid hT
  clear hT
  have HR0 : Hid (Rs RI (w.alloc (.cells #[.int .i64 1, .int .i64 2, .int .i64 1] 3)) (.slice (some ⟨w.heap.size, 0, none⟩) 3 3) [1, 2, 1]) := Lib.hid (Cells.ints (cells_new w _ _) (by decide) (by decide) _ rfl)
  go_enter Tryd.func9, Tryd.ntmps9
  go_wp2_with fail
  refine (example_any [1, 2, 1] _ _ HR0.out).mono ?_
  rintro ee w1 ⟨gH, rfl, hrh, hx1⟩
  have HRH := Lib.hid hrh
  have HX1 := Lib.hid (((Ext.refl w).alloc _).trans hx1)
  clear hrh hx1
  obtain ⟨gS, hgS⟩ : ∃ g, w.heap.size = g := ⟨_, rfl⟩
  rw [hgS] at HRH ⊢
  clear hgS HR0
  go_wp2_with fail
  obtain ⟨B, hB⟩ : ∃ B, w1.heap.size = B := ⟨_, rfl⟩
  have hxw := ((((Ext.refl w1).alloc (.cells #[.slice (some ⟨gH, 0, none⟩) 4 4, .slice (some ⟨gS, 0, none⟩) 3 3, .int .i64 0] 25)).alloc (.cells #[.string { data := #[1] }, .string { data := #[1] }, .string { data := #[1] }] 9)).alloc (.cells #[.int .i64 1, .int .i64 3, .int .i64 2, .int .i64 3, .int .i64 3, .int .i64 0] 65)).alloc (.cells #[.int .i64 1, .int .i64 0, .int .i64 2, .int .i64 0] 65)
  have hsw : SW ((((w1.alloc (.cells #[.slice (some ⟨gH, 0, none⟩) 4 4, .slice (some ⟨gS, 0, none⟩) 3 3, .int .i64 0] 25)).alloc (.cells #[.string { data := #[1] }, .string { data := #[1] }, .string { data := #[1] }] 9)).alloc (.cells #[.int .i64 1, .int .i64 3, .int .i64 2, .int .i64 3, .int .i64 3, .int .i64 0] 65)).alloc (.cells #[.int .i64 1, .int .i64 0, .int .i64 2, .int .i64 0] 65)) B gH gS (B + 1) (B + 1 + 1) (B + 1 + 1 + 1) := by
    subst hB
    exact ⟨HT.out.ext (HX1.out.trans hxw), ((cells_new w1 _ _).ext ((((Ext.refl _).alloc _).alloc _).alloc _)), RH.ext _ _ _ _ hxw HRH.out, by
      have h := ((cells_new (w1.alloc (.cells #[.slice (some ⟨gH, 0, none⟩) 4 4, .slice (some ⟨gS, 0, none⟩) 3 3, .int .i64 0] 25)) #[.string { data := #[1] }, .string { data := #[1] }, .string { data := #[1] }] 9).ext ((((Ext.refl _).alloc (.cells #[.int .i64 1, .int .i64 3, .int .i64 2, .int .i64 3, .int .i64 3, .int .i64 0] 65)).alloc (.cells #[.int .i64 1, .int .i64 0, .int .i64 2, .int .i64 0] 65)))).rd
      rw [show (w1.alloc (.cells #[.slice (some ⟨gH, 0, none⟩) 4 4, .slice (some ⟨gS, 0, none⟩) 3 3, .int .i64 0] 25)).heap.size = w1.heap.size + 1 by simp] at h
      exact h, by
      have h := (cells_new ((w1.alloc (.cells #[.slice (some ⟨gH, 0, none⟩) 4 4, .slice (some ⟨gS, 0, none⟩) 3 3, .int .i64 0] 25)).alloc (.cells #[.string { data := #[1] }, .string { data := #[1] }, .string { data := #[1] }] 9)) #[.int .i64 1, .int .i64 3, .int .i64 2, .int .i64 3, .int .i64 3, .int .i64 0] 65).ext (((Ext.refl _).alloc (.cells #[.int .i64 1, .int .i64 0, .int .i64 2, .int .i64 0] 65)))
      rw [show ((w1.alloc (.cells #[.slice (some ⟨gH, 0, none⟩) 4 4, .slice (some ⟨gS, 0, none⟩) 3 3, .int .i64 0] 25)).alloc (.cells #[.string { data := #[1] }, .string { data := #[1] }, .string { data := #[1] }] 9)).heap.size = w1.heap.size + 1 + 1 by simp] at h
      exact h, by
      have h := (cells_new (((w1.alloc (.cells #[.slice (some ⟨gH, 0, none⟩) 4 4, .slice (some ⟨gS, 0, none⟩) 3 3, .int .i64 0] 25)).alloc (.cells #[.string { data := #[1] }, .string { data := #[1] }, .string { data := #[1] }] 9)).alloc (.cells #[.int .i64 1, .int .i64 3, .int .i64 2, .int .i64 3, .int .i64 3, .int .i64 0] 65)) #[.int .i64 1, .int .i64 0, .int .i64 2, .int .i64 0] 65)
      rw [show (((w1.alloc (.cells #[.slice (some ⟨gH, 0, none⟩) 4 4, .slice (some ⟨gS, 0, none⟩) 3 3, .int .i64 0] 25)).alloc (.cells #[.string { data := #[1] }, .string { data := #[1] }, .string { data := #[1] }] 9)).alloc (.cells #[.int .i64 1, .int .i64 3, .int .i64 2, .int .i64 3, .int .i64 3, .int .i64 0] 65)).heap.size = w1.heap.size + 1 + 1 + 1 by simp] at h
      exact h⟩
  have HS2 := Lib.hid hsw
  have HX2 := Lib.hid (HX1.out.trans hxw)
  rw [hB]
  clear hxw hsw hB
  refine (uLeast_any (Su.ex [1, 2, 1]) _ _ HS2.out.rh).mono ?_
  rintro ee w3 ⟨rfl, hx3⟩
  rw [Su.ex_least]
  have HS3 := Lib.hid (HS2.out.ext hx3)
  have HX3 := Lib.hid (HX2.out.trans hx3)
  clear hx3
  have b0 : w3.cell? ⟨B, 0, none⟩ = some (.slice (some ⟨gH, 0, none⟩) 4 4) := HS3.out.box 0 _ rfl
  have b1 : w3.cell? ⟨B, 1, none⟩ = some (.slice (some ⟨gS, 0, none⟩) 3 3) := HS3.out.box 1 _ rfl
  have b2 : w3.cell? ⟨B, 2, none⟩ = some (.int .i64 0) := HS3.out.box 2 _ rfl
  go_wp2_with fail
  clear b0 b1 b2
  refine (uTree_any 100 (Su.ex [1, 2, 1]) _ _ HS3.out.rh (fun _ _ => Su.ex_walk)).mono ?_
  rintro ee w4 ⟨A, m, cl, rfl, hrl, hx4⟩
  rw [Su.ex_tree] at hrl ⊢
  have HRL := Lib.hid hrl
  have HS4 := Lib.hid (HS3.out.ext hx4)
  have HX4 := Lib.hid (HX3.out.trans hx4)
  clear hx4 hrl
  have b0 : w4.cell? ⟨B, 0, none⟩ = some (.slice (some ⟨gH, 0, none⟩) 4 4) := HS4.out.box 0 _ rfl
  have b1 : w4.cell? ⟨B, 1, none⟩ = some (.slice (some ⟨gS, 0, none⟩) 3 3) := HS4.out.box 1 _ rfl
  have b2 : w4.cell? ⟨B, 2, none⟩ = some (.int .i64 0) := HS4.out.box 2 _ rfl
  go_wp2_with fail
  clear b0 b1 b2
  refine (uCost_any (Su.ex [1, 2, 1]) Su.exS _ _ _ HS4.out.rh (rl_star HS4.out.star) (fun v w hv hl => uValid_any _ _ v _ w hv hl)).mono ?_
  rintro ee w5 ⟨rfl, hx5⟩
  rw [Su.ex_cost]
  have HS5 := Lib.hid (HS4.out.ext hx5)
  have HX5 := Lib.hid (HX4.out.trans hx5)
  have HRL5 := Lib.hid (RL.ext _ _ _ _ hx5 HRL.out)
  clear hx5
  have b0 : w5.cell? ⟨B, 0, none⟩ = some (.slice (some ⟨gH, 0, none⟩) 4 4) := HS5.out.box 0 _ rfl
  have b1 : w5.cell? ⟨B, 1, none⟩ = some (.slice (some ⟨gS, 0, none⟩) 3 3) := HS5.out.box 1 _ rfl
  have b2 : w5.cell? ⟨B, 2, none⟩ = some (.int .i64 0) := HS5.out.box 2 _ rfl
  have HRC := Lib.hid (rd_coef w5)
  go_wp2_with fail
  clear b0 b1 b2
  have HS5b := Lib.hid (HS5.out.ext ((Ext.refl w5).alloc (.cells #[.int .u8 1, .int .u8 2, .int .u8 3] 5)))
  refine (uCarry_any 5 (Su.ex [1, 2, 1]) Su.exS [1, 2, 3] Su.exO _ _ _ _ 3 3 _ HS5b.out.tab HS5b.out.rh (rl_star HS5b.out.star) HRC.out HS5b.out.ones (by decide) exp_len (fun hv _ _ => Su.carry_term (by decide) _ _ _ hv)).mono ?_
  rintro ee w6 ⟨XA, xn, xc, rfl, hxs, hx6⟩
  rw [Su.ex_carryS] at hxs ⊢
  have HXS := Lib.hid hxs
  have hx56 := ((Ext.refl w5).alloc (.cells #[.int .u8 1, .int .u8 2, .int .u8 3] 5)).trans hx6
  have HS6 := Lib.hid (HS5.out.ext hx56)
  have HX6 := Lib.hid (HX5.out.trans hx56)
  have HRL6 := Lib.hid (RL.ext _ _ _ _ hx56 HRL5.out)
  clear hx6 hx56 hxs HRC HS5b
  have b0 : w6.cell? ⟨B, 0, none⟩ = some (.slice (some ⟨gH, 0, none⟩) 4 4) := HS6.out.box 0 _ rfl
  have b1 : w6.cell? ⟨B, 1, none⟩ = some (.slice (some ⟨gS, 0, none⟩) 3 3) := HS6.out.box 1 _ rfl
  have b2 : w6.cell? ⟨B, 2, none⟩ = some (.int .i64 0) := HS6.out.box 2 _ rfl
  have HRC := Lib.hid (rd_coef w6)
  go_wp2_with fail
  clear b0 b1 b2
  have HS6b := Lib.hid (HS6.out.ext ((Ext.refl w6).alloc (.cells #[.int .u8 1, .int .u8 2, .int .u8 3] 5)))
  refine (uCarry_any 5 (Su.ex [1, 2, 1]) Su.exT [1, 2, 3] Su.exO _ _ _ _ 3 3 _ HS6b.out.tab HS6b.out.rh (rl_tree HS6b.out.tree) HRC.out HS6b.out.ones (by decide) exp_len (fun hv _ _ => Su.carry_term (by decide) _ _ _ hv)).mono ?_
  rintro ee w7 ⟨YA, yn, yc, rfl, hys, hx7⟩
  rw [Su.ex_carryT] at hys ⊢
  have HYS := Lib.hid hys
  have hx67 := ((Ext.refl w6).alloc (.cells #[.int .u8 1, .int .u8 2, .int .u8 3] 5)).trans hx7
  have HS7 := Lib.hid (HS6.out.ext hx67)
  have HX7 := Lib.hid (HX6.out.trans hx67)
  have HRL7 := Lib.hid (RL.ext _ _ _ _ hx67 HRL6.out)
  have HXS7 := Lib.hid (Rs.ext RS.ext _ _ _ _ hx67 HXS.out)
  clear hx7 hx67 hys HRC HS6b
  have HR3 : Hid (Rs RI (w7.alloc (.cells #[.int .i64 3] 3)) (.slice (some ⟨w7.heap.size, 0, none⟩) 1 1) [3]) := Lib.hid (Cells.ints (cells_new w7 _ _) (by decide) (by decide) _ rfl)
  go_wp2_with fail
  refine (example_any [3] _ _ HR3.out).mono ?_
  rintro ee w8 ⟨g3, rfl, hrh3, hx8⟩
  have HRH3 := Lib.hid hrh3
  have HX78 := Lib.hid (((Ext.refl w7).alloc (.cells #[.int .i64 3] 3)).trans hx8)
  clear hrh3 hx8 HR3
  go_wp2_with fail
  refine (uLeast_any (Su.ex [3]) _ _ HRH3.out).mono ?_
  rintro ee w9 ⟨rfl, hx9⟩
  rw [Su.ex_least3]
  have HX79 := Lib.hid (HX78.out.trans hx9)
  clear hx9
  go_wp2_with fail
  refine (example_any [] _ _ ⟨none, 0, rfl, by simp, fun i x hi => by simp at hi⟩).mono ?_
  rintro ee w10 ⟨g0, rfl, hrh0, hx10⟩
  have HRH0 := Lib.hid hrh0
  have HX710 := Lib.hid (HX79.out.trans hx10)
  clear hrh0 hx10
  go_wp2_with fail
  refine (uLeast_any (Su.ex []) _ _ HRH0.out).mono ?_
  rintro ee w11 ⟨rfl, hx11⟩
  rw [Su.ex_least0]
  have hx711 := HX710.out.trans hx11
  have HS11 := Lib.hid (HS7.out.ext hx711)
  have HX11 := Lib.hid (HX7.out.trans hx711)
  have HRL11 := Lib.hid (RL.ext _ _ _ _ hx711 HRL7.out)
  have HXS11 := Lib.hid (Rs.ext RS.ext _ _ _ _ hx711 HXS7.out)
  have HYS11 := Lib.hid (Rs.ext RS.ext _ _ _ _ hx711 HYS.out)
  clear hx11 hx711 HX78 HX79 HX710 HRH3 HRH0
  have b0 : w11.cell? ⟨B, 0, none⟩ = some (.slice (some ⟨gH, 0, none⟩) 4 4) := HS11.out.box 0 _ rfl
  have b1 : w11.cell? ⟨B, 1, none⟩ = some (.slice (some ⟨gS, 0, none⟩) 3 3) := HS11.out.box 1 _ rfl
  have b2 : w11.cell? ⟨B, 2, none⟩ = some (.int .i64 0) := HS11.out.box 2 _ rfl
  go_wp2_with fail
  refine wp_atEnd' (san_costs w11 B (B + 1 + 1) m cl A _ _ b0 b1 b2 (Lib.hid fun w1 hx => ((lSame_any Su.exT Su.exT _ _ w1 (RL.ext _ _ _ _ hx HRL11.out) (rl_tree (HS11.out.tree.ext hx))).mono fun e w' h => ⟨by rw [h.1]; rfl, h.2⟩)) (Lib.hid fun w1 hx => ((uValid_any (Su.ex [1, 2, 1]) (Su.exT.take 2) _ _ w1 (RH.ext _ _ _ _ hx HS11.out.rh) (rl_tree2 (HS11.out.tree.ext hx))).mono fun e w' h => ⟨by rw [h.1, Su.ex_valid2], h.2⟩)) (Lib.hid fun w1 hx => ((uValid_any (Su.ex [1, 2, 1]) Su.exT _ _ w1 (RH.ext _ _ _ _ hx HS11.out.rh) (rl_tree (HS11.out.tree.ext hx))).mono fun e w' h => ⟨by rw [h.1, Su.ex_valid], h.2⟩)) _ _ _ _ _ _ _ _ _ _ _ _ _ _ _ _ _ _ _ _ _ _ _ _ _ _ _ _ _ _ _ _ _ _ _ _ _ _ _ _ _ _ _ _ _ _ _ _ _ _ _ _ _ _ _ _ _ _ _ _ _ _ _ _ _ _ _ _ _ _ _ _ _ _ _ _ _ _ _ _ _ _ _ _ _ _ _ _ _ _ _ _ _ _ _ _ _ _ _ _ _ _ _ _ _ _ _ _ _ _ _ _ _ _ _ _ _ _ _ _ _ _ _ _ _ _ _ _ _ _ _ _ _ _ _ _ _ _ _ _ _ _ _ _ _ _ _ _ _ _ _ _ ?_)
  intro u104 u105 u106 u107 u108 u109 u110 u111 u112 u113 u114 u115 u116 u117 u118 u119 u120 u121 u122 u123 u124 u125 u126 u127 u128 u129 u130 u131 u132 u133 u134 w12 hx12
  have HX12 := Lib.hid (HX11.out.trans hx12)
  have HXS12 := Lib.hid (Rs.ext RS.ext _ _ _ _ hx12 HXS11.out)
  have HYS12 := Lib.hid (Rs.ext RS.ext _ _ _ _ hx12 HYS11.out)
  clear hx12 b0 b1 b2
  rw [one_string]
  go_wp2_with fail
  refine (rSameTexts_any [[2], [2]] [[2], [2]] _ _ _ (Rs.ext RS.ext _ _ _ _ ((Ext.refl w12).alloc _) HXS12.out) (two_texts w12)).mono ?_
  rintro ee w13 ⟨rfl, hx13⟩
  have hx123 := ((Ext.refl w12).alloc (.cells #[.string { data := #[2] }, .string { data := #[2] }] 9)).trans hx13
  have HYS13 := Lib.hid (Rs.ext RS.ext _ _ _ _ hx123 HYS12.out)
  have HX13 := Lib.hid (HX12.out.trans hx123)
  clear hx13 hx123
  rw [show decide (([[2], [2]] : List (List UInt8)) = [[2], [2]]) = true from rfl]
  go_wp2_with fail
  refine (rSameTexts_any [[2], [2], [0]] [[2], [2], [0]] _ _ _ (Rs.ext RS.ext _ _ _ _ ((Ext.refl _).alloc _) HYS13.out) (three_texts _)).mono ?_
  rintro ee w14 ⟨rfl, hx14⟩
  have HX14 := Lib.hid ((HX13.out.alloc _).trans hx14)
  clear hx14
  rw [show decide (([[2], [2], [0]] : List (List UInt8)) = [[2], [2], [0]]) = true from rfl]
  go_wp2_with fail
  go_ret
  exact ⟨rfl, HX14.out⟩
end Go.Proofs.YtenafgphaceidaaDoor

/- THE WALK over the law SumsCarryAsSpecified. -/
namespace Go.Proofs.YtenafgphaceidaaDoor
open Go.RowKit
set_option maxRecDepth 100000 in
set_option maxHeartbeats 16000000 in
theorem law_carry (h : Su.Ha) (l : List (Int × Int)) (coef : List UInt8) (ps : List (List UInt8)) (v u : Value) (CA PA : Option Addr) (ca cb : Nat) (w : World) (hT : Tab w) (hv : RH w v h) (hu : RL w u l) (hA : Rd w CA (coef.map bv)) (hB : Rd w PA (ps.map fun p => .string (sb p))) (hc64 : coef.length ≤ 9223372036854775807) (hp64 : ps.length ≤ 9223372036854775807) :
    Calls Tryd.prog 5 #[v, u, .slice CA coef.length ca, .slice PA ps.length cb] w fun e w' => e = .returned (.bool true) ∧ Ext w w' := by
  have hvv := hv
  obtain ⟨A, SA, c, d, rfl, hG, hS, hl1, hl2, hb1, hb2⟩ := hv.open
  have hx0 := (Ext.refl w).alloc (.cells #[.slice A h.pr.length c, .slice SA h.src.length d, .int .i64 h.tgt] 25)
  have HX0 := Lib.hid hx0
  obtain ⟨LA, e, rfl, hl3⟩ := hu.form
  have HV := Lib.hid (RH.ext _ _ _ _ hx0 hvv)
  have HL := Lib.hid (RL.ext _ _ _ _ hx0 hu)
  have HA := Lib.hid (hA.ext hx0)
  have HB := Lib.hid (hB.ext hx0)
  have HT := Lib.hid (hT.ext hx0)
  clear hv hvv hG hS hx0 hu hA hB hT
  go_enter Tryd.func5, Tryd.ntmps5
  go_wp2_with fail
  refine (qFew_any h 14 10 (by decide) _ _ HV.out).mono ?_
  rintro ee w1 ⟨b, rfl, hfew, hx1⟩
  have HFEW := Lib.hid hfew
  have d0 : w1.cell? ⟨w.heap.size, 0, none⟩ = some (.slice A h.pr.length c) := hx1.cell (by go_simp)
  have d1 : w1.cell? ⟨w.heap.size, 1, none⟩ = some (.slice SA h.src.length d) := hx1.cell (by go_simp)
  have d2 : w1.cell? ⟨w.heap.size, 2, none⟩ = some (.int .i64 h.tgt) := hx1.cell (by go_simp)
  have HD := Lib.hid (And.intro d0 (And.intro d1 d2))
  have HX1 := Lib.hid hx1
  clear hx1 hfew d0 d1 d2
  cases b with
  | false =>
    go_wp2_with fail
    refine (sanity_any _ (HT.out.ext HX1.out)).mono ?_
    rintro ee w2 ⟨rfl, hx2⟩
    have HE := Lib.hid ((HX0.out.trans HX1.out).trans hx2)
    clear hx2
    go_wp2_with fail
    go_ret
    exact ⟨rfl, HE.out⟩
  | true =>
    by_cases q1 : 14 < l.length
    · go_wp2_with fail
      refine (sanity_any _ (HT.out.ext HX1.out)).mono ?_
      rintro ee w2 ⟨rfl, hx2⟩
      have HE := Lib.hid ((HX0.out.trans HX1.out).trans hx2)
      clear hx2
      go_wp2_with fail
      go_ret
      exact ⟨rfl, HE.out⟩
    by_cases q2 : 12 < coef.length
    · go_wp2_with fail
      refine (sanity_any _ (HT.out.ext HX1.out)).mono ?_
      rintro ee w2 ⟨rfl, hx2⟩
      have HE := Lib.hid ((HX0.out.trans HX1.out).trans hx2)
      clear hx2
      go_wp2_with fail
      go_ret
      exact ⟨rfl, HE.out⟩
    by_cases q3 : 12 < ps.length
    · go_wp2_with fail
      refine (sanity_any _ (HT.out.ext HX1.out)).mono ?_
      rintro ee w2 ⟨rfl, hx2⟩
      have HE := Lib.hid ((HX0.out.trans HX1.out).trans hx2)
      clear hx2
      go_wp2_with fail
      go_ret
      exact ⟨rfl, HE.out⟩
    go_wp2_with fail
    go_loop [38] (fun vi => ∃ k : Nat, k ≤ ps.length ∧ vi = .int .i64 k ∧ Hid (∀ j p, j < k → ps[j]? = some p → p.length ≤ 20)) (fun vi => ps.length - (intOf vi).toNat)
    case atStart => exact ⟨0, Nat.zero_le _, rfl, Lib.hid fun j p hj => absurd hj (Nat.not_lt_zero j)⟩
    case round =>
      obtain ⟨k, hk, rfl, HI⟩ := hrel
      by_cases hlt : k < ps.length
      · obtain ⟨ap, eB, _, hcy⟩ := (HB.out.ext HX1.out).at (k := k) (by simpa using hlt)
        subst eB
        rw [List.getElem_map] at hcy
        have hpk : ps[k]? = some ps[k] := List.getElem?_eq_getElem hlt
        obtain ⟨p, hp⟩ : ∃ p, ps[k] = p := ⟨_, rfl⟩
        rw [hp] at hcy hpk
        obtain ⟨m, hm⟩ : ∃ m, (sb p).size = m := ⟨_, rfl⟩
        have HP := Lib.hid (And.intro hpk (show p.length = m by rw [← hm, size_sb]))
        have hsz : (sb p).size = m := hm
        clear hp hpk hm
        by_cases hm20 : 20 < m
        · go_wp2_with fail
          refine (sanity_any _ (HT.out.ext HX1.out)).mono ?_
          rintro ee w2 ⟨rfl, hx2⟩
          have HE := Lib.hid ((HX0.out.trans HX1.out).trans hx2)
          clear hx2
          go_wp2_with fail
          go_ret
          exact ⟨rfl, HE.out⟩
        · go_wp2_with fail
          clear hcy hsz
          go_round
          case rel => exact ⟨k + 1, by omega, by go_num, Lib.hid fun j q hj hq => by
            by_cases hjk : j = k
            · rw [hjk, HP.out.1] at hq
              injection hq with hq
              rw [← hq, HP.out.2]; omega
            · exact HI.out j q (by omega) hq⟩
          case measure => simp [intOf]; omega
      · obtain rfl : k = ps.length := by omega
        have hall : ∀ p ∈ ps, p.length ≤ 20 := fun p hp => by
          obtain ⟨j, hj, rfl⟩ := List.getElem_of_mem hp
          exact HI.out j _ hj (List.getElem?_eq_getElem hj)
        have HALL := Lib.hid hall
        have hfew := HFEW.out (by trivial)
        have HF := Lib.hid hfew
        clear hall hfew
        obtain ⟨d0, d1, d2⟩ := HD.out
        go_wp2_with fail
        clear d0 d1 d2
        refine (uCarry_any 15 h l coef ps _ _ CA PA ca cb w1 (HT.out.ext HX1.out) (RH.ext _ _ _ _ HX1.out HV.out) (RL.ext _ _ _ _ HX1.out HL.out) (HA.out.ext HX1.out) (HB.out.ext HX1.out) (by omega) (fun p hp => by have := HALL.out p hp; omega) (fun hval _ _ => Su.carry_term (by have := HF.out.1; omega) _ _ _ hval)).mono ?_
        rintro ee w2 ⟨XA, xn, xc, rfl, hxs, hx2⟩
        have d0 := hx2.cell HD.out.1
        have d1 := hx2.cell HD.out.2.1
        have d2 := hx2.cell HD.out.2.2
        have HXS := Lib.hid hxs
        have HX2 := Lib.hid (HX1.out.trans hx2)
        clear hx2 hxs
        obtain ⟨R, hR⟩ : ∃ R, Su.carry 15 h l coef ps = R := ⟨_, rfl⟩
        rw [hR] at HXS ⊢
        have HR := Lib.hid hR
        clear hR
        obtain ⟨xs, s, er⟩ := R
        simp only at HXS ⊢
        go_wp2_with fail
        clear d0 d1 d2
        refine (qCarry_any 15 h l coef ps _ _ CA PA ca cb w2 (RH.ext _ _ _ _ HX2.out HV.out) (RL.ext _ _ _ _ HX2.out HL.out) (HA.out.ext HX2.out) (HB.out.ext HX2.out) (by omega) (fun p hp => by have := HALL.out p hp; omega) (fun hval _ _ => Su.carry_term (by have := HF.out.1; omega) _ _ _ hval)).mono ?_
        rintro ee w3 ⟨YA, yn, yc, rfl, hys, hx3⟩
        rw [HR.out] at hys ⊢
        simp only at hys ⊢
        have hx4 := hx3.alloc (.cells #[.slice YA yn yc, .string (sb s), .int .i64 er] 49)
        have HY := Lib.hid (Rs.ext RS.ext _ _ _ _ ((Ext.refl w3).alloc (.cells #[.slice YA yn yc, .string (sb s), .int .i64 er] 49)) hys)
        have HXY := Lib.hid (Rs.ext RS.ext _ _ _ _ hx4 HXS.out)
        have HX3 := Lib.hid (HX2.out.trans hx4)
        have hbx := cells_new w3 #[.slice YA yn yc, .string (sb s), .int .i64 er] 49
        have HBX := Lib.hid hbx
        clear hx3 hx4 hys hbx
        go_wp2_with fail
        refine (sanity_any _ (HT.out.ext HX3.out)).mono ?_
        rintro ee w5 ⟨rfl, hx5⟩
        have b0 := (HBX.out.ext hx5) 0 _ rfl
        have b1 := (HBX.out.ext hx5) 1 _ rfl
        have b2 := (HBX.out.ext hx5) 2 _ rfl
        have HY5 := Lib.hid (Rs.ext RS.ext _ _ _ _ hx5 HY.out)
        have HXY5 := Lib.hid (Rs.ext RS.ext _ _ _ _ hx5 HXY.out)
        have HX5 := Lib.hid ((HX0.out.trans HX3.out).trans hx5)
        have HB5 := Lib.hid (HBX.out.ext hx5)
        clear hx5
        go_wp2_with fail
        clear b0 b1 b2
        refine (rSameTexts_any xs xs _ _ _ HXY5.out HY5.out).mono ?_
        rintro ee w6 ⟨rfl, hx6⟩
        have b0 := (HB5.out.ext hx6) 0 _ rfl
        have b1 := (HB5.out.ext hx6) 1 _ rfl
        have b2 := (HB5.out.ext hx6) 2 _ rfl
        have HX6 := Lib.hid (HX5.out.trans hx6)
        clear hx6
        rw [show decide (xs = xs) = true from decide_eq_true rfl]
        go_wp2_with fail
        go_ret
        exact ⟨rfl, HX6.out⟩
end Go.Proofs.YtenafgphaceidaaDoor

/- ARGUMENTS that are codes read as such. -/
namespace Go.Proofs.YtenafgphaceidaaDoor
open Go.ChangeShapes Go.WideShapes Go.ChangeAt Go.RowKit Go.ChangeMaps Go.Deep
variable {H : Type} {enc : TypeId × Value → H} {W : World} {base : Nat}
theorem list_getD {l : List Int} {k : Nat} (h : k < l.length) : l.getD k 0 = l[k] := by rw [List.getD_eq_getElem?_getD, List.getElem?_eq_getElem h]; rfl
theorem read_ints {fuel : Nat} {v : Value} {x : DataW H × List MemPlace} (h : DataW.trod enc Tryd.prog W base (fun _ => true) true fuel 23 [v] = some x) : ∃ l, Rs RI W v l := by
  rcases open_ints Tryd.underlying23 Tryd.underlying3 (by kernel_rfl) h with ⟨hcs, _⟩ | ⟨a, len, cap, zs, hcs, _, hl, hm, hz, _, hcell, hwz⟩
  · injection hcs with hcs _
    subst hcs
    exact ⟨[], none, 0, rfl, by simp, fun i x h => by simp at h⟩
  · injection hcs with hcs _
    subst hcs
    rw [if_pos rfl] at hz
    have hll : (zs.take len).length = len := by rw [List.length_take]; omega
    refine ⟨zs.take len, some a, cap, by rw [hll], by rw [hll]; unfold maxLen at hm; omega, fun i y hi => ?_⟩
    have hi1 : i < (zs.take len).length := (List.getElem?_eq_some_iff.1 hi).1
    have hi2 : i < zs.length := by rw [List.length_take] at hi1; omega
    have h1 := hcell i (by omega)
    rw [list_getD hi2] at h1
    have e : y = zs[i] := by
      have := (List.getElem?_eq_some_iff.1 hi).2
      rw [← this, List.getElem_take]
    subst e
    have hb := bounds_i64 (hwz _ (List.getElem_mem hi2))
    exact ⟨a, _, rfl, h1, rfl, by omega, by omega⟩
theorem read_rows {fuel : Nat} {v : Value} {x : DataW H × List MemPlace} (h : DataW.trod enc Tryd.prog W base (fun _ => true) true fuel 22 [v] = some x) : ∃ l, Rs (Rs RI) W v l := by
  rcases open_int_rows Tryd.underlying22 Tryd.underlying23 Tryd.underlying3 (by kernel_rfl) (by kernel_rfl) h with ⟨hcs, _⟩ | ⟨a, len, cap, A, L, C, Z, hcs, _, hl, hm, _, hx⟩
  · injection hcs with hcs _
    subst hcs
    exact ⟨[], none, 0, rfl, by simp, fun i x h => by simp at h⟩
  · injection hcs with hcs _
    subst hcs
    refine ⟨(List.range len).map fun r => (Z r).take (L r), some a, cap, by simp, by simp; unfold maxLen at hm; omega, fun i y hi => ?_⟩
    have hi1 : i < len := by have := (List.getElem?_eq_some_iff.1 hi).1; simpa using this
    have e : y = (Z i).take (L i) := by
      have := (List.getElem?_eq_some_iff.1 hi).2
      rw [← this]; simp
    subst e
    obtain ⟨h1, h2, h3, h4, h5, h6, h7⟩ := hx i (by omega)
    refine ⟨a, _, rfl, h1, A i, C i, ?_, ?_, fun k z hk => ?_⟩
    · rw [List.length_take]; congr 1; omega
    · rw [List.length_take]; unfold maxLen at h3; omega
    · have hk1 : k < ((Z i).take (L i)).length := (List.getElem?_eq_some_iff.1 hk).1
      have hk2 : k < (Z i).length := by rw [List.length_take] at hk1; omega
      have hk3 : k < C i := by omega
      have e : z = (Z i)[k] := by
        have := (List.getElem?_eq_some_iff.1 hk).2
        rw [← this, List.getElem_take]
      subst e
      have hb := bounds_i64 (h5 _ (List.getElem_mem hk2))
      cases hA : A i with
      | none => have := h6 hA; omega
      | some b =>
        have h8 := (h7 b hA).2 k hk3
        rw [list_getD hk2] at h8
        exact ⟨b, _, rfl, h8, rfl, by omega, by omega⟩
theorem cellsCode : Tryd.prog.cellsOf 56 = 3 := by kernel_rfl
theorem cellsInts : Tryd.prog.cellsOf 23 = 1 := by kernel_rfl
theorem cellsRows : Tryd.prog.cellsOf 22 = 1 := by kernel_rfl
theorem cellsInt : Tryd.prog.cellsOf 3 = 1 := by kernel_rfl
theorem array3 {α : Type} {cs : Array α} (h : cs.size = 3) : ∃ c0 c1 c2, cs = #[c0, c1, c2] := by
  obtain ⟨l⟩ := cs
  match l, h with
  | [c0, c1, c2], _ => exact ⟨c0, c1, c2, rfl⟩
set_option maxRecDepth 100000 in
theorem open_code {b0 : Nat} {v : Value} {d : DataW H} {ps : List MemPlace} (hval : Value.okWide Tryd.prog W .any b0 56 v) (hd : DataW.Trod enc Tryd.prog W base (fun _ => true) true 56 v d ps) :
    ∃ (a0 a2 : Int) (G : Value) (gs : List (List Int)), v = .agg #[.int .i64 a0, G, .int .i64 a2] ∧ Rs (Rs RI) W G gs ∧ (-9223372036854775808 ≤ a0 ∧ a0 ≤ 9223372036854775807) ∧ (-9223372036854775808 ≤ a2 ∧ a2 ≤ 9223372036854775807) := by
  obtain ⟨cs, rfl, hsz⟩ := okWide_struct Tryd.underlying56 hval
  obtain ⟨c0, c1, c2, rfl⟩ := array3 (hsz.trans (by kernel_rfl))
  obtain ⟨fuel, hf⟩ := hd
  obtain ⟨zs, m, _, _, _, hlen2, hz⟩ := DataW.trod_struct Tryd.underlying56 hf
  obtain ⟨z0, z1, z2, rfl⟩ : ∃ z0 z1 z2, zs = [z0, z1, z2] := by
    match zs, hlen2 with
    | [z0, z1, z2], _ => exact ⟨z0, z1, z2, rfl⟩
  have g0 : DataW.trod enc Tryd.prog W base (fun _ => true) true m 3 [c0] = some z0 := by
    have := hz 0 _ rfl
    simpa [Value.cells, cellsInt] using this
  have g1 : DataW.trod enc Tryd.prog W base (fun _ => true) true m 22 [c1] = some z1 := by
    have := hz 1 _ rfl
    simpa [Value.cells, cellsRows] using this
  have g2 : DataW.trod enc Tryd.prog W base (fun _ => true) true m 3 [c2] = some z2 := by
    have := hz 2 _ rfl
    simpa [Value.cells, cellsInt] using this
  obtain ⟨gs, h1⟩ := read_rows g1
  obtain ⟨a0, ha0, _, w0⟩ := DataW.trod_int Tryd.underlying3 g0
  obtain ⟨a2, ha2, _, w2⟩ := DataW.trod_int Tryd.underlying3 g2
  injection ha0 with ha0 _
  injection ha2 with ha2 _
  subst ha0 ha2
  have b0 := bounds_i64 w0
  have b2 := bounds_i64 w2
  exact ⟨a0, a2, c1, gs, rfl, h1, by omega, by omega⟩
end Go.Proofs.YtenafgphaceidaaDoor

/- ARGUMENTS of law 19: hauls and hops. -/
namespace Go.Proofs.YtenafgphaceidaaDoor
open Go.ChangeShapes Go.WideShapes Go.ChangeAt Go.RowKit Go.ChangeMaps Go.Deep
variable {H : Type} {enc : TypeId × Value → H} {W : World} {base : Nat}
set_option maxRecDepth 100000 in
theorem open_haul {b0 : Nat} {v : Value} {d : DataW H} {ps : List MemPlace} (hval : Value.okWide Tryd.prog W .any b0 25 v) (hd : DataW.Trod enc Tryd.prog W base (fun _ => true) true 25 v d ps) :
    ∃ h : Su.Ha, RH W v h := by
  obtain ⟨cs, rfl, hsz⟩ := okWide_struct Tryd.underlying25 hval
  obtain ⟨c0, c1, c2, rfl⟩ := array3 (hsz.trans (by kernel_rfl))
  obtain ⟨fuel, hf⟩ := hd
  obtain ⟨zs, m, _, _, _, hlen2, hz⟩ := DataW.trod_struct Tryd.underlying25 hf
  obtain ⟨z0, z1, z2, rfl⟩ : ∃ z0 z1 z2, zs = [z0, z1, z2] := by
    match zs, hlen2 with
    | [z0, z1, z2], _ => exact ⟨z0, z1, z2, rfl⟩
  have g0 : DataW.trod enc Tryd.prog W base (fun _ => true) true m 22 [c0] = some z0 := by
    have := hz 0 _ rfl
    simpa [Value.cells, cellsRows] using this
  have g1 : DataW.trod enc Tryd.prog W base (fun _ => true) true m 23 [c1] = some z1 := by
    have := hz 1 _ rfl
    simpa [Value.cells, cellsInts] using this
  have g2 : DataW.trod enc Tryd.prog W base (fun _ => true) true m 3 [c2] = some z2 := by
    have := hz 2 _ rfl
    simpa [Value.cells, cellsInt] using this
  obtain ⟨gs, h1⟩ := read_rows g0
  obtain ⟨l, h2⟩ := read_ints g1
  obtain ⟨a2, ha2, _, w2⟩ := DataW.trod_int Tryd.underlying3 g2
  injection ha2 with ha2 _
  subst ha2
  have b2 := bounds_i64 w2
  exact ⟨⟨gs, l, a2⟩, c0, c1, rfl, h1, h2, by simp; omega, by simp; omega⟩
theorem spot_free {a : Addr} {v : Value} (h : W.cell? a = some v) : a.spot = none := by
  unfold World.cell? at h
  split at h
  · split at h
    · cases h
    · rename_i hs; simpa using hs
  · cases h
set_option maxRecDepth 100000 in
theorem open_hops {b0 : Nat} {v : Value} {d : DataW H} {ps : List MemPlace} (hval : Value.okWide Tryd.prog W .any b0 26 v) (hd : DataW.Trod enc Tryd.prog W base (fun _ => true) true 26 v d ps) :
    ∃ l : List (Int × Int), RL W v l := by
  obtain ⟨a0, len, cap, rfl⟩ := okWide_slice Tryd.underlying26 hval
  obtain ⟨fuel, hf⟩ := hd
  have ce : Tryd.prog.cellsOf 65 = 2 := by kernel_rfl
  rcases open_slice Tryd.underlying26 hf with ⟨hcs, _⟩ | ⟨a, len', cap', m, n, D, Pl, hcs, _, hl, hm, hmm, _, hx⟩
  · simp [Value.cells] at hcs
    obtain ⟨rfl, rfl, rfl⟩ := hcs
    exact ⟨[], none, 0, rfl, by simp, fun i x hi => by simp at hi⟩
  · simp [Value.cells] at hcs
    obtain ⟨rfl, rfl, rfl⟩ := hcs
    rw [if_pos rfl] at hmm
    have each : ∀ i, i < len → ∃ x : Int × Int, W.cell? (a.add (i * 2)) = some (.int .i64 x.1) ∧ W.cell? ((a.add (i * 2)).add 1) = some (.int .i64 x.2) ∧ r64 x.1 ∧ r64 x.2 := by
      intro i hi
      obtain ⟨cs', h1, h2⟩ := hx i (by omega)
      rw [ce] at h1
      obtain ⟨_, hlen, hcell⟩ := World.cells?_some h1
      obtain ⟨xs, k, _, _, _, hxl, hg⟩ := DataW.trod_struct Tryd.underlying65 h2
      obtain ⟨c0, c1, rfl⟩ : ∃ c0 c1, cs' = [c0, c1] := by
        match cs', hlen with
        | [c0, c1], _ => exact ⟨c0, c1, rfl⟩
      obtain ⟨y0, y1, rfl⟩ : ∃ y0 y1, xs = [y0, y1] := by
        match xs, hxl with
        | [y0, y1], _ => exact ⟨y0, y1, rfl⟩
      have f0 : DataW.trod enc Tryd.prog W base (fun _ => true) true k 3 [c0] = some y0 := by
        have := hg 0 _ rfl
        simpa [cellsInt] using this
      have f1 : DataW.trod enc Tryd.prog W base (fun _ => true) true k 3 [c1] = some y1 := by
        have := hg 1 _ rfl
        simpa [cellsInt] using this
      obtain ⟨z0, e0, _, w0⟩ := DataW.trod_int Tryd.underlying3 f0
      obtain ⟨z1, e1, _, w1⟩ := DataW.trod_int Tryd.underlying3 f1
      injection e0 with e0 _
      injection e1 with e1 _
      subst e0 e1
      have b0 := bounds_i64 w0
      have b1 := bounds_i64 w1
      exact ⟨(z0, z1), hcell 0 (by decide), hcell 1 (by decide), ⟨by simp; omega, by simp; omega⟩, ⟨by simp; omega, by simp; omega⟩⟩
    refine ⟨(List.range len).map fun k => if h : k < len then (each k h).choose else (0, 0), some a, cap, by simp, by simp; unfold maxLen at hm; omega, fun i x hi => ?_⟩
    have hil : i < len := by
      have := (List.getElem?_eq_some_iff.1 hi).1
      simpa using this
    have hxe : x = (each i hil).choose := by
      have := (List.getElem?_eq_some_iff.1 hi).2
      rw [← this]
      simp [hil]
    obtain ⟨h1, h2, h3, h4⟩ := (each i hil).choose_spec
    rw [← hxe] at h1 h2 h3 h4
    refine ⟨a, rfl, h1, ?_, h3.1, h3.2, h4.1, h4.2⟩
    have hs := spot_free h1
    have e : (a.add (i * 2)).add 1 = ⟨(a.add (i * 2)).block, (a.add (i * 2)).off + 1, none⟩ := by
      generalize a.add (i * 2) = p at hs
      obtain ⟨b, o, s⟩ := p
      simp only at hs
      subst hs
      unfold Addr.add
      rfl
    rw [← e]
    exact h2
end Go.Proofs.YtenafgphaceidaaDoor
