/- THE WALK over Distance: its drawn region; collect for any number. -/
import Derived.Test.YtgkohfmgdejkpaaDoorMarks
import Derived.Test.YtgkohfmgdejkpaaDoorSets
import Derived.Test.YtgkohfmgdejkpaaDoorDecW
namespace Go.Proofs.YtgkohfmgdejkpaaDoor
open Go.RowKit Go.Shelf
theorem enters_collect : ∀ args w, (callFunc 39 args).run Tryd.prog w = .ok (.enter 39 args) w := enters_of Tryd.func39 (by kernel_rfl) rfl
theorem cCollect_can (d gl m : Int) (gs : List (List Int)) (A : Option Addr) (n c : Nat) (w : World) (hT : Tab w) (h0 : Cd.check d gs gl = 0) (hV : Rs (Rs RB) w (.slice A n c) (Cd.rowsOf d gs gl)) (hn : (Cd.rowsOf d gs gl).length = n) :
    Calls Tryd.prog 39 #[.slice A n c, .int .i64 m, .slice none 0 0] w fun e w' => ∃ p, e = .returned (.pointer p) ∧ Cd.can d gl gs m = p.isSome ∧ Ext w w' := by
  have hk := Cd.check_ok h0
  have hr := Cd.rowsOf_ok h0
  have hlen := Cd.rows_len d.toNat gs gl.toNat
  have hwd : ∀ r ∈ Cd.rowsOf d gs gl, r.length = d.toNat := fun r h => Cd.rows_width (by rw [← hr]; exact h)
  rw [← hr] at hlen
  clear hr
  obtain ⟨R, hR⟩ : ∃ R, Cd.rowsOf d gs gl = R := ⟨_, rfl⟩
  have hcan : Cd.can d gl gs m = decide (0 ≤ m ∧ m < 2 ^ R.length ∧ (Gf.stairs d.toNat (Cd.pick R m.toNat)).length = d.toNat) := by
    unfold Cd.can
    rw [hR]
    simp only [h0, true_and]
  rw [hR] at hlen hwd hV hn
  subst hn
  by_cases hm0 : m < 0
  · refine (cCollect_neg m _ _ _ _ (by omega) hm0).mono ?_
    rintro e w2 ⟨rfl, hx2⟩
    exact ⟨none, rfl, by rw [hcan]; simp; omega, hx2⟩
  · obtain ⟨k, rfl⟩ : ∃ k : Nat, m = k := ⟨m.toNat, by omega⟩
    by_cases hm : k < 2 ^ R.length
    · refine (cCollect_in d.toNat k R _ _ hT hV hwd (by omega) (by omega) (by omega) (by omega) hm).mono ?_
      rintro e w2 ⟨p, rfl, hp, hx2⟩
      refine ⟨p, rfl, ?_, hx2⟩
      rw [hcan, Int.toNat_natCast]
      have hk2 : (k : Int) < 2 ^ R.length := by rw [nat_pow_cast]; omega
      cases p with
      | none =>
        have h1 := hp.1 rfl
        simp only [Option.isSome_none, decide_eq_false_iff_not]
        rintro ⟨_, _, h2⟩
        exact h1 h2
      | some q =>
        have h1 : (Gf.stairs d.toNat (Cd.pick R k)).length = d.toNat := Classical.byContradiction fun h => by cases hp.2 h
        simp only [Option.isSome_some, decide_eq_true_eq]
        exact ⟨by omega, hk2, h1⟩
    · refine (cCollect_big (k : Int) _ _ _ _ (by omega) (by omega) (by omega) (by omega)).mono ?_
      rintro e w2 ⟨rfl, hx2⟩
      refine ⟨none, rfl, ?_, hx2⟩
      rw [hcan, nat_pow_cast]
      simp only [Option.isSome_none, decide_eq_false_iff_not]
      omega
noncomputable def dist_region_code : Code := ((Tryd.f24.body.bind (regionOf 10)).getD .skip)
def dist_region_dsts : List (Option Nat) := [some 28, some 29, some 30, some 31, some 32, some 33, some 34, some 35]
theorem dist_region_apart : apartD dist_region_dsts = true := by decide +kernel
set_option maxRecDepth 1000000 in
set_option maxHeartbeats 16000000 in
theorem dist_region (l b4 b6 n M x cR : Nat) (d gl : Int) (gs : List (List Int)) (RA : Option Addr) (wr : World) (hn : n ≤ 14) (hMl : M ≤ 16384) (hM1 : 1 ≤ M) (hM : Hid (IntKind.i64.wrap (2 ^ n) = (M : Int))) (hx : x < 16384) (h4 : wr.cell? ⟨b4, 0, none⟩ = some (.slice RA n cR)) (h6 : wr.cell? ⟨b6, 0, none⟩ = some (.int .i64 n)) (HT : Hid (Tab wr)) (H0 : Hid (Cd.check d gs gl = 0)) (HV : Hid (Rs (Rs RB) wr (.slice RA n cR) (Cd.rowsOf d gs gl))) (HN : Hid ((Cd.rowsOf d gs gl).length = n)) (c0 c1 c2 c3 c5 c7 c9 c10 c11 c12 c13 c14 c15 c16 c17 c18 c19 c20 c21 c22 c23 c24 c25 c26 c27 c28 c29 c30 c31 c32 c33 c34 c35 c36 c37 c38 : Value) (df : List Deferred) (K : Act → World → Prop)
    (hK : ∀ (q : Option Addr) (u28 u29 u30 u31 u32 u33 u34 : Value) (wx : World), Cd.can d gl gs ((M : Int) - 1 - x) = q.isSome → Ext wr wx → K ⟨#[c0, c1, c2, c3, .pointer (some ⟨b4, 0, none⟩), c5, .pointer (some ⟨b6, 0, none⟩), c7, .int .i64 x, c9, c10, c11, c12, c13, c14, c15, c16, c17, c18, c19, c20, c21, c22, c23, c24, c25, c26, c27, u28, u29, u30, u31, u32, u33, u34, .bool q.isNone, c36, c37, c38], df⟩ wx) :
    Code.wpIn (Fence.wide.inRound l) 7 Tryd.prog dist_region_code (AtEnd K) ⟨#[c0, c1, c2, c3, .pointer (some ⟨b4, 0, none⟩), c5, .pointer (some ⟨b6, 0, none⟩), c7, .int .i64 x, c9, c10, c11, c12, c13, c14, c15, c16, c17, c18, c19, c20, c21, c22, c23, c24, c25, c26, c27, c28, c29, c30, c31, c32, c33, c34, c35, c36, c37, c38], df⟩ wr := by
  conv => arg 4; whnf
  refine region_invIn (by kernel_rfl) [[], [], [1], [2], [], [3, 4], [0, 5], [6]] (by kernel_rfl) [0, 1, 2, 3, 4, 5, 6, 7] (by decide +kernel) (by decide +kernel) (by decide +kernel) (fun L a wc => ∃ (q : Option Addr), Inv dist_region_dsts [.slice RA n cR, .int .i64 n, .int .i64 M, .int .i64 ((M : Int) - 1), .int .i64 x, .int .i64 ((M : Int) - 1 - x), .pointer q, .bool q.isNone] ⟨#[c0, c1, c2, c3, .pointer (some ⟨b4, 0, none⟩), c5, .pointer (some ⟨b6, 0, none⟩), c7, .int .i64 x, c9, c10, c11, c12, c13, c14, c15, c16, c17, c18, c19, c20, c21, c22, c23, c24, c25, c26, c27, c28, c29, c30, c31, c32, c33, c34, c35, c36, c37, c38], df⟩ L a ∧ Hid (if L 6 = true then Cd.can d gl gs ((M : Int) - 1 - x) = q.isSome ∧ Ext wr wc else wc = wr.drew)) ⟨none, Inv.start, Lib.hid rfl⟩ ?_ ?_
  · refine ⟨?_, ?_, ?_, ?_, ?_, ?_, ?_, ?_, trivial⟩
    · -- 0 load
      rintro L a wc ⟨q, hv, HO⟩ hL hc hd
      have n6 : L 6 = false := Bool.eq_false_iff.2 fun h => Bool.false_ne_true (hL.symm.trans (hc 6 (h) 0 (by decide)))
      have hwc : wc = wr.drew := by have h := HO.out; rw [if_neg (by simp [n6])] at h; exact h
      have c4 : wc.cell? ⟨b4, 0, none⟩ = some (.slice RA n cR) := by rw [hwc]; exact h4
      exact wpOpIn_val (fun _ => trivial) rfl rfl (by intro c h; cases h) (ex_load rfl ((hv.fixed 4 (by decide)).trans rfl) (by go_simp)) ⟨q, hv.put dist_region_apart 0 rfl (Nat.le_of_ble_eq_true rfl) (Nat.le_of_ble_eq_true rfl) rfl, HO⟩
    · -- 1 load
      rintro L a wc ⟨q, hv, HO⟩ hL hc hd
      have n6 : L 6 = false := Bool.eq_false_iff.2 fun h => Bool.false_ne_true (hL.symm.trans (hc 2 (hc 3 (hc 5 (hc 6 (h) 5 (by decide)) 3 (by decide)) 2 (by decide)) 1 (by decide)))
      have hwc : wc = wr.drew := by have h := HO.out; rw [if_neg (by simp [n6])] at h; exact h
      have c6 : wc.cell? ⟨b6, 0, none⟩ = some (.int .i64 n) := by rw [hwc]; exact h6
      exact wpOpIn_val (fun _ => trivial) rfl rfl (by intro c h; cases h) (ex_load rfl ((hv.fixed 6 (by decide)).trans rfl) (by go_simp)) ⟨q, hv.put dist_region_apart 1 rfl (Nat.le_of_ble_eq_true rfl) (Nat.le_of_ble_eq_true rfl) rfl, HO⟩
    · -- 2 bin
      rintro L a wc ⟨q, hv, HO⟩ hL hc hd
      have hw := hM.out
      exact wpOpIn_val (fun _ => trivial) rfl rfl (by intro c h; cases h) (ex_bin rfl rfl (hv.get 1 rfl rfl (hd 1 (by decide))) (by go_simp)) ⟨q, hv.put dist_region_apart 2 rfl (Nat.le_of_ble_eq_true rfl) (Nat.le_of_ble_eq_true rfl) rfl, HO⟩
    · -- 3 bin
      rintro L a wc ⟨q, hv, HO⟩ hL hc hd
      have hw : IntKind.i64.wrap ((M : Int) - 1) = (M : Int) - 1 := by rw [IntKind.wrap_i64]; omega
      exact wpOpIn_val (fun _ => trivial) rfl rfl (by intro c h; cases h) (ex_bin rfl (hv.get 2 rfl rfl (hd 2 (by decide))) rfl (by go_simp)) ⟨q, hv.put dist_region_apart 3 rfl (Nat.le_of_ble_eq_true rfl) (Nat.le_of_ble_eq_true rfl) rfl, HO⟩
    · -- 4 move
      rintro L a wc ⟨q, hv, HO⟩ hL hc hd
      exact wpOpIn_val (fun _ => trivial) rfl rfl (by intro c h; cases h) (ex_move rfl ((hv.fixed 8 (by decide)).trans rfl)) ⟨q, hv.put dist_region_apart 4 rfl (Nat.le_of_ble_eq_true rfl) (Nat.le_of_ble_eq_true rfl) rfl, HO⟩
    · -- 5 bin
      rintro L a wc ⟨q, hv, HO⟩ hL hc hd
      have hw : IntKind.i64.wrap ((M : Int) - 1 - (x : Int)) = (M : Int) - 1 - (x : Int) := by rw [IntKind.wrap_i64]; omega
      exact wpOpIn_val (fun _ => trivial) rfl rfl (by intro c h; cases h) (ex_bin rfl (hv.get 3 rfl rfl (hd 3 (by decide))) (hv.get 4 rfl rfl (hd 4 (by decide))) (by go_simp)) ⟨q, hv.put dist_region_apart 5 rfl (Nat.le_of_ble_eq_true rfl) (Nat.le_of_ble_eq_true rfl) rfl, HO⟩
    · -- 6 call
      rintro L a wc ⟨q, hv, HO⟩ hL hc hd
      have hwc : wc = wr.drew := by have h := HO.out; rw [if_neg (by simp [hL])] at h; exact h
      subst hwc
      have n7 : L 7 = false := Bool.eq_false_iff.2 fun h => Bool.false_ne_true (hL.symm.trans (hc 7 h 6 (by decide)))
      refine wpOpIn_call (R := fun v w1 => ∃ p : Option Addr, v = .pointer p ∧ Cd.can d gl gs ((M : Int) - 1 - x) = p.isSome ∧ Ext wr w1) (fun _ => trivial) rfl rfl rfl (by intro c h; cases h) (ex_call rfl rfl (map3c (hv.get 0 rfl rfl (hd 0 (by decide))) (hv.get 5 rfl rfl (hd 5 (by decide))) rfl) (enters_collect _ _)) (CallsIn.inRound l (callsIn_wide.2 ((cCollect_can d gl ((M : Int) - 1 - x) gs RA n cR wr.drew (HT.out.ext (Ext.refl wr).drew) H0.out (Rs.ext (Rs.ext RB.ext) _ _ _ _ (Ext.refl wr).drew HV.out) HN.out).mono (fun e w' h => by obtain ⟨p, h1, h2, h3⟩ := h; exact ⟨_, h1, p, rfl, h2, (Ext.refl wr).drew.trans h3⟩)))) ?_
      rintro v w' ⟨p, rfl, hcan, hx⟩
      have hv := hv.reset 7 n7 (.bool p.isNone)
      exact ⟨p, hv.put dist_region_apart 6 rfl (Nat.le_of_ble_eq_true rfl) (Nat.le_of_ble_eq_true rfl) rfl, Lib.hid ⟨hcan, hx⟩⟩
    · -- 7 bin
      rintro L a wc ⟨q, hv, HO⟩ hL hc hd
      exact wpOpIn_val (fun _ => trivial) rfl rfl (by intro c h; cases h) (ex_bin rfl (hv.get 6 rfl rfl (hd 6 (by decide))) rfl (by cases q <;> first | rfl | go_simp)) ⟨q, hv.put dist_region_apart 7 rfl (Nat.le_of_ble_eq_true rfl) (Nat.le_of_ble_eq_true rfl) rfl, HO⟩
  · rintro L a wc ⟨q, hv, HO⟩ hall
    show K a wc
    have ha := act_lit a
    rw [hv.size, hv.defers] at ha
    have hl : ∀ f : Nat → Value, ((List.range (⟨#[c0, c1, c2, c3, .pointer (some ⟨b4, 0, none⟩), c5, .pointer (some ⟨b6, 0, none⟩), c7, .int .i64 x, c9, c10, c11, c12, c13, c14, c15, c16, c17, c18, c19, c20, c21, c22, c23, c24, c25, c26, c27, c28, c29, c30, c31, c32, c33, c34, c35, c36, c37, c38], df⟩ : Act).tmps.size).map f).toArray = #[f 0, f 1, f 2, f 3, f 4, f 5, f 6, f 7, f 8, f 9, f 10, f 11, f 12, f 13, f 14, f 15, f 16, f 17, f 18, f 19, f 20, f 21, f 22, f 23, f 24, f 25, f 26, f 27, f 28, f 29, f 30, f 31, f 32, f 33, f 34, f 35, f 36, f 37, f 38] := fun _ => rfl
    rw [hl] at ha
    simp only [hv.fixed 0 (by decide), hv.fixed 1 (by decide), hv.fixed 2 (by decide), hv.fixed 3 (by decide), hv.fixed 4 (by decide), hv.fixed 5 (by decide), hv.fixed 6 (by decide), hv.fixed 7 (by decide), hv.fixed 8 (by decide), hv.fixed 9 (by decide), hv.fixed 10 (by decide), hv.fixed 11 (by decide), hv.fixed 12 (by decide), hv.fixed 13 (by decide), hv.fixed 14 (by decide), hv.fixed 15 (by decide), hv.fixed 16 (by decide), hv.fixed 17 (by decide), hv.fixed 18 (by decide), hv.fixed 19 (by decide), hv.fixed 20 (by decide), hv.fixed 21 (by decide), hv.fixed 22 (by decide), hv.fixed 23 (by decide), hv.fixed 24 (by decide), hv.fixed 25 (by decide), hv.fixed 26 (by decide), hv.fixed 27 (by decide), hv.fixed 36 (by decide), hv.fixed 37 (by decide), hv.fixed 38 (by decide), hv.get 7 (d := 35) rfl rfl (hall 7 (by decide))] at ha
    rw [ha]
    have h := HO.out
    rw [if_pos (hall 6 (by decide))] at h
    exact hK q _ _ _ _ _ _ _ wc h.1 h.2
end Go.Proofs.YtgkohfmgdejkpaaDoor
