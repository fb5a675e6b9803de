/- THE WALK over sets: its drawn region. -/
import Derived.Test.YtgkohfmgdejkpaaDoorInvIn
import Derived.Test.YtgkohfmgdejkpaaDoorOnes
namespace Go.Proofs.YtgkohfmgdejkpaaDoor
open Go.RowKit Go.Shelf
abbrev SetN := { x : Nat // x < 16384 }
def encN (x : SetN) : Array Value := #[.int .i64 x.1]
theorem enters_ones : ∀ args w, (callFunc 62 args).run Tryd.prog w = .ok (.enter 62 args) w := enters_of Tryd.func62 (by kernel_rfl) rfl
noncomputable def sets_on_code : Code := ((Tryd.f61.body.bind (regionOf 3)).getD .skip)
def sets_on_dsts : List (Option Nat) := [some 10, some 11, some 12, some 13, some 14, some 15, some 16, some 17, some 18, some 19, some 20]
theorem sets_on_apart : apartD sets_on_dsts = true := by decide +kernel
set_option maxRecDepth 1000000 in
set_option maxHeartbeats 16000000 in
theorem sets_on (l m k sz Bs : Nat) (R : Bool → World → Prop) (wr : World) (hk : k < 16384) (hcnt : Ones.cnt k = sz) (hbs : wr.drew.cell? ⟨Bs, 0, none⟩ = some (.int .i64 sz)) (hy : YieldAt Fence.wide (m - 1) Tryd.prog l #[.int .i64 k] wr.drew fun e w' => ∃ b, e = .returned (.bool b) ∧ R b w') (c1 c3 c5 c6 c7 c8 c9 c10 c11 c12 c13 c14 c15 c16 c17 c18 c19 c20 c21 : Value) (df : List Deferred) (K : Act → World → Prop)
    (hK : ∀ (b : Bool) (u10 u11 u12 u13 u14 u15 u16 u17 u18 u19 : Value) (wx : World), R b wx → K ⟨#[.func (.yield l) #[] #[], c1, .pointer (some ⟨Bs, 0, none⟩), c3, .int .i64 k, c5, c6, c7, c8, c9, u10, u11, u12, u13, u14, u15, u16, u17, u18, u19, .bool (!b), c21], df⟩ wx) :
    Code.wpIn Fence.wide m Tryd.prog sets_on_code (AtEnd K) ⟨#[.func (.yield l) #[] #[], c1, .pointer (some ⟨Bs, 0, none⟩), c3, .int .i64 k, c5, c6, c7, c8, c9, c10, c11, c12, c13, c14, c15, c16, c17, c18, c19, c20, c21], df⟩ wr := by
  conv => arg 4; whnf
  refine region_invIn (by kernel_rfl) [[], [0], [1], [], [2, 3], [4, 2], [5], [5], [6, 7, 5, 5], [8, 5], [5, 9]] (by kernel_rfl) [0, 1, 2, 3, 4, 5, 6, 7, 8, 9, 10] (by decide +kernel) (by decide +kernel) (by decide +kernel) (fun L a wc => ∃ (b : Bool), Inv sets_on_dsts [.int .i64 k, .int .u64 k, .int .i64 (Ones.cnt k : Nat), .int .i64 sz, .bool true, .bool true, .func (.yield l) #[] #[], .int .i64 k, .bool b, .bool (!b), .bool (!b)] ⟨#[.func (.yield l) #[] #[], c1, .pointer (some ⟨Bs, 0, none⟩), c3, .int .i64 k, c5, c6, c7, c8, c9, c10, c11, c12, c13, c14, c15, c16, c17, c18, c19, c20, c21], df⟩ L a ∧ Hid (if L 8 = true then R b wc else wc = wr.drew)) ⟨false, Inv.start, Lib.hid rfl⟩ ?_ ?_
  · refine ⟨?_, ?_, ?_, ?_, ?_, ?_, ?_, ?_, ?_, ?_, ?_, trivial⟩
    · -- 0 move
      rintro L a wc ⟨b, hv, HO⟩ hL hc hd
      exact wpOpIn_val (fun _ => trivial) rfl rfl (by intro c h; cases h) (ex_move rfl ((hv.fixed 4 (by decide)).trans rfl)) ⟨b, hv.put sets_on_apart 0 rfl (Nat.le_of_ble_eq_true rfl) (Nat.le_of_ble_eq_true rfl) rfl, HO⟩
    · -- 1 convert
      rintro L a wc ⟨b, hv, HO⟩ hL hc hd
      have hu : IntKind.u64.wrap (k : Int) = (k : Int) := by rw [IntKind.wrap_u64]; omega
      exact wpOpIn_val (fun _ => trivial) rfl rfl (by intro c h; cases h) (ex_convert rfl (hv.get 0 rfl rfl (hd 0 (by decide))) (by go_simp)) ⟨b, hv.put sets_on_apart 1 rfl (Nat.le_of_ble_eq_true rfl) (Nat.le_of_ble_eq_true rfl) rfl, HO⟩
    · -- 2 call
      rintro L a wc ⟨b, hv, HO⟩ hL hc hd
      have n8 : L 8 = false := Bool.eq_false_iff.2 fun h => Bool.false_ne_true (hL.symm.trans (hc 5 (hc 8 (h) 5 (by decide)) 2 (by decide)))
      have hwc : wc = wr.drew := by have h := HO.out; rw [if_neg (by simp [n8])] at h; exact h
      refine wpOpIn_call (R := fun v w1 => v = .int .i64 (Ones.cnt k : Nat) ∧ wc = w1) (fun _ => trivial) rfl rfl rfl (by intro c h; cases h) (ex_call rfl rfl (map1c (hv.get 1 rfl rfl (hd 1 (by decide)))) (enters_ones _ _)) ((callsIn_wide.2 (ones_any k _ hk)).mono (fun e w' h => ⟨_, h.1, rfl, h.2⟩)) ?_
      rintro v w' ⟨rfl, rfl⟩
      exact ⟨b, hv.put sets_on_apart 2 rfl (Nat.le_of_ble_eq_true rfl) (Nat.le_of_ble_eq_true rfl) rfl, HO⟩
    · -- 3 load
      rintro L a wc ⟨b, hv, HO⟩ hL hc hd
      have n8 : L 8 = false := Bool.eq_false_iff.2 fun h => Bool.false_ne_true (hL.symm.trans (hc 4 (hc 5 (hc 8 (h) 5 (by decide)) 4 (by decide)) 3 (by decide)))
      have hwc : wc = wr.drew := by have h := HO.out; rw [if_neg (by simp [n8])] at h; exact h
      have c2 : wc.cell? ⟨Bs, 0, none⟩ = some (.int .i64 sz) := by rw [hwc]; exact hbs
      exact wpOpIn_val (fun _ => trivial) rfl rfl (by intro c h; cases h) (ex_load rfl ((hv.fixed 2 (by decide)).trans rfl) (by go_simp)) ⟨b, hv.put sets_on_apart 3 rfl (Nat.le_of_ble_eq_true rfl) (Nat.le_of_ble_eq_true rfl) rfl, HO⟩
    · -- 4 bin
      rintro L a wc ⟨b, hv, HO⟩ hL hc hd
      have e : (((Ones.cnt k : Nat) : Int) == (sz : Int)) = true := by rw [hcnt]; simp
      exact wpOpIn_val (fun _ => trivial) rfl rfl (by intro c h; cases h) (ex_bin rfl (hv.get 2 rfl rfl (hd 2 (by decide))) (hv.get 3 rfl rfl (hd 3 (by decide))) (by go_simp)) ⟨b, hv.put sets_on_apart 4 rfl (Nat.le_of_ble_eq_true rfl) (Nat.le_of_ble_eq_true rfl) rfl, HO⟩
    · -- 5 move
      rintro L a wc ⟨b, hv, HO⟩ hL hc hd
      exact wpOpIn_val (fun _ => trivial) rfl rfl (by intro c h; cases h) (ex_move rfl (hv.get 4 rfl rfl (hd 4 (by decide)))) ⟨b, hv.put sets_on_apart 5 rfl (Nat.le_of_ble_eq_true rfl) (Nat.le_of_ble_eq_true rfl) rfl, HO⟩
    · -- 6 move
      rintro L a wc ⟨b, hv, HO⟩ hL hc hd
      exact wpOpIn_val (fun _ => trivial) rfl ((wanted_at rfl rfl (hv.get 5 rfl rfl (hd 5 (by decide)))).trans rfl) (by intro c h; cases h) (ex_move rfl ((hv.fixed 0 (by decide)).trans rfl)) ⟨b, hv.put sets_on_apart 6 rfl (Nat.le_of_ble_eq_true rfl) (Nat.le_of_ble_eq_true rfl) rfl, HO⟩
    · -- 7 move
      rintro L a wc ⟨b, hv, HO⟩ hL hc hd
      exact wpOpIn_val (fun _ => trivial) rfl ((wanted_at rfl rfl (hv.get 5 rfl rfl (hd 5 (by decide)))).trans rfl) (by intro c h; cases h) (ex_move rfl ((hv.fixed 4 (by decide)).trans rfl)) ⟨b, hv.put sets_on_apart 7 rfl (Nat.le_of_ble_eq_true rfl) (Nat.le_of_ble_eq_true rfl) rfl, HO⟩
    · -- 8 yield
      rintro L a wc ⟨b, hv, HO⟩ hL hc hd
      have hwc : wc = wr.drew := by have h := HO.out; rw [if_neg (by simp [hL])] at h; exact h
      subst hwc
      refine wpOpIn_yield (fun _ => trivial) rfl rfl ((wanted_at rfl rfl (hv.get 5 rfl rfl (hd 5 (by decide)))).trans rfl) rfl (hv.get 6 rfl rfl (hd 6 (by decide))) (map1 (hv.get 7 rfl rfl (hd 7 (by decide)))) hy ?_
      rintro e w' ⟨b', rfl, hR⟩
      have n9 : L 9 = false := Bool.eq_false_iff.2 fun h => Bool.false_ne_true (hL.symm.trans (hc 9 h 8 (by decide)))
      have n10 : L 10 = false := Bool.eq_false_iff.2 fun h => Bool.false_ne_true (n9.symm.trans (hc 10 h 9 (by decide)))
      have hv := (hv.reset 9 n9 (.bool (!b'))).reset 10 n10 (.bool (!b'))
      exact ⟨_, rfl, b', hv.put sets_on_apart 8 rfl (Nat.le_of_ble_eq_true rfl) (Nat.le_of_ble_eq_true rfl) rfl, Lib.hid hR⟩
    · -- 9 un
      rintro L a wc ⟨b, hv, HO⟩ hL hc hd
      exact wpOpIn_val (fun _ => trivial) rfl ((wanted_at rfl rfl (hv.get 5 rfl rfl (hd 5 (by decide)))).trans rfl) (by intro c h; cases h) (ex_un rfl (hv.get 8 rfl rfl (hd 8 (by decide))) (by go_simp)) ⟨b, hv.put sets_on_apart 9 rfl (Nat.le_of_ble_eq_true rfl) (Nat.le_of_ble_eq_true rfl) rfl, HO⟩
    · -- 10 pick
      rintro L a wc ⟨b, hv, HO⟩ hL hc hd
      exact wpOpIn_val (fun _ => trivial) rfl rfl (by intro c h; cases h) (ex_pick rfl (hv.get 5 rfl rfl (hd 5 (by decide))) (if_pos rfl |>.trans (hv.get 9 rfl rfl (hd 9 (by decide))))) ⟨b, hv.put sets_on_apart 10 rfl (Nat.le_of_ble_eq_true rfl) (Nat.le_of_ble_eq_true rfl) rfl, HO⟩
  · rintro L a wc ⟨b, hv, HO⟩ hall
    show K a wc
    have ha := act_lit a
    rw [hv.size, hv.defers] at ha
    have hl : ∀ f : Nat → Value, ((List.range (⟨#[.func (.yield l) #[] #[], c1, .pointer (some ⟨Bs, 0, none⟩), c3, .int .i64 k, c5, c6, c7, c8, c9, c10, c11, c12, c13, c14, c15, c16, c17, c18, c19, c20, c21], df⟩ : Act).tmps.size).map f).toArray = #[f 0, f 1, f 2, f 3, f 4, f 5, f 6, f 7, f 8, f 9, f 10, f 11, f 12, f 13, f 14, f 15, f 16, f 17, f 18, f 19, f 20, f 21] := fun _ => rfl
    rw [hl] at ha
    simp only [hv.fixed 0 (by decide), hv.fixed 1 (by decide), hv.fixed 2 (by decide), hv.fixed 3 (by decide), hv.fixed 4 (by decide), hv.fixed 5 (by decide), hv.fixed 6 (by decide), hv.fixed 7 (by decide), hv.fixed 8 (by decide), hv.fixed 9 (by decide), hv.fixed 21 (by decide), hv.get 10 (d := 20) rfl rfl (hall 10 (by decide))] at ha
    rw [ha]
    have h := HO.out
    rw [if_pos (hall 8 (by decide))] at h
    exact hK b _ _ _ _ _ _ _ _ _ _ wc h
noncomputable def sets_off_code : Code := ((Tryd.f61.body.bind (regionOf 3)).getD .skip)
def sets_off_dsts : List (Option Nat) := [some 10, some 11, some 12, some 13, some 14, some 15, some 16, some 17, some 18, some 19, some 20]
theorem sets_off_apart : apartD sets_off_dsts = true := by decide +kernel
set_option maxRecDepth 1000000 in
set_option maxHeartbeats 16000000 in
theorem sets_off (l m k sz Bs : Nat) (wr : World) (hk : k < 16384) (hcnt : Ones.cnt k ≠ sz) (hbs : wr.drew.cell? ⟨Bs, 0, none⟩ = some (.int .i64 sz)) (c1 c3 c5 c6 c7 c8 c9 c10 c11 c12 c13 c14 c15 c16 c17 c18 c19 c20 c21 : Value) (df : List Deferred) (K : Act → World → Prop)
    (hK : ∀  (u10 u11 u12 u13 u14 u15 u16 u17 u18 u19 : Value) (wx : World), wx = wr.drew → K ⟨#[.func (.yield l) #[] #[], c1, .pointer (some ⟨Bs, 0, none⟩), c3, .int .i64 k, c5, c6, c7, c8, c9, u10, u11, u12, u13, u14, u15, u16, u17, u18, u19, .bool false, c21], df⟩ wx) :
    Code.wpIn Fence.wide m Tryd.prog sets_off_code (AtEnd K) ⟨#[.func (.yield l) #[] #[], c1, .pointer (some ⟨Bs, 0, none⟩), c3, .int .i64 k, c5, c6, c7, c8, c9, c10, c11, c12, c13, c14, c15, c16, c17, c18, c19, c20, c21], df⟩ wr := by
  conv => arg 4; whnf
  refine region_invIn (by kernel_rfl) [[], [0], [1], [], [2, 3], [4, 2], [5], [5], [6, 7, 5, 5], [8, 5], [5, 9]] (by kernel_rfl) [0, 1, 2, 3, 4, 5, 6, 7, 8, 9, 10] (by decide +kernel) (by decide +kernel) (by decide +kernel) (fun L a wc => Inv sets_off_dsts [.int .i64 k, .int .u64 k, .int .i64 (Ones.cnt k : Nat), .int .i64 sz, .bool false, .bool false, undef, undef, undef, undef, .bool false] ⟨#[.func (.yield l) #[] #[], c1, .pointer (some ⟨Bs, 0, none⟩), c3, .int .i64 k, c5, c6, c7, c8, c9, c10, c11, c12, c13, c14, c15, c16, c17, c18, c19, c20, c21], df⟩ L a ∧ Hid (wc = wr.drew)) ⟨Inv.start, Lib.hid rfl⟩ ?_ ?_
  · refine ⟨?_, ?_, ?_, ?_, ?_, ?_, ?_, ?_, ?_, ?_, ?_, trivial⟩
    · -- 0 move
      rintro L a wc ⟨hv, HO⟩ hL hc hd
      exact wpOpIn_val (fun _ => trivial) rfl rfl (by intro c h; cases h) (ex_move rfl ((hv.fixed 4 (by decide)).trans rfl)) ⟨hv.put sets_off_apart 0 rfl (Nat.le_of_ble_eq_true rfl) (Nat.le_of_ble_eq_true rfl) rfl, HO⟩
    · -- 1 convert
      rintro L a wc ⟨hv, HO⟩ hL hc hd
      have hu : IntKind.u64.wrap (k : Int) = (k : Int) := by rw [IntKind.wrap_u64]; omega
      exact wpOpIn_val (fun _ => trivial) rfl rfl (by intro c h; cases h) (ex_convert rfl (hv.get 0 rfl rfl (hd 0 (by decide))) (by go_simp)) ⟨hv.put sets_off_apart 1 rfl (Nat.le_of_ble_eq_true rfl) (Nat.le_of_ble_eq_true rfl) rfl, HO⟩
    · -- 2 call
      rintro L a wc ⟨hv, HO⟩ hL hc hd
      have hwc : wc = wr.drew := HO.out
      refine wpOpIn_call (R := fun v w1 => v = .int .i64 (Ones.cnt k : Nat) ∧ wc = w1) (fun _ => trivial) rfl rfl rfl (by intro c h; cases h) (ex_call rfl rfl (map1c (hv.get 1 rfl rfl (hd 1 (by decide)))) (enters_ones _ _)) ((callsIn_wide.2 (ones_any k _ hk)).mono (fun e w' h => ⟨_, h.1, rfl, h.2⟩)) ?_
      rintro v w' ⟨rfl, rfl⟩
      exact ⟨hv.put sets_off_apart 2 rfl (Nat.le_of_ble_eq_true rfl) (Nat.le_of_ble_eq_true rfl) rfl, HO⟩
    · -- 3 load
      rintro L a wc ⟨hv, HO⟩ hL hc hd
      have hwc : wc = wr.drew := HO.out
      have c2 : wc.cell? ⟨Bs, 0, none⟩ = some (.int .i64 sz) := by rw [hwc]; exact hbs
      exact wpOpIn_val (fun _ => trivial) rfl rfl (by intro c h; cases h) (ex_load rfl ((hv.fixed 2 (by decide)).trans rfl) (by go_simp)) ⟨hv.put sets_off_apart 3 rfl (Nat.le_of_ble_eq_true rfl) (Nat.le_of_ble_eq_true rfl) rfl, HO⟩
    · -- 4 bin
      rintro L a wc ⟨hv, HO⟩ hL hc hd
      have e : (((Ones.cnt k : Nat) : Int) == (sz : Int)) = false := by rw [beq_eq_false_iff_ne]; omega
      exact wpOpIn_val (fun _ => trivial) rfl rfl (by intro c h; cases h) (ex_bin rfl (hv.get 2 rfl rfl (hd 2 (by decide))) (hv.get 3 rfl rfl (hd 3 (by decide))) (by go_simp)) ⟨hv.put sets_off_apart 4 rfl (Nat.le_of_ble_eq_true rfl) (Nat.le_of_ble_eq_true rfl) rfl, HO⟩
    · -- 5 move
      rintro L a wc ⟨hv, HO⟩ hL hc hd
      exact wpOpIn_val (fun _ => trivial) rfl rfl (by intro c h; cases h) (ex_move rfl (hv.get 4 rfl rfl (hd 4 (by decide)))) ⟨hv.put sets_off_apart 5 rfl (Nat.le_of_ble_eq_true rfl) (Nat.le_of_ble_eq_true rfl) rfl, HO⟩
    · -- 6 off
      rintro L a wc ⟨hv, HO⟩ hL hc hd
      exact wpOpIn_off (fun _ => trivial) rfl ((wanted_at rfl rfl (hv.get 5 rfl rfl (hd 5 (by decide)))).trans rfl) ⟨hv.put sets_off_apart 6 rfl (Nat.le_of_ble_eq_true rfl) (Nat.le_of_ble_eq_true rfl) rfl, HO⟩
    · -- 7 off
      rintro L a wc ⟨hv, HO⟩ hL hc hd
      exact wpOpIn_off (fun _ => trivial) rfl ((wanted_at rfl rfl (hv.get 5 rfl rfl (hd 5 (by decide)))).trans rfl) ⟨hv.put sets_off_apart 7 rfl (Nat.le_of_ble_eq_true rfl) (Nat.le_of_ble_eq_true rfl) rfl, HO⟩
    · -- 8 off
      rintro L a wc ⟨hv, HO⟩ hL hc hd
      exact wpOpIn_off (fun _ => trivial) rfl ((wanted_at rfl rfl (hv.get 5 rfl rfl (hd 5 (by decide)))).trans rfl) ⟨hv.put sets_off_apart 8 rfl (Nat.le_of_ble_eq_true rfl) (Nat.le_of_ble_eq_true rfl) rfl, HO⟩
    · -- 9 off
      rintro L a wc ⟨hv, HO⟩ hL hc hd
      exact wpOpIn_off (fun _ => trivial) rfl ((wanted_at rfl rfl (hv.get 5 rfl rfl (hd 5 (by decide)))).trans rfl) ⟨hv.put sets_off_apart 9 rfl (Nat.le_of_ble_eq_true rfl) (Nat.le_of_ble_eq_true rfl) rfl, HO⟩
    · -- 10 pick
      rintro L a wc ⟨hv, HO⟩ hL hc hd
      exact wpOpIn_val (fun _ => trivial) rfl rfl (by intro c h; cases h) (ex_pick rfl (hv.get 5 rfl rfl (hd 5 (by decide))) rfl) ⟨hv.put sets_off_apart 10 rfl (Nat.le_of_ble_eq_true rfl) (Nat.le_of_ble_eq_true rfl) rfl, HO⟩
  · rintro L a wc ⟨hv, HO⟩ hall
    show K a wc
    have ha := act_lit a
    rw [hv.size, hv.defers] at ha
    have hl : ∀ f : Nat → Value, ((List.range (⟨#[.func (.yield l) #[] #[], c1, .pointer (some ⟨Bs, 0, none⟩), c3, .int .i64 k, c5, c6, c7, c8, c9, c10, c11, c12, c13, c14, c15, c16, c17, c18, c19, c20, c21], df⟩ : Act).tmps.size).map f).toArray = #[f 0, f 1, f 2, f 3, f 4, f 5, f 6, f 7, f 8, f 9, f 10, f 11, f 12, f 13, f 14, f 15, f 16, f 17, f 18, f 19, f 20, f 21] := fun _ => rfl
    rw [hl] at ha
    simp only [hv.fixed 0 (by decide), hv.fixed 1 (by decide), hv.fixed 2 (by decide), hv.fixed 3 (by decide), hv.fixed 4 (by decide), hv.fixed 5 (by decide), hv.fixed 6 (by decide), hv.fixed 7 (by decide), hv.fixed 8 (by decide), hv.fixed 9 (by decide), hv.fixed 21 (by decide), hv.get 10 (d := 20) rfl rfl (hall 10 (by decide))] at ha
    rw [ha]
    exact hK _ _ _ _ _ _ _ _ _ _ wc HO.out
end Go.Proofs.YtgkohfmgdejkpaaDoor
