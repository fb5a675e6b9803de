/- PERILS, in plain terms: what the functions of package risk compute. No program in sight. -/
import Derived.Test.YtdbolgollpnfdaaDoorCodeT
import Derived.Deep.RegionLaw
import Derived.Test.YtdbolgollpnfdaaDoorInv
namespace Rk
open Cd
/-- A peril: a code, where its pieces are, the chances of the domains. -/
structure Pe where
  d : Int
  gs : List (List Int)
  gl : Int
  at' : List Int
  ch : List Int
/-- The first error of a peril. -/
def check (p : Pe) : Int :=
  if Cd.check p.d p.gs p.gl ≠ 0 then Cd.check p.d p.gs p.gl
  else if 12 < p.ch.length then 2
  else if (p.at'.length : Int) ≠ Cd.pieces p.d p.gs p.gl then 1
  else if ∃ x ∈ p.at', x < -1 ∨ (p.ch.length : Int) ≤ x then 1
  else if ∃ c ∈ p.ch, c < 0 ∨ 16 < c then 3
  else 0
theorem check_code {p : Pe} (h : Cd.check p.d p.gs p.gl ≠ 0) : check p = Cd.check p.d p.gs p.gl := if_pos h
theorem check_many {p : Pe} (h : Cd.check p.d p.gs p.gl = 0) (h2 : 12 < p.ch.length) : check p = 2 := by rw [check, if_neg (by simp [h]), if_pos h2]
theorem check_len {p : Pe} (h : Cd.check p.d p.gs p.gl = 0) (h2 : ¬ 12 < p.ch.length) (h3 : (p.at'.length : Int) ≠ Cd.pieces p.d p.gs p.gl) : check p = 1 := by rw [check, if_neg (by simp [h]), if_neg h2, if_pos h3]
theorem check_at {p : Pe} (h : Cd.check p.d p.gs p.gl = 0) (h2 : ¬ 12 < p.ch.length) (h3 : (p.at'.length : Int) = Cd.pieces p.d p.gs p.gl) {x : Int} (hx : x ∈ p.at') (h4 : x < -1 ∨ (p.ch.length : Int) ≤ x) : check p = 1 := by
  rw [check, if_neg (by simp [h]), if_neg h2, if_neg (by simp [h3]), if_pos ⟨x, hx, h4⟩]
theorem check_ch {p : Pe} (h : Cd.check p.d p.gs p.gl = 0) (h2 : ¬ 12 < p.ch.length) (h3 : (p.at'.length : Int) = Cd.pieces p.d p.gs p.gl) (h4 : ∀ x ∈ p.at', ¬ (x < -1 ∨ (p.ch.length : Int) ≤ x)) {c : Int} (hc : c ∈ p.ch) (h5 : c < 0 ∨ 16 < c) : check p = 3 := by
  rw [check, if_neg (by simp [h]), if_neg h2, if_neg (by simp [h3]), if_neg (by rintro ⟨x, hx, h⟩; exact h4 x hx h), if_pos ⟨c, hc, h5⟩]
theorem check_zero {p : Pe} (h : Cd.check p.d p.gs p.gl = 0) (h2 : ¬ 12 < p.ch.length) (h3 : (p.at'.length : Int) = Cd.pieces p.d p.gs p.gl) (h4 : ∀ x ∈ p.at', ¬ (x < -1 ∨ (p.ch.length : Int) ≤ x)) (h5 : ∀ c ∈ p.ch, ¬ (c < 0 ∨ 16 < c)) : check p = 0 := by
  rw [check, if_neg (by simp [h]), if_neg h2, if_neg (by simp [h3]), if_neg (by rintro ⟨x, hx, h⟩; exact h4 x hx h), if_neg (by rintro ⟨x, hx, h⟩; exact h5 x hx h)]
/-- What a peril without an error has. -/
structure Ok (p : Pe) : Prop where
  code : Cd.check p.d p.gs p.gl = 0
  few : p.ch.length ≤ 12
  len : (p.at'.length : Int) = p.d + p.gs.length + p.gl
  at_ok : ∀ x ∈ p.at', -1 ≤ x ∧ x < p.ch.length
  ch_ok : ∀ c ∈ p.ch, 0 ≤ c ∧ c ≤ 16
theorem ok_of {p : Pe} (h : check p = 0) : Ok p := by
  have h1 : Cd.check p.d p.gs p.gl = 0 := Classical.byContradiction fun h1 => h1 (by rw [check_code h1] at h; exact h)
  have h2 : ¬ 12 < p.ch.length := fun h2 => by rw [check_many h1 h2] at h; cases h
  have h3 : (p.at'.length : Int) = Cd.pieces p.d p.gs p.gl := Classical.byContradiction fun h3 => by rw [check_len h1 h2 h3] at h; cases h
  have h4 : ∀ x ∈ p.at', ¬ (x < -1 ∨ (p.ch.length : Int) ≤ x) := fun x hx h4 => by rw [check_at h1 h2 h3 hx h4] at h; cases h
  have h5 : ∀ c ∈ p.ch, ¬ (c < 0 ∨ 16 < c) := fun c hc h5 => by rw [check_ch h1 h2 h3 h4 hc h5] at h; cases h
  exact ⟨h1, by omega, by rw [h3, Cd.pieces_ok h1], fun x hx => by have := h4 x hx; omega, fun c hc => by have := h5 c hc; omega⟩
theorem Ok.check {p : Pe} (h : Ok p) : check p = 0 :=
  check_zero h.code (by have := h.few; omega) (by rw [h.len, Cd.pieces_ok h.code]) (fun x hx => by have := h.at_ok x hx; omega) (fun c hc => by have := h.ch_ok c hc; omega)
/-- The pieces that a set of domains leaves: of the first k. -/
def leftTo (at' : List Int) (f k : Nat) : Nat := (List.range k).foldl (fun s i => if 0 ≤ at'.getD i (-1) ∧ bitAt f (at'.getD i (-1)).toNat = 0 then s ||| 2 ^ i else s) 0
def left (at' : List Int) (f : Nat) : Nat := leftTo at' f at'.length
theorem leftTo_succ (at' : List Int) (f k : Nat) : leftTo at' f (k + 1) = if 0 ≤ at'.getD k (-1) ∧ bitAt f (at'.getD k (-1)).toNat = 0 then leftTo at' f k ||| 2 ^ k else leftTo at' f k := by
  simp [leftTo, List.range_succ, List.foldl_append]
theorem leftTo_zero (at' : List Int) (f : Nat) : leftTo at' f 0 = 0 := rfl
theorem leftTo_lt (at' : List Int) (f : Nat) : ∀ k, leftTo at' f k < 2 ^ k
  | 0 => by simp [leftTo]
  | k + 1 => by
    have ih := leftTo_lt at' f k
    have h1 : 2 ^ k < 2 ^ (k + 1) := Nat.pow_lt_pow_right (by omega) (by omega)
    rw [leftTo_succ]
    split
    · exact Nat.or_lt_two_pow (Nat.lt_trans ih h1) h1
    · exact Nat.lt_trans ih h1
/-- Does exactly a set of domains lose the chunk? -/
def loses (p : Pe) (f : Nat) : Bool := !can p.d p.gl p.gs (left p.at' f)
/-- A domain's factor. -/
def factor (c : Int) (b : Nat) : Nat := if b = 0 then 16 - c.toNat else c.toNat
/-- The weight of a set of domains: of the first k. -/
def weightTo (ch : List Int) (f k : Nat) : Nat := (List.range k).foldl (fun s i => s * factor (ch.getD i 0) (bitAt f i)) 1
def weight (ch : List Int) (f : Nat) : Nat := weightTo ch f ch.length
theorem weightTo_succ (ch : List Int) (f k : Nat) : weightTo ch f (k + 1) = weightTo ch f k * factor (ch.getD k 0) (bitAt f k) := by
  simp [weightTo, List.range_succ, List.foldl_append]
def lossTo (p : Pe) : Nat → Nat
  | 0 => 0
  | k + 1 => lossTo p k + if loses p k then weight p.ch k else 0
def loss (p : Pe) : Nat := lossTo p (2 ^ p.ch.length)
theorem factor_zero {c : Int} {b : Nat} (h : b = 0) : factor c b = 16 - c.toNat := if_pos h
theorem factor_one {c : Int} {b : Nat} (h : b ≠ 0) : factor c b = c.toNat := if_neg h
theorem factor_le {c : Int} (h : 0 ≤ c ∧ c ≤ 16) (b : Nat) : factor c b ≤ 16 := by unfold factor; split <;> omega
theorem weightTo_le {ch : List Int} (h : ∀ c ∈ ch, 0 ≤ c ∧ c ≤ 16) (f : Nat) : ∀ k, k ≤ ch.length → weightTo ch f k ≤ 16 ^ k
  | 0, _ => by simp [weightTo]
  | k + 1, hk => by
    have ih := weightTo_le h f k (by omega)
    have hc : factor (ch.getD k 0) (bitAt f k) ≤ 16 := by
      refine factor_le ?_ _
      rw [List.getD_eq_getElem?_getD, List.getElem?_eq_getElem (by omega)]
      exact h _ (List.getElem_mem _)
    rw [weightTo_succ, Nat.pow_succ]
    exact Nat.mul_le_mul ih hc
theorem lossTo_le {p : Pe} (h : ∀ c ∈ p.ch, 0 ≤ c ∧ c ≤ 16) : ∀ k, lossTo p k ≤ k * 16 ^ p.ch.length
  | 0 => by simp [lossTo]
  | k + 1 => by
    have ih := lossTo_le h k
    have hw := weightTo_le h k p.ch.length (Nat.le_refl _)
    rw [lossTo, Nat.add_mul, Nat.one_mul]
    split
    · exact Nat.add_le_add ih hw
    · omega
theorem lossTo_succ (p : Pe) (k : Nat) : lossTo p (k + 1) = lossTo p k + if loses p k then weight p.ch k else 0 := rfl
theorem lossTo_zero (p : Pe) : lossTo p 0 = 0 := rfl
theorem weightTo_zero (ch : List Int) (f : Nat) : weightTo ch f 0 = 1 := rfl
theorem weight_def (ch : List Int) (f : Nat) : weight ch f = weightTo ch f ch.length := rfl
theorem loss_def (p : Pe) : loss p = lossTo p (2 ^ p.ch.length) := rfl
theorem loses_def (p : Pe) (f : Nat) : loses p f = !can p.d p.gl p.gs (left p.at' f) := rfl
attribute [irreducible] check leftTo lossTo loss weightTo weight loses factor
end Rk
namespace Go.Proofs.YtdbolgollpnfdaaDoor
open Go.RowKit
/-- What holds behind a region, in whatever order it ran: one frame, and what is known of the world. -/
theorem region_cut {P : Program} {id : Nat} {ops : Array Oper} {b : Bool} {Q : Exit → Act → World → Prop} {a : Act} {w : World} (R : World → Prop) (a0 : Act)
    (h : (Code.region id ops b).wp P (AtEnd fun a w => a = a0 ∧ R w) a w) (hK : ∀ w, R w → Q .normal a0 w) : (Code.region id ops b).wp P Q a w :=
  Code.wp_mono (fun e a w hr => by
    cases e with
    | normal =>
      obtain ⟨rfl, h2⟩ := hr
      exact hK w h2
    | _ => exact (hr : False).elim) h
/-- A value reads as a peril. -/
def RP (w : World) (v : Value) (p : Rk.Pe) : Prop :=
  ∃ G T C, v = .agg #[.int .i64 p.d, G, .int .i64 p.gl, T, C] ∧ Rs (Rs RI) w G p.gs ∧ Rs RI w T p.at' ∧ Rs RI w C p.ch
theorem RP.ext : Stable RP := fun _ _ _ _ hx ⟨G, T, C, e, h1, h2, h3⟩ => ⟨G, T, C, e, Rs.ext (Rs.ext RI.ext) _ _ _ _ hx h1, Rs.ext RI.ext _ _ _ _ hx h2, Rs.ext RI.ext _ _ _ _ hx h3⟩
set_option maxHeartbeats 2000000 in
/-- `Check` of a peril: its first error. -/
theorem kCheck_any (p : Rk.Pe) (v : Value) (w : World) (hv : RP w v p) :
    Calls Tryd.prog 17 #[v] w fun e w' => e = .returned (.int .i64 (Rk.check p)) ∧ Ext w w' := by
  obtain ⟨G, T, C, rfl, hG, hT, hC⟩ := hv
  obtain ⟨d, gs, gl, at', ch⟩ := p
  simp only at hG hT hC
  have hx0 := (Ext.refl w).alloc (.cells #[.int .i64 d, G, .int .i64 gl, T, C] 27)
  have HG := Lib.hid (Rs.ext (Rs.ext RI.ext) _ _ _ _ hx0 hG)
  have HTT := Lib.hid (Rs.ext RI.ext _ _ _ _ hx0 hT)
  have HCC := Lib.hid (Rs.ext RI.ext _ _ _ _ hx0 hC)
  have HX0 := Lib.hid hx0
  obtain ⟨A1, c1, rfl, hl1⟩ := hG.form
  obtain ⟨A2, c2, rfl, hl2⟩ := hT.form
  obtain ⟨A3, c3, rfl, hl3⟩ := hC.form
  clear hG hT hC hx0
  by_cases h0 : Cd.check d gs gl = 0
  · have e1 : (Cd.check d gs gl != 0) = false := by rw [h0]; rfl
    have H0 := Lib.hid h0
    by_cases h2 : 12 < ch.length
    · have hp := Rk.check_many (p := ⟨d, gs, gl, at', ch⟩) h0 h2
      have HP := Lib.hid hp
      clear h0 hp
      go_enter Tryd.func17, Tryd.ntmps17
      go_wp2_with fail
      refine (cCheck_any d gl gs _ _ HG.out).mono ?_
      rintro e w1 ⟨rfl, hx1⟩
      have hc4 : w1.cell? ⟨w.heap.size, 4, none⟩ = some (.slice A3 ch.length c3) := hx1.cell (by go_simp)
      have HX1 := Lib.hid (HX0.out.trans hx1)
      clear hx1
      go_wp2_with fail
      go_ret
      exact ⟨ret_int HP.out.symm, HX1.out⟩
    · by_cases h3 : (at'.length : Int) = Cd.pieces d gs gl
      · have e2 : ((at'.length : Int) != Cd.pieces d gs gl) = false := by rw [h3]; simp
        have HC3 := Lib.hid (And.intro h0 (And.intro h2 h3))
        clear h0 h3
        go_enter Tryd.func17, Tryd.ntmps17
        go_wp2_with fail
        refine (cCheck_any d gl gs _ _ HG.out).mono ?_
        rintro e w1 ⟨rfl, hx1⟩
        have hc0 : w1.cell? ⟨w.heap.size, 0, none⟩ = some (.int .i64 d) := hx1.cell (by go_simp)
        have hc1 : w1.cell? ⟨w.heap.size, 1, none⟩ = some (.slice A1 gs.length c1) := hx1.cell (by go_simp)
        have hc2 : w1.cell? ⟨w.heap.size, 2, none⟩ = some (.int .i64 gl) := hx1.cell (by go_simp)
        have hc3 : w1.cell? ⟨w.heap.size, 3, none⟩ = some (.slice A2 at'.length c2) := hx1.cell (by go_simp)
        have hc4 : w1.cell? ⟨w.heap.size, 4, none⟩ = some (.slice A3 ch.length c3) := hx1.cell (by go_simp)
        have HX1 := Lib.hid (HX0.out.trans hx1)
        have HXX := Lib.hid hx1
        clear hx1
        go_wp2_with fail
        apply region_cut (Ext w1.drew)
        case h =>
          go_region_law (go_simp; refine (cPieces_any d gl gs _ _ (Rs.ext (Rs.ext RI.ext) _ _ _ _ HXX.out.drew HG.out)).mono ?_; rintro e w2 ⟨rfl, hx2⟩; dsimp only; have hc3 : w2.cell? ⟨w.heap.size, 3, none⟩ = some (.slice A2 at'.length c2) := hx2.cell hc3; have HX2 := Lib.hid hx2; clear hx2)
          all_goals exact ⟨rfl, HX2.out⟩
        case hK =>
          intro w2 hx2
          have hd3 : w2.cell? ⟨w.heap.size, 3, none⟩ = some (.slice A2 at'.length c2) := hx2.cell hc3
          have hd4 : w2.cell? ⟨w.heap.size, 4, none⟩ = some (.slice A3 ch.length c3) := hx2.cell hc4
          have hx12 : Ext w1 w2 := (Ext.refl w1).drew.trans hx2
          have HXE := Lib.hid (And.intro (HXX.out.trans hx12) (HX1.out.trans hx12))
          clear hx2 hx12 hc0 hc1 hc2 hc3 hc4
          go_wp2_with fail
          go_loop [30] (fun vi => ∃ i : Nat, i ≤ at'.length ∧ vi = .int .i64 i ∧ Hid (∀ j, j < i → ∀ x, at'[j]? = some x → ¬ (x < -1 ∨ (ch.length : Int) ≤ x))) (fun vi => at'.length - (intOf vi).toNat)
          case atStart => exact ⟨0, Nat.zero_le _, rfl, fun j h => absurd h (by omega)⟩
          case round =>
            obtain ⟨i, hi, rfl, HZ⟩ := hrel
            by_cases hlt : i < at'.length
            · obtain ⟨ad, u, rfl, hcell, hu⟩ := HTT.out.at hlt
              obtain ⟨rfl, hlo, hhi⟩ := hu
              have hcell2 := HXE.out.1.cell hcell
              have hat := @Rk.check_at ⟨d, gs, gl, at', ch⟩ HC3.out.1 HC3.out.2.1 HC3.out.2.2 at'[i] (List.getElem_mem hlt)
              have hstep : ∀ x, at'[i]? = some x → x = at'[i] := fun x hx => by rw [List.getElem?_eq_getElem hlt] at hx; injection hx with hx; exact hx.symm
              obtain ⟨x, hx⟩ : ∃ x, at'[i] = x := ⟨_, rfl⟩
              rw [hx] at hcell2 hlo hhi hat hstep
              have HAT := Lib.hid (And.intro hat hstep)
              clear hcell hat hstep hx
              by_cases hb : x < -1 ∨ (ch.length : Int) ≤ x
              · have HB := Lib.hid hb
                by_cases hb1 : x < -1
                · clear hb
                  go_wp2_with fail
                  go_ret
                  exact ⟨ret_int (HAT.out.1 HB.out).symm, HXE.out.2⟩
                · have hb2 : (ch.length : Int) ≤ x := by omega
                  clear hb
                  go_wp2_with fail
                  go_ret
                  exact ⟨ret_int (HAT.out.1 HB.out).symm, HXE.out.2⟩
              · have hb1 : ¬ x < -1 := by omega
                have hb2 : ¬ (ch.length : Int) ≤ x := by omega
                have hz : ∀ j, j < i + 1 → ∀ x, at'[j]? = some x → ¬ (x < -1 ∨ (ch.length : Int) ≤ x) := fun j hj y hy => by
                  rcases Nat.lt_or_ge j i with h1 | h1
                  · exact HZ.out j h1 y hy
                  · obtain rfl : j = i := by omega
                    rw [HAT.out.2 y hy]; exact hb
                have HZ2 := Lib.hid hz
                clear hz hb
                go_wp2_with fail
                go_round
                case rel => exact ⟨i + 1, by omega, by go_num, HZ2.out⟩
                case measure => simp [intOf]; omega
            · obtain rfl : i = at'.length := by omega
              have hall : ∀ x ∈ at', ¬ (x < -1 ∨ (ch.length : Int) ≤ x) := fun x hx => by
                obtain ⟨j, hj, rfl⟩ := List.getElem_of_mem hx
                exact HZ.out j hj _ (List.getElem?_eq_getElem hj)
              have HALL := Lib.hid hall
              clear hall
              go_wp2_with fail
              go_loop [45] (fun vi => ∃ i : Nat, i ≤ ch.length ∧ vi = .int .i64 i ∧ Hid (∀ j, j < i → ∀ x, ch[j]? = some x → ¬ (x < 0 ∨ 16 < x))) (fun vi => ch.length - (intOf vi).toNat)
              case atStart => exact ⟨0, Nat.zero_le _, rfl, fun j h => absurd h (by omega)⟩
              case round =>
                obtain ⟨i, hi, rfl, HZ⟩ := hrel
                by_cases hlt2 : i < ch.length
                · obtain ⟨ad, u, rfl, hcell, hu⟩ := HCC.out.at hlt2
                  obtain ⟨rfl, hlo, hhi⟩ := hu
                  have hcell2 := HXE.out.1.cell hcell
                  have hat := @Rk.check_ch ⟨d, gs, gl, at', ch⟩ HC3.out.1 HC3.out.2.1 HC3.out.2.2 HALL.out ch[i] (List.getElem_mem hlt2)
                  have hstep : ∀ x, ch[i]? = some x → x = ch[i] := fun x hx => by rw [List.getElem?_eq_getElem hlt2] at hx; injection hx with hx; exact hx.symm
                  obtain ⟨x, hx⟩ : ∃ x, ch[i] = x := ⟨_, rfl⟩
                  rw [hx] at hcell2 hlo hhi hat hstep
                  have HAT := Lib.hid (And.intro hat hstep)
                  clear hcell hat hstep hx
                  by_cases hb : x < 0 ∨ 16 < x
                  · have HB := Lib.hid hb
                    by_cases hb1 : x < 0
                    · clear hb
                      go_wp2_with fail
                      go_ret
                      exact ⟨ret_int (HAT.out.1 HB.out).symm, HXE.out.2⟩
                    · have hb2 : 16 < x := by omega
                      clear hb
                      go_wp2_with fail
                      go_ret
                      exact ⟨ret_int (HAT.out.1 HB.out).symm, HXE.out.2⟩
                  · have hb1 : ¬ x < 0 := by omega
                    have hb2 : ¬ 16 < x := by omega
                    have hz : ∀ j, j < i + 1 → ∀ x, ch[j]? = some x → ¬ (x < 0 ∨ 16 < x) := fun j hj y hy => by
                      rcases Nat.lt_or_ge j i with h1 | h1
                      · exact HZ.out j h1 y hy
                      · obtain rfl : j = i := by omega
                        rw [HAT.out.2 y hy]; exact hb
                    have HZ2 := Lib.hid hz
                    clear hz hb
                    go_wp2_with fail
                    go_round
                    case rel => exact ⟨i + 1, by omega, by go_num, HZ2.out⟩
                    case measure => simp [intOf]; omega
                · obtain rfl : i = ch.length := by omega
                  have hok : Rk.check ⟨d, gs, gl, at', ch⟩ = 0 := Rk.check_zero HC3.out.1 HC3.out.2.1 HC3.out.2.2 HALL.out fun x hx => by
                    obtain ⟨j, hj, rfl⟩ := List.getElem_of_mem hx
                    exact HZ.out j hj _ (List.getElem?_eq_getElem hj)
                  have HOK := Lib.hid hok
                  clear hok
                  go_wp2_with fail
                  go_ret
                  exact ⟨ret_int HOK.out.symm, HXE.out.2⟩
      · have e2 : ((at'.length : Int) != Cd.pieces d gs gl) = true := by rw [bne_iff_ne]; exact h3
        have hp := Rk.check_len (p := ⟨d, gs, gl, at', ch⟩) h0 h2 h3
        have HP := Lib.hid hp
        clear h0 hp h3
        go_enter Tryd.func17, Tryd.ntmps17
        go_wp2_with fail
        refine (cCheck_any d gl gs _ _ HG.out).mono ?_
        rintro e w1 ⟨rfl, hx1⟩
        have hc0 : w1.cell? ⟨w.heap.size, 0, none⟩ = some (.int .i64 d) := hx1.cell (by go_simp)
        have hc1 : w1.cell? ⟨w.heap.size, 1, none⟩ = some (.slice A1 gs.length c1) := hx1.cell (by go_simp)
        have hc2 : w1.cell? ⟨w.heap.size, 2, none⟩ = some (.int .i64 gl) := hx1.cell (by go_simp)
        have hc3 : w1.cell? ⟨w.heap.size, 3, none⟩ = some (.slice A2 at'.length c2) := hx1.cell (by go_simp)
        have hc4 : w1.cell? ⟨w.heap.size, 4, none⟩ = some (.slice A3 ch.length c3) := hx1.cell (by go_simp)
        have HX1 := Lib.hid (HX0.out.trans hx1)
        have HXX := Lib.hid hx1
        clear hx1
        go_wp2_with fail
        apply region_cut (Ext w1.drew)
        case h =>
          go_region_law (go_simp; refine (cPieces_any d gl gs _ _ (Rs.ext (Rs.ext RI.ext) _ _ _ _ HXX.out.drew HG.out)).mono ?_; rintro e w2 ⟨rfl, hx2⟩; dsimp only; have hc3 : w2.cell? ⟨w.heap.size, 3, none⟩ = some (.slice A2 at'.length c2) := hx2.cell hc3; have HX2 := Lib.hid hx2; clear hx2)
          all_goals exact ⟨rfl, HX2.out⟩
        case hK =>
          intro w2 hx2
          have hx12 : Ext w w2 := HX1.out.trans ((Ext.refl w1).drew.trans hx2)
          have HXE := Lib.hid hx12
          clear hx2 hx12 hc0 hc1 hc2 hc3 hc4
          go_wp2_with fail
          go_ret
          exact ⟨ret_int HP.out.symm, HXE.out⟩
  · have e1 : (Cd.check d gs gl != 0) = true := by rw [bne_iff_ne]; exact h0
    have hp := Rk.check_code (p := ⟨d, gs, gl, at', ch⟩) h0
    have HP := Lib.hid hp
    clear h0 hp
    go_enter Tryd.func17, Tryd.ntmps17
    go_wp2_with fail
    refine (cCheck_any d gl gs _ _ HG.out).mono ?_
    rintro e w1 ⟨rfl, hx1⟩
    have HX1 := Lib.hid (HX0.out.trans hx1)
    clear hx1
    go_wp2_with fail
    go_ret
    exact ⟨ret_int HP.out.symm, HX1.out⟩
end Go.Proofs.YtdbolgollpnfdaaDoor
