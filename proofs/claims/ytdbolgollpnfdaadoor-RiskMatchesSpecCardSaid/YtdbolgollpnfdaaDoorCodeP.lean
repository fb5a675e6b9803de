/- THE WALKS over package code: Pieces, first, the closures of Rows. -/
import Derived.Test.YtdbolgollpnfdaaDoorCodeW
import Derived.Test.YtdbolgollpnfdaaDoorOwn
namespace Cd
/-- The number of pieces. -/
def pieces (d : Int) (gs : List (List Int)) (gl : Int) : Int := if check d gs gl = 0 then d + gs.length + gl else 0
theorem pieces_ok {d gl : Int} {gs : List (List Int)} (h : check d gs gl = 0) : pieces d gs gl = d + gs.length + gl := if_pos h
theorem pieces_no {d gl : Int} {gs : List (List Int)} (h : check d gs gl ≠ 0) : pieces d gs gl = 0 := if_neg h
/-- What a code has that Check accepts. -/
theorem check_ok {d gl : Int} {gs : List (List Int)} (h : check d gs gl = 0) : 1 ≤ d ∧ d ≤ 16 ∧ 0 ≤ gl ∧ gl ≤ 4 ∧ gs.length ≤ 24 ∧ d + gs.length + gl ≤ 24 := by
  by_cases h1 : d < 1 ∨ 16 < d ∨ gl < 0 ∨ 4 < gl
  · rw [check_range h1] at h; cases h
  · by_cases h2 : 24 < gs.length ∨ 24 < d + gs.length + gl
    · rw [check_limit h1 h2] at h; cases h
    · omega
theorem checkG_ok {d : Int} : ∀ {gs : List (List Int)} {s : Nat}, checkG d s gs = 0 → ∀ g ∈ gs, ∀ i ∈ g, 0 ≤ i ∧ i < d
  | [], _, _, g, hg, _, _ => by simp at hg
  | g0 :: r, s, h, g, hg, i, hi => by
    by_cases h0 : g0 = []
    · subst h0; rw [checkG_nil] at h; cases h
    · cases hb : bad d s g0 with
      | true => rw [checkG_bad h0 hb] at h; cases h
      | false =>
        rw [checkG_next h0 hb] at h
        rcases List.mem_cons.1 hg with rfl | hg
        · exact bad_bounds hb hi
        · exact checkG_ok h g hg i hi
theorem check_groups_ok {d gl : Int} {gs : List (List Int)} (h : check d gs gl = 0) : ∀ g ∈ gs, ∀ i ∈ g, 0 ≤ i ∧ i < d := by
  have hk := check_ok h
  rw [check_groups (by omega) (by omega)] at h
  exact checkG_ok h
/-- A row of n coefficients. -/
def rowOf (n : Nat) (g : Nat → UInt8) : List UInt8 := (List.range n).map g
def unitAt (k i : Nat) : UInt8 := if i = k then 1 else 0
def inAt (s i : Nat) : UInt8 := UInt8.ofNat (bitAt s i)
def gloAt (j i : Nat) : UInt8 := UInt8.ofNat (Gf.powN 2 ((i * (j + 1)) % 255))
def rows (d : Nat) (gs : List (List Int)) (gl : Nat) : List (List UInt8) :=
  (List.range d).map (fun k => rowOf d (unitAt k)) ++ gs.map (fun g => rowOf d (inAt (setOf 0 g))) ++ (List.range gl).map (fun j => rowOf d (gloAt j))
/-- The place of the first element that is not 0. -/
def first : List UInt8 → Nat
  | [] => 0
  | x :: r => if x = 0 then first r + 1 else 0
theorem first_at {l : List UInt8} : ∀ {k : Nat} (h : k < l.length), (∀ j, j < k → l[j]? = some 0) → l[k] ≠ 0 → first l = k := by
  induction l with
  | nil => intro k h; simp at h
  | cons x r ih =>
    intro k h hj hk
    cases k with
    | zero => simp at hk; simp [first, hk]
    | succ k =>
      have h0 := hj 0 (by omega)
      simp at h0
      subst h0
      have := ih (k := k) (by simpa using h) (fun j hjk => by have := hj (j + 1) (by omega); simpa using this) (by simpa using hk)
      simp [first, this]
theorem first_none {l : List UInt8} (h : ∀ j, j < l.length → l[j]? = some 0) : first l = l.length := by
  induction l with
  | nil => rfl
  | cons x r ih =>
    have h0 := h 0 (by simp)
    simp at h0
    subst h0
    have := ih (fun j hj => by have := h (j + 1) (by simpa using hj); simpa using this)
    simp [first, this]
theorem unitAt_eq (k : Nat) : unitAt k k = 1 := if_pos rfl
theorem unitAt_ne {k i : Nat} (h : i ≠ k) : unitAt k i = 0 := if_neg h
attribute [irreducible] unitAt inAt gloAt first pieces
end Cd
namespace Go.Proofs.YtdbolgollpnfdaaDoor
open Go.RowKit

theorem cPieces_any (d gl : Int) (gs : List (List Int)) (G : Value) (w : World) (hG : Rs (Rs RI) w G gs) :
    Calls Tryd.prog 29 #[.agg #[.int .i64 d, G, .int .i64 gl]] w fun e w' => e = .returned (.int .i64 (Cd.pieces d gs gl)) ∧ Ext w w' := by
  have hx0 := (Ext.refl w).alloc (.cells #[.int .i64 d, G, .int .i64 gl] 24)
  have HX := Lib.hid (And.intro hx0 (Rs.ext (Rs.ext RI.ext) _ _ _ _ hx0 hG))
  obtain ⟨A, c, rfl, hl⟩ := hG.form
  clear hG hx0
  by_cases h0 : Cd.check d gs gl = 0
  · have hp := Cd.pieces_ok h0
    have hk := Cd.check_ok h0
    have e1 : (Cd.check d gs gl != 0) = false := by rw [h0]; rfl
    have HP := Lib.hid hp
    clear h0 hp
    go_enter Tryd.func29, Tryd.ntmps29
    go_wp2_with fail
    refine (cCheck_any d gl gs _ _ HX.out.2).mono ?_
    rintro e w1 ⟨rfl, hx1⟩
    have hc0 : w1.cell? ⟨w.heap.size, 0, none⟩ = some (.int .i64 d) := hx1.cell (by go_simp)
    have hc1 : w1.cell? ⟨w.heap.size, 1, none⟩ = some (.slice A gs.length c) := hx1.cell (by go_simp)
    have hc2 : w1.cell? ⟨w.heap.size, 2, none⟩ = some (.int .i64 gl) := hx1.cell (by go_simp)
    have HX1 := Lib.hid (HX.out.1.trans hx1)
    clear hx1
    go_wp2_with fail
    go_ret
    exact ⟨ret_int HP.out.symm, HX1.out⟩
  · have hp := Cd.pieces_no h0
    have e1 : (Cd.check d gs gl != 0) = true := by rw [bne_iff_ne]; exact h0
    have HP := Lib.hid hp
    clear h0 hp
    go_enter Tryd.func29, Tryd.ntmps29
    go_wp2_with fail
    refine (cCheck_any d gl gs _ _ HX.out.2).mono ?_
    rintro e w1 ⟨rfl, hx1⟩
    have HX1 := Lib.hid (HX.out.1.trans hx1)
    clear hx1
    go_wp2_with fail
    go_ret
    exact ⟨ret_int HP.out.symm, HX1.out⟩

theorem cFirst_any (l : List UInt8) (A : Option Addr) (c : Nat) (w : World) (hA : Rd w A (l.map bv)) (hl : l.length ≤ 140737488351232) :
    Calls Tryd.prog 59 #[.slice A l.length c] w fun e w' => e = .returned (.int .i64 (Cd.first l : Nat)) ∧ w = w' := by
  have HA := Lib.hid hA
  clear hA
  go_enter Tryd.func59, Tryd.ntmps59
  go_wp2_with fail
  go_loop [7] (fun vi => ∃ i : Nat, i ≤ l.length ∧ vi = .int .i64 i ∧ Hid (∀ j, j < i → l[j]? = some 0)) (fun vi => l.length - (intOf vi).toNat)
  case atStart => exact ⟨0, Nat.zero_le _, rfl, fun j h => absurd h (by omega)⟩
  case round =>
    obtain ⟨i, hi, rfl, HZ⟩ := hrel
    by_cases hlt : i < l.length
    · obtain ⟨ad, rfl, _, ha⟩ := HA.out.at (k := i) (by simpa using hlt)
      rw [List.getElem_map] at ha
      by_cases h0 : l[i] = 0
      · have hz : ∀ j, j < i + 1 → l[j]? = some 0 := fun j hj => by
          rcases Nat.lt_or_ge j i with h1 | h1
          · exact HZ.out j h1
          · obtain rfl : j = i := by omega
            rw [List.getElem?_eq_getElem hlt, h0]
        rw [h0] at ha
        have HZ2 := Lib.hid hz
        clear hz h0
        go_wp2_with fail
        go_round
        case rel => exact ⟨i + 1, by omega, by go_num, HZ2.out⟩
        case measure => simp [intOf]; omega
      · have hf := Cd.first_at hlt HZ.out h0
        have e1 : (((l[i].toNat : Nat) : Int) != 0) = true := by
          rw [bne_iff_ne]
          intro h
          apply h0
          have h2 : l[i].toNat = 0 := by omega
          exact UInt8.toNat_inj.1 h2
        have HF := Lib.hid hf
        clear hf h0
        go_wp2_with fail
        go_ret
        exact ⟨by rw [HF.out]; rfl, rfl⟩
    · obtain rfl : i = l.length := by omega
      have hf := Cd.first_none HZ.out
      have HF := Lib.hid hf
      clear hf
      go_wp2_with fail
      go_ret
      exact ⟨by rw [HF.out]; rfl, rfl⟩

theorem enters49 : ∀ args w, (callFunc 49 args).run Tryd.prog w = .ok (.enter 49 args) w := enters_of Tryd.func49 (by kernel_rfl) rfl
theorem enters50 : ∀ args w, (callFunc 50 args).run Tryd.prog w = .ok (.enter 50 args) w := enters_of Tryd.func50 (by kernel_rfl) rfl
theorem enters51 : ∀ args w, (callFunc 51 args).run Tryd.prog w = .ok (.enter 51 args) w := enters_of Tryd.func51 (by kernel_rfl) rfl
theorem enters48 : ∀ args w, (callFunc 48 args).run Tryd.prog w = .ok (.enter 48 args) w := enters_of Tryd.func48 (by kernel_rfl) rfl

theorem rows2_any (i k P : Nat) (w : World) (h1 : w.cell? ⟨P, 0, none⟩ = some (.int .i64 k)) :
    Calls Tryd.prog 49 #[.int .i64 i, .pointer (some ⟨P, 0, none⟩)] w fun e w' => e = .returned (bv (Cd.unitAt k i)) ∧ Ext w w' := by
  by_cases h : i = k
  · subst h
    rw [Cd.unitAt_eq]
    go_enter Tryd.func49, Tryd.ntmps49
    go_wp2_with fail
    go_ret
    exact ⟨rfl, Ext.refl _⟩
  · rw [Cd.unitAt_ne h]
    have e1 : ((i : Int) == (k : Int)) = false := by rw [beq_eq_false_iff_ne]; omega
    clear h
    go_enter Tryd.func49, Tryd.ntmps49
    go_wp2_with fail
    go_ret
    exact ⟨rfl, Ext.refl _⟩
theorem rows3_any (i s P : Nat) (w : World) (hs : s < 65536) (hi : i < 16) (h1 : w.cell? ⟨P, 0, none⟩ = some (.int .i64 s)) :
    Calls Tryd.prog 50 #[.int .i64 i, .pointer (some ⟨P, 0, none⟩)] w fun e w' => e = .returned (bv (Cd.inAt s i)) ∧ Ext w w' := by
  have hm : bits .and .i64 ((s : Int) / 2 ^ i) 1 = ((Cd.bitAt s i : Nat) : Int) := by
    have hle : s / 2 ^ i ≤ s := Nat.div_le_self _ _
    have := odd64 (s / 2 ^ i) (by omega)
    rw [Cd.bitAt, ← this]
    simp
  have hb : Cd.bitAt s i < 2 := Nat.mod_lt _ (by decide)
  have hv : (Cd.inAt s i).toNat = Cd.bitAt s i := by
    unfold Cd.inAt
    rw [UInt8.toNat_ofNat']
    omega
  have HM := Lib.hid (And.intro hm hv)
  clear hm hv
  go_enter Tryd.func50, Tryd.ntmps50
  go_wp2_with fail
  go_ret
  exact ⟨ret_int (by rw [HM.out.1, HM.out.2]; omega), Ext.refl _⟩
theorem rows4_any (i j P : Nat) (w : World) (hT : Tab w) (hi : i < 16) (hj : j < 4) (h1 : w.cell? ⟨P, 0, none⟩ = some (.int .i64 j)) :
    Calls Tryd.prog 51 #[.int .i64 i, .pointer (some ⟨P, 0, none⟩)] w fun e w' => e = .returned (bv (Cd.gloAt j i)) ∧ Ext w w' := by
  have hm : i * (j + 1) < 64 := by
    have := Nat.mul_le_mul (show i ≤ 15 by omega) (show j + 1 ≤ 4 by omega)
    omega
  have hc : (i : Int) * ((j : Int) + 1) = ((i * (j + 1) : Nat) : Int) := by rw [Int.natCast_mul, Int.natCast_add]; rfl
  have hlo : 0 ≤ (i : Int) * ((j : Int) + 1) := by rw [hc]; omega
  have hhi : (i : Int) * ((j : Int) + 1) < 64 := by rw [hc]; omega
  have HC := Lib.hid (And.intro hc hm)
  have HT := Lib.hid hT
  clear hT hc hm
  generalize hz : (i : Int) * ((j : Int) + 1) = z at hlo hhi HC
  go_enter Tryd.func51, Tryd.ntmps51
  go_wp2_with fail
  refine (exp_any z _ HT.out (by omega) (by omega)).mono ?_
  rintro e w' ⟨rfl, rfl⟩
  go_wp2_with fail
  go_ret
  refine ⟨ret_int ?_, Ext.refl _⟩
  have h2 : (z % 255).toNat = i * (j + 1) % 255 := by have := HC.out.1; omega
  rw [h2]
  unfold Cd.gloAt
  rw [UInt8.toNat_ofNat', Nat.mod_eq_of_lt (Gf.powN_lt _)]

theorem Owns.front {w0 w : World} {L M : List LRow} (h : Owns w0 w (L ++ M)) : Owns w0 w L where
  ext := h.ext
  ok i r hr := h.ok i r (by rw [List.getElem?_append_left]; exact hr; exact (List.getElem?_eq_some_iff.1 hr).1)
  far i j a b hij ha hb := h.far i j a b hij (by rw [List.getElem?_append_left]; exact ha; exact (List.getElem?_eq_some_iff.1 ha).1) (by rw [List.getElem?_append_left]; exact hb; exact (List.getElem?_eq_some_iff.1 hb).1)
/-- A row that was made behind all others. -/
theorem Owns.behind {w0 w w' : World} {L : List LRow} (h : Owns w0 w L) (hx : Ext w w') {v : Value} {e s n : Nat} {xs : List Value} (ho : w'.ownsRow w.heap.size e s v n xs) : Owns w0 w' (L ++ [⟨v, e, s, n, xs⟩]) where
  ext := h.ext.trans hx
  ok i r hr := by
    rw [List.getElem?_append] at hr
    split at hr
    · exact (h.next hx).ok i r hr
    · have : r = ⟨v, e, s, n, xs⟩ := by
        cases hk : i - L.length with
        | zero => rw [hk] at hr; simpa using hr.symm
        | succ k => rw [hk] at hr; simp at hr
      subst this
      exact ⟨ho.1, ho.2.imp id fun ⟨g, cap, cur, h1, h2, r⟩ => ⟨g, cap, cur, h1, Nat.le_trans h.ext.size h2, r⟩⟩
  far i j a b hij ha hb := by
    have hlt : ∀ r : LRow, r.ok w0 w → r.far ⟨v, e, s, n, xs⟩ := fun r hr => by
      unfold LRow.far
      cases hv : r.v.ownBlock with
      | none => exact .inl rfl
      | some g =>
        refine .inr fun hh => ?_
        have h1 := (World.ownsRow.lt hr g hv).2
        have h2 := (ho.lt g hh.symm).1
        omega
    rw [List.getElem?_append] at ha hb
    split at ha
    · split at hb
      · exact h.far i j a b hij ha hb
      · have : b = ⟨v, e, s, n, xs⟩ := by
          cases hk : j - L.length with
          | zero => rw [hk] at hb; simpa using hb.symm
          | succ k => rw [hk] at hb; simp at hb
        subst this
        exact hlt a (h.ok i a ha)
    · have : a = ⟨v, e, s, n, xs⟩ := by
        cases hk : i - L.length with
        | zero => rw [hk] at ha; simpa using ha.symm
        | succ k => rw [hk] at ha; simp at ha
      subst this
      split at hb
      · exact LRow.far_symm (hlt b (h.ok j b hb))
      · exfalso
        have h1 : j - L.length = 0 := by
          cases hk : j - L.length with
          | zero => rfl
          | succ k => rw [hk] at hb; simp at hb
        have h2 : i - L.length = 0 := by
          cases hk : i - L.length with
          | zero => rfl
          | succ k => rw [hk] at ha; simp at ha
        omega

def inner1 (g : Nat) (r : List UInt8) : LRow := ⟨.slice (some ⟨g, 0, none⟩) r.length r.length, 5, 1, r.length, r.map bv⟩
def inner (hs : List Nat) (rs : List (List UInt8)) : List LRow := List.zipWith inner1 hs rs
/-- The rows of bytes that a call has made, in a variable of its own. -/
def RowsOut (w0 w : World) (P : Nat) (rs : List (List UInt8)) : Prop :=
  ∃ (A : Option Addr) (c : Nat) (hs : List Nat), hs.length = rs.length ∧ Owns w0 w (⟨.slice (some ⟨P, 0, none⟩) 1 1, 62, 1, 1, [.slice A rs.length c]⟩ :: ⟨.slice A rs.length c, 63, 1, rs.length, (inner hs rs).map (·.v)⟩ :: inner hs rs)
theorem RowsOut.next {w0 w w' : World} {P : Nat} {rs : List (List UInt8)} (h : RowsOut w0 w P rs) (hx : Ext w w') : RowsOut w0 w' P rs := by
  obtain ⟨A, c, hs, hl, h⟩ := h
  exact ⟨A, c, hs, hl, h.next hx⟩
theorem RowsOut.ext {w0 w : World} {P : Nat} {rs : List (List UInt8)} (h : RowsOut w0 w P rs) : Ext w0 w := by
  obtain ⟨A, c, hs, hl, h⟩ := h
  exact h.ext
theorem inner_snoc {hs : List Nat} {rs : List (List UInt8)} (h : hs.length = rs.length) (g : Nat) (r : List UInt8) : inner (hs ++ [g]) (rs ++ [r]) = inner hs rs ++ [inner1 g r] := by
  unfold inner
  rw [List.zipWith_append h]
  rfl
theorem info_bytes : (Tryd.prog.info? 63).map (fun i => (i.zero, i.size, i.bytes)) = some (some (.slice none 0 0), 1, 24) := by kernel_rfl

set_option maxRecDepth 100000 in
theorem rows1_any (w0 w : World) (P1 P5 d : Nat) (rs : List (List UInt8)) (F : FuncId) (cap : Array Value) (g : Nat → UInt8) (hd : d ≤ 16) (hr : rs.length < 100)
    (hE : ∀ args w, (callFunc F args).run Tryd.prog w = .ok (.enter F args) w)
    (hF : ∀ k, k < d → ∀ w', Ext w w' → Calls Tryd.prog F (#[.int .i64 k] ++ cap) w' fun e w'' => e = .returned (bv (g k)) ∧ Ext w' w'')
    (hc : w.cell? ⟨P1, 0, none⟩ = some (.int .i64 d)) (hO : RowsOut w0 w P5 rs) :
    Calls Tryd.prog 48 #[.func (.func F) #[] cap, .pointer (some ⟨P1, 0, none⟩), .pointer (some ⟨P5, 0, none⟩)] w fun e w' => e = .returned (.tuple #[]) ∧ RowsOut w0 w' P5 (rs ++ [Cd.rowOf d g]) := by
  have HF := Lib.hid hF
  have HO := Lib.hid hO
  clear hF hO
  obtain ⟨i0, hi, hz0, hz1, hz2⟩ := info_parts info_u8
  have HZ := Lib.hid hz2
  clear hz2
  go_enter Tryd.func48, Tryd.ntmps48
  go_wp2_with (refine wpList_make_full _ rfl (.tmp 7) (.tmp 7) 63 rfl w.heap.size 5 i0 (.int .u8 0) 1 Tryd.underlying63 hi hz0 hz1 _ _ _ _ d rfl rfl rfl rfl (by rw [HZ.out]; omega) (by unfold maxLen; omega) (Nat.le_refl _) ?_; intro w1 hown hgrow)
  have hx : Ext w w1 := (Ext.refl w).grown hgrow (fun k h => by cases h)
  have hown' : w1.ownsRow w.heap.size 5 1 (.slice (some ⟨w.heap.size, 0, none⟩) d d) d (part d 0 g) := by
    rw [part_zero, ← toList_madeCells_one]
    simpa [Value.cells] using hown
  have H0 := Lib.hid (And.intro hx hown')
  clear hown hown' hgrow hx
  go_loopw [5, 11] (fun vj vi wr => ∃ k : Nat, k ≤ d ∧ vi = .int .i64 k ∧ Hid (Ext w wr ∧ wr.ownsRow w.heap.size 5 1 (.slice (some ⟨w.heap.size, 0, none⟩) d d) d (part d k g))) (fun _ vi _ => d - (intOf vi).toNat)
  case atStart => exact ⟨0, Nat.zero_le _, rfl, H0.out⟩
  case round =>
    obtain ⟨k, hk, rfl, HR⟩ := hrel
    by_cases hlt : k < d
    · go_wp2_with fail
      refine (HF.out k hlt wr HR.out.1).mono ?_
      rintro e w2 ⟨rfl, hx2⟩
      have hown2 : w2.ownsRow w.heap.size 5 1 (.slice (some ⟨w.heap.size, 0, none⟩) d d) d (part d k g) := own_ext HR.out.2 hx2
      have hcc := hown2.cellAt k (by omega)
      rw [List.getElem?_eq_getElem (by rw [part_length g hk]; exact hlt)] at hcc
      have hf := hown2.frozenAt k
      have hst := (hown2.stored k (bv (g k))).1
      rw [part_set g hlt] at hst
      have hx3 : Ext w w2 := HR.out.1.trans hx2
      have HS := Lib.hid (And.intro hx3 hst)
      clear hown2 hst hx3 hx2
      go_wp2_with fail
      go_roundw
      case rel => exact ⟨k + 1, by omega, by go_num, HS.out.1.setCell (Nat.le_refl _) _, HS.out.2⟩
      case measure => simp [intOf]; omega
    · obtain rfl : k = d := by omega
      obtain ⟨A, c, hs, hsl, hL⟩ := HO.out
      have hL1 := hL.behind HR.out.1 HR.out.2
      rw [part_full] at hL1
      have hrow : (List.range k).map g = Cd.rowOf k g := rfl
      rw [hrow] at hL1
      have hc0 := hL1.cell 0 rfl 0 rfl
      have HL := Lib.hid hL1
      clear hL hL1
      go_wp2_with (refine wpl_append_owns (u := .slice (some ⟨w.heap.size, 0, none⟩) k k) 62 63 rfl (.tmp 21) (.tmp 23) rfl Tryd.underlying62 info_bytes rfl HL.out.push1 1 rfl rfl rfl (cell_of_row _ _ 0 _ _ (0, 0) (heap_new _ _)) rfl (by omega) (by decide) ?_; intro g1 c1 w3 hO3 _; have hc3 : w3.cell? ⟨P5, 0, none⟩ = some (.slice A rs.length c) := hO3.cell 0 rfl 0 rfl; have hf3 : w3.frozen? ⟨P5, 0, none⟩ = false := hO3.frozen 0 rfl 0)
      have hs3 := hO3.store 0 rfl 0 (.slice (some ⟨g1, 0, none⟩) (rs.length + 1) c1)
      have H3 := Lib.hid hs3
      clear hO3 hs3
      go_end0
      refine ⟨rfl, some ⟨g1, 0, none⟩, c1, hs ++ [w.heap.size], by simp [hsl], ?_⟩
      refine Owns.front (M := [⟨.slice (some ⟨wr.heap.size, 0, none⟩) 1 1, 63, 1, 1, [.slice (some ⟨w.heap.size, 0, none⟩) k k]⟩]) ?_
      rw [inner_snoc hsl]
      have h := H3.out
      simp [inner1, Cd.rowOf] at h ⊢
      exact h
end Go.Proofs.YtdbolgollpnfdaaDoor
