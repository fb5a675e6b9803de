/- THE WALKS over the specification of codes: Check, Pieces, Size, Bit, In, IsSet. -/
import Derived.Test.YtgkohfmgdejkpaaDoorR7A
namespace Cd
/-- Is a number in a set of small numbers? -/
def inS (m k : Nat) : Bool := decide (bitAt m k = 1)
theorem inS_def (m k : Nat) : inS m k = decide (m / 2 ^ k % 2 = 1) := rfl
/-- Is a number a set of pieces of a code? -/
def isSet (d : Int) (gs : List (List Int)) (gl : Int) (m : Int) : Bool := decide (0 ≤ m ∧ m < ((2 ^ (pieces d gs gl).toNat : Nat) : Int))
theorem pieces_lt (d gl : Int) (gs : List (List Int)) : 0 ≤ pieces d gs gl ∧ pieces d gs gl ≤ 24 := by
  by_cases h : check d gs gl = 0
  · rw [pieces_ok h]; have := check_ok h; omega
  · rw [pieces_no h]; omega
end Cd
namespace Go.Proofs.YtgkohfmgdejkpaaDoor
open Go.RowKit
set_option maxHeartbeats 4000000 in
theorem rCheck_any (d gl : Int) (gs : List (List Int)) (G : Value) (w : World) (hG : Rs (Rs RI) w G gs) (hn : gs.length ≤ 1000000) :
    Calls Tryd.prog 8 #[.agg #[.int .i64 d, G, .int .i64 gl]] w fun e w' => e = .returned (.int .i64 (Cd.check d gs gl)) ∧ Ext w w' := by
  have hx0 := (Ext.refl w).alloc (.cells #[.int .i64 d, G, .int .i64 gl] 24)
  have HX := Lib.hid (And.intro hx0 (Rs.ext (Rs.ext RI.ext) _ _ _ _ hx0 hG))
  by_cases h : d < 1 ∨ 16 < d ∨ gl < 0 ∨ 4 < gl
  · rw [Cd.check_range h]
    have four : d < 1 ∨ (¬ d < 1 ∧ 16 < d) ∨ (¬ d < 1 ∧ ¬ 16 < d ∧ gl < 0) ∨ (¬ d < 1 ∧ ¬ 16 < d ∧ ¬ gl < 0 ∧ 4 < gl) := by omega
    clear h hG hx0
    rcases four with g | ⟨g1, g⟩ | ⟨g1, g2, g⟩ | ⟨g1, g2, g3, g⟩
    all_goals
      go_enter Tryd.func8, Tryd.ntmps8
      go_wp2_with fail
      go_ret
      exact ⟨rfl, HX.out.1⟩
  · have h1 : 1 ≤ d := by omega
    have h2 : d ≤ 16 := by omega
    have h3 : 0 ≤ gl := by omega
    have h4 : gl ≤ 4 := by omega
    obtain ⟨A, c, rfl, hl⟩ := hG.form
    have H := Lib.hid h
    clear hG hx0 h
    by_cases hb : 24 < d + gs.length + gl
    · have hc := Cd.check_limit H.out (.inr hb)
      have HC := Lib.hid hc
      clear hc
      go_enter Tryd.func8, Tryd.ntmps8
      go_wp2_with fail
      go_ret
      exact ⟨ret_int HC.out.symm, HX.out.1⟩
    · have hb2 : d + gs.length + gl ≤ 24 := by omega
      clear hb
      go_enter Tryd.func8, Tryd.ntmps8
      go_wp2_with fail
      go_loopw [3] (fun vi wr => ∃ i : Nat, i ≤ gs.length ∧ vi = .int .i64 i ∧ Hid (Ext (w.alloc (.cells #[.int .i64 d, .slice A gs.length c, .int .i64 gl] 24)) wr ∧ ∀ j, j < i → Cd.refGroup d gs j = 0)) (fun vi _ => gs.length - (intOf vi).toNat)
      case atStart => exact ⟨0, Nat.zero_le _, rfl, Lib.hid (And.intro (Ext.refl _) fun j hj => absurd hj (Nat.not_lt_zero j))⟩
      case round =>
        obtain ⟨i, hi, rfl, HR⟩ := hrel
        have hc0 : wr.cell? ⟨w.heap.size, 0, none⟩ = some (.int .i64 d) := HR.out.1.cell (by go_simp)
        have hc1 : wr.cell? ⟨w.heap.size, 1, none⟩ = some (.slice A gs.length c) := HR.out.1.cell (by go_simp)
        have hc2 : wr.cell? ⟨w.heap.size, 2, none⟩ = some (.int .i64 gl) := HR.out.1.cell (by go_simp)
        by_cases hlt : i < gs.length
        · have hgr := Rs.ext (Rs.ext RI.ext) _ _ _ _ HR.out.1 HX.out.2
          have HG := Lib.hid hgr
          clear hgr
          by_cases he : Cd.refGroup d gs i = 0
          · have e1 : (Cd.refGroup d gs i != 0) = false := by rw [he]; rfl
            have HE := Lib.hid he
            clear he
            go_wp2_with fail
            refine (rGroup_any d gl gs i _ _ HG.out hlt).mono ?_
            rintro e w1 ⟨rfl, hx1⟩
            have HX1 := Lib.hid (HR.out.1.trans hx1)
            clear hx1 hc0 hc1 hc2
            go_wp2_with fail
            go_roundw
            case rel => exact ⟨i + 1, by omega, by go_num, Lib.hid (And.intro HX1.out fun j hj => by
              by_cases hji : j = i
              · rw [hji]; exact HE.out
              · exact HR.out.2 j (by omega))⟩
            case measure => simp [intOf]; omega
          · have e1 : (Cd.refGroup d gs i != 0) = true := by rw [bne_iff_ne]; exact he
            have hc := Cd.checkR_err H.out (by omega) hlt HR.out.2 he
            have HC := Lib.hid hc
            clear he hc
            go_wp2_with fail
            refine (rGroup_any d gl gs i _ _ HG.out hlt).mono ?_
            rintro e w1 ⟨rfl, hx1⟩
            have HX1 := Lib.hid (HR.out.1.trans hx1)
            clear hx1 hc0 hc1 hc2
            go_wp2_with fail
            go_ret
            exact ⟨ret_int HC.out.symm, HX.out.1.trans HX1.out⟩
        · obtain rfl : i = gs.length := by omega
          have hc := Cd.checkR_ok H.out (by omega) HR.out.2
          have HC := Lib.hid hc
          clear hc
          go_wp2_with fail
          go_ret
          exact ⟨ret_int HC.out.symm, HX.out.1.trans HR.out.1⟩
theorem rPieces_any (d gl : Int) (gs : List (List Int)) (G : Value) (w : World) (hG : Rs (Rs RI) w G gs) (hn : gs.length ≤ 1000000) :
    Calls Tryd.prog 14 #[.agg #[.int .i64 d, G, .int .i64 gl]] w fun e w' => e = .returned (.int .i64 (Cd.pieces d gs gl)) ∧ Ext w w' := by
  have hx0 := (Ext.refl w).alloc (.cells #[.int .i64 d, G, .int .i64 gl] 24)
  have HX := Lib.hid (And.intro hx0 (Rs.ext (Rs.ext RI.ext) _ _ _ _ hx0 hG))
  obtain ⟨A, c, rfl, hl⟩ := hG.form
  clear hG hx0
  by_cases h0 : Cd.check d gs gl = 0
  · have hp := Cd.pieces_ok h0
    have hk := Cd.check_ok h0
    have e1 : (Cd.check d gs gl != 0) = false := by rw [h0]; rfl
    have HP := Lib.hid hp
    clear h0 hp
    go_enter Tryd.func14, Tryd.ntmps14
    go_wp2_with fail
    refine (rCheck_any d gl gs _ _ HX.out.2 hn).mono ?_
    rintro e w1 ⟨rfl, hx1⟩
    have hc0 : w1.cell? ⟨w.heap.size, 0, none⟩ = some (.int .i64 d) := hx1.cell (by go_simp)
    have hc1 : w1.cell? ⟨w.heap.size, 1, none⟩ = some (.slice A gs.length c) := hx1.cell (by go_simp)
    have hc2 : w1.cell? ⟨w.heap.size, 2, none⟩ = some (.int .i64 gl) := hx1.cell (by go_simp)
    have HX1 := Lib.hid (HX.out.1.trans hx1)
    clear hx1
    go_wp2_with fail
    go_ret
    exact ⟨ret_int HP.out.symm, HX1.out⟩
  · have hp := Cd.pieces_no h0
    have e1 : (Cd.check d gs gl != 0) = true := by rw [bne_iff_ne]; exact h0
    have HP := Lib.hid hp
    clear h0 hp
    go_enter Tryd.func14, Tryd.ntmps14
    go_wp2_with fail
    refine (rCheck_any d gl gs _ _ HX.out.2 hn).mono ?_
    rintro e w1 ⟨rfl, hx1⟩
    have HX1 := Lib.hid (HX.out.1.trans hx1)
    clear hx1
    go_wp2_with fail
    go_ret
    exact ⟨ret_int HP.out.symm, HX1.out⟩
theorem rSize_any (d gl n : Int) (gs : List (List Int)) (G : Value) (w : World) (hG : Rs (Rs RI) w G gs) (hn : gs.length ≤ 1000000) :
    Calls Tryd.prog 16 #[.agg #[.int .i64 d, G, .int .i64 gl], .int .i64 n] w fun e w' => e = .returned (.int .i64 (Cd.sizeOf d gl gs n)) ∧ Ext w w' := by
  have hx0 := (Ext.refl w).alloc (.cells #[.int .i64 d, G, .int .i64 gl] 24)
  have HX := Lib.hid (And.intro hx0 (Rs.ext (Rs.ext RI.ext) _ _ _ _ hx0 hG))
  obtain ⟨A, c, rfl, hl⟩ := hG.form
  clear hG hx0
  by_cases h0 : Cd.check d gs gl = 0
  · have e1 : (Cd.check d gs gl != 0) = false := by rw [h0]; rfl
    by_cases h1 : n < 0
    · have hz := Cd.sizeOf_no (d := d) (gl := gl) (gs := gs) (.inl h1)
      have HZ := Lib.hid hz
      clear hz h0
      go_enter Tryd.func16, Tryd.ntmps16
      go_wp2_with fail
      refine (rCheck_any d gl gs _ _ HX.out.2 hn).mono ?_
      rintro e w1 ⟨rfl, hx1⟩
      have HX1 := Lib.hid (HX.out.1.trans hx1)
      clear hx1
      go_wp2_with fail
      go_ret
      exact ⟨ret_int HZ.out.symm, HX1.out⟩
    · by_cases h2 : 4096 < n
      · have hz := Cd.sizeOf_no (d := d) (gl := gl) (gs := gs) (.inr (.inl h2))
        have HZ := Lib.hid hz
        clear hz h0
        go_enter Tryd.func16, Tryd.ntmps16
        go_wp2_with fail
        refine (rCheck_any d gl gs _ _ HX.out.2 hn).mono ?_
        rintro e w1 ⟨rfl, hx1⟩
        have HX1 := Lib.hid (HX.out.1.trans hx1)
        clear hx1
        go_wp2_with fail
        go_ret
        exact ⟨ret_int HZ.out.symm, HX1.out⟩
      · have hk := Cd.check_ok h0
        have hz := Cd.sizeOf_ok (d := d) (gl := gl) (gs := gs) (n := n) (by omega) (by omega) h0
        have HZ := Lib.hid hz
        have e3 : d ≠ 0 := by omega
        clear hz h0
        go_enter Tryd.func16, Tryd.ntmps16
        go_wp2_with fail
        refine (rCheck_any d gl gs _ _ HX.out.2 hn).mono ?_
        rintro e w1 ⟨rfl, hx1⟩
        have hc0 : w1.cell? ⟨w.heap.size, 0, none⟩ = some (.int .i64 d) := hx1.cell (by go_simp)
        have HX1 := Lib.hid (HX.out.1.trans hx1)
        clear hx1
        go_wp2_with fail
        go_ret
        exact ⟨ret_int HZ.out.symm, HX1.out⟩
  · have hz := Cd.sizeOf_no (d := d) (gl := gl) (gs := gs) (n := n) (.inr (.inr h0))
    have e1 : (Cd.check d gs gl != 0) = true := by rw [bne_iff_ne]; exact h0
    have HZ := Lib.hid hz
    clear hz h0
    go_enter Tryd.func16, Tryd.ntmps16
    go_wp2_with fail
    refine (rCheck_any d gl gs _ _ HX.out.2 hn).mono ?_
    rintro e w1 ⟨rfl, hx1⟩
    have HX1 := Lib.hid (HX.out.1.trans hx1)
    clear hx1
    go_wp2_with fail
    go_ret
    exact ⟨ret_int HZ.out.symm, HX1.out⟩
theorem rBit_any (k : Nat) (w : World) (hk : k ≤ 24) :
    Calls Tryd.prog 45 #[.int .i64 k] w fun e w' => e = .returned (.int .i64 ((2 ^ k : Nat) : Int)) ∧ w = w' := by
  go_enter Tryd.func45, Tryd.ntmps45
  go_wp2_with fail
  go_loop [3, 4] (fun vn vi => ∃ i n : Nat, i ≤ k ∧ vi = .int .i64 i ∧ vn = .int .i64 n ∧ n ≤ 16777216 ∧ Hid (n = 2 ^ i)) (fun _ vi => k - (intOf vi).toNat)
  case atStart => exact ⟨0, 1, Nat.zero_le _, rfl, rfl, by omega, Lib.hid rfl⟩
  case round =>
    obtain ⟨i, n, hi, rfl, rfl, hb, HN⟩ := hrel
    by_cases hlt : i < k
    · have hn2 : n * 2 = 2 ^ (i + 1) := by rw [HN.out, Nat.pow_succ]
      have hb2 : n * 2 ≤ 16777216 := by
        rw [hn2]
        exact Nat.pow_le_pow_right (by omega) (show i + 1 ≤ 24 by omega)
      have HN2 := Lib.hid hn2
      clear hn2
      go_wp2_with fail
      go_round
      case rel => exact ⟨i + 1, n * 2, by omega, by go_num, by go_num, hb2, Lib.hid HN2.out⟩
      case measure => simp [intOf]; omega
    · obtain rfl : i = k := by omega
      go_wp2_with fail
      go_ret
      exact ⟨ret_int (by rw [HN.out]; simp), rfl⟩
theorem rIn_any (m k : Nat) (w : World) (hm : m ≤ 16777216) (hk : k ≤ 1000) :
    Calls Tryd.prog 41 #[.int .i64 m, .int .i64 k] w fun e w' => e = .returned (.bool (Cd.inS m k)) ∧ w = w' := by
  go_enter Tryd.func41, Tryd.ntmps41
  go_wp2_with fail
  go_loop [0, 5] (fun vn vi => ∃ i n : Nat, i ≤ k ∧ vi = .int .i64 i ∧ vn = .int .i64 n ∧ n ≤ 16777216 ∧ Hid (n = m / 2 ^ i)) (fun _ vi => k - (intOf vi).toNat)
  case atStart => exact ⟨0, m, Nat.zero_le _, rfl, rfl, by omega, Lib.hid (by simp)⟩
  case round =>
    obtain ⟨i, n, hi, rfl, rfl, hb, HN⟩ := hrel
    by_cases hlt : i < k
    · have hn2 : n / 2 = m / 2 ^ (i + 1) := by rw [HN.out, Nat.div_div_eq_div_mul, Nat.pow_succ]
      have HN2 := Lib.hid hn2
      clear hn2
      go_wp2_with fail
      go_round
      case rel => exact ⟨i + 1, n / 2, by omega, by go_num, by go_num, by omega, Lib.hid HN2.out⟩
      case measure => simp [intOf]; omega
    · obtain rfl : i = k := by omega
      have hs : Cd.inS m i = decide (n % 2 = 1) := by rw [Cd.inS_def, HN.out]
      have HS := Lib.hid hs
      clear hs
      rcases Nat.mod_two_eq_zero_or_one n with h | h
      · have h2 : ((n : Int) % 2 == 1) = false := by rw [beq_eq_false_iff_ne]; omega
        have hd : Cd.inS m i = false := by rw [HS.out]; simp [h]
        have HD := Lib.hid hd
        clear hd h
        go_wp2_with fail
        go_ret
        exact ⟨ret_bool (by rw [HD.out]), rfl⟩
      · have h2 : ((n : Int) % 2 == 1) = true := by rw [beq_iff_eq]; omega
        have hd : Cd.inS m i = true := by rw [HS.out]; simp [h]
        have HD := Lib.hid hd
        clear hd h
        go_wp2_with fail
        go_ret
        exact ⟨ret_bool (by rw [HD.out]), rfl⟩
theorem rIsSet_any (d gl : Int) (gs : List (List Int)) (m : Int) (G : Value) (w : World) (hG : Rs (Rs RI) w G gs) (hn : gs.length ≤ 1000000) :
    Calls Tryd.prog 25 #[.agg #[.int .i64 d, G, .int .i64 gl], .int .i64 m] w fun e w' => e = .returned (.bool (Cd.isSet d gs gl m)) ∧ Ext w w' := by
  have hx0 := (Ext.refl w).alloc (.cells #[.int .i64 d, G, .int .i64 gl] 24)
  have HX := Lib.hid (And.intro hx0 (Rs.ext (Rs.ext RI.ext) _ _ _ _ hx0 hG))
  obtain ⟨A, c, rfl, hl⟩ := hG.form
  clear hG hx0
  have hp := Cd.pieces_lt d gl gs
  by_cases h0 : 0 ≤ m
  · obtain ⟨p, hpe⟩ : ∃ p : Nat, Cd.pieces d gs gl = p := ⟨(Cd.pieces d gs gl).toNat, by omega⟩
    have hs : Cd.isSet d gs gl m = decide (m < ((2 ^ p : Nat) : Int)) := by
      unfold Cd.isSet
      rw [hpe, Int.toNat_natCast]
      simp [h0]
    have HS := Lib.hid (And.intro hs hpe)
    have hp24 : p ≤ 24 := by omega
    clear hs hpe hp
    go_enter Tryd.func25, Tryd.ntmps25
    go_wp2_with fail
    refine (rPieces_any d gl gs _ _ HX.out.2 hn).mono ?_
    rintro e w1 ⟨rfl, hx1⟩
    rw [HS.out.2]
    have HX1 := Lib.hid (HX.out.1.trans hx1)
    clear hx1
    go_wp2_with fail
    refine (rBit_any p _ hp24).mono ?_
    rintro e w2 ⟨rfl, rfl⟩
    obtain ⟨q, hq⟩ : ∃ q : Nat, 2 ^ p = q := ⟨_, rfl⟩
    have hs := HS.out.1
    rw [hq] at hs ⊢
    have HS2 := Lib.hid hs
    clear hs hq
    go_wp2_with fail
    go_ret
    exact ⟨ret_bool HS2.out.symm, HX1.out⟩
  · have hs : Cd.isSet d gs gl m = false := by
      unfold Cd.isSet
      simp [h0]
    have HS := Lib.hid hs
    clear hs hp
    go_enter Tryd.func25, Tryd.ntmps25
    go_wp2_with fail
    go_ret
    exact ⟨ret_bool HS.out.symm, HX.out.1⟩
end Go.Proofs.YtgkohfmgdejkpaaDoor
