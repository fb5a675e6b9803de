/- What the program's functions do, step by step: part F of the texts for this claim; no condition beyond what each theorem states. -/
import Derived.Deep.Matrix
import Derived.Lib.SmallJoins
import Derived.SizedLaws
import Derived.Deep.Slices
import Derived.Test.YtggfkpalkdkbdaaDoorLoTriBunA
import Derived.Test.YtggfkpalkdkbdaaDoorLoTriBunB
import Derived.Test.YtggfkpalkdkbdaaDoorLoTriBunC
import Derived.Test.YtggfkpalkdkbdaaDoorLoTriBunD
import Derived.Test.YtggfkpalkdkbdaaDoorLoTriBunE
/- THE WALK over Spoil (quietuslaw09). -/
namespace Go.Proofs.YtggfkpalkdkbdaaDoor
open Go.RowKit
/-- What Spoil returns. -/
def SpoilOut (d gl : Int) (gs : List (List Int)) (data : List UInt8) (m : Int) (w : World) (e : Ending) (w' : World) : Prop :=
  ∃ b V, ∃ c : Nat, e = .returned (.tuple #[V, .int .i64 (c : Nat), .bool b]) ∧ Ext w w' ∧ (b = false → V = .slice none 0 0 ∧ c = 0) ∧
    (b = true → ∃ (M : Nat) (l : List (List UInt8)), m = M ∧ Rs RS w' V l ∧ Lo.Spoilt d gl gs data M l c ∧ (Cd.rowsOf d gs gl).length ≤ 14 ∧ data.length ≤ 60 ∧ (∀ p ∈ l, p.length ≤ 4096))
theorem getD_set_len {l : List (List UInt8)} {sz P i : Nat} {x : List UInt8} (hl : l.length = P) (h : ∀ k, k < P → (l.getD k []).length = sz) (hx : x.length = sz) : ∀ k, k < P → ((l.set i x).getD k []).length = sz := fun k hk => by
  rw [List.getD_eq_getElem?_getD, List.getElem?_set]
  by_cases hik : i = k
  · subst hik
    rw [if_pos rfl, if_pos (by omega)]
    exact hx
  · rw [if_neg hik, ← List.getD_eq_getElem?_getD]
    exact h k hk
theorem sizeN_small4 {n l : Nat} (h : l ≤ 4000) : Cd.sizeN n l ≤ 4096 := by
  unfold Cd.sizeN
  have := Nat.div_le_self (l + n - 1) n
  by_cases hn : n ≤ 90
  · omega
  · have h2 : (l + n - 1) / n ≤ (l + n - 1) / 90 := Nat.div_le_div_left (by omega) (by omega)
    by_cases hn2 : n = 0
    · omega
    · have : (l + n - 1) / n ≤ l + 1 := by
        rw [Nat.div_le_iff_le_mul_add_pred (by omega)]
        have : l ≤ n * l := Nat.le_mul_of_pos_left l (by omega)
        rw [Nat.mul_add]
        omega
      omega
set_option maxHeartbeats 16000000 in
set_option maxRecDepth 100000 in
theorem lSpoil_any (d gl m : Int) (gs : List (List Int)) (data ats : List UInt8) (bys : List (List UInt8)) (G AV BV : Value) (w : World) (hT : Tab w) (hG : Rs (Rs RI) w G gs) (hA : Rs RB w AV ats) (hBy : Rs RS w BV bys) (hgl : gs.length ≤ 4611686018427387904) (hdl : data.length ≤ 9223372036854775807) :
    Calls Tryd.prog 21 #[.agg #[.int .i64 d, G, .int .i64 gl, .string (sb data), .int .i64 m, AV, BV]] w fun e w' => SpoilOut d gl gs data m w e w' := by
  have HGN := Lib.hid (And.intro hgl hdl)
  obtain ⟨GA, Gc, rfl, _⟩ := hG.form
  obtain ⟨ng, hng⟩ : ∃ ng, gs.length = ng := ⟨_, rfl⟩
  rw [hng] at hG ⊢
  obtain ⟨AA, Ac, rfl, han63⟩ := hA.form
  obtain ⟨an, han⟩ : ∃ an, ats.length = an := ⟨_, rfl⟩
  rw [han] at hA han63 ⊢
  obtain ⟨BA, Bc, rfl, hbn63⟩ := hBy.form
  obtain ⟨bn, hbn⟩ : ∃ bn, bys.length = bn := ⟨_, rfl⟩
  rw [hbn] at hBy hbn63 ⊢
  have hB : Owns w (w.alloc (.cells #[.int .i64 d, .slice GA ng Gc, .int .i64 gl, .string (sb data), .int .i64 m, .slice AA an Ac, .slice BA bn Bc] 50)) [⟨.slice (some ⟨w.heap.size, 0, none⟩) 7 7, 50, 1, 7, [.int .i64 d, .slice GA ng Gc, .int .i64 gl, .string (sb data), .int .i64 m, .slice AA an Ac, .slice BA bn Bc]⟩] := (Owns.start w (L := [no]) (by intro r hr; simp at hr; subst hr; exact ⟨rfl, rfl, rfl⟩)).new 0 #[.int .i64 d, .slice GA ng Gc, .int .i64 gl, .string (sb data), .int .i64 m, .slice AA an Ac, .slice BA bn Bc] 50 (by simp [maxLen])
  have HG := Lib.hid hG
  have HB := Lib.hid hB
  have HNG := Lib.hid (And.intro hng (And.intro han hbn))
  have HT := Lib.hid (hT.ext HB.out.ext)
  have HA := Lib.hid (And.intro hA hBy)
  clear hG hB hng hT hA hBy han hbn hgl hdl
  go_enter Tryd.func21, Tryd.ntmps21
  go_upto_region 1 with fail
  obtain ⟨C, hC⟩ : ∃ C, w.heap.size = C := ⟨_, rfl⟩
  rw [hC] at HB ⊢
  obtain ⟨w1, hw1⟩ : ∃ x, w.alloc (.cells #[.int .i64 d, .slice GA ng Gc, .int .i64 gl, .string (sb data), .int .i64 m, .slice AA an Ac, .slice BA bn Bc] 50) = x := ⟨_, rfl⟩
  rw [hw1] at HB HT ⊢
  clear hw1 hC
  have HX := Lib.hid (Ext.refl w1)
  have HF := Lib.hid (lFew_any d gl 14 0 gs _ none 0 0 w1 (Rs.ext (Rs.ext RI.ext) _ _ _ _ (HB.out.ext.trans HX.out) HG.out) HGN.out.1)
  have k0 : w1.cell? ⟨C, 0, none⟩ = some (.int .i64 d) := (HB.out.next HX.out).cell 0 rfl 0 rfl
  have k1 : w1.cell? ⟨C, 1, none⟩ = some (.slice GA ng Gc) := (HB.out.next HX.out).cell 0 rfl 1 rfl
  have k2 : w1.cell? ⟨C, 2, none⟩ = some (.int .i64 gl) := (HB.out.next HX.out).cell 0 rfl 2 rfl
  have k3 : w1.cell? ⟨C, 3, none⟩ = some (.string (sb data)) := (HB.out.next HX.out).cell 0 rfl 3 rfl
  have k4 : w1.cell? ⟨C, 4, none⟩ = some (.int .i64 m) := (HB.out.next HX.out).cell 0 rfl 4 rfl
  have k5 : w1.cell? ⟨C, 5, none⟩ = some (.slice AA an Ac) := (HB.out.next HX.out).cell 0 rfl 5 rfl
  have k6 : w1.cell? ⟨C, 6, none⟩ = some (.slice BA bn Bc) := (HB.out.next HX.out).cell 0 rfl 6 rfl
  go_wp2_with fail
  refine HF.out.mono ?_
  clear HF k0 k1 k2 k3 k4 k5 k6
  rintro e w2 ⟨b, rfl, hfo, hx⟩
  replace HX := Lib.hid (HX.out.trans hx)
  have HFO := Lib.hid hfo
  clear hx hfo
  cases b with
  | false =>
    have k0 : w2.cell? ⟨C, 0, none⟩ = some (.int .i64 d) := (HB.out.next HX.out).cell 0 rfl 0 rfl
    have k1 : w2.cell? ⟨C, 1, none⟩ = some (.slice GA ng Gc) := (HB.out.next HX.out).cell 0 rfl 1 rfl
    have k2 : w2.cell? ⟨C, 2, none⟩ = some (.int .i64 gl) := (HB.out.next HX.out).cell 0 rfl 2 rfl
    have k3 : w2.cell? ⟨C, 3, none⟩ = some (.string (sb data)) := (HB.out.next HX.out).cell 0 rfl 3 rfl
    have k4 : w2.cell? ⟨C, 4, none⟩ = some (.int .i64 m) := (HB.out.next HX.out).cell 0 rfl 4 rfl
    have k5 : w2.cell? ⟨C, 5, none⟩ = some (.slice AA an Ac) := (HB.out.next HX.out).cell 0 rfl 5 rfl
    have k6 : w2.cell? ⟨C, 6, none⟩ = some (.slice BA bn Bc) := (HB.out.next HX.out).cell 0 rfl 6 rfl
    go_upto_region 2 with fail
    refine wp_atEnd' (sp_few w2 C ng Gc an Ac GA AA d gl m data k0 k1 k2 k3 k4 k5 _ _ _ _ _ _ _ _ _ _ _ _ _ _ _ _ _ _ _ _ _ _ _ _ _ _ _ _ _ _ _ _ _ _ _ _ _ _ _ _ _ _ _ _ _ _ _ _ _ _ _ _ _ _ _ _ _ _ _ _ _ _ _ _ _ _ _ _ _ _ _ _ _ _ _ _ _ _ _ _ _ _ _ _ _ _ _ _ _ _ _ _ _ _ _ _ _ _ _ _ _ _ _ _ _ _ _ _ _ _ _ _ _ _ _ _ _ _ _ _ _ _ _ _ _ _ _ _ _ _ _ _ _ _ _ _ _ _ _ _ _ _ _ _ _ _ _ _ ?_)
    rintro u16 u17 u18 u19 u20 u21 u22 u23 u24 u25 u26 u27 u28 u29 u30 u31 u32 u33 u34 u35 u36 u37 u38 u39 u40 u41 u42 u43 u44 u45 u46 u47 u48 w3 hx
    replace HX := Lib.hid (HX.out.trans hx)
    clear hx k0 k1 k2 k3 k4 k5 k6
    go_wp2_with fail
    go_ret3
    exact ⟨false, _, 0, rfl, HB.out.ext.trans HX.out, fun _ => ⟨rfl, rfl⟩, fun h => (by cases h)⟩
  | true =>
    by_cases h6 : (60 : Int) < (data.length : Int)
    · have k0 : w2.cell? ⟨C, 0, none⟩ = some (.int .i64 d) := (HB.out.next HX.out).cell 0 rfl 0 rfl
      have k1 : w2.cell? ⟨C, 1, none⟩ = some (.slice GA ng Gc) := (HB.out.next HX.out).cell 0 rfl 1 rfl
      have k2 : w2.cell? ⟨C, 2, none⟩ = some (.int .i64 gl) := (HB.out.next HX.out).cell 0 rfl 2 rfl
      have k3 : w2.cell? ⟨C, 3, none⟩ = some (.string (sb data)) := (HB.out.next HX.out).cell 0 rfl 3 rfl
      have k4 : w2.cell? ⟨C, 4, none⟩ = some (.int .i64 m) := (HB.out.next HX.out).cell 0 rfl 4 rfl
      have k5 : w2.cell? ⟨C, 5, none⟩ = some (.slice AA an Ac) := (HB.out.next HX.out).cell 0 rfl 5 rfl
      have k6 : w2.cell? ⟨C, 6, none⟩ = some (.slice BA bn Bc) := (HB.out.next HX.out).cell 0 rfl 6 rfl
      go_upto_region 2 with fail
      refine wp_atEnd' (sp_data w2 C ng Gc an Ac GA AA d gl m data k0 k1 k2 k3 k4 k5 (by omega) _ _ _ _ _ _ _ _ _ _ _ _ _ _ _ _ _ _ _ _ _ _ _ _ _ _ _ _ _ _ _ _ _ _ _ _ _ _ _ _ _ _ _ _ _ _ _ _ _ _ _ _ _ _ _ _ _ _ _ _ _ _ _ _ _ _ _ _ _ _ _ _ _ _ _ _ _ _ _ _ _ _ _ _ _ _ _ _ _ _ _ _ _ _ _ _ _ _ _ _ _ _ _ _ _ _ _ _ _ _ _ _ _ _ _ _ _ _ _ _ _ _ _ _ _ _ _ _ _ _ _ _ _ _ _ _ _ _ _ _ _ _ _ _ _ _ _ _ ?_)
      rintro u16 u17 u18 u19 u20 u21 u22 u23 u24 u25 u26 u27 u28 u29 u30 u31 u32 u33 u34 u35 u36 u37 u38 u39 u40 u41 u42 u43 u44 u45 u46 u47 u48 w3 hx
      replace HX := Lib.hid (HX.out.trans hx)
      clear hx k0 k1 k2 k3 k4 k5 k6
      go_wp2_with fail
      go_ret3
      exact ⟨false, _, 0, rfl, HB.out.ext.trans HX.out, fun _ => ⟨rfl, rfl⟩, fun h => (by cases h)⟩
    by_cases h12 : (6 : Int) < (an : Int)
    · have k0 : w2.cell? ⟨C, 0, none⟩ = some (.int .i64 d) := (HB.out.next HX.out).cell 0 rfl 0 rfl
      have k1 : w2.cell? ⟨C, 1, none⟩ = some (.slice GA ng Gc) := (HB.out.next HX.out).cell 0 rfl 1 rfl
      have k2 : w2.cell? ⟨C, 2, none⟩ = some (.int .i64 gl) := (HB.out.next HX.out).cell 0 rfl 2 rfl
      have k3 : w2.cell? ⟨C, 3, none⟩ = some (.string (sb data)) := (HB.out.next HX.out).cell 0 rfl 3 rfl
      have k4 : w2.cell? ⟨C, 4, none⟩ = some (.int .i64 m) := (HB.out.next HX.out).cell 0 rfl 4 rfl
      have k5 : w2.cell? ⟨C, 5, none⟩ = some (.slice AA an Ac) := (HB.out.next HX.out).cell 0 rfl 5 rfl
      have k6 : w2.cell? ⟨C, 6, none⟩ = some (.slice BA bn Bc) := (HB.out.next HX.out).cell 0 rfl 6 rfl
      go_upto_region 2 with fail
      refine wp_atEnd' (sp_at w2 C ng Gc an Ac GA AA d gl m data k0 k1 k2 k3 k4 k5 (by omega) (by omega) _ _ _ _ _ _ _ _ _ _ _ _ _ _ _ _ _ _ _ _ _ _ _ _ _ _ _ _ _ _ _ _ _ _ _ _ _ _ _ _ _ _ _ _ _ _ _ _ _ _ _ _ _ _ _ _ _ _ _ _ _ _ _ _ _ _ _ _ _ _ _ _ _ _ _ _ _ _ _ _ _ _ _ _ _ _ _ _ _ _ _ _ _ _ _ _ _ _ _ _ _ _ _ _ _ _ _ _ _ _ _ _ _ _ _ _ _ _ _ _ _ _ _ _ _ _ _ _ _ _ _ _ _ _ _ _ _ _ _ _ _ _ _ _ _ _ _ _ ?_)
      rintro u16 u17 u18 u19 u20 u21 u22 u23 u24 u25 u26 u27 u28 u29 u30 u31 u32 u33 u34 u35 u36 u37 u38 u39 u40 u41 u42 u43 u44 u45 u46 u47 u48 w3 hx
      replace HX := Lib.hid (HX.out.trans hx)
      clear hx k0 k1 k2 k3 k4 k5 k6
      go_wp2_with fail
      go_ret3
      exact ⟨false, _, 0, rfl, HB.out.ext.trans HX.out, fun _ => ⟨rfl, rfl⟩, fun h => (by cases h)⟩
    have HCK : Hid (∀ w1 : World, Ext w2 w1 → Calls Tryd.prog 24 #[.agg #[.int .i64 d, .slice GA ng Gc, .int .i64 gl]] w1 fun e w' => e = .returned (.int .i64 (Cd.check d gs gl)) ∧ Ext w1 w') := Lib.hid fun w' h => cCheck_any d gl gs _ w' (Rs.ext (Rs.ext RI.ext) _ _ _ _ (HB.out.ext.trans (HX.out.trans h)) HG.out)
    obtain ⟨ck, hck⟩ : ∃ ck, Cd.check d gs gl = ck := ⟨_, rfl⟩
    rw [hck] at HCK
    have HC := Lib.hid hck
    clear hck
    by_cases h0 : ck = 0
    case neg =>
      have hne : (ck != 0) = true := by rw [bne_iff_ne]; exact h0
      clear h0
      have k0 : w2.cell? ⟨C, 0, none⟩ = some (.int .i64 d) := (HB.out.next HX.out).cell 0 rfl 0 rfl
      have k1 : w2.cell? ⟨C, 1, none⟩ = some (.slice GA ng Gc) := (HB.out.next HX.out).cell 0 rfl 1 rfl
      have k2 : w2.cell? ⟨C, 2, none⟩ = some (.int .i64 gl) := (HB.out.next HX.out).cell 0 rfl 2 rfl
      have k3 : w2.cell? ⟨C, 3, none⟩ = some (.string (sb data)) := (HB.out.next HX.out).cell 0 rfl 3 rfl
      have k4 : w2.cell? ⟨C, 4, none⟩ = some (.int .i64 m) := (HB.out.next HX.out).cell 0 rfl 4 rfl
      have k5 : w2.cell? ⟨C, 5, none⟩ = some (.slice AA an Ac) := (HB.out.next HX.out).cell 0 rfl 5 rfl
      have k6 : w2.cell? ⟨C, 6, none⟩ = some (.slice BA bn Bc) := (HB.out.next HX.out).cell 0 rfl 6 rfl
      go_upto_region 2 with fail
      refine wp_atEnd' (sp_chk w2 C ng Gc an Ac GA AA d gl m data k0 k1 k2 k3 k4 k5 (by omega) (by omega) ck HCK hne _ _ _ _ _ _ _ _ _ _ _ _ _ _ _ _ _ _ _ _ _ _ _ _ _ _ _ _ _ _ _ _ _ _ _ _ _ _ _ _ _ _ _ _ _ _ _ _ _ _ _ _ _ _ _ _ _ _ _ _ _ _ _ _ _ _ _ _ _ _ _ _ _ _ _ _ _ _ _ _ _ _ _ _ _ _ _ _ _ _ _ _ _ _ _ _ _ _ _ _ _ _ _ _ _ _ _ _ _ _ _ _ _ _ _ _ _ _ _ _ _ _ _ _ _ _ _ _ _ _ _ _ _ _ _ _ _ _ _ _ _ _ _ _ _ _ _ _ ?_)
      rintro u16 u17 u18 u19 u20 u21 u22 u23 u24 u25 u26 u27 u28 u29 u30 u31 u32 u33 u34 u35 u36 u37 u38 u39 u40 u41 u42 u43 u44 u45 u46 u47 u48 w3 hx
      replace HX := Lib.hid (HX.out.trans hx)
      clear hx k0 k1 k2 k3 k4 k5 k6
      go_wp2_with fail
      go_ret3
      exact ⟨false, _, 0, rfl, HB.out.ext.trans HX.out, fun _ => ⟨rfl, rfl⟩, fun h => (by cases h)⟩
    case pos =>
    have hck0 : (ck != 0) = false := by rw [h0]; rfl
    rw [h0] at HC
    clear h0
    by_cases h23 : m < 0
    · have k0 : w2.cell? ⟨C, 0, none⟩ = some (.int .i64 d) := (HB.out.next HX.out).cell 0 rfl 0 rfl
      have k1 : w2.cell? ⟨C, 1, none⟩ = some (.slice GA ng Gc) := (HB.out.next HX.out).cell 0 rfl 1 rfl
      have k2 : w2.cell? ⟨C, 2, none⟩ = some (.int .i64 gl) := (HB.out.next HX.out).cell 0 rfl 2 rfl
      have k3 : w2.cell? ⟨C, 3, none⟩ = some (.string (sb data)) := (HB.out.next HX.out).cell 0 rfl 3 rfl
      have k4 : w2.cell? ⟨C, 4, none⟩ = some (.int .i64 m) := (HB.out.next HX.out).cell 0 rfl 4 rfl
      have k5 : w2.cell? ⟨C, 5, none⟩ = some (.slice AA an Ac) := (HB.out.next HX.out).cell 0 rfl 5 rfl
      have k6 : w2.cell? ⟨C, 6, none⟩ = some (.slice BA bn Bc) := (HB.out.next HX.out).cell 0 rfl 6 rfl
      go_upto_region 2 with fail
      refine wp_atEnd' (sp_neg w2 C ng Gc an Ac GA AA d gl m data k0 k1 k2 k3 k4 k5 (by omega) (by omega) ck HCK hck0 (by omega) _ _ _ _ _ _ _ _ _ _ _ _ _ _ _ _ _ _ _ _ _ _ _ _ _ _ _ _ _ _ _ _ _ _ _ _ _ _ _ _ _ _ _ _ _ _ _ _ _ _ _ _ _ _ _ _ _ _ _ _ _ _ _ _ _ _ _ _ _ _ _ _ _ _ _ _ _ _ _ _ _ _ _ _ _ _ _ _ _ _ _ _ _ _ _ _ _ _ _ _ _ _ _ _ _ _ _ _ _ _ _ _ _ _ _ _ _ _ _ _ _ _ _ _ _ _ _ _ _ _ _ _ _ _ _ _ _ _ _ _ _ _ _ _ _ _ _ _ ?_)
      rintro u16 u17 u18 u19 u20 u21 u22 u23 u24 u25 u26 u27 u28 u29 u30 u31 u32 u33 u34 u35 u36 u37 u38 u39 u40 u41 u42 u43 u44 u45 u46 u47 u48 w3 hx
      replace HX := Lib.hid (HX.out.trans hx)
      clear hx k0 k1 k2 k3 k4 k5 k6
      go_wp2_with fail
      go_ret3
      exact ⟨false, _, 0, rfl, HB.out.ext.trans HX.out, fun _ => ⟨rfl, rfl⟩, fun h => (by cases h)⟩
    obtain ⟨M, rfl⟩ : ∃ M : Nat, m = M := ⟨m.toNat, by omega⟩
    have hfew := (HFO.out (by trivial)).rows HC.out
    have hk := Cd.check_ok HC.out
    have hpn : Cd.pieces d gs gl = ((Cd.rowsOf d gs gl).length : Int) := by rw [Cd.pieces_ok HC.out, ← Cd.rowsOf_len HC.out]
    have hpos := Cd.rowsOf_len HC.out
    obtain ⟨P, hP⟩ : ∃ P, (Cd.rowsOf d gs gl).length = P := ⟨_, rfl⟩
    rw [hP] at hfew hpn hpos
    have hP14 : P ≤ 14 := by omega
    have hP1 : 1 ≤ P := by omega
    obtain ⟨T, hT2⟩ : ∃ T, 2 ^ P = T := ⟨_, rfl⟩
    have HTT : Hid (IntKind.i64.wrap (2 ^ P) = (T : Int) ∧ P < 64) := Lib.hid ⟨by
      have h := wrap_pow P (by omega)
      rw [IntKind.wrap_i64, ← hT2]
      unfold wrap64 at h
      exact h, by omega⟩
    have HPT := Lib.hid (And.intro hP hT2)
    have HPC : Hid (∀ w1 : World, Ext w2 w1 → Calls Tryd.prog 25 #[.agg #[.int .i64 d, .slice GA ng Gc, .int .i64 gl]] w1 fun e w' => e = .returned (.int .i64 (P : Nat)) ∧ Ext w1 w') := Lib.hid fun w' h => by
      have := cPieces_any d gl gs _ w' (Rs.ext (Rs.ext RI.ext) _ _ _ _ (HB.out.ext.trans (HX.out.trans h)) HG.out)
      rw [hpn] at this
      exact this
    have HK := Lib.hid hk
    have hdl60 : data.length ≤ 60 := by omega
    clear hfew hpn hpos hP hT2 hk
    by_cases h32 : (T : Int) ≤ (M : Int)
    · have k0 : w2.cell? ⟨C, 0, none⟩ = some (.int .i64 d) := (HB.out.next HX.out).cell 0 rfl 0 rfl
      have k1 : w2.cell? ⟨C, 1, none⟩ = some (.slice GA ng Gc) := (HB.out.next HX.out).cell 0 rfl 1 rfl
      have k2 : w2.cell? ⟨C, 2, none⟩ = some (.int .i64 gl) := (HB.out.next HX.out).cell 0 rfl 2 rfl
      have k3 : w2.cell? ⟨C, 3, none⟩ = some (.string (sb data)) := (HB.out.next HX.out).cell 0 rfl 3 rfl
      have k4 : w2.cell? ⟨C, 4, none⟩ = some (.int .i64 M) := (HB.out.next HX.out).cell 0 rfl 4 rfl
      have k5 : w2.cell? ⟨C, 5, none⟩ = some (.slice AA an Ac) := (HB.out.next HX.out).cell 0 rfl 5 rfl
      have k6 : w2.cell? ⟨C, 6, none⟩ = some (.slice BA bn Bc) := (HB.out.next HX.out).cell 0 rfl 6 rfl
      go_upto_region 2 with fail
      refine wp_atEnd' (sp_big w2 C ng Gc an Ac GA AA d gl M data k0 k1 k2 k3 k4 k5 (by omega) (by omega) ck HCK hck0 (by omega) P T HTT HPC (by omega) _ _ _ _ _ _ _ _ _ _ _ _ _ _ _ _ _ _ _ _ _ _ _ _ _ _ _ _ _ _ _ _ _ _ _ _ _ _ _ _ _ _ _ _ _ _ _ _ _ _ _ _ _ _ _ _ _ _ _ _ _ _ _ _ _ _ _ _ _ _ _ _ _ _ _ _ _ _ _ _ _ _ _ _ _ _ _ _ _ _ _ _ _ _ _ _ _ _ _ _ _ _ _ _ _ _ _ _ _ _ _ _ _ _ _ _ _ _ _ _ _ _ _ _ _ _ _ _ _ _ _ _ _ _ _ _ _ _ _ _ _ _ _ _ _ _ _ _ ?_)
      rintro u16 u17 u18 u19 u20 u21 u22 u23 u24 u25 u26 u27 u28 u29 u30 u31 u32 u33 u34 u35 u36 u37 u38 u39 u40 u41 u42 u43 u44 u45 u46 u47 u48 w3 hx
      replace HX := Lib.hid (HX.out.trans hx)
      clear hx k0 k1 k2 k3 k4 k5 k6
      go_wp2_with fail
      go_ret3
      exact ⟨false, _, 0, rfl, HB.out.ext.trans HX.out, fun _ => ⟨rfl, rfl⟩, fun h => (by cases h)⟩
    have HM : Hid (M < 2 ^ P) := Lib.hid (by rw [HPT.out.2]; omega)
    have k0 : w2.cell? ⟨C, 0, none⟩ = some (.int .i64 d) := (HB.out.next HX.out).cell 0 rfl 0 rfl
    have k1 : w2.cell? ⟨C, 1, none⟩ = some (.slice GA ng Gc) := (HB.out.next HX.out).cell 0 rfl 1 rfl
    have k2 : w2.cell? ⟨C, 2, none⟩ = some (.int .i64 gl) := (HB.out.next HX.out).cell 0 rfl 2 rfl
    have k3 : w2.cell? ⟨C, 3, none⟩ = some (.string (sb data)) := (HB.out.next HX.out).cell 0 rfl 3 rfl
    have k4 : w2.cell? ⟨C, 4, none⟩ = some (.int .i64 M) := (HB.out.next HX.out).cell 0 rfl 4 rfl
    have k5 : w2.cell? ⟨C, 5, none⟩ = some (.slice AA an Ac) := (HB.out.next HX.out).cell 0 rfl 5 rfl
    have k6 : w2.cell? ⟨C, 6, none⟩ = some (.slice BA bn Bc) := (HB.out.next HX.out).cell 0 rfl 6 rfl
    go_upto_region 2 with fail
    refine wp_atEnd' (sp_fine w2 C ng Gc an Ac GA AA d gl M data k0 k1 k2 k3 k4 k5 ck HCK P T HTT HPC (by omega) (by omega) hck0 (by omega) (by omega) _ _ _ _ _ _ _ _ _ _ _ _ _ _ _ _ _ _ _ _ _ _ _ _ _ _ _ _ _ _ _ _ _ _ _ _ _ _ _ _ _ _ _ _ _ _ _ _ _ _ _ _ _ _ _ _ _ _ _ _ _ _ _ _ _ _ _ _ _ _ _ _ _ _ _ _ _ _ _ _ _ _ _ _ _ _ _ _ _ _ _ _ _ _ _ _ _ _ _ _ _ _ _ _ _ _ _ _ _ _ _ _ _ _ _ _ _ _ _ _ _ _ _ _ _ _ _ _ _ _ _ _ _ _ _ _ _ _ _ _ _ _ _ _ _ _ _ _ ?_)
    rintro u16 u17 u18 u19 u20 u21 u22 u23 u24 u25 u26 u27 u28 u29 u30 u31 u32 u33 u34 u35 u36 u37 u38 u39 u40 u41 u42 u43 u44 u45 u46 u47 u48 w3 hx
    replace HX := Lib.hid (HX.out.trans hx)
    clear hx k0 k1 k2 k3 k4 k5 k6 HCK HPC HTT h6 h23 h32
    have hen := cEncode_own d gl gs data _ w3 (HT.out.ext HX.out) (Rs.ext (Rs.ext RI.ext) _ _ _ _ (HB.out.ext.trans HX.out) HG.out) HGN.out.2
    have hee : Cd.encE d gl gs data = 0 := Cd.encE_ok HC.out (by omega)
    have hel : Cd.encL d gl gs data = Cd.encode d gl gs data := Cd.encL_ok HC.out (by omega)
    have hln := Cd.encode_len d gl gs data
    have hsz : ∀ k, k < P → ((Cd.encode d gl gs data).getD k []).length = Cd.sizeN d.toNat data.length := fun k hk => (Cd.encode_fits HC.out data (by rw [HPT.out.1]; exact hk)).1
    rw [HPT.out.1] at hln
    rw [hee, hel] at hen
    obtain ⟨own, hown⟩ : ∃ own, Cd.encode d gl gs data = own := ⟨_, rfl⟩
    obtain ⟨sz, hsz0⟩ : ∃ sz, Cd.sizeN d.toNat data.length = sz := ⟨_, rfl⟩
    rw [hown] at hen hln hsz
    rw [hsz0] at hsz
    rw [hln] at hen
    have HEN := Lib.hid hen
    have HOW := Lib.hid (And.intro hown (And.intro hln (And.intro hsz hsz0)))
    clear hen hee hel hln hsz hown hsz0
    have k0 : w3.cell? ⟨C, 0, none⟩ = some (.int .i64 d) := (HB.out.next HX.out).cell 0 rfl 0 rfl
    have k1 : w3.cell? ⟨C, 1, none⟩ = some (.slice GA ng Gc) := (HB.out.next HX.out).cell 0 rfl 1 rfl
    have k2 : w3.cell? ⟨C, 2, none⟩ = some (.int .i64 gl) := (HB.out.next HX.out).cell 0 rfl 2 rfl
    have k3 : w3.cell? ⟨C, 3, none⟩ = some (.string (sb data)) := (HB.out.next HX.out).cell 0 rfl 3 rfl
    have k4 : w3.cell? ⟨C, 4, none⟩ = some (.int .i64 M) := (HB.out.next HX.out).cell 0 rfl 4 rfl
    have k5 : w3.cell? ⟨C, 5, none⟩ = some (.slice AA an Ac) := (HB.out.next HX.out).cell 0 rfl 5 rfl
    have k6 : w3.cell? ⟨C, 6, none⟩ = some (.slice BA bn Bc) := (HB.out.next HX.out).cell 0 rfl 6 rfl
    go_wp2_with fail
    refine HEN.out.mono ?_
    clear HEN k0 k1 k2 k3 k4 k5 k6
    rintro e w4 ⟨v, rfl, hv, hO⟩
    obtain ⟨VA0, vc, rfl, _⟩ := hv.form
    rw [HOW.out.2.1] at hv hO ⊢
    obtain ⟨VA, u0, rfl, _, _⟩ := Rs.at hv (i := 0) (by rw [HOW.out.2.1]; exact hP1)
    replace HX := Lib.hid (HX.out.trans hO.ext)
    have HV := Lib.hid hv
    clear hv hO
    have hpc := cPieces_any d gl gs _ w4 (Rs.ext (Rs.ext RI.ext) _ _ _ _ (HB.out.ext.trans HX.out) HG.out)
    rw [show Cd.pieces d gs gl = (P : Int) by rw [Cd.pieces_ok HC.out, ← Cd.rowsOf_len HC.out, HPT.out.1]] at hpc
    have HPC2 := Lib.hid hpc
    have hp0 : ((P : Int) == 0) = false := by rw [beq_eq_false_iff_ne]; omega
    have hpp : ((P : Int) != (P : Int)) = false := by simp
    clear hpc
    have k0 : w4.cell? ⟨C, 0, none⟩ = some (.int .i64 d) := (HB.out.next HX.out).cell 0 rfl 0 rfl
    have k1 : w4.cell? ⟨C, 1, none⟩ = some (.slice GA ng Gc) := (HB.out.next HX.out).cell 0 rfl 1 rfl
    have k2 : w4.cell? ⟨C, 2, none⟩ = some (.int .i64 gl) := (HB.out.next HX.out).cell 0 rfl 2 rfl
    have k3 : w4.cell? ⟨C, 3, none⟩ = some (.string (sb data)) := (HB.out.next HX.out).cell 0 rfl 3 rfl
    have k4 : w4.cell? ⟨C, 4, none⟩ = some (.int .i64 M) := (HB.out.next HX.out).cell 0 rfl 4 rfl
    have k5 : w4.cell? ⟨C, 5, none⟩ = some (.slice AA an Ac) := (HB.out.next HX.out).cell 0 rfl 5 rfl
    have k6 : w4.cell? ⟨C, 6, none⟩ = some (.slice BA bn Bc) := (HB.out.next HX.out).cell 0 rfl 6 rfl
    go_wp2_with fail
    refine HPC2.out.mono ?_
    clear HPC2 k0 k1 k2 k3 k4 k5 k6
    rintro e w5 ⟨rfl, hx⟩
    replace HX := Lib.hid (HX.out.trans hx)
    replace HV := Lib.hid (Rs.ext RS.ext _ _ _ _ hx HV.out)
    clear hx
    have hO0 : Owns w5 (w5.alloc (.cells #[] 9)) [⟨.slice (some ⟨w5.heap.size, 0, none⟩) 0 0, 9, 1, 0, []⟩] := (Owns.start w5 (L := [no]) (by intro r hr; simp at hr; subst hr; exact ⟨rfl, rfl, rfl⟩)).new 0 #[] 9 (by simp [maxLen])
    have hnews : ∀ (j : Nat) (u : Value), (own.map sv)[j]? = some u → (w5.alloc (.cells #[] 9)).cell? (VA.add j) = some u := fun j u hj => by
      rw [List.getElem?_map] at hj
      obtain ⟨x, hx, rfl⟩ := Option.map_eq_some_iff.1 hj
      obtain ⟨hjl, rfl⟩ := List.getElem?_eq_some_iff.1 hx
      obtain ⟨ad, u, e, hc, hu⟩ := HV.out.at (i := j) hjl
      injection e with e
      subst e
      have hu : u = sv _ := hu
      subst hu
      exact hO0.ext.cell hc
    have hone : ∀ u ∈ own.map sv, u.oneCell' = true := by intro u hu; obtain ⟨b, _, rfl⟩ := List.mem_map.1 hu; rfl
    have HNW := Lib.hid (And.intro hnews hone)
    have HO0 := Lib.hid hO0
    clear hnews hone hO0
    go_wp2_with (refine wpl_append_all 34 9 rfl (.tmp 73) (.tmp 74) rfl Tryd.underlying34 info_str rfl HO0.out 0 rfl rfl rfl ((List.length_map _).trans HOW.out.2.1) HNW.out.1 HNW.out.2 (by omega) (by omega) (by decide) ?_; intro g1 c1 w6 hO3 _; have h1 : Owns w5 w6 [⟨.slice (some ⟨g1, 0, none⟩) P c1, 9, 1, P, own.map sv⟩] := (by simpa using hO3); clear hO3)
    have HL0 := Lib.hid h1
    clear h1 HO0 HNW
    go_loopw [9, 10] (fun v9 _ wr => ∃ k : Nat, k ≤ an ∧ v9 = .int .i64 (k : Nat) ∧ Hid (∃ l : List (List UInt8), Owns w5 wr [⟨.slice (some ⟨g1, 0, none⟩) P c1, 9, 1, P, l.map sv⟩] ∧ l.length = P ∧ ∀ i, i < P → (l.getD i []).length = sz)) (fun v9 _ _ => an - (intOf v9).toNat)
    case atStart => exact ⟨0, Nat.zero_le _, rfl, Lib.hid ⟨own, HL0.out, HOW.out.2.1, HOW.out.2.2.1⟩⟩
    case round =>
      obtain ⟨k, hk, rfl, HI⟩ := hrel
      obtain ⟨l, hOl, hll, hls⟩ := HI.out
      have HL := Lib.hid (And.intro hOl (And.intro hll hls))
      have HXr := Lib.hid (HX.out.trans hOl.ext)
      clear hOl hll hls HI
      have k0 : wr.cell? ⟨C, 0, none⟩ = some (.int .i64 d) := (HB.out.next HXr.out).cell 0 rfl 0 rfl
      have k1 : wr.cell? ⟨C, 1, none⟩ = some (.slice GA ng Gc) := (HB.out.next HXr.out).cell 0 rfl 1 rfl
      have k2 : wr.cell? ⟨C, 2, none⟩ = some (.int .i64 gl) := (HB.out.next HXr.out).cell 0 rfl 2 rfl
      have k3 : wr.cell? ⟨C, 3, none⟩ = some (.string (sb data)) := (HB.out.next HXr.out).cell 0 rfl 3 rfl
      have k4 : wr.cell? ⟨C, 4, none⟩ = some (.int .i64 M) := (HB.out.next HXr.out).cell 0 rfl 4 rfl
      have k5 : wr.cell? ⟨C, 5, none⟩ = some (.slice AA an Ac) := (HB.out.next HXr.out).cell 0 rfl 5 rfl
      have k6 : wr.cell? ⟨C, 6, none⟩ = some (.slice BA bn Bc) := (HB.out.next HXr.out).cell 0 rfl 6 rfl
      by_cases hka : k < an
      · by_cases hkb : k < bn
        · obtain ⟨aad, u, rfl, hca, hu⟩ := (Rs.ext RB.ext _ _ _ _ (HB.out.ext.trans HXr.out) HA.out.1).at (i := k) (by rw [HNG.out.2.1]; exact hka)
          have hu' : u = bv (ats[k]'(by rw [HNG.out.2.1]; exact hka)) := hu
          subst hu'
          clear hu
          obtain ⟨q, hq⟩ : ∃ q, (ats[k]'(by rw [HNG.out.2.1]; exact hka)).toNat = q := ⟨_, rfl⟩
          have hq256 : q < 256 := by rw [← hq]; exact UInt8.toNat_lt _
          unfold bv at hca
          rw [hq] at hca
          obtain ⟨bad, u, rfl, hcb, hu⟩ := (Rs.ext RS.ext _ _ _ _ (HB.out.ext.trans HXr.out) HA.out.2).at (i := k) (by rw [HNG.out.2.2]; exact hkb)
          have hu' : u = sv (bys[k]'(by rw [HNG.out.2.2]; exact hkb)) := hu
          subst hu'
          obtain ⟨p, hp⟩ : ∃ p, bys[k]'(by rw [HNG.out.2.2]; exact hkb) = p := ⟨_, rfl⟩
          rw [hp] at hcb
          clear hu hq hp
          obtain ⟨r, hr⟩ : ∃ r, q % P = r := ⟨_, rfl⟩
          have hrP : r < P := by rw [← hr]; exact Nat.mod_lt _ (by omega)
          have hP2 : ((P : Int) == 0) = false := by rw [beq_eq_false_iff_ne]; omega
          have hP3 : ¬ (P : Int) = 0 := by omega
          have hcv : IntKind.i64.wrap (q : Int) = (q : Int) := by rw [IntKind.wrap_i64]; omega
          have ht : Int.tmod (q : Int) (P : Int) = (r : Int) := by rw [Int.tmod_eq_emod_of_nonneg (by omega), ← hr]; omega
          have hcl : wr.cell? ⟨g1, r, none⟩ = some (sv (l.getD r [])) := HL.out.1.cell 0 rfl r (by rw [List.getElem?_map, List.getD_eq_getElem?_getD, List.getElem?_eq_getElem (by rw [HL.out.2.1]; exact hrP)]; rfl)
          have hfl : wr.frozen? ⟨g1, r, none⟩ = false := HL.out.1.frozen 0 rfl r
          have hlr := HL.out.2.2 r hrP
          obtain ⟨lr, hlr2⟩ : ∃ lr, l.getD r [] = lr := ⟨_, rfl⟩
          rw [hlr2] at hcl hlr
          clear hr hlr2
          by_cases hpl : p.length = sz
          · have hne : ((p.length : Int) != (lr.length : Int)) = false := by rw [hpl, hlr]; simp
            have HPL := Lib.hid hpl
            clear hpl hlr
            go_wp2_with fail
            go_quiet (fail)
            go_wp2_with fail
            go_roundw
            case rel => exact ⟨k + 1, by omega, by go_num, Lib.hid ⟨l.set r p, by rw [List.map_set]; exact (HL.out.1.drewN _).store 0 rfl r (sv p), by rw [List.length_set]; exact HL.out.2.1, getD_set_len HL.out.2.1 HL.out.2.2 HPL.out⟩⟩
            case measure => simp [intOf]; omega
          · have hne : ((p.length : Int) != (lr.length : Int)) = true := by rw [hlr, bne_iff_ne]; omega
            clear hpl hlr
            go_wp2_with fail
            go_quiet (fail)
            go_wp2_with fail
            go_ret3
            exact ⟨false, _, 0, rfl, (HB.out.ext.trans HXr.out).drewN _, fun _ => ⟨rfl, rfl⟩, fun h => (by cases h)⟩
        · have hkb2 : ¬ (k : Int) < (bn : Int) := by omega
          go_wp2_with fail
          go_loopw [11, 12] (fun v11 v12 wr => ∃ j : Nat, j ≤ P ∧ v12 = .int .i64 (j : Nat) ∧ v11 = .int .i64 (Lo.chTo M l own j : Nat) ∧ Hid (Owns w5 wr [⟨.slice (some ⟨g1, 0, none⟩) P c1, 9, 1, P, l.map sv⟩])) (fun _ v12 _ => P - (intOf v12).toNat)
          case atStart => exact ⟨0, Nat.zero_le _, rfl, by rw [Lo.chTo_zero]; rfl, Lib.hid HL.out.1⟩
          case round =>
            obtain ⟨j, hj, rfl, rfl, HI⟩ := hrel
            have HXs := Lib.hid (HX.out.trans HI.out.ext)
            have hclt := Lo.chTo_lt (m := M) (l := l) (own := own) j
            by_cases hjP : j < P
            · have k4 : wr.cell? ⟨C, 4, none⟩ = some (.int .i64 M) := (HB.out.next HXs.out).cell 0 rfl 4 rfl
              have hM14 : M < 16384 := Nat.lt_of_lt_of_le HM.out (show 2 ^ P ≤ 2 ^ 14 from Nat.pow_le_pow_right (by decide) hP14)
              have hmm : bits .and .i64 ((M : Int) / 2 ^ j) 1 = ((Cd.bitAt M j : Nat) : Int) := by
                have hle : M / 2 ^ j ≤ M := Nat.div_le_self _ _
                have := odd64 (M / 2 ^ j) (by omega)
                rw [Cd.bitAt, ← this]
                simp
              have hjl : j < l.length := by rw [HL.out.2.1]; exact hjP
              have hjo : j < own.length := by rw [HOW.out.2.1]; exact hjP
              obtain ⟨vad, u, hve, hco, hu⟩ := (Rs.ext RS.ext _ _ _ _ HI.out.ext HV.out).at (i := j) hjo
              injection hve with hve
              subst hve
              have hu' : u = sv (own[j]'hjo) := hu
              subst hu'
              have hcl : wr.cell? ⟨g1, j, none⟩ = some (sv (l.getD j [])) := HI.out.cell 0 rfl j (by rw [List.getElem?_map, List.getD_eq_getElem?_getD, List.getElem?_eq_getElem hjl]; rfl)
              have hog : own.getD j [] = own[j]'hjo := by rw [List.getD_eq_getElem?_getD, List.getElem?_eq_getElem hjo]; rfl
              rw [← hog] at hco
              clear hog hu
              obtain ⟨c, hc⟩ : ∃ c, Lo.chTo M l own j = c := ⟨_, rfl⟩
              rw [hc] at hclt ⊢
              obtain ⟨p2, hp2⟩ : ∃ p2, 2 ^ j = p2 := ⟨_, rfl⟩
              have hp14 : p2 ≤ 16384 := by rw [← hp2]; exact (show 2 ^ j ≤ 2 ^ 14 from Nat.pow_le_pow_right (by decide) (by omega))
              rw [hp2] at hclt
              have hw2 : wrap64 (2 ^ j) = (p2 : Int) := by have h := wrap_pow j (by omega); rw [h, ← hp2]
              obtain ⟨lp, hlp⟩ : ∃ p, l.getD j [] = p := ⟨_, rfl⟩
              obtain ⟨op, hop⟩ : ∃ p, own.getD j [] = p := ⟨_, rfl⟩
              rw [hlp] at hcl
              rw [hop] at hco
              by_cases hbt : Cd.bitAt M j = 1
              · rw [hbt] at hmm
                by_cases heq : lp = op
                · have hs := sb_same heq
                  have HN := Lib.hid (Lo.chTo_no (m := M) (k := j) (l := l) (own := own) (.inr (by rw [hlp, hop]; exact heq)))
                  have HCC := Lib.hid hc
                  have HBB := Lib.hid hmm
                  clear hc hlp hop heq hbt hw2 hp2 hmm
                  go_upto_region 19 with fail
                  refine wp_atEnd' (sq_same wr C M j P g1 c1 vc VA lp op k4 hjP hP14 HBB hcl hco hs _ _ _ _ _ _ _ _ _ _ _ _ _ _ _ _ _ _ _ _ _ _ _ _ _ _ _ _ _ _ _ _ _ _ _ _ _ _ _ _ _ _ _ _ _ _ _ _ _ _ _ _ _ _ _ _ _ _ _ _ _ _ _ _ _ _ _ _ _ _ _ _ _ _ _ _ _ _ _ _ _ _ _ _ _ _ _ _ _ _ _ _ _ _ _ _ _ _ _ _ _ _ _ _ _ _ _ _ _ _ _ _ _ _ _ _ _ _ _ _ _ _ _ _ _ _ _ _ _ _ _ _ _ _ _ _ _ _ _ _ _ _ _ _ _ _ ?_)
                  rintro u125 u126 u127 u128 u129 u130 u131 u132 u133 u134 u135 u136 u137 u138 u139 u140 wy hx
                  have HY := Lib.hid hx
                  clear hx k4 hcl hco hs
                  go_wp2_with fail
                  go_roundw
                  case rel => exact ⟨j + 1, by omega, by go_num, by rw [HN.out, HCC.out], Lib.hid (HI.out.next HY.out)⟩
                  case measure => simp [intOf]; omega
                · have hs := sb_other heq
                  have HN := Lib.hid (Lo.chTo_yes (m := M) (k := j) (l := l) (own := own) hbt (by rw [hlp, hop]; exact heq))
                  have HCC := Lib.hid (And.intro hc hp2)
                  have HBB := Lib.hid hmm
                  have hcw := wrap_small c p2 (Nat.lt_of_lt_of_le hclt (Nat.le_trans hp14 (by decide))) (Nat.lt_of_le_of_lt hp14 (by decide))
                  obtain ⟨z, hz⟩ : ∃ z, c + p2 = z := ⟨_, rfl⟩
                  rw [hz] at hcw
                  have HZ := Lib.hid hz
                  clear hc hlp hop heq hbt hp2 hmm hz
                  go_upto_region 19 with fail
                  refine wp_atEnd' (sq_other wr C M j P g1 c1 vc VA lp op k4 hjP hP14 HBB hcl hco hs _ _ _ _ _ _ _ _ _ _ _ _ _ _ _ _ _ _ _ _ _ _ _ _ _ _ _ _ _ _ _ _ _ _ _ _ _ _ _ _ _ _ _ _ _ _ _ _ _ _ _ _ _ _ _ _ _ _ _ _ _ _ _ _ _ _ _ _ _ _ _ _ _ _ _ _ _ _ _ _ _ _ _ _ _ _ _ _ _ _ _ _ _ _ _ _ _ _ _ _ _ _ _ _ _ _ _ _ _ _ _ _ _ _ _ _ _ _ _ _ _ _ _ _ _ _ _ _ _ _ _ _ _ _ _ _ _ _ _ _ _ _ _ _ _ _ ?_)
                  rintro u125 u126 u127 u128 u129 u130 u131 u132 u133 u134 u135 u136 u137 u138 u139 u140 wy hx
                  have HY := Lib.hid hx
                  clear hx k4 hcl hco hs
                  have HCW := Lib.hid hcw
                  go_wp2_with fail
                  clear hw2 hcw
                  go_roundw
                  case rel => exact ⟨j + 1, by omega, by go_num, by rw [HN.out, HCC.out.1, HCC.out.2, HZ.out, HCW.out], Lib.hid (HI.out.next HY.out)⟩
                  case measure => simp [intOf]; omega
              · have hb0 : Cd.bitAt M j = 0 := by have := Lo.bit_two M j; omega
                rw [hb0] at hmm
                have HN := Lib.hid (Lo.chTo_no (m := M) (k := j) (l := l) (own := own) (.inl hbt))
                have HCC := Lib.hid hc
                have HBB := Lib.hid hmm
                clear hc hlp hop hbt hw2 hp2 hmm hb0 hcl hco
                go_upto_region 19 with fail
                refine wp_atEnd' (sq_no wr C M j P g1 c1 vc VA k4 hjP hP14 HBB _ _ _ _ _ _ _ _ _ _ _ _ _ _ _ _ _ _ _ _ _ _ _ _ _ _ _ _ _ _ _ _ _ _ _ _ _ _ _ _ _ _ _ _ _ _ _ _ _ _ _ _ _ _ _ _ _ _ _ _ _ _ _ _ _ _ _ _ _ _ _ _ _ _ _ _ _ _ _ _ _ _ _ _ _ _ _ _ _ _ _ _ _ _ _ _ _ _ _ _ _ _ _ _ _ _ _ _ _ _ _ _ _ _ _ _ _ _ _ _ _ _ _ _ _ _ _ _ _ _ _ _ _ _ _ _ _ _ _ _ _ _ _ _ _ _ ?_)
                rintro u125 u126 u127 u128 u129 u130 u131 u132 u133 u134 u135 u136 u137 u138 u139 u140 wy hx
                have HY := Lib.hid hx
                clear hx k4
                go_wp2_with fail
                go_roundw
                case rel => exact ⟨j + 1, by omega, by go_num, by rw [HN.out, HCC.out], Lib.hid (HI.out.next HY.out)⟩
                case measure => simp [intOf]; omega
            · obtain rfl : j = P := by omega
              have hrs : Rs RS wr (.slice (some ⟨g1, 0, none⟩) j c1) l := by
                have := Rs.of_rdS (c := c1) (HI.out.rd 0 rfl) (by rw [HL.out.2.1]; omega)
                rw [HL.out.2.1] at this
                exact this
              have hsp := Lo.chTo_spoilt HC.out (show data.length ≤ 4096 by omega) HPT.out.1 HM.out HL.out.2.1 (by rw [HOW.out.2.2.2]; exact HL.out.2.2)
              rw [HOW.out.1] at hsp
              have HRS := Lib.hid (And.intro hrs hsp)
              obtain ⟨c, hc⟩ : ∃ c, Lo.chTo M l own j = c := ⟨_, rfl⟩
              rw [hc] at HRS ⊢
              clear hc hrs hsp hclt
              go_wp2_with fail
              go_ret3
              refine ⟨true, _, c, rfl, HB.out.ext.trans HXs.out, fun h => (by cases h), fun _ => ⟨M, l, rfl, HRS.out.1, HRS.out.2, by rw [HPT.out.1]; exact hP14, hdl60, fun p hp => ?_⟩⟩
              obtain ⟨i, hi, rfl⟩ := List.getElem_of_mem hp
              have h2 := HL.out.2.2 i (by rw [← HL.out.2.1]; exact hi)
              rw [List.getD_eq_getElem?_getD, List.getElem?_eq_getElem hi] at h2
              have h3 : sz ≤ 4096 := by rw [← HOW.out.2.2.2]; exact sizeN_small4 (by omega)
              exact Nat.le_trans (Nat.le_of_eq h2) h3
      · have hka2 : ¬ (k : Int) < (an : Int) := by omega
        go_wp2_with fail
        go_loopw [11, 12] (fun v11 v12 wr => ∃ j : Nat, j ≤ P ∧ v12 = .int .i64 (j : Nat) ∧ v11 = .int .i64 (Lo.chTo M l own j : Nat) ∧ Hid (Owns w5 wr [⟨.slice (some ⟨g1, 0, none⟩) P c1, 9, 1, P, l.map sv⟩])) (fun _ v12 _ => P - (intOf v12).toNat)
        case atStart => exact ⟨0, Nat.zero_le _, rfl, by rw [Lo.chTo_zero]; rfl, Lib.hid HL.out.1⟩
        case round =>
          obtain ⟨j, hj, rfl, rfl, HI⟩ := hrel
          have HXs := Lib.hid (HX.out.trans HI.out.ext)
          have hclt := Lo.chTo_lt (m := M) (l := l) (own := own) j
          by_cases hjP : j < P
          · have k4 : wr.cell? ⟨C, 4, none⟩ = some (.int .i64 M) := (HB.out.next HXs.out).cell 0 rfl 4 rfl
            have hM14 : M < 16384 := Nat.lt_of_lt_of_le HM.out (show 2 ^ P ≤ 2 ^ 14 from Nat.pow_le_pow_right (by decide) hP14)
            have hmm : bits .and .i64 ((M : Int) / 2 ^ j) 1 = ((Cd.bitAt M j : Nat) : Int) := by
              have hle : M / 2 ^ j ≤ M := Nat.div_le_self _ _
              have := odd64 (M / 2 ^ j) (by omega)
              rw [Cd.bitAt, ← this]
              simp
            have hjl : j < l.length := by rw [HL.out.2.1]; exact hjP
            have hjo : j < own.length := by rw [HOW.out.2.1]; exact hjP
            obtain ⟨vad, u, hve, hco, hu⟩ := (Rs.ext RS.ext _ _ _ _ HI.out.ext HV.out).at (i := j) hjo
            injection hve with hve
            subst hve
            have hu' : u = sv (own[j]'hjo) := hu
            subst hu'
            have hcl : wr.cell? ⟨g1, j, none⟩ = some (sv (l.getD j [])) := HI.out.cell 0 rfl j (by rw [List.getElem?_map, List.getD_eq_getElem?_getD, List.getElem?_eq_getElem hjl]; rfl)
            have hog : own.getD j [] = own[j]'hjo := by rw [List.getD_eq_getElem?_getD, List.getElem?_eq_getElem hjo]; rfl
            rw [← hog] at hco
            clear hog hu
            obtain ⟨c, hc⟩ : ∃ c, Lo.chTo M l own j = c := ⟨_, rfl⟩
            rw [hc] at hclt ⊢
            obtain ⟨p2, hp2⟩ : ∃ p2, 2 ^ j = p2 := ⟨_, rfl⟩
            have hp14 : p2 ≤ 16384 := by rw [← hp2]; exact (show 2 ^ j ≤ 2 ^ 14 from Nat.pow_le_pow_right (by decide) (by omega))
            rw [hp2] at hclt
            have hw2 : wrap64 (2 ^ j) = (p2 : Int) := by have h := wrap_pow j (by omega); rw [h, ← hp2]
            obtain ⟨lp, hlp⟩ : ∃ p, l.getD j [] = p := ⟨_, rfl⟩
            obtain ⟨op, hop⟩ : ∃ p, own.getD j [] = p := ⟨_, rfl⟩
            rw [hlp] at hcl
            rw [hop] at hco
            by_cases hbt : Cd.bitAt M j = 1
            · rw [hbt] at hmm
              by_cases heq : lp = op
              · have hs := sb_same heq
                have HN := Lib.hid (Lo.chTo_no (m := M) (k := j) (l := l) (own := own) (.inr (by rw [hlp, hop]; exact heq)))
                have HCC := Lib.hid hc
                have HBB := Lib.hid hmm
                clear hc hlp hop heq hbt hw2 hp2 hmm
                go_upto_region 19 with fail
                refine wp_atEnd' (sq_same wr C M j P g1 c1 vc VA lp op k4 hjP hP14 HBB hcl hco hs _ _ _ _ _ _ _ _ _ _ _ _ _ _ _ _ _ _ _ _ _ _ _ _ _ _ _ _ _ _ _ _ _ _ _ _ _ _ _ _ _ _ _ _ _ _ _ _ _ _ _ _ _ _ _ _ _ _ _ _ _ _ _ _ _ _ _ _ _ _ _ _ _ _ _ _ _ _ _ _ _ _ _ _ _ _ _ _ _ _ _ _ _ _ _ _ _ _ _ _ _ _ _ _ _ _ _ _ _ _ _ _ _ _ _ _ _ _ _ _ _ _ _ _ _ _ _ _ _ _ _ _ _ _ _ _ _ _ _ _ _ _ _ _ _ _ ?_)
                rintro u125 u126 u127 u128 u129 u130 u131 u132 u133 u134 u135 u136 u137 u138 u139 u140 wy hx
                have HY := Lib.hid hx
                clear hx k4 hcl hco hs
                go_wp2_with fail
                go_roundw
                case rel => exact ⟨j + 1, by omega, by go_num, by rw [HN.out, HCC.out], Lib.hid (HI.out.next HY.out)⟩
                case measure => simp [intOf]; omega
              · have hs := sb_other heq
                have HN := Lib.hid (Lo.chTo_yes (m := M) (k := j) (l := l) (own := own) hbt (by rw [hlp, hop]; exact heq))
                have HCC := Lib.hid (And.intro hc hp2)
                have HBB := Lib.hid hmm
                have hcw := wrap_small c p2 (Nat.lt_of_lt_of_le hclt (Nat.le_trans hp14 (by decide))) (Nat.lt_of_le_of_lt hp14 (by decide))
                obtain ⟨z, hz⟩ : ∃ z, c + p2 = z := ⟨_, rfl⟩
                rw [hz] at hcw
                have HZ := Lib.hid hz
                clear hc hlp hop heq hbt hp2 hmm hz
                go_upto_region 19 with fail
                refine wp_atEnd' (sq_other wr C M j P g1 c1 vc VA lp op k4 hjP hP14 HBB hcl hco hs _ _ _ _ _ _ _ _ _ _ _ _ _ _ _ _ _ _ _ _ _ _ _ _ _ _ _ _ _ _ _ _ _ _ _ _ _ _ _ _ _ _ _ _ _ _ _ _ _ _ _ _ _ _ _ _ _ _ _ _ _ _ _ _ _ _ _ _ _ _ _ _ _ _ _ _ _ _ _ _ _ _ _ _ _ _ _ _ _ _ _ _ _ _ _ _ _ _ _ _ _ _ _ _ _ _ _ _ _ _ _ _ _ _ _ _ _ _ _ _ _ _ _ _ _ _ _ _ _ _ _ _ _ _ _ _ _ _ _ _ _ _ _ _ _ _ ?_)
                rintro u125 u126 u127 u128 u129 u130 u131 u132 u133 u134 u135 u136 u137 u138 u139 u140 wy hx
                have HY := Lib.hid hx
                clear hx k4 hcl hco hs
                have HCW := Lib.hid hcw
                go_wp2_with fail
                clear hw2 hcw
                go_roundw
                case rel => exact ⟨j + 1, by omega, by go_num, by rw [HN.out, HCC.out.1, HCC.out.2, HZ.out, HCW.out], Lib.hid (HI.out.next HY.out)⟩
                case measure => simp [intOf]; omega
            · have hb0 : Cd.bitAt M j = 0 := by have := Lo.bit_two M j; omega
              rw [hb0] at hmm
              have HN := Lib.hid (Lo.chTo_no (m := M) (k := j) (l := l) (own := own) (.inl hbt))
              have HCC := Lib.hid hc
              have HBB := Lib.hid hmm
              clear hc hlp hop hbt hw2 hp2 hmm hb0 hcl hco
              go_upto_region 19 with fail
              refine wp_atEnd' (sq_no wr C M j P g1 c1 vc VA k4 hjP hP14 HBB _ _ _ _ _ _ _ _ _ _ _ _ _ _ _ _ _ _ _ _ _ _ _ _ _ _ _ _ _ _ _ _ _ _ _ _ _ _ _ _ _ _ _ _ _ _ _ _ _ _ _ _ _ _ _ _ _ _ _ _ _ _ _ _ _ _ _ _ _ _ _ _ _ _ _ _ _ _ _ _ _ _ _ _ _ _ _ _ _ _ _ _ _ _ _ _ _ _ _ _ _ _ _ _ _ _ _ _ _ _ _ _ _ _ _ _ _ _ _ _ _ _ _ _ _ _ _ _ _ _ _ _ _ _ _ _ _ _ _ _ _ _ _ _ _ _ ?_)
              rintro u125 u126 u127 u128 u129 u130 u131 u132 u133 u134 u135 u136 u137 u138 u139 u140 wy hx
              have HY := Lib.hid hx
              clear hx k4
              go_wp2_with fail
              go_roundw
              case rel => exact ⟨j + 1, by omega, by go_num, by rw [HN.out, HCC.out], Lib.hid (HI.out.next HY.out)⟩
              case measure => simp [intOf]; omega
          · obtain rfl : j = P := by omega
            have hrs : Rs RS wr (.slice (some ⟨g1, 0, none⟩) j c1) l := by
              have := Rs.of_rdS (c := c1) (HI.out.rd 0 rfl) (by rw [HL.out.2.1]; omega)
              rw [HL.out.2.1] at this
              exact this
            have hsp := Lo.chTo_spoilt HC.out (show data.length ≤ 4096 by omega) HPT.out.1 HM.out HL.out.2.1 (by rw [HOW.out.2.2.2]; exact HL.out.2.2)
            rw [HOW.out.1] at hsp
            have HRS := Lib.hid (And.intro hrs hsp)
            obtain ⟨c, hc⟩ : ∃ c, Lo.chTo M l own j = c := ⟨_, rfl⟩
            rw [hc] at HRS ⊢
            clear hc hrs hsp hclt
            go_wp2_with fail
            go_ret3
            refine ⟨true, _, c, rfl, HB.out.ext.trans HXs.out, fun h => (by cases h), fun _ => ⟨M, l, rfl, HRS.out.1, HRS.out.2, by rw [HPT.out.1]; exact hP14, hdl60, fun p hp => ?_⟩⟩
            obtain ⟨i, hi, rfl⟩ := List.getElem_of_mem hp
            have h2 := HL.out.2.2 i (by rw [← HL.out.2.1]; exact hi)
            rw [List.getD_eq_getElem?_getD, List.getElem?_eq_getElem hi] at h2
            have h3 : sz ≤ 4096 := by rw [← HOW.out.2.2.2]; exact sizeN_small4 (by omega)
            exact Nat.le_trans (Nat.le_of_eq h2) h3
end Go.Proofs.YtggfkpalkdkbdaaDoor

/- WHAT LocateNeeds SAYS, in plain terms. No program in sight. -/
namespace Lo
open Cd
theorem and_bit (a b i : Nat) : bitAt (a &&& b) i = 1 ↔ bitAt a i = 1 ∧ bitAt b i = 1 := by
  have h1 : ∀ x, bitAt x i = 1 ↔ x.testBit i = true := fun x => by
    rw [Nat.testBit_eq_decide_div_mod_eq, decide_eq_true_iff]
    exact Iff.rfl
  rw [h1, h1, h1, Nat.testBit_and, Bool.and_eq_true]
end Lo

/- THE SPECIFICATION'S CHECK of codes, in plain terms: it is the program's. -/
namespace Cd
/-- Is a number in one of the first g groups? -/
def prevHas (gs : List (List Int)) (g : Nat) (x : Int) : Bool := (List.range g).any fun h => decide (x ∈ gs.getD h [])
def refBad (d : Int) (gs : List (List Int)) (g k : Nat) : Bool :=
  decide ((gs.getD g []).getD k 0 < 0) || decide (d ≤ (gs.getD g []).getD k 0) || (decide (0 < k) && decide ((gs.getD g []).getD k 0 ≤ (gs.getD g []).getD (k - 1) 0)) || prevHas gs g ((gs.getD g []).getD k 0)
/-- The error of one group. -/
def refGroup (d : Int) (gs : List (List Int)) (g : Nat) : Int :=
  if gs.getD g [] = [] then 8 else if (List.range (gs.getD g []).length).any (refBad d gs g) then 1 else 0
attribute [irreducible] refGroup refBad prevHas
end Cd

/- THE WALKS over the specification of codes: row, Rows, part. -/
namespace Cd
open Gf
/-- A coefficient of a piece's row. -/
def rowAt (d : Nat) (gs : List (List Int)) (k i : Nat) : UInt8 := if k < d then unitAt k i else if k < d + gs.length then inAt (setOf 0 (gs.getD (k - d) [])) i else gloAt (k - d - gs.length) i
attribute [irreducible] rowAt
end Cd
namespace Go.Proofs.YtggfkpalkdkbdaaDoor
open Go.RowKit
theorem Rd.range {w : World} {A : Option Addr} {d : Nat} {g : Nat → UInt8} {l : List UInt8} (h : Rd w A (((List.range d).map g).map bv)) (hl : (List.range d).map g = l) : Rd w A (l.map bv) := hl ▸ h

end Go.Proofs.YtggfkpalkdkbdaaDoor

/- THE WALKS over the specification of codes: Rows, part, Encode, SameRows, SameTexts, Few. -/
namespace Cd
end Cd
namespace Go.Proofs.YtggfkpalkdkbdaaDoor
open Go.RowKit
/-- A row of bytes that a call has made. -/
def byteRow (A : Option Addr) (c : Nat) (r : List UInt8) : LRow := ⟨.slice A r.length c, 5, 1, r.length, r.map bv⟩
/-- Rows of bytes that a call has made, and the list of them. -/
def RowsOwn (w0 w : World) (A : Option Addr) (n c : Nat) (rs : List (List UInt8)) : Prop :=
  ∃ L : List LRow, n = rs.length ∧ L.length = rs.length ∧ (∀ (j : Nat) (r : List UInt8), rs[j]? = some r → ∃ A2 c2, L[j]? = some (byteRow A2 c2 r)) ∧ Owns w0 w (⟨.slice A n c, 48, 1, n, L.map (·.v)⟩ :: L)
/-- The same with one row more, that is not in the list yet. -/
def RowsMore (w0 w : World) (A : Option Addr) (n c : Nat) (rs : List (List UInt8)) (A2 : Option Addr) (c2 : Nat) (r : List UInt8) : Prop :=
  ∃ L : List LRow, n = rs.length ∧ L.length = rs.length ∧ (∀ (j : Nat) (r : List UInt8), rs[j]? = some r → ∃ A2 c2, L[j]? = some (byteRow A2 c2 r)) ∧ Owns w0 w ((⟨.slice A n c, 48, 1, n, L.map (·.v)⟩ :: L) ++ [byteRow A2 c2 r])
theorem RowsOwn.nil (w : World) : RowsOwn w w none 0 0 [] := ⟨[], rfl, rfl, fun j r h => by simp at h, Owns.start w (by intro r hr; simp at hr; subst hr; exact ⟨rfl, rfl, rfl⟩)⟩
theorem RowsOwn.next {w0 w w' : World} {A : Option Addr} {n c : Nat} {rs : List (List UInt8)} (h : RowsOwn w0 w A n c rs) (hx : Ext w w') : RowsOwn w0 w' A n c rs := by
  obtain ⟨L, h1, h2, h3, h4⟩ := h
  exact ⟨L, h1, h2, h3, h4.next hx⟩
theorem RowsOwn.ext {w0 w : World} {A : Option Addr} {n c : Nat} {rs : List (List UInt8)} (h : RowsOwn w0 w A n c rs) : Ext w0 w := by
  obtain ⟨L, h1, h2, h3, h4⟩ := h
  exact h4.ext
theorem RowsOwn.older {w wb wr : World} {A : Option Addr} {n c : Nat} {rs : List (List UInt8)} (h : RowsOwn wb wr A n c rs) (hx : Ext w wb) : RowsOwn w wr A n c rs := by
  obtain ⟨L, h1, h2, h3, h4⟩ := h
  exact ⟨L, h1, h2, h3, h4.older hx⟩
theorem RowsOwn.more {w0 w w2 : World} {A A2 : Option Addr} {n c c2 : Nat} {rs : List (List UInt8)} {r : List UInt8} (h : RowsOwn w0 w A n c rs) (hx : Ext w w2) (ho : w2.ownsRow w.heap.size 5 1 (.slice A2 r.length c2) r.length (r.map bv)) : RowsMore w0 w2 A n c rs A2 c2 r := by
  obtain ⟨L, h1, h2, h3, h4⟩ := h
  exact ⟨L, h1, h2, h3, h4.behind hx ho⟩
theorem RowsOwn.rs {w0 w : World} {A : Option Addr} {n c : Nat} {rs : List (List UInt8)} (h : RowsOwn w0 w A n c rs) (hl : rs.length ≤ 9223372036854775807) (hw : ∀ r ∈ rs, r.length ≤ 9223372036854775807) : Rs (Rs RB) w (.slice A n c) rs := by
  obtain ⟨L, rfl, h2, h3, h4⟩ := h
  refine ⟨A, c, rfl, hl, fun i r hi => ?_⟩
  obtain ⟨A2, c2, hL⟩ := h3 i r hi
  have hv : (L.map (·.v))[i]? = some (.slice A2 r.length c2) := by rw [List.getElem?_map, hL]; rfl
  obtain ⟨ad, e1, _, e3⟩ := h4.rd 0 rfl i _ hv
  exact ⟨ad, _, e1, e3, Rs.of_rd (h4.rd (i + 1) (n := r.length) hL) (hw r (List.mem_of_getElem? hi))⟩
end Go.Proofs.YtggfkpalkdkbdaaDoor

/- THE WALKS over the specification of codes: SameRows, SameTexts, Few. -/
namespace Cd
/-- At most n groups of at most 20 elements. -/
def few (gs : List (List Int)) (n : Nat) : Bool := decide (gs.length ≤ n) && gs.all fun g => decide (g.length ≤ 20)
end Cd
namespace Go.Proofs.YtggfkpalkdkbdaaDoor
open Go.RowKit
end Go.Proofs.YtggfkpalkdkbdaaDoor

/- THE WALK over the specification of codes: Rank. -/
namespace Go.Proofs.YtggfkpalkdkbdaaDoor
open Go.RowKit
/-- Values that are rows of bytes of a call's own. -/
def RowsIn (vs : List Value) (L : List LRow) (rs : List (List UInt8)) : Prop := vs.length = rs.length ∧ ∀ (j : Nat) (r : List UInt8), rs[j]? = some r → ∃ A2 c2, vs[j]? = some (.slice A2 r.length c2) ∧ byteRow A2 c2 r ∈ L
theorem RowsIn.nil (L : List LRow) : RowsIn [] L [] := ⟨rfl, fun j r h => by simp at h⟩
theorem RowsIn.mono {vs : List Value} {L M : List LRow} {rs : List (List UInt8)} (h : RowsIn vs L rs) (hm : ∀ x ∈ L, x ∈ M) : RowsIn vs M rs :=
  ⟨h.1, fun j r hj => by
    obtain ⟨A2, c2, h1, h2⟩ := h.2 j r hj
    exact ⟨A2, c2, h1, hm _ h2⟩⟩
theorem RowsIn.rs {w0 w : World} {M : List LRow} (hO : Owns w0 w M) {i n c : Nat} {A : Option Addr} {vs : List Value} {rs : List (List UInt8)} (hi : M[i]? = some ⟨.slice A n c, 48, 1, n, vs⟩) (h : RowsIn vs M rs) (hl : rs.length ≤ 9223372036854775807) (hw : ∀ r ∈ rs, r.length ≤ 9223372036854775807) : Rs (Rs RB) w (.slice A n c) rs := by
  have h1 : vs.length = n * 1 := (hO.row i hi).1
  have hn : n = rs.length := by rw [← h.1]; omega
  subst hn
  refine ⟨A, c, rfl, hl, fun j r hj => ?_⟩
  obtain ⟨A2, c2, e1, e2⟩ := h.2 j r hj
  obtain ⟨ad, a1, _, a3⟩ := hO.rd i hi j _ e1
  obtain ⟨k, hk, e3⟩ := List.getElem_of_mem e2
  have e4 : M[k]? = some (byteRow A2 c2 r) := by rw [List.getElem?_eq_getElem hk, e3]
  exact ⟨ad, _, a1, a3, Rs.of_rd (hO.rd k (n := r.length) e4) (hw r (List.mem_of_getElem? hj))⟩
end Go.Proofs.YtggfkpalkdkbdaaDoor

/- DISTANCE of the specification, in plain terms: it is the program's. -/
namespace Cd
open Gf
/-- The least loss that is not recoverable, of the first k sets. -/
def distTo (P : Nat) (f : Nat → Bool) : Nat → Nat
  | 0 => P
  | k + 1 => if P - Ones.cnt k < distTo P f k ∧ f k = false then P - Ones.cnt k else distTo P f k
/-- D is the least loss that is not recoverable. -/
structure IsDist (P : Nat) (f : Nat → Bool) (n D : Nat) : Prop where
  le : D ≤ P
  least : ∀ m, m < n → f m = false → D ≤ P - Ones.cnt m
  hit : D = P ∨ ∃ m, m < n ∧ f m = false ∧ D = P - Ones.cnt m
theorem IsDist.one {P n D E : Nat} {f : Nat → Bool} (h : IsDist P f n D) (k : IsDist P f n E) : D = E := by
  have h1 : D ≤ E := by
    rcases k.hit with e | ⟨m, m1, m2, e⟩
    · rw [e]; exact h.le
    · rw [e]; exact h.least m m1 m2
  have h2 : E ≤ D := by
    rcases h.hit with e | ⟨m, m1, m2, e⟩
    · rw [e]; exact k.le
    · rw [e]; exact k.least m m1 m2
  omega
attribute [irreducible] distTo
end Cd

/- THE PLAIN LAW behind LocateNeeds; detB in terms of Suff. -/
namespace Lo
open Gf Cd
section
variable {d gl : Int} {gs : List (List Int)} {P : Nat}
theorem can_none (h : check d gs gl = 0) : can d gl gs 0 = false := by
  have hk := check_ok h
  have h1 : ¬ can d gl gs ((0 : Nat) : Int) = true := by
    rw [can_def]
    rintro ⟨_, _, h2⟩
    have h3 : pick (rowsOf d gs gl) 0 = [] := by
      unfold pick pickTo
      rw [List.filterMap_eq_nil_iff]
      intro i _
      rw [if_neg (by simp [bitAt])]
    rw [h3] at h2
    unfold Gf.stairs at h2
    simp at h2
    omega
  cases hc : can d gl gs 0 with
  | false => rfl
  | true => exact absurd hc h1
theorem chk_fine (h : check d gs gl = 0) (hP : (rowsOf d gs gl).length = P) {M : Nat} (hM : M < 2 ^ P) : chkE d gl gs (M : Int) = 0 := chkE_fine h (by rw [hP]; omega)
theorem det_suff (h : check d gs gl = 0) (hP : (rowsOf d gs gl).length = P) (hP14 : P ≤ 14) {M k : Nat} (hM : M < 2 ^ P) (hk : k ≤ 4) : detE d gl gs (M : Int) (k : Int) = 0 ∧ (detB d gl gs (M : Int) (k : Int) = true ↔ Suff (fun t => can d gl gs (t : Int)) M k) := by
  have hr := det_ok (chk_fine h hP hM) (wrong := (k : Int)) (by omega)
  rw [Int.toNat_natCast, Int.toNat_natCast, hP] at hr
  refine ⟨hr.2, ?_⟩
  rw [hr.1]
  exact suff_iff hM (by omega) (can_none h) k
theorem cor_suff (h : check d gs gl = 0) (hP : (rowsOf d gs gl).length = P) (hP14 : P ≤ 14) {M k : Nat} (hM : M < 2 ^ P) (hk : k ≤ 2) : corE d gl gs (M : Int) (k : Int) = 0 ∧ (corB d gl gs (M : Int) (k : Int) = true ↔ Suff (fun t => can d gl gs (t : Int)) M (2 * k)) := by
  have hr := cor_ok (chk_fine h hP hM) (wrong := (k : Int)) (by omega)
  rw [Int.toNat_natCast, Int.toNat_natCast, hP] at hr
  refine ⟨hr.2, ?_⟩
  rw [hr.1]
  exact suff_iff hM (by omega) (can_none h) (2 * k)
end
end Lo

/- THE WALK over LocateNotices. -/
namespace Lo
open Gf Cd
section
variable {d gl : Int} {gs : List (List Int)} {data : List UInt8} {m c : Nat} {pieces : List (List UInt8)}
theorem Spoilt.giv (h : Spoilt d gl gs data m pieces c) : givE d gl gs (data.length : Int) (m : Int) pieces = 0 := by
  have h1 := h.few
  have h2 := h.lt
  refine givE_fine (chkE_fine h.ok (by omega)) (by rw [h.len]; omega) ?_
  rw [Int.toNat_natCast, Int.toNat_natCast]
  exact badLen_not fun k hk _ => h.size k (by rw [← h.len]; exact hk)
theorem Spoilt.fit (h : Spoilt d gl gs data m pieces c) : fitB d gl gs (data.length : Int) (m : Int) pieces = true ↔ FitsSet d gl gs (sizeN d.toNat data.length) pieces m := by
  rw [fitB_ok h.giv, Int.toNat_natCast]
  exact agree_set h.ok fun k hk _ => h.size k hk
/-- Few wrong pieces are noticed. -/
theorem Spoilt.noticed (h : Spoilt d gl gs data m pieces c) (hc : c ≠ 0) (hS : Suff (fun t => can d gl gs (t : Int)) m (num c)) : fitB d gl gs (data.length : Int) (m : Int) pieces = false ∧ decE d gl gs (data.length : Int) (m : Int) pieces = 14 := by
  have h1 := hS c h.sub (Nat.le_refl _)
  have h2 := hS 0 (fun i hi => by simp [bitAt] at hi) (by rw [num_zero]; exact Nat.zero_le _)
  rw [Nat.sub_zero] at h2
  refine ⟨?_, h.corrupt hc h1 h2⟩
  cases hf : fitB d gl gs (data.length : Int) (m : Int) pieces with
  | false => rfl
  | true => exact absurd (h.fit.1 hf) (h.notice hc h1)
end
end Lo
namespace Go.Proofs.YtggfkpalkdkbdaaDoor
open Go.RowKit
set_option maxHeartbeats 16000000 in
set_option maxRecDepth 100000 in
theorem law_notices (d gl m : Int) (gs : List (List Int)) (data ats : List UInt8) (bys : List (List UInt8)) (G AV BV : Value) (w : World) (hT : Tab w) (hG : Rs (Rs RI) w G gs) (hA : Rs RB w AV ats) (hBy : Rs RS w BV bys) (hgl : gs.length ≤ 4611686018427387904) (hdl : data.length ≤ 9223372036854775807) :
    Calls Tryd.prog 6 #[.agg #[.int .i64 d, G, .int .i64 gl, .string (sb data), .int .i64 m, AV, BV]] w fun e w' => e = .returned (.bool true) ∧ Ext w w' := by
  have HGN := Lib.hid (And.intro hgl hdl)
  obtain ⟨GA, Gc, rfl, _⟩ := hG.form
  obtain ⟨ng, hng⟩ : ∃ ng, gs.length = ng := ⟨_, rfl⟩
  rw [hng] at hG ⊢
  obtain ⟨AA, Ac, rfl, han63⟩ := hA.form
  obtain ⟨an, han⟩ : ∃ an, ats.length = an := ⟨_, rfl⟩
  rw [han] at hA han63 ⊢
  obtain ⟨BA, Bc, rfl, hbn63⟩ := hBy.form
  obtain ⟨bn, hbn⟩ : ∃ bn, bys.length = bn := ⟨_, rfl⟩
  rw [hbn] at hBy hbn63 ⊢
  have hB : Owns w (w.alloc (.cells #[.int .i64 d, .slice GA ng Gc, .int .i64 gl, .string (sb data), .int .i64 m, .slice AA an Ac, .slice BA bn Bc] 50)) [⟨.slice (some ⟨w.heap.size, 0, none⟩) 7 7, 50, 1, 7, [.int .i64 d, .slice GA ng Gc, .int .i64 gl, .string (sb data), .int .i64 m, .slice AA an Ac, .slice BA bn Bc]⟩] := (Owns.start w (L := [no]) (by intro r hr; simp at hr; subst hr; exact ⟨rfl, rfl, rfl⟩)).new 0 #[.int .i64 d, .slice GA ng Gc, .int .i64 gl, .string (sb data), .int .i64 m, .slice AA an Ac, .slice BA bn Bc] 50 (by simp [maxLen])
  have HG := Lib.hid hG
  have HB := Lib.hid hB
  have HT := Lib.hid (hT.ext HB.out.ext)
  have HA := Lib.hid (And.intro (Rs.ext RB.ext _ _ _ _ HB.out.ext hA) (Rs.ext RS.ext _ _ _ _ HB.out.ext hBy))
  clear hG hB hng hT hA hBy han hbn hgl hdl
  go_enter Tryd.func6, Tryd.ntmps6
  go_upto_region 1 with fail
  obtain ⟨C, hC⟩ : ∃ C, w.heap.size = C := ⟨_, rfl⟩
  rw [hC] at HB ⊢
  obtain ⟨w1, hw1⟩ : ∃ x, w.alloc (.cells #[.int .i64 d, .slice GA ng Gc, .int .i64 gl, .string (sb data), .int .i64 m, .slice AA an Ac, .slice BA bn Bc] 50) = x := ⟨_, rfl⟩
  rw [hw1] at HB HT HA ⊢
  clear hw1 hC
  have HX := Lib.hid (Ext.refl w1)
  have HSA := Lib.hid (sanity9_any w1 HT.out)
  go_wp2_with fail
  refine HSA.out.mono ?_
  clear HSA
  rintro e w2 ⟨rfl, hx⟩
  replace HX := Lib.hid (HX.out.trans hx)
  clear hx
  have HSP := Lib.hid (lSpoil_any d gl m gs data ats bys _ _ _ w2 (HT.out.ext HX.out) (Rs.ext (Rs.ext RI.ext) _ _ _ _ (HB.out.ext.trans HX.out) HG.out) (Rs.ext RB.ext _ _ _ _ HX.out HA.out.1) (Rs.ext RS.ext _ _ _ _ HX.out HA.out.2) HGN.out.1 HGN.out.2)
  have k0 : w2.cell? ⟨C, 0, none⟩ = some (.int .i64 d) := (HB.out.next HX.out).cell 0 rfl 0 rfl
  have k1 : w2.cell? ⟨C, 1, none⟩ = some (.slice GA ng Gc) := (HB.out.next HX.out).cell 0 rfl 1 rfl
  have k2 : w2.cell? ⟨C, 2, none⟩ = some (.int .i64 gl) := (HB.out.next HX.out).cell 0 rfl 2 rfl
  have k3 : w2.cell? ⟨C, 3, none⟩ = some (.string (sb data)) := (HB.out.next HX.out).cell 0 rfl 3 rfl
  have k4 : w2.cell? ⟨C, 4, none⟩ = some (.int .i64 m) := (HB.out.next HX.out).cell 0 rfl 4 rfl
  have k5 : w2.cell? ⟨C, 5, none⟩ = some (.slice AA an Ac) := (HB.out.next HX.out).cell 0 rfl 5 rfl
  have k6 : w2.cell? ⟨C, 6, none⟩ = some (.slice BA bn Bc) := (HB.out.next HX.out).cell 0 rfl 6 rfl
  go_wp2_with fail
  refine HSP.out.mono ?_
  clear HSP k0 k1 k2 k3 k4 k5 k6
  rintro e w3 ⟨b, V, c, rfl, hx, hno, hyes⟩
  replace HX := Lib.hid (HX.out.trans hx)
  clear hx
  have HNO := Lib.hid hno
  have HY := Lib.hid hyes
  clear hno hyes
  cases b with
  | false =>
    obtain ⟨rfl, rfl⟩ := HNO.out (by trivial)
    have HCT := Lib.hid (lCount_any 0 w3 (by decide))
    rw [Lo.num_zero] at HCT
    go_wp2_with fail
    refine HCT.out.mono ?_
    clear HCT
    rintro e w' ⟨rfl, rfl⟩
    go_wp2_with fail
    go_ret
    exact ⟨rfl, HB.out.ext.trans HX.out⟩
  | true =>
    obtain ⟨M, l, rfl, hl, hsp, hP14, hd60, hlp⟩ := HY.out (by trivial)
    obtain ⟨P, hP⟩ : ∃ P, (Cd.rowsOf d gs gl).length = P := ⟨_, rfl⟩
    have hM := hsp.lt
    have hln := hsp.len
    have hcm := hsp.sub
    have hcl := Nat.lt_of_le_of_lt (Lo.sub_le hcm) hM
    rw [hP] at hP14 hM hln hcl
    have h24 : 2 ^ P ≤ 16384 := (show 2 ^ P ≤ 2 ^ 14 from Nat.pow_le_pow_right (by decide) hP14)
    have hc14 : c < 16384 := by omega
    have hM14 : M < 16384 := by omega
    obtain ⟨VA, vc, rfl, _⟩ := hl.form
    rw [hln] at hl ⊢
    have HLN := Lib.hid hln
    have HL := Lib.hid hl
    have HX3 := Lib.hid (Ext.refl w3)
    have HSP := Lib.hid hsp
    have HP := Lib.hid (And.intro hP (And.intro hM hP14))
    have HLP := Lib.hid hlp
    have hd4 : (data.length : Int) ≤ 60 := by omega
    have hN14 : Cd.check d gs gl = 0 → (Cd.rowsOf d gs gl).length ≤ 14 := fun _ => by rw [HP.out.1]; exact HP.out.2.2
    have HN := Lib.hid hN14
    have HG0 := Lib.hid (Lo.Spoilt.giv hsp)
    clear hl hsp hP hM hcm hcl h24 hlp hln hN14
    have HCT := Lib.hid (lCount_any c w3 hc14)
    obtain ⟨nm, hnm⟩ : ∃ nm, Lo.num c = nm := ⟨_, rfl⟩
    rw [hnm] at HCT
    have HNM := Lib.hid hnm
    clear hnm
    go_wp2_with fail
    refine HCT.out.mono ?_
    clear HCT
    rintro e w' ⟨rfl, rfl⟩
    by_cases hn0 : nm = 0
    · have e0 : ((nm : Int) == 0) = true := by rw [hn0]; rfl
      clear hn0
      go_wp2_with fail
      go_ret
      exact ⟨rfl, HB.out.ext.trans HX.out⟩
    · have e0 : ((nm : Int) == 0) = false := by rw [beq_eq_false_iff_ne]; omega
      by_cases hn4 : (4 : Int) < (nm : Int)
      · clear hn0
        go_wp2_with fail
        go_ret
        exact ⟨rfl, HB.out.ext.trans HX.out⟩
      · have hde := Lo.det_suff HSP.out.ok HP.out.1 HP.out.2.2 HP.out.2.1 (k := nm) (by omega)
        obtain ⟨b2, hb2⟩ : ∃ b, Lo.detB d gl gs (M : Int) (nm : Int) = b := ⟨_, rfl⟩
        have hcd := lDetects_any d gl gs M nm _ w3 (HT.out.ext HX.out) (Rs.ext (Rs.ext RI.ext) _ _ _ _ (HB.out.ext.trans HX.out) HG.out) HN.out
        rw [hb2, hde.1] at hcd
        rw [hb2] at hde
        have HCD := Lib.hid hcd
        have HDE := Lib.hid hde.2
        have HN0 := Lib.hid hn0
        clear hcd hde hb2 hn0
        have k0 : w3.cell? ⟨C, 0, none⟩ = some (.int .i64 d) := (HB.out.next HX.out).cell 0 rfl 0 rfl
        have k1 : w3.cell? ⟨C, 1, none⟩ = some (.slice GA ng Gc) := (HB.out.next HX.out).cell 0 rfl 1 rfl
        have k2 : w3.cell? ⟨C, 2, none⟩ = some (.int .i64 gl) := (HB.out.next HX.out).cell 0 rfl 2 rfl
        have k3 : w3.cell? ⟨C, 3, none⟩ = some (.string (sb data)) := (HB.out.next HX.out).cell 0 rfl 3 rfl
        have k4 : w3.cell? ⟨C, 4, none⟩ = some (.int .i64 M) := (HB.out.next HX.out).cell 0 rfl 4 rfl
        have k5 : w3.cell? ⟨C, 5, none⟩ = some (.slice AA an Ac) := (HB.out.next HX.out).cell 0 rfl 5 rfl
        have k6 : w3.cell? ⟨C, 6, none⟩ = some (.slice BA bn Bc) := (HB.out.next HX.out).cell 0 rfl 6 rfl
        go_wp2_with fail
        refine HCD.out.mono ?_
        clear HCD k0 k1 k2 k3 k4 k5 k6
        rintro e w4 ⟨rfl, hx⟩
        replace HX := Lib.hid (HX.out.trans hx)
        replace HX3 := Lib.hid (HX3.out.trans hx)
        clear hx
        cases b2 with
        | false =>
          go_wp2_with fail
          go_ret
          exact ⟨rfl, HB.out.ext.trans HX.out⟩
        | true =>
          have hnt := HSP.out.noticed (fun h0 => HN0.out (by rw [← HNM.out, h0]; exact Lo.num_zero)) (by rw [HNM.out]; exact HDE.out.1 rfl)
          have hft := lFits_any d gl data.length M gs l _ VA vc w4 (HT.out.ext HX.out) (Rs.ext (Rs.ext RI.ext) _ _ _ _ (HB.out.ext.trans HX.out) HG.out) (by rw [HLN.out]; exact Rs.ext RS.ext _ _ _ _ HX3.out HL.out)
          rw [hnt.1, HG0.out, HLN.out] at hft
          have HFT := Lib.hid hft
          have HNT := Lib.hid hnt.2
          clear hnt hft
          have k0 : w4.cell? ⟨C, 0, none⟩ = some (.int .i64 d) := (HB.out.next HX.out).cell 0 rfl 0 rfl
          have k1 : w4.cell? ⟨C, 1, none⟩ = some (.slice GA ng Gc) := (HB.out.next HX.out).cell 0 rfl 1 rfl
          have k2 : w4.cell? ⟨C, 2, none⟩ = some (.int .i64 gl) := (HB.out.next HX.out).cell 0 rfl 2 rfl
          have k3 : w4.cell? ⟨C, 3, none⟩ = some (.string (sb data)) := (HB.out.next HX.out).cell 0 rfl 3 rfl
          have k4 : w4.cell? ⟨C, 4, none⟩ = some (.int .i64 M) := (HB.out.next HX.out).cell 0 rfl 4 rfl
          have k5 : w4.cell? ⟨C, 5, none⟩ = some (.slice AA an Ac) := (HB.out.next HX.out).cell 0 rfl 5 rfl
          have k6 : w4.cell? ⟨C, 6, none⟩ = some (.slice BA bn Bc) := (HB.out.next HX.out).cell 0 rfl 6 rfl
          go_wp2_with fail
          refine HFT.out.mono ?_
          clear HFT k0 k1 k2 k3 k4 k5 k6
          rintro e w5 ⟨rfl, hx⟩
          replace HX := Lib.hid (HX.out.trans hx)
          replace HX3 := Lib.hid (HX3.out.trans hx)
          clear hx
          have hdc := cDecode_any d gl data.length M gs l _ VA vc w5 (HT.out.ext HX.out) (Rs.ext (Rs.ext RI.ext) _ _ _ _ (HB.out.ext.trans HX.out) HG.out) (by rw [HLN.out]; exact Rs.ext RS.ext _ _ _ _ HX3.out HL.out) (fun p hp => by have := HLP.out p hp; omega)
          rw [HNT.out, HLN.out] at hdc
          have HDC := Lib.hid hdc
          clear hdc
          have k0 : w5.cell? ⟨C, 0, none⟩ = some (.int .i64 d) := (HB.out.next HX.out).cell 0 rfl 0 rfl
          have k1 : w5.cell? ⟨C, 1, none⟩ = some (.slice GA ng Gc) := (HB.out.next HX.out).cell 0 rfl 1 rfl
          have k2 : w5.cell? ⟨C, 2, none⟩ = some (.int .i64 gl) := (HB.out.next HX.out).cell 0 rfl 2 rfl
          have k3 : w5.cell? ⟨C, 3, none⟩ = some (.string (sb data)) := (HB.out.next HX.out).cell 0 rfl 3 rfl
          have k4 : w5.cell? ⟨C, 4, none⟩ = some (.int .i64 M) := (HB.out.next HX.out).cell 0 rfl 4 rfl
          have k5 : w5.cell? ⟨C, 5, none⟩ = some (.slice AA an Ac) := (HB.out.next HX.out).cell 0 rfl 5 rfl
          have k6 : w5.cell? ⟨C, 6, none⟩ = some (.slice BA bn Bc) := (HB.out.next HX.out).cell 0 rfl 6 rfl
          go_wp2_with fail
          refine HDC.out.mono ?_
          clear HDC k0 k1 k2 k3 k4 k5 k6
          rintro e w6 ⟨rfl, hx⟩
          replace HX := Lib.hid (HX.out.trans hx)
          replace HX3 := Lib.hid (HX3.out.trans hx)
          clear hx
          go_wp2_with fail
          go_ret
          exact ⟨rfl, HB.out.ext.trans HX.out⟩
end Go.Proofs.YtggfkpalkdkbdaaDoor

/- ARGUMENTS that are codes read as such. -/
namespace Go.Proofs.YtggfkpalkdkbdaaDoor
open Go.ChangeShapes Go.WideShapes Go.ChangeAt Go.RowKit Go.ChangeMaps Go.Deep
variable {H : Type} {enc : TypeId × Value → H} {W : World} {base : Nat}
theorem list_getD {l : List Int} {k : Nat} (h : k < l.length) : l.getD k 0 = l[k] := by rw [List.getD_eq_getElem?_getD, List.getElem?_eq_getElem h]; rfl
theorem read_rows {fuel : Nat} {v : Value} {x : DataW H × List MemPlace} (h : DataW.trod enc Tryd.prog W base (fun _ => true) true fuel 22 [v] = some x) : ∃ l, Rs (Rs RI) W v l := by
  rcases open_int_rows Tryd.underlying22 Tryd.underlying63 Tryd.underlying3 (by kernel_rfl) (by kernel_rfl) h with ⟨hcs, _⟩ | ⟨a, len, cap, A, L, C, Z, hcs, _, hl, hm, _, hx⟩
  · injection hcs with hcs _
    subst hcs
    exact ⟨[], none, 0, rfl, by simp, fun i x h => by simp at h⟩
  · injection hcs with hcs _
    subst hcs
    refine ⟨(List.range len).map fun r => (Z r).take (L r), some a, cap, by simp, by simp; unfold maxLen at hm; omega, fun i y hi => ?_⟩
    have hi1 : i < len := by have := (List.getElem?_eq_some_iff.1 hi).1; simpa using this
    have e : y = (Z i).take (L i) := by
      have := (List.getElem?_eq_some_iff.1 hi).2
      rw [← this]; simp
    subst e
    obtain ⟨h1, h2, h3, h4, h5, h6, h7⟩ := hx i (by omega)
    refine ⟨a, _, rfl, h1, A i, C i, ?_, ?_, fun k z hk => ?_⟩
    · rw [List.length_take]; congr 1; omega
    · rw [List.length_take]; unfold maxLen at h3; omega
    · have hk1 : k < ((Z i).take (L i)).length := (List.getElem?_eq_some_iff.1 hk).1
      have hk2 : k < (Z i).length := by rw [List.length_take] at hk1; omega
      have hk3 : k < C i := by omega
      have e : z = (Z i)[k] := by
        have := (List.getElem?_eq_some_iff.1 hk).2
        rw [← this, List.getElem_take]
      subst e
      have hb := bounds_i64 (h5 _ (List.getElem_mem hk2))
      cases hA : A i with
      | none => have := h6 hA; omega
      | some b =>
        have h8 := (h7 b hA).2 k hk3
        rw [list_getD hk2] at h8
        exact ⟨b, _, rfl, h8, rfl, by omega, by omega⟩
theorem cellsCode : Tryd.prog.cellsOf 24 = 3 := by kernel_rfl
theorem cellsRows : Tryd.prog.cellsOf 22 = 1 := by kernel_rfl
theorem cellsInt : Tryd.prog.cellsOf 3 = 1 := by kernel_rfl
end Go.Proofs.YtggfkpalkdkbdaaDoor

/- THE FORM's OWN REACH, for slices of bytes and of strings that were opened by open_bytes, open_strs. -/
namespace Go.Proofs.YtggfkpalkdkbdaaDoor
open Go.RowKit Go.ChangeShapes Go.WideShapes Go.ChangeAt
variable {H : Type} {enc : TypeId × Value → H} {P : Program}
theorem sized_part {ts : List TypeId} {ds : List (DataW H)} (h : (DataW.weightsEach P ts ds).all (· ≤ reachBytes) = true) {j : Nat} {t : TypeId} {d : DataW H} (ht : ts[j]? = some t) (hd : ds[j]? = some d) : ∀ n ∈ d.weights P t, n ≤ reachBytes := fun n hn => by
  have := List.all_eq_true.1 h n (DataW.weights_mem_each ht hd n hn)
  simpa using this
end Go.Proofs.YtggfkpalkdkbdaaDoor

/- ARGUMENTS of law 09: cases. -/
namespace Go.Proofs.YtggfkpalkdkbdaaDoor
open Go.ChangeShapes Go.WideShapes Go.ChangeAt Go.RowKit Go.ChangeMaps Go.Deep
variable {H : Type} {enc : TypeId × Value → H} {W : World} {base : Nat}
theorem bytesInts : Tryd.prog.bytesOf 63 = 24 := by kernel_rfl
/-- The form's own reach, for a list of lists. -/
theorem sized_rows {fuel : Nat} {v : Value} {x : DataW H × List MemPlace} (h : DataW.trod enc Tryd.prog W base (fun _ => true) true fuel 22 [v] = some x) (hw : ∀ n ∈ x.1.weights Tryd.prog 22, n ≤ reachBytes) {l : List (List Int)} (hl : Rs (Rs RI) W v l) : l.length ≤ 4611686018427387904 := by
  obtain ⟨A, c, rfl, _⟩ := hl.form
  rcases open_int_rows Tryd.underlying22 Tryd.underlying63 Tryd.underlying3 (by kernel_rfl) (by kernel_rfl) h with ⟨hcs, _⟩ | ⟨a, len, cap, A', L, C, Z, hcs, _, _, hm, hx, _⟩
  · injection hcs with hcs _
    injection hcs with _ h2 _
    omega
  · injection hcs with hcs _
    injection hcs with _ h2 _
    subst hx
    have := hw ((len + (cap - len)) * 24) (by simp only [DataW.weights, Tryd.underlying22, bytesInts, List.length_map, List.length_range, List.mem_cons, true_or])
    unfold reachBytes at this
    omega
theorem array7 {α : Type} {cs : Array α} (h : cs.size = 7) : ∃ c0 c1 c2 c3 c4 c5 c6, cs = #[c0, c1, c2, c3, c4, c5, c6] := by
  obtain ⟨l⟩ := cs
  match l, h with
  | [c0, c1, c2, c3, c4, c5, c6], _ => exact ⟨c0, c1, c2, c3, c4, c5, c6, rfl⟩
theorem cellsU8s : Tryd.prog.cellsOf 48 = 1 := by kernel_rfl
theorem cellsStrs : Tryd.prog.cellsOf 34 = 1 := by kernel_rfl
theorem cellsStr : Tryd.prog.cellsOf 9 = 1 := by kernel_rfl
set_option maxRecDepth 100000 in
/-- A code, with the number of its groups. -/
theorem trod_code {m : Nat} {c0 c1 c2 : Value} {y : DataW H × List MemPlace} (hf : DataW.trod enc Tryd.prog W base (fun _ => true) true m 24 [c0, c1, c2] = some y) (hw : ∀ n ∈ y.1.weights Tryd.prog 24, n ≤ reachBytes) :
    ∃ (a0 a2 : Int) (gs : List (List Int)), c0 = .int .i64 a0 ∧ c2 = .int .i64 a2 ∧ Rs (Rs RI) W c1 gs ∧ gs.length ≤ 4611686018427387904 := by
  obtain ⟨zs, m, _, hy, _, hlen2, hz⟩ := DataW.trod_struct Tryd.underlying24 hf
  obtain ⟨z0, z1, z2, rfl⟩ : ∃ z0 z1 z2, zs = [z0, z1, z2] := by
    match zs, hlen2 with
    | [z0, z1, z2], _ => exact ⟨z0, z1, z2, rfl⟩
  subst hy
  have g0 : DataW.trod enc Tryd.prog W base (fun _ => true) true m 3 [c0] = some z0 := by
    have := hz 0 _ rfl
    simpa [Value.cells, cellsInt] using this
  have g1 : DataW.trod enc Tryd.prog W base (fun _ => true) true m 22 [c1] = some z1 := by
    have := hz 1 _ rfl
    simpa [Value.cells, cellsRows] using this
  have g2 : DataW.trod enc Tryd.prog W base (fun _ => true) true m 3 [c2] = some z2 := by
    have := hz 2 _ rfl
    simpa [Value.cells, cellsInt] using this
  obtain ⟨gs, h1⟩ := read_rows g1
  obtain ⟨a0, ha0, _, w0⟩ := DataW.trod_int Tryd.underlying3 g0
  obtain ⟨a2, ha2, _, w2⟩ := DataW.trod_int Tryd.underlying3 g2
  injection ha0 with ha0 _
  injection ha2 with ha2 _
  refine ⟨a0, a2, gs, ha0, ha2, h1, sized_rows g1 (fun n hn => hw n ?_) h1⟩
  simp only [DataW.weights, Tryd.underlying24]
  exact DataW.weights_mem_each (j := 1) rfl rfl n hn
theorem small_u8 {n : Int} (h : (Lit.int .u8 n).wf = true) : ∃ k : Nat, n = k ∧ k < 256 := by
  have hb : 0 ≤ n ∧ n ≤ 255 := by simpa [Lit.wf, IntKind.min, IntKind.max, IntKind.signed, IntKind.bits] using h
  exact ⟨n.toNat, by omega, by omega⟩
theorem cellsByte : Tryd.prog.cellsOf 5 = 1 := by kernel_rfl
theorem read_bytes {fuel : Nat} {v : Value} {x : DataW H × List MemPlace} (h : DataW.trod enc Tryd.prog W base (fun _ => true) true fuel 48 [v] = some x) : ∃ l, Rs RB W v l := by
  rcases open_ints Tryd.underlying48 Tryd.underlying5 cellsByte h with ⟨hcs, _⟩ | ⟨a, len, cap, zs, hcs, _, hl, hm, hz, _, hcell, hwz⟩
  · injection hcs with hcs _
    subst hcs
    exact ⟨[], none, 0, rfl, by simp, fun i x h => by simp at h⟩
  · injection hcs with hcs _
    subst hcs
    rw [if_pos rfl] at hz
    have hll : (zs.take len).length = len := by rw [List.length_take]; omega
    refine ⟨(zs.take len).map fun z => UInt8.ofNat z.toNat, some a, cap, by rw [List.length_map, hll], by rw [List.length_map, hll]; unfold maxLen at hm; omega, fun i y hi => ?_⟩
    rw [List.getElem?_map] at hi
    cases hg : (zs.take len)[i]? with
    | none => rw [hg] at hi; cases hi
    | some z =>
      rw [hg] at hi
      have hi1 : i < (zs.take len).length := (List.getElem?_eq_some_iff.1 hg).1
      have hi2 : i < zs.length := by rw [List.length_take] at hi1; omega
      have h1 := hcell i (by omega)
      rw [list_getD hi2] at h1
      have e : z = zs[i] := by
        have := (List.getElem?_eq_some_iff.1 hg).2
        rw [← this, List.getElem_take]
      have hb := bounds_u8 (hwz _ (List.getElem_mem hi2))
      rw [← e] at h1 hb
      refine ⟨a, _, rfl, h1, ?_⟩
      injection hi with hi
      subst hi
      show Value.int .u8 z = bv (UInt8.ofNat z.toNat)
      unfold bv
      congr 1
      simp
      omega
theorem read_strs {fuel : Nat} {v : Value} {x : DataW H × List MemPlace} (h : DataW.trod enc Tryd.prog W base (fun _ => true) true fuel 34 [v] = some x) :
    ∃ (A : Option Addr) (c : Nat) (l : List (List UInt8)), v = .slice A l.length c ∧ l.length ≤ maxLen ∧ (∀ p ∈ l, p.length ≤ maxLen) ∧ Rd W A (l.map fun p => .string (sb p)) := by
  have hc : Tryd.prog.cellsOf 9 = 1 := by kernel_rfl
  rcases open_strings Tryd.underlying34 Tryd.underlying9 hc h with ⟨hcs, _⟩ | ⟨a, len, cap, ss, hcs, _, hl, hm, hz, _, hcell, hwz⟩
  · injection hcs with hcs _
    subst hcs
    exact ⟨none, 0, [], rfl, by simp, by simp, Rd.nil _ _⟩
  · injection hcs with hcs _
    subst hcs
    rw [if_pos rfl] at hz
    have hll : (ss.take len).length = len := by rw [List.length_take]; omega
    refine ⟨some a, cap, (ss.take len).map bl, by rw [List.length_map, hll], by rw [List.length_map, hll]; omega, ?_, ?_⟩
    · intro p hp
      rw [List.mem_map] at hp
      obtain ⟨s, hs, rfl⟩ := hp
      rw [← size_bl]
      exact hwz s (List.mem_of_mem_take hs)
    · intro k x hx
      have hk : k < len := by
        rcases Nat.lt_or_ge k len with h | h
        · exact h
        · rw [List.getElem?_eq_none (by simp; omega)] at hx; cases hx
      have h1 := hcell k (by omega)
      have e : x = .string (ss.getD k ByteArray.empty) := by
        rw [List.getElem?_map, List.getElem?_map, List.getElem?_take, if_pos hk, List.getElem?_eq_getElem (by omega)] at hx
        simp only [Option.map_some, Option.some.injEq, sb_bl] at hx
        rw [← hx, List.getD_eq_getElem?_getD, List.getElem?_eq_getElem (by omega)]
        rfl
      rw [e]
      exact ⟨a, rfl, by have := lt_of_cell h1; rwa [block_add] at this, h1⟩
set_option maxRecDepth 100000 in
theorem open_case {b0 : Nat} {v : Value} {d : DataW H} {ps : List MemPlace} (hval : Value.okWide Tryd.prog W .any b0 50 v) (hd : DataW.Trod enc Tryd.prog W base (fun _ => true) true 50 v d ps) (hw : ∀ n ∈ d.weights Tryd.prog 50, n ≤ reachBytes) :
    ∃ (a0 a2 m : Int) (G AV BV : Value) (gs : List (List Int)) (data ats : List UInt8) (bys : List (List UInt8)), v = .agg #[.int .i64 a0, G, .int .i64 a2, .string (sb data), .int .i64 m, AV, BV] ∧ Rs (Rs RI) W G gs ∧ Rs RB W AV ats ∧ Rs RS W BV bys ∧ gs.length ≤ 4611686018427387904 ∧ data.length ≤ 9223372036854775807 := by
  obtain ⟨cs, rfl, hsz⟩ := okWide_struct Tryd.underlying50 hval
  obtain ⟨c0, c1, c2, c3, c4, c5, c6, rfl⟩ := array7 (hsz.trans (by kernel_rfl))
  obtain ⟨fuel, hf⟩ := hd
  obtain ⟨xs, n, _, hxx, hl, hlen, hx⟩ := DataW.trod_struct Tryd.underlying50 hf
  obtain ⟨y0, y1, y2, y3, y4, rfl⟩ : ∃ y0 y1 y2 y3 y4, xs = [y0, y1, y2, y3, y4] := by
    match xs, hlen with
    | [y0, y1, y2, y3, y4], _ => exact ⟨y0, y1, y2, y3, y4, rfl⟩
  injection hxx with hxx _
  subst hxx
  have f0 : DataW.trod enc Tryd.prog W base (fun _ => true) true n 24 [c0, c1, c2] = some y0 := by
    have := hx 0 _ rfl
    simpa [Value.cells, cellsCode] using this
  have f1 : DataW.trod enc Tryd.prog W base (fun _ => true) true n 9 [c3] = some y1 := by
    have := hx 1 _ rfl
    simpa [Value.cells, cellsStr] using this
  have f2 : DataW.trod enc Tryd.prog W base (fun _ => true) true n 3 [c4] = some y2 := by
    have := hx 2 _ rfl
    simpa [Value.cells, cellsInt] using this
  have f3 : DataW.trod enc Tryd.prog W base (fun _ => true) true n 48 [c5] = some y3 := by
    have := hx 3 _ rfl
    simpa [Value.cells, cellsU8s] using this
  have f4 : DataW.trod enc Tryd.prog W base (fun _ => true) true n 34 [c6] = some y4 := by
    have := hx 4 _ rfl
    simpa [Value.cells, cellsStrs] using this
  obtain ⟨a0, a2, gs, rfl, rfl, h1, h2⟩ := trod_code f0 (fun n hn => hw n (by
    simp only [DataW.weights, Tryd.underlying50]
    exact DataW.weights_mem_each (j := 0) rfl rfl n hn))
  obtain ⟨s, hs, _, ws⟩ := DataW.trod_string Tryd.underlying9 f1
  obtain ⟨z2, e2, _, _⟩ := DataW.trod_int Tryd.underlying3 f2
  obtain ⟨ats, h3⟩ := read_bytes f3
  obtain ⟨BA, bc, bys, rfl, hbl, _, h4⟩ := read_strs f4
  injection hs with hs _
  injection e2 with e2 _
  subst hs e2
  refine ⟨a0, a2, z2, c1, c5, _, gs, bl s, ats, bys, by rw [sb_bl], h1, h3, Rs.of_rdS h4 (by unfold maxLen at hbl; omega), h2, ?_⟩
  rw [← size_bl]
  unfold maxLen at ws
  omega
end Go.Proofs.YtggfkpalkdkbdaaDoor

/- THE WALK over LocateCorrects. -/
namespace Go.Proofs.YtggfkpalkdkbdaaDoor
open Go.RowKit
set_option maxHeartbeats 16000000 in
set_option maxRecDepth 100000 in
theorem law_corrects (d gl m : Int) (gs : List (List Int)) (data ats : List UInt8) (bys : List (List UInt8)) (wr_ : Nat) (G AV BV : Value) (w : World) (hT : Tab w) (hG : Rs (Rs RI) w G gs) (hA : Rs RB w AV ats) (hBy : Rs RS w BV bys) (hgl : gs.length ≤ 4611686018427387904) (hdl : data.length ≤ 9223372036854775807) (hwr : wr_ < 256) :
    Calls Tryd.prog 5 #[.agg #[.int .i64 d, G, .int .i64 gl, .string (sb data), .int .i64 m, AV, BV], .int .u8 (wr_ : Nat)] w fun e w' => e = .returned (.bool true) ∧ Ext w w' := by
  have HGN := Lib.hid (And.intro hgl hdl)
  obtain ⟨GA, Gc, rfl, _⟩ := hG.form
  obtain ⟨ng, hng⟩ : ∃ ng, gs.length = ng := ⟨_, rfl⟩
  rw [hng] at hG ⊢
  obtain ⟨AA, Ac, rfl, han63⟩ := hA.form
  obtain ⟨an, han⟩ : ∃ an, ats.length = an := ⟨_, rfl⟩
  rw [han] at hA han63 ⊢
  obtain ⟨BA, Bc, rfl, hbn63⟩ := hBy.form
  obtain ⟨bn, hbn⟩ : ∃ bn, bys.length = bn := ⟨_, rfl⟩
  rw [hbn] at hBy hbn63 ⊢
  have hB : Owns w (w.alloc (.cells #[.int .i64 d, .slice GA ng Gc, .int .i64 gl, .string (sb data), .int .i64 m, .slice AA an Ac, .slice BA bn Bc] 50)) [⟨.slice (some ⟨w.heap.size, 0, none⟩) 7 7, 50, 1, 7, [.int .i64 d, .slice GA ng Gc, .int .i64 gl, .string (sb data), .int .i64 m, .slice AA an Ac, .slice BA bn Bc]⟩] := (Owns.start w (L := [no]) (by intro r hr; simp at hr; subst hr; exact ⟨rfl, rfl, rfl⟩)).new 0 #[.int .i64 d, .slice GA ng Gc, .int .i64 gl, .string (sb data), .int .i64 m, .slice AA an Ac, .slice BA bn Bc] 50 (by simp [maxLen])
  have HG := Lib.hid hG
  have HB := Lib.hid hB
  have HT := Lib.hid (hT.ext HB.out.ext)
  have HA := Lib.hid (And.intro (Rs.ext RB.ext _ _ _ _ HB.out.ext hA) (Rs.ext RS.ext _ _ _ _ HB.out.ext hBy))
  clear hG hB hng hT hA hBy han hbn hgl hdl
  go_enter Tryd.func5, Tryd.ntmps5
  go_upto_region 1 with fail
  obtain ⟨C, hC⟩ : ∃ C, w.heap.size = C := ⟨_, rfl⟩
  rw [hC] at HB ⊢
  obtain ⟨w1, hw1⟩ : ∃ x, w.alloc (.cells #[.int .i64 d, .slice GA ng Gc, .int .i64 gl, .string (sb data), .int .i64 m, .slice AA an Ac, .slice BA bn Bc] 50) = x := ⟨_, rfl⟩
  rw [hw1] at HB HT HA ⊢
  clear hw1 hC
  have HX := Lib.hid (Ext.refl w1)
  have HSA := Lib.hid (sanity9_any w1 HT.out)
  go_wp2_with fail
  refine HSA.out.mono ?_
  clear HSA
  rintro e w2 ⟨rfl, hx⟩
  replace HX := Lib.hid (HX.out.trans hx)
  clear hx
  have HSP := Lib.hid (lSpoil_any d gl m gs data ats bys _ _ _ w2 (HT.out.ext HX.out) (Rs.ext (Rs.ext RI.ext) _ _ _ _ (HB.out.ext.trans HX.out) HG.out) (Rs.ext RB.ext _ _ _ _ HX.out HA.out.1) (Rs.ext RS.ext _ _ _ _ HX.out HA.out.2) HGN.out.1 HGN.out.2)
  have k0 : w2.cell? ⟨C, 0, none⟩ = some (.int .i64 d) := (HB.out.next HX.out).cell 0 rfl 0 rfl
  have k1 : w2.cell? ⟨C, 1, none⟩ = some (.slice GA ng Gc) := (HB.out.next HX.out).cell 0 rfl 1 rfl
  have k2 : w2.cell? ⟨C, 2, none⟩ = some (.int .i64 gl) := (HB.out.next HX.out).cell 0 rfl 2 rfl
  have k3 : w2.cell? ⟨C, 3, none⟩ = some (.string (sb data)) := (HB.out.next HX.out).cell 0 rfl 3 rfl
  have k4 : w2.cell? ⟨C, 4, none⟩ = some (.int .i64 m) := (HB.out.next HX.out).cell 0 rfl 4 rfl
  have k5 : w2.cell? ⟨C, 5, none⟩ = some (.slice AA an Ac) := (HB.out.next HX.out).cell 0 rfl 5 rfl
  have k6 : w2.cell? ⟨C, 6, none⟩ = some (.slice BA bn Bc) := (HB.out.next HX.out).cell 0 rfl 6 rfl
  go_wp2_with fail
  refine HSP.out.mono ?_
  clear HSP k0 k1 k2 k3 k4 k5 k6
  rintro e w3 ⟨b, V, c, rfl, hx, hno, hyes⟩
  replace HX := Lib.hid (HX.out.trans hx)
  clear hx
  have HNO := Lib.hid hno
  have HY := Lib.hid hyes
  clear hno hyes
  obtain ⟨wv, hwv⟩ : ∃ wv, wr_ % 3 = wv := ⟨_, rfl⟩
  have hwv3 : wv ≤ 2 := by omega
  have hws : Int.tmod (wr_ : Int) 3 = (wv : Int) := by rw [Int.tmod_eq_emod_of_nonneg (by omega)]; omega
  clear hwv
  cases b with
  | false =>
    go_wp2_with fail
    go_ret
    exact ⟨rfl, HB.out.ext.trans HX.out⟩
  | true =>
    obtain ⟨M, l, rfl, hl, hsp, hP14, hd60, hlp⟩ := HY.out (by trivial)
    obtain ⟨P, hP⟩ : ∃ P, (Cd.rowsOf d gs gl).length = P := ⟨_, rfl⟩
    have hM := hsp.lt
    have hln := hsp.len
    have hcm := hsp.sub
    have hcl := Nat.lt_of_le_of_lt (Lo.sub_le hcm) hM
    rw [hP] at hP14 hM hln hcl
    have h24 : 2 ^ P ≤ 16384 := (show 2 ^ P ≤ 2 ^ 14 from Nat.pow_le_pow_right (by decide) hP14)
    have hc14 : c < 16384 := by omega
    have hM14 : M < 16384 := by omega
    obtain ⟨VA, vc, rfl, _⟩ := hl.form
    rw [hln] at hl ⊢
    have HLN := Lib.hid hln
    have HL := Lib.hid hl
    have HX3 := Lib.hid (Ext.refl w3)
    have HSP := Lib.hid hsp
    have HP := Lib.hid (And.intro hP (And.intro hM hP14))
    have HLP := Lib.hid hlp
    have hd4 : (data.length : Int) ≤ 60 := by omega
    have hN14 : Cd.check d gs gl = 0 → (Cd.rowsOf d gs gl).length ≤ 14 := fun _ => by rw [HP.out.1]; exact HP.out.2.2
    have HN := Lib.hid hN14
    have HG0 := Lib.hid (Lo.Spoilt.giv hsp)
    clear hl hsp hP hM hcm hcl h24 hlp hln hN14
    have HCT := Lib.hid (lCount_any c w3 hc14)
    obtain ⟨nm, hnm⟩ : ∃ nm, Lo.num c = nm := ⟨_, rfl⟩
    rw [hnm] at HCT
    have HNM := Lib.hid hnm
    clear hnm
    go_wp2_with fail
    refine HCT.out.mono ?_
    clear HCT
    rintro e w' ⟨rfl, rfl⟩
    by_cases hgt : (wv : Int) < (nm : Int)
    · go_wp2_with fail
      go_ret
      exact ⟨rfl, HB.out.ext.trans HX.out⟩
    have hco := Lo.cor_suff HSP.out.ok HP.out.1 HP.out.2.2 HP.out.2.1 hwv3
    obtain ⟨b2, hb2⟩ : ∃ b, Lo.corB d gl gs (M : Int) (wv : Int) = b := ⟨_, rfl⟩
    have hcd := lCorrects_any d gl gs M wv _ w3 (HT.out.ext HX.out) (Rs.ext (Rs.ext RI.ext) _ _ _ _ (HB.out.ext.trans HX.out) HG.out) HN.out
    rw [hb2, hco.1] at hcd
    have HCD := Lib.hid hcd
    have HDE := Lib.hid (And.intro hb2 hco)
    clear hcd hco hb2
    have k0 : w3.cell? ⟨C, 0, none⟩ = some (.int .i64 d) := (HB.out.next HX.out).cell 0 rfl 0 rfl
    have k1 : w3.cell? ⟨C, 1, none⟩ = some (.slice GA ng Gc) := (HB.out.next HX.out).cell 0 rfl 1 rfl
    have k2 : w3.cell? ⟨C, 2, none⟩ = some (.int .i64 gl) := (HB.out.next HX.out).cell 0 rfl 2 rfl
    have k3 : w3.cell? ⟨C, 3, none⟩ = some (.string (sb data)) := (HB.out.next HX.out).cell 0 rfl 3 rfl
    have k4 : w3.cell? ⟨C, 4, none⟩ = some (.int .i64 M) := (HB.out.next HX.out).cell 0 rfl 4 rfl
    have k5 : w3.cell? ⟨C, 5, none⟩ = some (.slice AA an Ac) := (HB.out.next HX.out).cell 0 rfl 5 rfl
    have k6 : w3.cell? ⟨C, 6, none⟩ = some (.slice BA bn Bc) := (HB.out.next HX.out).cell 0 rfl 6 rfl
    go_wp2_with fail
    refine HCD.out.mono ?_
    clear HCD k0 k1 k2 k3 k4 k5 k6
    rintro e w4 ⟨rfl, hx⟩
    replace HX := Lib.hid (HX.out.trans hx)
    replace HX3 := Lib.hid (HX3.out.trans hx)
    clear hx
    have hlc := lLocate_any d gl data.length M wv gs l _ VA vc w4 (HT.out.ext HX.out) (Rs.ext (Rs.ext RI.ext) _ _ _ _ (HB.out.ext.trans HX.out) HG.out) (by rw [HLN.out]; exact Rs.ext RS.ext _ _ _ _ HX3.out HL.out) (fun p hp => by have := HLP.out p hp; omega) HN.out
    rw [HLN.out] at hlc
    cases b2 with
    | false =>
      rw [Lo.locR_state HG0.out HDE.out.2.1 HDE.out.1] at hlc
      have HLC := Lib.hid hlc
      clear hlc
      have k0 : w4.cell? ⟨C, 0, none⟩ = some (.int .i64 d) := (HB.out.next HX.out).cell 0 rfl 0 rfl
      have k1 : w4.cell? ⟨C, 1, none⟩ = some (.slice GA ng Gc) := (HB.out.next HX.out).cell 0 rfl 1 rfl
      have k2 : w4.cell? ⟨C, 2, none⟩ = some (.int .i64 gl) := (HB.out.next HX.out).cell 0 rfl 2 rfl
      have k3 : w4.cell? ⟨C, 3, none⟩ = some (.string (sb data)) := (HB.out.next HX.out).cell 0 rfl 3 rfl
      have k4 : w4.cell? ⟨C, 4, none⟩ = some (.int .i64 M) := (HB.out.next HX.out).cell 0 rfl 4 rfl
      have k5 : w4.cell? ⟨C, 5, none⟩ = some (.slice AA an Ac) := (HB.out.next HX.out).cell 0 rfl 5 rfl
      have k6 : w4.cell? ⟨C, 6, none⟩ = some (.slice BA bn Bc) := (HB.out.next HX.out).cell 0 rfl 6 rfl
      go_wp2_with fail
      refine HLC.out.mono ?_
      clear HLC k0 k1 k2 k3 k4 k5 k6
      rintro e w5 ⟨rfl, hx⟩
      replace HX := Lib.hid (HX.out.trans hx)
      replace HX3 := Lib.hid (HX3.out.trans hx)
      clear hx
      go_wp2_with fail
      go_ret
      exact ⟨rfl, HB.out.ext.trans HX.out⟩
    | true =>
      have hS : Lo.Suff (fun t => Cd.can d gl gs (t : Int)) M (2 * wv) := HDE.out.2.2.1 HDE.out.1
      have hlo := HSP.out.locate (by rw [HP.out.1]; omega) (w := wv) (by rw [HNM.out]; omega) hS
      rw [Lo.locR_some HG0.out HDE.out.2.1 HDE.out.1 (s := data) (t := c) (by rw [Int.toNat_natCast, Int.toNat_natCast, Int.toNat_natCast]; exact hlo)] at hlc
      have HLC := Lib.hid hlc
      have hss := sb_same (e := data) rfl
      clear hlc hlo hS
      have k0 : w4.cell? ⟨C, 0, none⟩ = some (.int .i64 d) := (HB.out.next HX.out).cell 0 rfl 0 rfl
      have k1 : w4.cell? ⟨C, 1, none⟩ = some (.slice GA ng Gc) := (HB.out.next HX.out).cell 0 rfl 1 rfl
      have k2 : w4.cell? ⟨C, 2, none⟩ = some (.int .i64 gl) := (HB.out.next HX.out).cell 0 rfl 2 rfl
      have k3 : w4.cell? ⟨C, 3, none⟩ = some (.string (sb data)) := (HB.out.next HX.out).cell 0 rfl 3 rfl
      have k4 : w4.cell? ⟨C, 4, none⟩ = some (.int .i64 M) := (HB.out.next HX.out).cell 0 rfl 4 rfl
      have k5 : w4.cell? ⟨C, 5, none⟩ = some (.slice AA an Ac) := (HB.out.next HX.out).cell 0 rfl 5 rfl
      have k6 : w4.cell? ⟨C, 6, none⟩ = some (.slice BA bn Bc) := (HB.out.next HX.out).cell 0 rfl 6 rfl
      go_wp2_with fail
      refine HLC.out.mono ?_
      clear HLC k0 k1 k2 k3 k4 k5 k6
      rintro e w5 ⟨rfl, hx⟩
      replace HX := Lib.hid (HX.out.trans hx)
      replace HX3 := Lib.hid (HX3.out.trans hx)
      clear hx
      have k0 : w5.cell? ⟨C, 0, none⟩ = some (.int .i64 d) := (HB.out.next HX.out).cell 0 rfl 0 rfl
      have k1 : w5.cell? ⟨C, 1, none⟩ = some (.slice GA ng Gc) := (HB.out.next HX.out).cell 0 rfl 1 rfl
      have k2 : w5.cell? ⟨C, 2, none⟩ = some (.int .i64 gl) := (HB.out.next HX.out).cell 0 rfl 2 rfl
      have k3 : w5.cell? ⟨C, 3, none⟩ = some (.string (sb data)) := (HB.out.next HX.out).cell 0 rfl 3 rfl
      have k4 : w5.cell? ⟨C, 4, none⟩ = some (.int .i64 M) := (HB.out.next HX.out).cell 0 rfl 4 rfl
      have k5 : w5.cell? ⟨C, 5, none⟩ = some (.slice AA an Ac) := (HB.out.next HX.out).cell 0 rfl 5 rfl
      have k6 : w5.cell? ⟨C, 6, none⟩ = some (.slice BA bn Bc) := (HB.out.next HX.out).cell 0 rfl 6 rfl
      go_wp2_with fail
      go_ret
      exact ⟨rfl, HB.out.ext.trans HX.out⟩
end Go.Proofs.YtggfkpalkdkbdaaDoor

/- WHAT LocateClashes SAYS, in plain terms; its drawn regions. -/
namespace Lo
open Gf Cd
section
variable {d gl : Int} {gs : List (List Int)} {data : List UInt8} {m c : Nat} {pieces : List (List UInt8)}
theorem Spoilt.givS (h : Spoilt d gl gs data m pieces c) {t : Nat} (ht : Sub t m) : givE d gl gs (data.length : Int) (t : Int) pieces = 0 := by
  have h1 := h.few
  have h2 := Nat.lt_of_le_of_lt (sub_le ht) h.lt
  refine givE_fine (chkE_fine h.ok (by omega)) (by rw [h.len]; omega) ?_
  rw [Int.toNat_natCast, Int.toNat_natCast]
  exact badLen_not fun k hk _ => h.size k (by rw [← h.len]; exact hk)
theorem Spoilt.fitS (h : Spoilt d gl gs data m pieces c) {t : Nat} (ht : Sub t m) : fitB d gl gs (data.length : Int) (t : Int) pieces = true ↔ FitsSet d gl gs (sizeN d.toNat data.length) pieces t := by
  rw [fitB_ok (h.givS ht), Int.toNat_natCast]
  exact agree_set h.ok fun k hk _ => h.size k hk
/-- What Clash says of a spoilt chunk. -/
def Clashed (d gl : Int) (gs : List (List Int)) (data : List UInt8) (m : Nat) (pieces : List (List UInt8)) (c X : Nat) : Prop :=
  Sub X m ∧ X &&& c ≠ 0 ∧ num X ≤ d.toNat + 1 ∧ fitB d gl gs (data.length : Int) (X : Int) pieces = false ∧ givE d gl gs (data.length : Int) (X : Int) pieces = 0 ∧
    ∀ k, bitAt X k = 1 → 2 ^ k ≤ X ∧ fitB d gl gs (data.length : Int) ((X - 2 ^ k : Nat) : Int) pieces = true ∧ givE d gl gs (data.length : Int) ((X - 2 ^ k : Nat) : Int) pieces = 0
theorem Spoilt.clash (h : Spoilt d gl gs data m pieces c) (hP : (rowsOf d gs gl).length ≤ 14) (hn : num m ≤ 12) {x E : Int} (hc : ClashOut d gl gs (data.length : Int) (m : Int) pieces x E) :
    (fitB d gl gs (data.length : Int) (m : Int) pieces = true ∧ x = 0 ∧ E = 8) ∨ (fitB d gl gs (data.length : Int) (m : Int) pieces = false ∧ c ≠ 0 ∧ E = 0 ∧ ∃ X : Nat, x = X ∧ Clashed d gl gs data m pieces c X) := by
  have hm16 : m < 2 ^ 16 := Nat.lt_of_lt_of_le h.lt (Nat.pow_le_pow_right (by decide) (by omega))
  have hsz : ∀ k, k < (rowsOf d gs gl).length → bitAt m k = 1 → (pieces.getD k []).length = sizeN d.toNat data.length := fun k hk _ => h.size k hk
  have hrefl : Sub m m := fun _ h => h
  unfold ClashOut at hc
  rw [Int.toNat_natCast] at hc
  rcases hc with ⟨h1, _⟩ | ⟨_, h1, _⟩ | ⟨_, _, ⟨rfl, rfl, h1⟩ | ⟨X, rfl, rfl, h1⟩⟩
  · exact absurd h.giv h1
  · omega
  · refine .inl ⟨?_, rfl, rfl⟩
    rw [h.fit]
    by_cases hm0 : m = 0
    · rw [hm0]; exact fits_none
    · exact (badSet_iff h.ok hsz).1 (h1 m hm0 hrefl)
  · have hXm := h1.2.1
    have hXl : X < 2 ^ 16 := Nat.lt_of_le_of_lt (sub_le hXm) hm16
    have hbad : ¬ FitsSet d gl gs (sizeN d.toNat data.length) pieces X := fun hf => by
      have h2 := (badSet_iff h.ok fun k hk hb => hsz k hk (hXm k hb)).2 hf
      rw [h1.2.2.1] at h2; cases h2
    have hfm : fitB d gl gs (data.length : Int) (m : Int) pieces = false := by
      cases hf : fitB d gl gs (data.length : Int) (m : Int) pieces with
      | false => rfl
      | true => exact absurd ((h.fit.1 hf).less hXm) hbad
    have hX : X &&& c ≠ 0 := fun h0 => hbad ⟨dataAt d.toNat data, fun k hk hb => h.fits hk (hXm k hb) fun hcb => by
      have h2 := (and_bit X c k).2 ⟨hb, hcb⟩
      rw [h0] at h2
      simp [bitAt] at h2⟩
    refine .inr ⟨hfm, fun h0 => hX (by rw [h0, Nat.and_zero]), rfl, X, rfl, hXm, hX, least_small h.ok hm16 h.lt hsz h1, ?_, h.givS hXm, fun k hk => ?_⟩
    · cases hf : fitB d gl gs (data.length : Int) (X : Int) pieces with
      | false => rfl
      | true => exact absurd ((h.fitS hXm).1 hf) hbad
    · obtain ⟨m1, m2, m3⟩ := num_minus hXl hk
      have h5 : Sub (X - 2 ^ k) m := fun i hi => hXm i (minus_sub m1 i hi)
      exact ⟨sub_le m1, (h.fitS h5).2 (least_less h.ok hsz h1 (minus_sub m1) m3), h.givS h5⟩
end
end Lo
namespace Go.Proofs.YtggfkpalkdkbdaaDoor
open Go.RowKit
noncomputable def lc12_code : Code := ((Tryd.f7.body.bind (regionOf 12)).getD .skip)
def lc12_dsts : List (Option Nat) := [some 77, some 78, some 79, some 80, some 81, some 82, some 83, some 84, some 85, some 86, some 87, some 88, some 89, some 90, some 91, some 92, some 93, some 94, some 95, some 96, some 97, some 98, some 99, some 100, some 101]
theorem lc12_apart : apartD lc12_dsts = true := by decide +kernel
set_option maxRecDepth 1000000 in
set_option maxHeartbeats 16000000 in
theorem lc12 (wr : World) (C M X c nx : Nat) (d D1 : Int) (k0 : wr.cell? ⟨C, 0, none⟩ = some (.int .i64 d)) (k4 : wr.cell? ⟨C, 4, none⟩ = some (.int .i64 M)) (HA : Hid (bits .and .i64 (X : Int) (M : Int) = (X : Int) ∧ ((X : Int) != (X : Int)) = false)) (z : Nat) (HZ : Hid (bits .and .i64 (X : Int) (c : Int) = (z : Int) ∧ ((z : Int) == 0) = false)) (hd1 : IntKind.i64.wrap (d + 1) = D1) (hle : ¬ D1 < (nx : Int)) (HC : Hid (∀ w1 : World, Calls Tryd.prog 22 #[.int .i64 (X : Nat)] w1 fun e w' => e = .returned (.int .i64 (nx : Nat)) ∧ w1 = w')) (c0 c2 c3 c4 c6 c7 c8 c9 c12 c13 c14 c15 c16 c17 c18 c19 c20 c21 c22 c23 c24 c25 c26 c27 c28 c29 c30 c31 c32 c33 c34 c35 c36 c37 c38 c39 c40 c41 c42 c43 c44 c45 c46 c47 c48 c49 c50 c51 c52 c53 c54 c55 c56 c57 c58 c59 c60 c61 c62 c63 c64 c65 c66 c67 c68 c69 c70 c71 c72 c73 c74 c75 c76 c77 c78 c79 c80 c81 c82 c83 c84 c85 c86 c87 c88 c89 c90 c91 c92 c93 c94 c95 c96 c97 c98 c99 c100 c101 c102 c103 c104 c105 c106 c107 c108 c109 c110 c111 c112 c113 c114 c115 c116 c117 c118 c119 c120 c121 c122 c123 c124 c125 c126 c127 c128 c129 c130 c131 c132 c133 c134 c135 c136 c137 c138 c139 c140 c141 c142 c143 c144 : Value) (df : List Deferred) (K : Act → World → Prop)
    (hK : ∀  (u77 u78 u79 u80 u81 u82 u83 u84 u85 u86 u87 u88 u89 u90 u91 u92 u93 u94 u95 u96 u97 u98 u99 u100 : Value) (wx : World), Ext wr wx → K ⟨#[c0, .pointer (some ⟨C, 0, none⟩), c2, c3, c4, .int .i64 (c : Nat), c6, c7, c8, c9, .int .i64 (X : Nat), .int .i64 0, c12, c13, c14, c15, c16, c17, c18, c19, c20, c21, c22, c23, c24, c25, c26, c27, c28, c29, c30, c31, c32, c33, c34, c35, c36, c37, c38, c39, c40, c41, c42, c43, c44, c45, c46, c47, c48, c49, c50, c51, c52, c53, c54, c55, c56, c57, c58, c59, c60, c61, c62, c63, c64, c65, c66, c67, c68, c69, c70, c71, c72, c73, c74, c75, c76, u77, u78, u79, u80, u81, u82, u83, u84, u85, u86, u87, u88, u89, u90, u91, u92, u93, u94, u95, u96, u97, u98, u99, u100, .bool false, c102, c103, c104, c105, c106, c107, c108, c109, c110, c111, c112, c113, c114, c115, c116, c117, c118, c119, c120, c121, c122, c123, c124, c125, c126, c127, c128, c129, c130, c131, c132, c133, c134, c135, c136, c137, c138, c139, c140, c141, c142, c143, c144], df⟩ wx) :
    Code.wp Tryd.prog lc12_code (AtEnd K) ⟨#[c0, .pointer (some ⟨C, 0, none⟩), c2, c3, c4, .int .i64 (c : Nat), c6, c7, c8, c9, .int .i64 (X : Nat), .int .i64 0, c12, c13, c14, c15, c16, c17, c18, c19, c20, c21, c22, c23, c24, c25, c26, c27, c28, c29, c30, c31, c32, c33, c34, c35, c36, c37, c38, c39, c40, c41, c42, c43, c44, c45, c46, c47, c48, c49, c50, c51, c52, c53, c54, c55, c56, c57, c58, c59, c60, c61, c62, c63, c64, c65, c66, c67, c68, c69, c70, c71, c72, c73, c74, c75, c76, c77, c78, c79, c80, c81, c82, c83, c84, c85, c86, c87, c88, c89, c90, c91, c92, c93, c94, c95, c96, c97, c98, c99, c100, c101, c102, c103, c104, c105, c106, c107, c108, c109, c110, c111, c112, c113, c114, c115, c116, c117, c118, c119, c120, c121, c122, c123, c124, c125, c126, c127, c128, c129, c130, c131, c132, c133, c134, c135, c136, c137, c138, c139, c140, c141, c142, c143, c144], df⟩ wr := by
  conv => arg 2; whnf
  refine region_inv (by kernel_rfl) [[], [0], [1], [2], [2], [4, 2], [3, 5, 2], [2], [6, 7, 2], [2, 8], [9, 2], [10], [10], [11, 12, 10], [13, 10], [10, 14], [15, 10], [16], [17, 16, 16], [16], [19, 16], [20, 16], [21, 16], [18, 22, 16], [16, 23]] (by kernel_rfl) [0, 1, 2, 3, 4, 5, 6, 7, 8, 9, 10, 11, 12, 13, 14, 15, 16, 17, 18, 19, 20, 21, 22, 23, 24] (by decide +kernel) (by decide +kernel) (by decide +kernel) (fun L a wc => Inv lc12_dsts [.int .i64 0, .bool false, .bool false, .int .i64 (X : Nat), .pointer (some ⟨C, 4, none⟩), .int .i64 M, .int .i64 (X : Nat), .int .i64 (X : Nat), .bool false, .bool false, .bool false, .int .i64 (X : Nat), .int .i64 (c : Nat), .int .i64 (z : Nat), .bool false, .bool false, .bool false, .int .i64 (X : Nat), .int .i64 (nx : Nat), .pointer (some ⟨C, 0, none⟩), .pointer (some ⟨C, 0, none⟩), .int .i64 d, .int .i64 D1, .bool false, .bool false] ⟨#[c0, .pointer (some ⟨C, 0, none⟩), c2, c3, c4, .int .i64 (c : Nat), c6, c7, c8, c9, .int .i64 (X : Nat), .int .i64 0, c12, c13, c14, c15, c16, c17, c18, c19, c20, c21, c22, c23, c24, c25, c26, c27, c28, c29, c30, c31, c32, c33, c34, c35, c36, c37, c38, c39, c40, c41, c42, c43, c44, c45, c46, c47, c48, c49, c50, c51, c52, c53, c54, c55, c56, c57, c58, c59, c60, c61, c62, c63, c64, c65, c66, c67, c68, c69, c70, c71, c72, c73, c74, c75, c76, c77, c78, c79, c80, c81, c82, c83, c84, c85, c86, c87, c88, c89, c90, c91, c92, c93, c94, c95, c96, c97, c98, c99, c100, c101, c102, c103, c104, c105, c106, c107, c108, c109, c110, c111, c112, c113, c114, c115, c116, c117, c118, c119, c120, c121, c122, c123, c124, c125, c126, c127, c128, c129, c130, c131, c132, c133, c134, c135, c136, c137, c138, c139, c140, c141, c142, c143, c144], df⟩ L a ∧ Hid (Ext wr wc)) ⟨Inv.start, Lib.hid ((Ext.refl wr).drew)⟩ ?_ ?_
  · refine ⟨?_, ?_, ?_, ?_, ?_, ?_, ?_, ?_, ?_, ?_, ?_, ?_, ?_, ?_, ?_, ?_, ?_, ?_, ?_, ?_, ?_, ?_, ?_, ?_, ?_, trivial⟩
    ·
      rintro L a wc ⟨hv, HO⟩ hL hc hd
      exact wpOp_val rfl rfl (ex_move rfl ((hv.fixed 11 (by decide)).trans rfl)) ⟨hv.put lc12_apart 0 rfl (lb rfl) (lb rfl) rfl, HO⟩
    ·
      rintro L a wc ⟨hv, HO⟩ hL hc hd
      exact wpOp_val rfl rfl (ex_bin rfl (hv.get 0 rfl rfl (hd 0 (by decide))) rfl (by go_simp)) ⟨hv.put lc12_apart 1 rfl (lb rfl) (lb rfl) rfl, HO⟩
    ·
      rintro L a wc ⟨hv, HO⟩ hL hc hd
      exact wpOp_val rfl rfl (ex_move rfl (hv.get 1 rfl rfl (hd 1 (by decide)))) ⟨hv.put lc12_apart 2 rfl (lb rfl) (lb rfl) rfl, HO⟩
    ·
      rintro L a wc ⟨hv, HO⟩ hL hc hd
      exact wpOp_val rfl ((wanted_at rfl rfl (hv.get 2 rfl rfl (hd 2 (by decide)))).trans rfl) (ex_move rfl ((hv.fixed 10 (by decide)).trans rfl)) ⟨hv.put lc12_apart 3 rfl (lb rfl) (lb rfl) rfl, HO⟩
    ·
      rintro L a wc ⟨hv, HO⟩ hL hc hd
      exact wpOp_val rfl ((wanted_at rfl rfl (hv.get 2 rfl rfl (hd 2 (by decide)))).trans rfl) (ex_field rfl ((hv.fixed 1 (by decide)).trans rfl) (by go_simp)) ⟨hv.put lc12_apart 4 rfl (lb rfl) (lb rfl) rfl, HO⟩
    ·
      rintro L a wc ⟨hv, HO⟩ hL hc hd
      have h0 : wc.cell? ⟨C, 4, none⟩ = some (.int .i64 M) := HO.out.cell k4
      exact wpOp_val rfl ((wanted_at rfl rfl (hv.get 2 rfl rfl (hd 2 (by decide)))).trans rfl) (ex_load rfl (hv.get 4 rfl rfl (hd 4 (by decide))) (by go_simp)) ⟨hv.put lc12_apart 5 rfl (lb rfl) (lb rfl) rfl, HO⟩
    ·
      rintro L a wc ⟨hv, HO⟩ hL hc hd
      have u := HA.out.1
      exact wpOp_val rfl ((wanted_at rfl rfl (hv.get 2 rfl rfl (hd 2 (by decide)))).trans rfl) (ex_bin rfl (hv.get 3 rfl rfl (hd 3 (by decide))) (hv.get 5 rfl rfl (hd 5 (by decide))) (by go_simp)) ⟨hv.put lc12_apart 6 rfl (lb rfl) (lb rfl) rfl, HO⟩
    ·
      rintro L a wc ⟨hv, HO⟩ hL hc hd
      exact wpOp_val rfl ((wanted_at rfl rfl (hv.get 2 rfl rfl (hd 2 (by decide)))).trans rfl) (ex_move rfl ((hv.fixed 10 (by decide)).trans rfl)) ⟨hv.put lc12_apart 7 rfl (lb rfl) (lb rfl) rfl, HO⟩
    ·
      rintro L a wc ⟨hv, HO⟩ hL hc hd
      have u := HA.out.2
      exact wpOp_val rfl ((wanted_at rfl rfl (hv.get 2 rfl rfl (hd 2 (by decide)))).trans rfl) (ex_bin rfl (hv.get 6 rfl rfl (hd 6 (by decide))) (hv.get 7 rfl rfl (hd 7 (by decide))) (by go_simp)) ⟨hv.put lc12_apart 8 rfl (lb rfl) (lb rfl) rfl, HO⟩
    ·
      rintro L a wc ⟨hv, HO⟩ hL hc hd
      exact wpOp_val rfl rfl (ex_pick rfl (hv.get 2 rfl rfl (hd 2 (by decide))) (hv.get 8 rfl rfl (hd 8 (by decide)))) ⟨hv.put lc12_apart 9 rfl (lb rfl) (lb rfl) rfl, HO⟩
    ·
      rintro L a wc ⟨hv, HO⟩ hL hc hd
      exact wpOp_val rfl rfl (ex_move rfl (hv.get 9 rfl rfl (hd 9 (by decide)))) ⟨hv.put lc12_apart 10 rfl (lb rfl) (lb rfl) rfl, HO⟩
    ·
      rintro L a wc ⟨hv, HO⟩ hL hc hd
      exact wpOp_val rfl ((wanted_at rfl rfl (hv.get 10 rfl rfl (hd 10 (by decide)))).trans rfl) (ex_move rfl ((hv.fixed 10 (by decide)).trans rfl)) ⟨hv.put lc12_apart 11 rfl (lb rfl) (lb rfl) rfl, HO⟩
    ·
      rintro L a wc ⟨hv, HO⟩ hL hc hd
      exact wpOp_val rfl ((wanted_at rfl rfl (hv.get 10 rfl rfl (hd 10 (by decide)))).trans rfl) (ex_move rfl ((hv.fixed 5 (by decide)).trans rfl)) ⟨hv.put lc12_apart 12 rfl (lb rfl) (lb rfl) rfl, HO⟩
    ·
      rintro L a wc ⟨hv, HO⟩ hL hc hd
      have u := HZ.out.1
      exact wpOp_val rfl ((wanted_at rfl rfl (hv.get 10 rfl rfl (hd 10 (by decide)))).trans rfl) (ex_bin rfl (hv.get 11 rfl rfl (hd 11 (by decide))) (hv.get 12 rfl rfl (hd 12 (by decide))) (by go_simp)) ⟨hv.put lc12_apart 13 rfl (lb rfl) (lb rfl) rfl, HO⟩
    ·
      rintro L a wc ⟨hv, HO⟩ hL hc hd
      have u := HZ.out.2
      exact wpOp_val rfl ((wanted_at rfl rfl (hv.get 10 rfl rfl (hd 10 (by decide)))).trans rfl) (ex_bin rfl (hv.get 13 rfl rfl (hd 13 (by decide))) rfl (by go_simp)) ⟨hv.put lc12_apart 14 rfl (lb rfl) (lb rfl) rfl, HO⟩
    ·
      rintro L a wc ⟨hv, HO⟩ hL hc hd
      exact wpOp_val rfl rfl (ex_pick rfl (hv.get 10 rfl rfl (hd 10 (by decide))) (hv.get 14 rfl rfl (hd 14 (by decide)))) ⟨hv.put lc12_apart 15 rfl (lb rfl) (lb rfl) rfl, HO⟩
    ·
      rintro L a wc ⟨hv, HO⟩ hL hc hd
      exact wpOp_val rfl rfl (ex_move rfl (hv.get 15 rfl rfl (hd 15 (by decide)))) ⟨hv.put lc12_apart 16 rfl (lb rfl) (lb rfl) rfl, HO⟩
    ·
      rintro L a wc ⟨hv, HO⟩ hL hc hd
      exact wpOp_val rfl ((wanted_at rfl rfl (hv.get 16 rfl rfl (hd 16 (by decide)))).trans rfl) (ex_move rfl ((hv.fixed 10 (by decide)).trans rfl)) ⟨hv.put lc12_apart 17 rfl (lb rfl) (lb rfl) rfl, HO⟩
    ·
      rintro L a wc ⟨hv, HO⟩ hL hc hd
      refine wpOp_callw (R := fun v w1 => v = .int .i64 (nx : Nat) ∧ wc = w1) rfl ((wanted_at rfl rfl (hv.get 16 rfl rfl (hd 16 (by decide)))).trans rfl) (ex_call rfl rfl (map1c (hv.get 17 rfl rfl (hd 17 (by decide)))) (enters_of Tryd.func22 (by kernel_rfl) rfl _ _)) ((HC.out wc).mono (fun e w' h => ⟨_, h.1, rfl, h.2⟩)) ?_
      rintro v w' ⟨rfl, rfl⟩
      exact ⟨hv.put lc12_apart 18 rfl (lb rfl) (lb rfl) rfl, HO⟩
    ·
      rintro L a wc ⟨hv, HO⟩ hL hc hd
      exact wpOp_val rfl ((wanted_at rfl rfl (hv.get 16 rfl rfl (hd 16 (by decide)))).trans rfl) (ex_field rfl ((hv.fixed 1 (by decide)).trans rfl) (by go_simp)) ⟨hv.put lc12_apart 19 rfl (lb rfl) (lb rfl) rfl, HO⟩
    ·
      rintro L a wc ⟨hv, HO⟩ hL hc hd
      exact wpOp_val rfl ((wanted_at rfl rfl (hv.get 16 rfl rfl (hd 16 (by decide)))).trans rfl) (ex_field rfl (hv.get 19 rfl rfl (hd 19 (by decide))) (by go_simp)) ⟨hv.put lc12_apart 20 rfl (lb rfl) (lb rfl) rfl, HO⟩
    ·
      rintro L a wc ⟨hv, HO⟩ hL hc hd
      have h0 : wc.cell? ⟨C, 0, none⟩ = some (.int .i64 d) := HO.out.cell k0
      exact wpOp_val rfl ((wanted_at rfl rfl (hv.get 16 rfl rfl (hd 16 (by decide)))).trans rfl) (ex_load rfl (hv.get 20 rfl rfl (hd 20 (by decide))) (by go_simp)) ⟨hv.put lc12_apart 21 rfl (lb rfl) (lb rfl) rfl, HO⟩
    ·
      rintro L a wc ⟨hv, HO⟩ hL hc hd
      have u := hd1
      exact wpOp_val rfl ((wanted_at rfl rfl (hv.get 16 rfl rfl (hd 16 (by decide)))).trans rfl) (ex_bin rfl (hv.get 21 rfl rfl (hd 21 (by decide))) rfl (by go_simp)) ⟨hv.put lc12_apart 22 rfl (lb rfl) (lb rfl) rfl, HO⟩
    ·
      rintro L a wc ⟨hv, HO⟩ hL hc hd
      have u := hle
      exact wpOp_val rfl ((wanted_at rfl rfl (hv.get 16 rfl rfl (hd 16 (by decide)))).trans rfl) (ex_bin rfl (hv.get 18 rfl rfl (hd 18 (by decide))) (hv.get 22 rfl rfl (hd 22 (by decide))) (by go_simp)) ⟨hv.put lc12_apart 23 rfl (lb rfl) (lb rfl) rfl, HO⟩
    ·
      rintro L a wc ⟨hv, HO⟩ hL hc hd
      exact wpOp_val rfl rfl (ex_pick rfl (hv.get 16 rfl rfl (hd 16 (by decide))) (hv.get 23 rfl rfl (hd 23 (by decide)))) ⟨hv.put lc12_apart 24 rfl (lb rfl) (lb rfl) rfl, HO⟩
  · rintro L a wc ⟨hv, HO⟩ hall
    show K a wc
    have ha := act_lit a
    rw [hv.size, hv.defers] at ha
    have hl : ∀ f : Nat → Value, ((List.range (⟨#[c0, .pointer (some ⟨C, 0, none⟩), c2, c3, c4, .int .i64 (c : Nat), c6, c7, c8, c9, .int .i64 (X : Nat), .int .i64 0, c12, c13, c14, c15, c16, c17, c18, c19, c20, c21, c22, c23, c24, c25, c26, c27, c28, c29, c30, c31, c32, c33, c34, c35, c36, c37, c38, c39, c40, c41, c42, c43, c44, c45, c46, c47, c48, c49, c50, c51, c52, c53, c54, c55, c56, c57, c58, c59, c60, c61, c62, c63, c64, c65, c66, c67, c68, c69, c70, c71, c72, c73, c74, c75, c76, c77, c78, c79, c80, c81, c82, c83, c84, c85, c86, c87, c88, c89, c90, c91, c92, c93, c94, c95, c96, c97, c98, c99, c100, c101, c102, c103, c104, c105, c106, c107, c108, c109, c110, c111, c112, c113, c114, c115, c116, c117, c118, c119, c120, c121, c122, c123, c124, c125, c126, c127, c128, c129, c130, c131, c132, c133, c134, c135, c136, c137, c138, c139, c140, c141, c142, c143, c144], df⟩ : Act).tmps.size).map f).toArray = #[f 0, f 1, f 2, f 3, f 4, f 5, f 6, f 7, f 8, f 9, f 10, f 11, f 12, f 13, f 14, f 15, f 16, f 17, f 18, f 19, f 20, f 21, f 22, f 23, f 24, f 25, f 26, f 27, f 28, f 29, f 30, f 31, f 32, f 33, f 34, f 35, f 36, f 37, f 38, f 39, f 40, f 41, f 42, f 43, f 44, f 45, f 46, f 47, f 48, f 49, f 50, f 51, f 52, f 53, f 54, f 55, f 56, f 57, f 58, f 59, f 60, f 61, f 62, f 63, f 64, f 65, f 66, f 67, f 68, f 69, f 70, f 71, f 72, f 73, f 74, f 75, f 76, f 77, f 78, f 79, f 80, f 81, f 82, f 83, f 84, f 85, f 86, f 87, f 88, f 89, f 90, f 91, f 92, f 93, f 94, f 95, f 96, f 97, f 98, f 99, f 100, f 101, f 102, f 103, f 104, f 105, f 106, f 107, f 108, f 109, f 110, f 111, f 112, f 113, f 114, f 115, f 116, f 117, f 118, f 119, f 120, f 121, f 122, f 123, f 124, f 125, f 126, f 127, f 128, f 129, f 130, f 131, f 132, f 133, f 134, f 135, f 136, f 137, f 138, f 139, f 140, f 141, f 142, f 143, f 144] := fun _ => rfl
    rw [hl] at ha
    simp only [hv.fixed 0 (by decide), hv.fixed 1 (by decide), hv.fixed 2 (by decide), hv.fixed 3 (by decide), hv.fixed 4 (by decide), hv.fixed 5 (by decide), hv.fixed 6 (by decide), hv.fixed 7 (by decide), hv.fixed 8 (by decide), hv.fixed 9 (by decide), hv.fixed 10 (by decide), hv.fixed 11 (by decide), hv.fixed 12 (by decide), hv.fixed 13 (by decide), hv.fixed 14 (by decide), hv.fixed 15 (by decide), hv.fixed 16 (by decide), hv.fixed 17 (by decide), hv.fixed 18 (by decide), hv.fixed 19 (by decide), hv.fixed 20 (by decide), hv.fixed 21 (by decide), hv.fixed 22 (by decide), hv.fixed 23 (by decide), hv.fixed 24 (by decide), hv.fixed 25 (by decide), hv.fixed 26 (by decide), hv.fixed 27 (by decide), hv.fixed 28 (by decide), hv.fixed 29 (by decide), hv.fixed 30 (by decide), hv.fixed 31 (by decide), hv.fixed 32 (by decide), hv.fixed 33 (by decide), hv.fixed 34 (by decide), hv.fixed 35 (by decide), hv.fixed 36 (by decide), hv.fixed 37 (by decide), hv.fixed 38 (by decide), hv.fixed 39 (by decide), hv.fixed 40 (by decide), hv.fixed 41 (by decide), hv.fixed 42 (by decide), hv.fixed 43 (by decide), hv.fixed 44 (by decide), hv.fixed 45 (by decide), hv.fixed 46 (by decide), hv.fixed 47 (by decide), hv.fixed 48 (by decide), hv.fixed 49 (by decide), hv.fixed 50 (by decide), hv.fixed 51 (by decide), hv.fixed 52 (by decide), hv.fixed 53 (by decide), hv.fixed 54 (by decide), hv.fixed 55 (by decide), hv.fixed 56 (by decide), hv.fixed 57 (by decide), hv.fixed 58 (by decide), hv.fixed 59 (by decide), hv.fixed 60 (by decide), hv.fixed 61 (by decide), hv.fixed 62 (by decide), hv.fixed 63 (by decide), hv.fixed 64 (by decide), hv.fixed 65 (by decide), hv.fixed 66 (by decide), hv.fixed 67 (by decide), hv.fixed 68 (by decide), hv.fixed 69 (by decide), hv.fixed 70 (by decide), hv.fixed 71 (by decide), hv.fixed 72 (by decide), hv.fixed 73 (by decide), hv.fixed 74 (by decide), hv.fixed 75 (by decide), hv.fixed 76 (by decide), hv.fixed 102 (by decide), hv.fixed 103 (by decide), hv.fixed 104 (by decide), hv.fixed 105 (by decide), hv.fixed 106 (by decide), hv.fixed 107 (by decide), hv.fixed 108 (by decide), hv.fixed 109 (by decide), hv.fixed 110 (by decide), hv.fixed 111 (by decide), hv.fixed 112 (by decide), hv.fixed 113 (by decide), hv.fixed 114 (by decide), hv.fixed 115 (by decide), hv.fixed 116 (by decide), hv.fixed 117 (by decide), hv.fixed 118 (by decide), hv.fixed 119 (by decide), hv.fixed 120 (by decide), hv.fixed 121 (by decide), hv.fixed 122 (by decide), hv.fixed 123 (by decide), hv.fixed 124 (by decide), hv.fixed 125 (by decide), hv.fixed 126 (by decide), hv.fixed 127 (by decide), hv.fixed 128 (by decide), hv.fixed 129 (by decide), hv.fixed 130 (by decide), hv.fixed 131 (by decide), hv.fixed 132 (by decide), hv.fixed 133 (by decide), hv.fixed 134 (by decide), hv.fixed 135 (by decide), hv.fixed 136 (by decide), hv.fixed 137 (by decide), hv.fixed 138 (by decide), hv.fixed 139 (by decide), hv.fixed 140 (by decide), hv.fixed 141 (by decide), hv.fixed 142 (by decide), hv.fixed 143 (by decide), hv.fixed 144 (by decide), hv.get 24 (d := 101) rfl rfl (hall 24 (by decide))] at ha
    rw [ha]
    exact hK _ _ _ _ _ _ _ _ _ _ _ _ _ _ _ _ _ _ _ _ _ _ _ _ wc HO.out
noncomputable def lc21_code : Code := ((Tryd.f7.body.bind (regionOf 21)).getD .skip)
def lc21_dsts : List (Option Nat) := [some 128, some 129, some 130, some 131, some 132, some 133, some 134, some 135, some 136, some 127, some 137, some 138, some 15, some 16]
theorem lc21_apart : apartD lc21_dsts = true := by decide +kernel
set_option maxRecDepth 1000000 in
set_option maxHeartbeats 16000000 in
theorem lc21 (wr : World) (C ng Gc k X Y p2 n nl vc : Nat) (GA : Option Addr) (VA : Option Addr) (d gl : Int) (k0 : wr.cell? ⟨C, 0, none⟩ = some (.int .i64 d)) (k1 : wr.cell? ⟨C, 1, none⟩ = some (.slice GA ng Gc)) (k2 : wr.cell? ⟨C, 2, none⟩ = some (.int .i64 gl)) (hk : k < 64) (HR : Hid (IntKind.i64.wrap (2 ^ k) = (p2 : Int) ∧ IntKind.i64.wrap ((X : Int) - (p2 : Int)) = (Y : Int))) (HC : Hid (∀ w1 : World, Ext wr w1 → Calls Tryd.prog 17 #[.agg #[.int .i64 d, .slice GA ng Gc, .int .i64 gl], .int .i64 (n : Nat), .int .i64 (Y : Nat), .slice VA nl vc] w1 fun e w' => e = .returned (.tuple #[.bool true, .int .i64 0]) ∧ Ext w1 w')) (c0 c2 c3 c5 c6 c8 c9 c11 c12 c13 c15 c16 c17 c18 c19 c20 c21 c22 c23 c24 c25 c26 c27 c28 c29 c30 c31 c32 c33 c34 c35 c36 c37 c38 c39 c40 c41 c42 c43 c44 c45 c46 c47 c48 c49 c50 c51 c52 c53 c54 c55 c56 c57 c58 c59 c60 c61 c62 c63 c64 c65 c66 c67 c68 c69 c70 c71 c72 c73 c74 c75 c76 c77 c78 c79 c80 c81 c82 c83 c84 c85 c86 c87 c88 c89 c90 c91 c92 c93 c94 c95 c96 c97 c98 c99 c100 c101 c102 c103 c104 c105 c106 c107 c108 c109 c110 c111 c112 c113 c114 c115 c116 c117 c118 c119 c120 c121 c122 c123 c124 c125 c126 c127 c128 c129 c130 c131 c132 c133 c134 c135 c136 c137 c138 c139 c140 c141 c142 c143 c144 : Value) (df : List Deferred) (K : Act → World → Prop)
    (hK : ∀  (u127 u128 u129 u130 u131 u132 u133 u134 u135 u136 u137 u138 : Value) (wx : World), Ext wr wx → K ⟨#[c0, .pointer (some ⟨C, 0, none⟩), c2, c3, .slice VA nl vc, c5, c6, .int .i64 (n : Nat), c8, c9, .int .i64 (X : Nat), c11, c12, c13, .int .i64 (k : Nat), .bool true, .int .i64 0, c17, c18, c19, c20, c21, c22, c23, c24, c25, c26, c27, c28, c29, c30, c31, c32, c33, c34, c35, c36, c37, c38, c39, c40, c41, c42, c43, c44, c45, c46, c47, c48, c49, c50, c51, c52, c53, c54, c55, c56, c57, c58, c59, c60, c61, c62, c63, c64, c65, c66, c67, c68, c69, c70, c71, c72, c73, c74, c75, c76, c77, c78, c79, c80, c81, c82, c83, c84, c85, c86, c87, c88, c89, c90, c91, c92, c93, c94, c95, c96, c97, c98, c99, c100, c101, c102, c103, c104, c105, c106, c107, c108, c109, c110, c111, c112, c113, c114, c115, c116, c117, c118, c119, c120, c121, c122, c123, c124, c125, c126, u127, u128, u129, u130, u131, u132, u133, u134, u135, u136, u137, u138, c139, c140, c141, c142, c143, c144], df⟩ wx) :
    Code.wp Tryd.prog lc21_code (AtEnd K) ⟨#[c0, .pointer (some ⟨C, 0, none⟩), c2, c3, .slice VA nl vc, c5, c6, .int .i64 (n : Nat), c8, c9, .int .i64 (X : Nat), c11, c12, c13, .int .i64 (k : Nat), c15, c16, c17, c18, c19, c20, c21, c22, c23, c24, c25, c26, c27, c28, c29, c30, c31, c32, c33, c34, c35, c36, c37, c38, c39, c40, c41, c42, c43, c44, c45, c46, c47, c48, c49, c50, c51, c52, c53, c54, c55, c56, c57, c58, c59, c60, c61, c62, c63, c64, c65, c66, c67, c68, c69, c70, c71, c72, c73, c74, c75, c76, c77, c78, c79, c80, c81, c82, c83, c84, c85, c86, c87, c88, c89, c90, c91, c92, c93, c94, c95, c96, c97, c98, c99, c100, c101, c102, c103, c104, c105, c106, c107, c108, c109, c110, c111, c112, c113, c114, c115, c116, c117, c118, c119, c120, c121, c122, c123, c124, c125, c126, c127, c128, c129, c130, c131, c132, c133, c134, c135, c136, c137, c138, c139, c140, c141, c142, c143, c144], df⟩ wr := by
  conv => arg 2; whnf
  refine region_inv (by kernel_rfl) [[], [0], [], [], [], [4], [3, 5], [], [1, 2, 6, 7], [8], [9], [9], [10, 8, 0, 1, 2, 3, 4, 5, 6, 7, 8, 9, 10], [11, 12, 0, 1, 2, 3, 4, 5, 6, 7, 8, 9, 10, 11, 12]] (by kernel_rfl) [0, 1, 2, 3, 4, 5, 6, 7, 8, 9, 10, 11, 12, 13] (by decide +kernel) (by decide +kernel) (by decide +kernel) (fun L a wc => Inv lc21_dsts [.pointer (some ⟨C, 0, none⟩), .agg #[.int .i64 d, .slice GA ng Gc, .int .i64 gl], .int .i64 (n : Nat), .int .i64 (X : Nat), .int .i64 (k : Nat), .int .i64 (p2 : Nat), .int .i64 (Y : Nat), .slice VA nl vc, .tuple #[.bool true, .int .i64 0], .tuple #[.bool true, .int .i64 0], .bool true, .int .i64 0, .bool true, .int .i64 0] ⟨#[c0, .pointer (some ⟨C, 0, none⟩), c2, c3, .slice VA nl vc, c5, c6, .int .i64 (n : Nat), c8, c9, .int .i64 (X : Nat), c11, c12, c13, .int .i64 (k : Nat), c15, c16, c17, c18, c19, c20, c21, c22, c23, c24, c25, c26, c27, c28, c29, c30, c31, c32, c33, c34, c35, c36, c37, c38, c39, c40, c41, c42, c43, c44, c45, c46, c47, c48, c49, c50, c51, c52, c53, c54, c55, c56, c57, c58, c59, c60, c61, c62, c63, c64, c65, c66, c67, c68, c69, c70, c71, c72, c73, c74, c75, c76, c77, c78, c79, c80, c81, c82, c83, c84, c85, c86, c87, c88, c89, c90, c91, c92, c93, c94, c95, c96, c97, c98, c99, c100, c101, c102, c103, c104, c105, c106, c107, c108, c109, c110, c111, c112, c113, c114, c115, c116, c117, c118, c119, c120, c121, c122, c123, c124, c125, c126, c127, c128, c129, c130, c131, c132, c133, c134, c135, c136, c137, c138, c139, c140, c141, c142, c143, c144], df⟩ L a ∧ Hid (Ext wr wc)) ⟨Inv.start, Lib.hid ((Ext.refl wr).drew)⟩ ?_ ?_
  · refine ⟨?_, ?_, ?_, ?_, ?_, ?_, ?_, ?_, ?_, ?_, ?_, ?_, ?_, ?_, trivial⟩
    ·
      rintro L a wc ⟨hv, HO⟩ hL hc hd
      exact wpOp_val rfl rfl (ex_field rfl ((hv.fixed 1 (by decide)).trans rfl) (by go_simp)) ⟨hv.put lc21_apart 0 rfl (lb rfl) (lb rfl) rfl, HO⟩
    ·
      rintro L a wc ⟨hv, HO⟩ hL hc hd
      have h0 : wc.cell? ⟨C, 0, none⟩ = some (.int .i64 d) := HO.out.cell k0
      have h1 : wc.cell? ⟨C, 1, none⟩ = some (.slice GA ng Gc) := HO.out.cell k1
      have h2 : wc.cell? ⟨C, 2, none⟩ = some (.int .i64 gl) := HO.out.cell k2
      exact wpOp_val rfl rfl (ex_load rfl (hv.get 0 rfl rfl (hd 0 (by decide))) (by go_simp)) ⟨hv.put lc21_apart 1 rfl (lb rfl) (lb rfl) rfl, HO⟩
    ·
      rintro L a wc ⟨hv, HO⟩ hL hc hd
      exact wpOp_val rfl rfl (ex_move rfl ((hv.fixed 7 (by decide)).trans rfl)) ⟨hv.put lc21_apart 2 rfl (lb rfl) (lb rfl) rfl, HO⟩
    ·
      rintro L a wc ⟨hv, HO⟩ hL hc hd
      exact wpOp_val rfl rfl (ex_move rfl ((hv.fixed 10 (by decide)).trans rfl)) ⟨hv.put lc21_apart 3 rfl (lb rfl) (lb rfl) rfl, HO⟩
    ·
      rintro L a wc ⟨hv, HO⟩ hL hc hd
      exact wpOp_val rfl rfl (ex_move rfl ((hv.fixed 14 (by decide)).trans rfl)) ⟨hv.put lc21_apart 4 rfl (lb rfl) (lb rfl) rfl, HO⟩
    ·
      rintro L a wc ⟨hv, HO⟩ hL hc hd
      have h2 := HR.out.1
      have h3 : (0 : Int) ≤ (k : Int) := by omega
      have h4 : (k : Int) < 64 := by omega
      exact wpOp_val rfl rfl (ex_bin rfl rfl (hv.get 4 rfl rfl (hd 4 (by decide))) (by go_simp)) ⟨hv.put lc21_apart 5 rfl (lb rfl) (lb rfl) rfl, HO⟩
    ·
      rintro L a wc ⟨hv, HO⟩ hL hc hd
      have h2 := HR.out.2
      exact wpOp_val rfl rfl (ex_bin rfl (hv.get 3 rfl rfl (hd 3 (by decide))) (hv.get 5 rfl rfl (hd 5 (by decide))) (by go_simp)) ⟨hv.put lc21_apart 6 rfl (lb rfl) (lb rfl) rfl, HO⟩
    ·
      rintro L a wc ⟨hv, HO⟩ hL hc hd
      exact wpOp_val rfl rfl (ex_move rfl ((hv.fixed 4 (by decide)).trans rfl)) ⟨hv.put lc21_apart 7 rfl (lb rfl) (lb rfl) rfl, HO⟩
    ·
      rintro L a wc ⟨hv, HO⟩ hL hc hd
      refine wpOp_call (R := fun v w1 => v = .tuple #[.bool true, .int .i64 0] ∧ Ext wc w1) rfl rfl (ex_call rfl rfl (map4c (hv.get 1 rfl rfl (hd 1 (by decide))) (hv.get 2 rfl rfl (hd 2 (by decide))) (hv.get 6 rfl rfl (hd 6 (by decide))) (hv.get 7 rfl rfl (hd 7 (by decide)))) (enters_of Tryd.func17 (by kernel_rfl) rfl _ _)) ((HC.out wc HO.out).mono (fun e w' h => ⟨_, h.1, rfl, h.2⟩)) ?_
      rintro v w' ⟨rfl, hx⟩
      exact ⟨hv.put lc21_apart 8 rfl (lb rfl) (lb rfl) rfl, Lib.hid (HO.out.trans hx)⟩
    ·
      rintro L a wc ⟨hv, HO⟩ hL hc hd
      exact wpOp_val rfl rfl (ex_move rfl (hv.get 8 rfl rfl (hd 8 (by decide)))) ⟨hv.put lc21_apart 9 rfl (lb rfl) (lb rfl) rfl, HO⟩
    ·
      rintro L a wc ⟨hv, HO⟩ hL hc hd
      exact wpOp_val rfl rfl (ex_extract9 rfl (hv.get 9 rfl rfl (hd 9 (by decide))) rfl) ⟨hv.put lc21_apart 10 rfl (lb rfl) (lb rfl) rfl, HO⟩
    ·
      rintro L a wc ⟨hv, HO⟩ hL hc hd
      exact wpOp_val rfl rfl (ex_extract9 rfl (hv.get 9 rfl rfl (hd 9 (by decide))) rfl) ⟨hv.put lc21_apart 11 rfl (lb rfl) (lb rfl) rfl, HO⟩
    ·
      rintro L a wc ⟨hv, HO⟩ hL hc hd
      exact wpOp_val rfl rfl (ex_assign rfl (hv.get 10 rfl rfl (hd 10 (by decide)))) ⟨hv.put lc21_apart 12 rfl (lb rfl) (lb rfl) rfl, HO⟩
    ·
      rintro L a wc ⟨hv, HO⟩ hL hc hd
      exact wpOp_val rfl rfl (ex_assign rfl (hv.get 11 rfl rfl (hd 11 (by decide)))) ⟨hv.put lc21_apart 13 rfl (lb rfl) (lb rfl) rfl, HO⟩
  · rintro L a wc ⟨hv, HO⟩ hall
    show K a wc
    have ha := act_lit a
    rw [hv.size, hv.defers] at ha
    have hl : ∀ f : Nat → Value, ((List.range (⟨#[c0, .pointer (some ⟨C, 0, none⟩), c2, c3, .slice VA nl vc, c5, c6, .int .i64 (n : Nat), c8, c9, .int .i64 (X : Nat), c11, c12, c13, .int .i64 (k : Nat), c15, c16, c17, c18, c19, c20, c21, c22, c23, c24, c25, c26, c27, c28, c29, c30, c31, c32, c33, c34, c35, c36, c37, c38, c39, c40, c41, c42, c43, c44, c45, c46, c47, c48, c49, c50, c51, c52, c53, c54, c55, c56, c57, c58, c59, c60, c61, c62, c63, c64, c65, c66, c67, c68, c69, c70, c71, c72, c73, c74, c75, c76, c77, c78, c79, c80, c81, c82, c83, c84, c85, c86, c87, c88, c89, c90, c91, c92, c93, c94, c95, c96, c97, c98, c99, c100, c101, c102, c103, c104, c105, c106, c107, c108, c109, c110, c111, c112, c113, c114, c115, c116, c117, c118, c119, c120, c121, c122, c123, c124, c125, c126, c127, c128, c129, c130, c131, c132, c133, c134, c135, c136, c137, c138, c139, c140, c141, c142, c143, c144], df⟩ : Act).tmps.size).map f).toArray = #[f 0, f 1, f 2, f 3, f 4, f 5, f 6, f 7, f 8, f 9, f 10, f 11, f 12, f 13, f 14, f 15, f 16, f 17, f 18, f 19, f 20, f 21, f 22, f 23, f 24, f 25, f 26, f 27, f 28, f 29, f 30, f 31, f 32, f 33, f 34, f 35, f 36, f 37, f 38, f 39, f 40, f 41, f 42, f 43, f 44, f 45, f 46, f 47, f 48, f 49, f 50, f 51, f 52, f 53, f 54, f 55, f 56, f 57, f 58, f 59, f 60, f 61, f 62, f 63, f 64, f 65, f 66, f 67, f 68, f 69, f 70, f 71, f 72, f 73, f 74, f 75, f 76, f 77, f 78, f 79, f 80, f 81, f 82, f 83, f 84, f 85, f 86, f 87, f 88, f 89, f 90, f 91, f 92, f 93, f 94, f 95, f 96, f 97, f 98, f 99, f 100, f 101, f 102, f 103, f 104, f 105, f 106, f 107, f 108, f 109, f 110, f 111, f 112, f 113, f 114, f 115, f 116, f 117, f 118, f 119, f 120, f 121, f 122, f 123, f 124, f 125, f 126, f 127, f 128, f 129, f 130, f 131, f 132, f 133, f 134, f 135, f 136, f 137, f 138, f 139, f 140, f 141, f 142, f 143, f 144] := fun _ => rfl
    rw [hl] at ha
    simp only [hv.fixed 0 (by decide), hv.fixed 1 (by decide), hv.fixed 2 (by decide), hv.fixed 3 (by decide), hv.fixed 4 (by decide), hv.fixed 5 (by decide), hv.fixed 6 (by decide), hv.fixed 7 (by decide), hv.fixed 8 (by decide), hv.fixed 9 (by decide), hv.fixed 10 (by decide), hv.fixed 11 (by decide), hv.fixed 12 (by decide), hv.fixed 13 (by decide), hv.fixed 14 (by decide), hv.fixed 17 (by decide), hv.fixed 18 (by decide), hv.fixed 19 (by decide), hv.fixed 20 (by decide), hv.fixed 21 (by decide), hv.fixed 22 (by decide), hv.fixed 23 (by decide), hv.fixed 24 (by decide), hv.fixed 25 (by decide), hv.fixed 26 (by decide), hv.fixed 27 (by decide), hv.fixed 28 (by decide), hv.fixed 29 (by decide), hv.fixed 30 (by decide), hv.fixed 31 (by decide), hv.fixed 32 (by decide), hv.fixed 33 (by decide), hv.fixed 34 (by decide), hv.fixed 35 (by decide), hv.fixed 36 (by decide), hv.fixed 37 (by decide), hv.fixed 38 (by decide), hv.fixed 39 (by decide), hv.fixed 40 (by decide), hv.fixed 41 (by decide), hv.fixed 42 (by decide), hv.fixed 43 (by decide), hv.fixed 44 (by decide), hv.fixed 45 (by decide), hv.fixed 46 (by decide), hv.fixed 47 (by decide), hv.fixed 48 (by decide), hv.fixed 49 (by decide), hv.fixed 50 (by decide), hv.fixed 51 (by decide), hv.fixed 52 (by decide), hv.fixed 53 (by decide), hv.fixed 54 (by decide), hv.fixed 55 (by decide), hv.fixed 56 (by decide), hv.fixed 57 (by decide), hv.fixed 58 (by decide), hv.fixed 59 (by decide), hv.fixed 60 (by decide), hv.fixed 61 (by decide), hv.fixed 62 (by decide), hv.fixed 63 (by decide), hv.fixed 64 (by decide), hv.fixed 65 (by decide), hv.fixed 66 (by decide), hv.fixed 67 (by decide), hv.fixed 68 (by decide), hv.fixed 69 (by decide), hv.fixed 70 (by decide), hv.fixed 71 (by decide), hv.fixed 72 (by decide), hv.fixed 73 (by decide), hv.fixed 74 (by decide), hv.fixed 75 (by decide), hv.fixed 76 (by decide), hv.fixed 77 (by decide), hv.fixed 78 (by decide), hv.fixed 79 (by decide), hv.fixed 80 (by decide), hv.fixed 81 (by decide), hv.fixed 82 (by decide), hv.fixed 83 (by decide), hv.fixed 84 (by decide), hv.fixed 85 (by decide), hv.fixed 86 (by decide), hv.fixed 87 (by decide), hv.fixed 88 (by decide), hv.fixed 89 (by decide), hv.fixed 90 (by decide), hv.fixed 91 (by decide), hv.fixed 92 (by decide), hv.fixed 93 (by decide), hv.fixed 94 (by decide), hv.fixed 95 (by decide), hv.fixed 96 (by decide), hv.fixed 97 (by decide), hv.fixed 98 (by decide), hv.fixed 99 (by decide), hv.fixed 100 (by decide), hv.fixed 101 (by decide), hv.fixed 102 (by decide), hv.fixed 103 (by decide), hv.fixed 104 (by decide), hv.fixed 105 (by decide), hv.fixed 106 (by decide), hv.fixed 107 (by decide), hv.fixed 108 (by decide), hv.fixed 109 (by decide), hv.fixed 110 (by decide), hv.fixed 111 (by decide), hv.fixed 112 (by decide), hv.fixed 113 (by decide), hv.fixed 114 (by decide), hv.fixed 115 (by decide), hv.fixed 116 (by decide), hv.fixed 117 (by decide), hv.fixed 118 (by decide), hv.fixed 119 (by decide), hv.fixed 120 (by decide), hv.fixed 121 (by decide), hv.fixed 122 (by decide), hv.fixed 123 (by decide), hv.fixed 124 (by decide), hv.fixed 125 (by decide), hv.fixed 126 (by decide), hv.fixed 139 (by decide), hv.fixed 140 (by decide), hv.fixed 141 (by decide), hv.fixed 142 (by decide), hv.fixed 143 (by decide), hv.fixed 144 (by decide), hv.get 12 (d := 15) rfl rfl (hall 12 (by decide)), hv.get 13 (d := 16) rfl rfl (hall 13 (by decide))] at ha
    rw [ha]
    exact hK _ _ _ _ _ _ _ _ _ _ _ _ wc HO.out
end Go.Proofs.YtggfkpalkdkbdaaDoor

/- THE WALK over LocateClashes. -/
namespace Go.Proofs.YtggfkpalkdkbdaaDoor
open Go.RowKit
theorem sub_small {X p2 Y : Nat} (hX : X < 16384) (h : p2 ≤ X) (hY : X - p2 = Y) : IntKind.i64.wrap ((X : Int) - (p2 : Int)) = (Y : Int) := by
  rw [IntKind.wrap_i64]; omega
set_option maxHeartbeats 16000000 in
set_option maxRecDepth 100000 in
theorem law_clashes (d gl m : Int) (gs : List (List Int)) (data ats : List UInt8) (bys : List (List UInt8)) (G AV BV : Value) (w : World) (hT : Tab w) (hG : Rs (Rs RI) w G gs) (hA : Rs RB w AV ats) (hBy : Rs RS w BV bys) (hgl : gs.length ≤ 4611686018427387904) (hdl : data.length ≤ 9223372036854775807) :
    Calls Tryd.prog 7 #[.agg #[.int .i64 d, G, .int .i64 gl, .string (sb data), .int .i64 m, AV, BV]] w fun e w' => e = .returned (.bool true) ∧ Ext w w' := by
  have HGN := Lib.hid (And.intro hgl hdl)
  obtain ⟨GA, Gc, rfl, _⟩ := hG.form
  obtain ⟨ng, hng⟩ : ∃ ng, gs.length = ng := ⟨_, rfl⟩
  rw [hng] at hG ⊢
  obtain ⟨AA, Ac, rfl, han63⟩ := hA.form
  obtain ⟨an, han⟩ : ∃ an, ats.length = an := ⟨_, rfl⟩
  rw [han] at hA han63 ⊢
  obtain ⟨BA, Bc, rfl, hbn63⟩ := hBy.form
  obtain ⟨bn, hbn⟩ : ∃ bn, bys.length = bn := ⟨_, rfl⟩
  rw [hbn] at hBy hbn63 ⊢
  have hB : Owns w (w.alloc (.cells #[.int .i64 d, .slice GA ng Gc, .int .i64 gl, .string (sb data), .int .i64 m, .slice AA an Ac, .slice BA bn Bc] 50)) [⟨.slice (some ⟨w.heap.size, 0, none⟩) 7 7, 50, 1, 7, [.int .i64 d, .slice GA ng Gc, .int .i64 gl, .string (sb data), .int .i64 m, .slice AA an Ac, .slice BA bn Bc]⟩] := (Owns.start w (L := [no]) (by intro r hr; simp at hr; subst hr; exact ⟨rfl, rfl, rfl⟩)).new 0 #[.int .i64 d, .slice GA ng Gc, .int .i64 gl, .string (sb data), .int .i64 m, .slice AA an Ac, .slice BA bn Bc] 50 (by simp [maxLen])
  have HG := Lib.hid hG
  have HB := Lib.hid hB
  have HT := Lib.hid (hT.ext HB.out.ext)
  have HA := Lib.hid (And.intro (Rs.ext RB.ext _ _ _ _ HB.out.ext hA) (Rs.ext RS.ext _ _ _ _ HB.out.ext hBy))
  clear hG hB hng hT hA hBy han hbn hgl hdl
  go_enter Tryd.func7, Tryd.ntmps7
  go_upto_region 1 with fail
  obtain ⟨C, hC⟩ : ∃ C, w.heap.size = C := ⟨_, rfl⟩
  rw [hC] at HB ⊢
  obtain ⟨w1, hw1⟩ : ∃ x, w.alloc (.cells #[.int .i64 d, .slice GA ng Gc, .int .i64 gl, .string (sb data), .int .i64 m, .slice AA an Ac, .slice BA bn Bc] 50) = x := ⟨_, rfl⟩
  rw [hw1] at HB HT HA ⊢
  clear hw1 hC
  have HX := Lib.hid (Ext.refl w1)
  have HSA := Lib.hid (sanity9_any w1 HT.out)
  go_wp2_with fail
  refine HSA.out.mono ?_
  clear HSA
  rintro e w2 ⟨rfl, hx⟩
  replace HX := Lib.hid (HX.out.trans hx)
  clear hx
  have HSP := Lib.hid (lSpoil_any d gl m gs data ats bys _ _ _ w2 (HT.out.ext HX.out) (Rs.ext (Rs.ext RI.ext) _ _ _ _ (HB.out.ext.trans HX.out) HG.out) (Rs.ext RB.ext _ _ _ _ HX.out HA.out.1) (Rs.ext RS.ext _ _ _ _ HX.out HA.out.2) HGN.out.1 HGN.out.2)
  have k0 : w2.cell? ⟨C, 0, none⟩ = some (.int .i64 d) := (HB.out.next HX.out).cell 0 rfl 0 rfl
  have k1 : w2.cell? ⟨C, 1, none⟩ = some (.slice GA ng Gc) := (HB.out.next HX.out).cell 0 rfl 1 rfl
  have k2 : w2.cell? ⟨C, 2, none⟩ = some (.int .i64 gl) := (HB.out.next HX.out).cell 0 rfl 2 rfl
  have k3 : w2.cell? ⟨C, 3, none⟩ = some (.string (sb data)) := (HB.out.next HX.out).cell 0 rfl 3 rfl
  have k4 : w2.cell? ⟨C, 4, none⟩ = some (.int .i64 m) := (HB.out.next HX.out).cell 0 rfl 4 rfl
  have k5 : w2.cell? ⟨C, 5, none⟩ = some (.slice AA an Ac) := (HB.out.next HX.out).cell 0 rfl 5 rfl
  have k6 : w2.cell? ⟨C, 6, none⟩ = some (.slice BA bn Bc) := (HB.out.next HX.out).cell 0 rfl 6 rfl
  go_wp2_with fail
  refine HSP.out.mono ?_
  clear HSP k0 k1 k2 k3 k4 k5 k6
  rintro e w3 ⟨b, V, c, rfl, hx, hno, hyes⟩
  replace HX := Lib.hid (HX.out.trans hx)
  clear hx
  have HNO := Lib.hid hno
  have HY := Lib.hid hyes
  clear hno hyes
  cases b with
  | false =>
    go_wp2_with fail
    go_ret
    exact ⟨rfl, HB.out.ext.trans HX.out⟩
  | true =>
    obtain ⟨M, l, rfl, hl, hsp, hP14, hd60, hlp⟩ := HY.out (by trivial)
    obtain ⟨P, hP⟩ : ∃ P, (Cd.rowsOf d gs gl).length = P := ⟨_, rfl⟩
    have hM := hsp.lt
    have hln := hsp.len
    have hcm := hsp.sub
    have hcl := Nat.lt_of_le_of_lt (Lo.sub_le hcm) hM
    rw [hP] at hP14 hM hln hcl
    have h24 : 2 ^ P ≤ 16384 := (show 2 ^ P ≤ 2 ^ 14 from Nat.pow_le_pow_right (by decide) hP14)
    have hc14 : c < 16384 := by omega
    have hM14 : M < 16384 := by omega
    obtain ⟨VA, vc, rfl, _⟩ := hl.form
    rw [hln] at hl ⊢
    have HLN := Lib.hid hln
    have HL := Lib.hid hl
    have HX3 := Lib.hid (Ext.refl w3)
    have HSP := Lib.hid hsp
    have HP := Lib.hid (And.intro hP (And.intro hM hP14))
    have HLP := Lib.hid hlp
    have hd4 : (data.length : Int) ≤ 60 := by omega
    have hN14 : Cd.check d gs gl = 0 → (Cd.rowsOf d gs gl).length ≤ 14 := fun _ => by rw [HP.out.1]; exact HP.out.2.2
    have HN := Lib.hid hN14
    have HG0 := Lib.hid (Lo.Spoilt.giv hsp)
    clear hl hsp hP hM hcm hcl h24 hlp hln hN14
    have HCT := Lib.hid (lCount_any M w3 hM14)
    obtain ⟨nm, hnm⟩ : ∃ nm, Lo.num M = nm := ⟨_, rfl⟩
    rw [hnm] at HCT
    have HNM := Lib.hid hnm
    clear hnm
    have k0 : w3.cell? ⟨C, 0, none⟩ = some (.int .i64 d) := (HB.out.next HX.out).cell 0 rfl 0 rfl
    have k1 : w3.cell? ⟨C, 1, none⟩ = some (.slice GA ng Gc) := (HB.out.next HX.out).cell 0 rfl 1 rfl
    have k2 : w3.cell? ⟨C, 2, none⟩ = some (.int .i64 gl) := (HB.out.next HX.out).cell 0 rfl 2 rfl
    have k3 : w3.cell? ⟨C, 3, none⟩ = some (.string (sb data)) := (HB.out.next HX.out).cell 0 rfl 3 rfl
    have k4 : w3.cell? ⟨C, 4, none⟩ = some (.int .i64 M) := (HB.out.next HX.out).cell 0 rfl 4 rfl
    have k5 : w3.cell? ⟨C, 5, none⟩ = some (.slice AA an Ac) := (HB.out.next HX.out).cell 0 rfl 5 rfl
    have k6 : w3.cell? ⟨C, 6, none⟩ = some (.slice BA bn Bc) := (HB.out.next HX.out).cell 0 rfl 6 rfl
    go_wp2_with fail
    refine HCT.out.mono ?_
    clear HCT k0 k1 k2 k3 k4 k5 k6
    rintro e w' ⟨rfl, rfl⟩
    by_cases h10 : (10 : Int) < (nm : Int)
    · go_wp2_with fail
      go_ret
      exact ⟨rfl, HB.out.ext.trans HX.out⟩
    have hft := lFits_any d gl data.length M gs l _ VA vc w3 (HT.out.ext HX.out) (Rs.ext (Rs.ext RI.ext) _ _ _ _ (HB.out.ext.trans HX.out) HG.out) (by rw [HLN.out]; exact Rs.ext RS.ext _ _ _ _ HX3.out HL.out)
    obtain ⟨al, hal⟩ : ∃ al, Lo.fitB d gl gs (data.length : Int) (M : Int) l = al := ⟨_, rfl⟩
    rw [hal, HG0.out, HLN.out] at hft
    have HFT := Lib.hid hft
    have HAL := Lib.hid hal
    clear hft hal
    have k0 : w3.cell? ⟨C, 0, none⟩ = some (.int .i64 d) := (HB.out.next HX.out).cell 0 rfl 0 rfl
    have k1 : w3.cell? ⟨C, 1, none⟩ = some (.slice GA ng Gc) := (HB.out.next HX.out).cell 0 rfl 1 rfl
    have k2 : w3.cell? ⟨C, 2, none⟩ = some (.int .i64 gl) := (HB.out.next HX.out).cell 0 rfl 2 rfl
    have k3 : w3.cell? ⟨C, 3, none⟩ = some (.string (sb data)) := (HB.out.next HX.out).cell 0 rfl 3 rfl
    have k4 : w3.cell? ⟨C, 4, none⟩ = some (.int .i64 M) := (HB.out.next HX.out).cell 0 rfl 4 rfl
    have k5 : w3.cell? ⟨C, 5, none⟩ = some (.slice AA an Ac) := (HB.out.next HX.out).cell 0 rfl 5 rfl
    have k6 : w3.cell? ⟨C, 6, none⟩ = some (.slice BA bn Bc) := (HB.out.next HX.out).cell 0 rfl 6 rfl
    go_wp2_with fail
    refine HFT.out.mono ?_
    clear HFT k0 k1 k2 k3 k4 k5 k6
    rintro e w4 ⟨rfl, hx⟩
    replace HX := Lib.hid (HX.out.trans hx)
    replace HX3 := Lib.hid (HX3.out.trans hx)
    clear hx
    have hcl := lClash_any d gl data.length M gs l _ VA vc w4 (HT.out.ext HX.out) (Rs.ext (Rs.ext RI.ext) _ _ _ _ (HB.out.ext.trans HX.out) HG.out) (by rw [HLN.out]; exact Rs.ext RS.ext _ _ _ _ HX3.out HL.out) HN.out
    rw [HLN.out] at hcl
    have HCL := Lib.hid hcl
    clear hcl
    have k0 : w4.cell? ⟨C, 0, none⟩ = some (.int .i64 d) := (HB.out.next HX.out).cell 0 rfl 0 rfl
    have k1 : w4.cell? ⟨C, 1, none⟩ = some (.slice GA ng Gc) := (HB.out.next HX.out).cell 0 rfl 1 rfl
    have k2 : w4.cell? ⟨C, 2, none⟩ = some (.int .i64 gl) := (HB.out.next HX.out).cell 0 rfl 2 rfl
    have k3 : w4.cell? ⟨C, 3, none⟩ = some (.string (sb data)) := (HB.out.next HX.out).cell 0 rfl 3 rfl
    have k4 : w4.cell? ⟨C, 4, none⟩ = some (.int .i64 M) := (HB.out.next HX.out).cell 0 rfl 4 rfl
    have k5 : w4.cell? ⟨C, 5, none⟩ = some (.slice AA an Ac) := (HB.out.next HX.out).cell 0 rfl 5 rfl
    have k6 : w4.cell? ⟨C, 6, none⟩ = some (.slice BA bn Bc) := (HB.out.next HX.out).cell 0 rfl 6 rfl
    go_wp2_with fail
    refine HCL.out.mono ?_
    clear HCL k0 k1 k2 k3 k4 k5 k6
    rintro e w5 ⟨x, E, rfl, hco, hx⟩
    replace HX := Lib.hid (HX.out.trans hx)
    replace HX3 := Lib.hid (HX3.out.trans hx)
    clear hx
    rcases HSP.out.clash (by rw [HP.out.1]; exact hP14) (by rw [HNM.out]; omega) hco with ⟨f1, rfl, rfl⟩ | ⟨f1, f2, rfl, X, rfl, hX⟩
    · rw [HAL.out] at f1
      subst f1
      clear hco
      by_cases hc0 : c = 0
      · have e0 : ((c : Int) == 0) = true := by rw [hc0]; rfl
        clear hc0
        go_wp2_with fail
        go_ret
        exact ⟨rfl, HB.out.ext.trans HX.out⟩
      · have e0 : ((c : Int) == 0) = false := by rw [beq_eq_false_iff_ne]; omega
        clear hc0
        go_wp2_with fail
        go_ret
        exact ⟨rfl, HB.out.ext.trans HX.out⟩
    · rw [HAL.out] at f1
      subst f1
      have e0 : ((c : Int) == 0) = false := by rw [beq_eq_false_iff_ne]; omega
      obtain ⟨x1, x2, x3, x4, x5, x6⟩ := hX
      have hXM := Lo.sub_le x1
      have hX14 : X < 16384 := by omega
      have hand := and64 X M (by omega) (by omega)
      rw [Lo.and_sub.2 x1] at hand
      have hand2 := and64 X c (by omega) (by omega)
      obtain ⟨z, hz⟩ : ∃ z, X &&& c = z := ⟨_, rfl⟩
      rw [hz] at hand2 x2
      obtain ⟨nx, hnx⟩ : ∃ nx, Lo.num X = nx := ⟨_, rfl⟩
      rw [hnx] at x3
      have hdk := Cd.check_ok HSP.out.ok
      obtain ⟨D1, hD1⟩ : ∃ D1, d + 1 = D1 := ⟨_, rfl⟩
      have hw1 : IntKind.i64.wrap (d + 1) = D1 := by rw [IntKind.wrap_i64]; omega
      have HC1 : Hid (∀ w1 : World, Calls Tryd.prog 22 #[.int .i64 (X : Nat)] w1 fun e w' => e = .returned (.int .i64 (nx : Nat)) ∧ w1 = w') := Lib.hid fun w' => by
        have := lCount_any X w' hX14
        rw [hnx] at this
        exact this
      have HA1 : Hid (bits .and .i64 (X : Int) (M : Int) = (X : Int) ∧ ((X : Int) != (X : Int)) = false) := Lib.hid ⟨hand, by simp⟩
      have HZ1 : Hid (bits .and .i64 (X : Int) (c : Int) = (z : Int) ∧ ((z : Int) == 0) = false) := Lib.hid ⟨hand2, by rw [beq_eq_false_iff_ne]; omega⟩
      have hle : ¬ D1 < (nx : Int) := by omega
      have HX6 := Lib.hid x6
      have HX4 := Lib.hid (And.intro x4 x5)
      clear hco f2 x1 x2 x3 x4 x5 x6 hand hand2 hz hnx hdk hD1
      have k0 : w5.cell? ⟨C, 0, none⟩ = some (.int .i64 d) := (HB.out.next HX.out).cell 0 rfl 0 rfl
      have k1 : w5.cell? ⟨C, 1, none⟩ = some (.slice GA ng Gc) := (HB.out.next HX.out).cell 0 rfl 1 rfl
      have k2 : w5.cell? ⟨C, 2, none⟩ = some (.int .i64 gl) := (HB.out.next HX.out).cell 0 rfl 2 rfl
      have k3 : w5.cell? ⟨C, 3, none⟩ = some (.string (sb data)) := (HB.out.next HX.out).cell 0 rfl 3 rfl
      have k4 : w5.cell? ⟨C, 4, none⟩ = some (.int .i64 M) := (HB.out.next HX.out).cell 0 rfl 4 rfl
      have k5 : w5.cell? ⟨C, 5, none⟩ = some (.slice AA an Ac) := (HB.out.next HX.out).cell 0 rfl 5 rfl
      have k6 : w5.cell? ⟨C, 6, none⟩ = some (.slice BA bn Bc) := (HB.out.next HX.out).cell 0 rfl 6 rfl
      go_upto_region 12 with fail
      refine wp_atEnd' (lc12 w5 C M X c nx d D1 k0 k4 HA1 z HZ1 hw1 (by omega) HC1 _ _ _ _ _ _ _ _ _ _ _ _ _ _ _ _ _ _ _ _ _ _ _ _ _ _ _ _ _ _ _ _ _ _ _ _ _ _ _ _ _ _ _ _ _ _ _ _ _ _ _ _ _ _ _ _ _ _ _ _ _ _ _ _ _ _ _ _ _ _ _ _ _ _ _ _ _ _ _ _ _ _ _ _ _ _ _ _ _ _ _ _ _ _ _ _ _ _ _ _ _ _ _ _ _ _ _ _ _ _ _ _ _ _ _ _ _ _ _ _ _ _ _ _ _ _ _ _ _ _ _ _ _ _ _ _ _ _ _ _ _ _ _ ?_)
      rintro u77 u78 u79 u80 u81 u82 u83 u84 u85 u86 u87 u88 u89 u90 u91 u92 u93 u94 u95 u96 u97 u98 u99 u100 w6 hx
      replace HX := Lib.hid (HX.out.trans hx)
      replace HX3 := Lib.hid (HX3.out.trans hx)
      clear hx k0 k1 k2 k3 k4 k5 k6 HA1 HZ1 hw1 hle HC1
      have hft := lFits_any d gl data.length X gs l _ VA vc w6 (HT.out.ext HX.out) (Rs.ext (Rs.ext RI.ext) _ _ _ _ (HB.out.ext.trans HX.out) HG.out) (by rw [HLN.out]; exact Rs.ext RS.ext _ _ _ _ HX3.out HL.out)
      rw [HX4.out.1, HX4.out.2, HLN.out] at hft
      have HFT := Lib.hid hft
      clear hft
      have k0 : w6.cell? ⟨C, 0, none⟩ = some (.int .i64 d) := (HB.out.next HX.out).cell 0 rfl 0 rfl
      have k1 : w6.cell? ⟨C, 1, none⟩ = some (.slice GA ng Gc) := (HB.out.next HX.out).cell 0 rfl 1 rfl
      have k2 : w6.cell? ⟨C, 2, none⟩ = some (.int .i64 gl) := (HB.out.next HX.out).cell 0 rfl 2 rfl
      have k3 : w6.cell? ⟨C, 3, none⟩ = some (.string (sb data)) := (HB.out.next HX.out).cell 0 rfl 3 rfl
      have k4 : w6.cell? ⟨C, 4, none⟩ = some (.int .i64 M) := (HB.out.next HX.out).cell 0 rfl 4 rfl
      have k5 : w6.cell? ⟨C, 5, none⟩ = some (.slice AA an Ac) := (HB.out.next HX.out).cell 0 rfl 5 rfl
      have k6 : w6.cell? ⟨C, 6, none⟩ = some (.slice BA bn Bc) := (HB.out.next HX.out).cell 0 rfl 6 rfl
      go_wp2_with fail
      refine HFT.out.mono ?_
      clear HFT k0 k1 k2 k3 k4 k5 k6
      rintro e w7 ⟨rfl, hx⟩
      replace HX := Lib.hid (HX.out.trans hx)
      replace HX3 := Lib.hid (HX3.out.trans hx)
      clear hx
      go_wp2_with fail
      go_loopw [14, 15, 16] (fun v14 _ _ wr => ∃ k : Nat, k ≤ P ∧ v14 = .int .i64 (k : Nat) ∧ Hid (Ext w7 wr)) (fun v14 _ _ _ => P - (intOf v14).toNat)
      case atStart => exact ⟨0, Nat.zero_le _, rfl, Lib.hid (Ext.refl _)⟩
      case round =>
        obtain ⟨k, hk, rfl, HI⟩ := hrel
        by_cases hkP : k < P
        · have hmm : bits .and .i64 ((X : Int) / 2 ^ k) 1 = ((Cd.bitAt X k : Nat) : Int) := by
            have hle : X / 2 ^ k ≤ X := Nat.div_le_self _ _
            have := odd64 (X / 2 ^ k) (by omega)
            rw [Cd.bitAt, ← this]
            simp
          by_cases hbt : Cd.bitAt X k = 1
          · rw [hbt] at hmm
            obtain ⟨y1, y2, y3⟩ := HX6.out k hbt
            obtain ⟨p2, hp2⟩ : ∃ p2, 2 ^ k = p2 := ⟨_, rfl⟩
            rw [hp2] at y1 y2 y3
            obtain ⟨Y, hY⟩ : ∃ Y, X - p2 = Y := ⟨_, rfl⟩
            rw [hY] at y2 y3
            have hw2 : IntKind.i64.wrap (2 ^ k) = (p2 : Int) := by
              have h := wrap_pow k (by omega)
              rw [IntKind.wrap_i64, ← hp2]
              unfold wrap64 at h
              exact h
            have hw3 : IntKind.i64.wrap ((X : Int) - (p2 : Int)) = (Y : Int) := sub_small hX14 y1 hY
            have HR2 := Lib.hid (And.intro hw2 hw3)
            have HFY : Hid (∀ w1 : World, Ext wr w1 → Calls Tryd.prog 17 #[.agg #[.int .i64 d, .slice GA ng Gc, .int .i64 gl], .int .i64 (data.length : Nat), .int .i64 (Y : Nat), .slice VA P vc] w1 fun e w' => e = .returned (.tuple #[.bool true, .int .i64 0]) ∧ Ext w1 w') := Lib.hid fun w' h => by
              have hf := lFits_any d gl data.length Y gs l _ VA vc w' (HT.out.ext (HX.out.trans (HI.out.trans h))) (Rs.ext (Rs.ext RI.ext) _ _ _ _ (HB.out.ext.trans (HX.out.trans (HI.out.trans h))) HG.out) (by rw [HLN.out]; exact Rs.ext RS.ext _ _ _ _ (HX3.out.trans (HI.out.trans h)) HL.out)
              rw [y2, y3, HLN.out] at hf
              exact hf
            have k0 : wr.cell? ⟨C, 0, none⟩ = some (.int .i64 d) := (HB.out.next (HX.out.trans HI.out)).cell 0 rfl 0 rfl
            have k1 : wr.cell? ⟨C, 1, none⟩ = some (.slice GA ng Gc) := (HB.out.next (HX.out.trans HI.out)).cell 0 rfl 1 rfl
            have k2 : wr.cell? ⟨C, 2, none⟩ = some (.int .i64 gl) := (HB.out.next (HX.out.trans HI.out)).cell 0 rfl 2 rfl
            clear hbt y1 y2 y3 hp2 hY hw2 hw3
            go_upto_region 21 with fail
            refine wp_atEnd' (lc21 wr C ng Gc k X Y p2 data.length P vc GA VA d gl k0 k1 k2 (by omega) HR2 HFY _ _ _ _ _ _ _ _ _ _ _ _ _ _ _ _ _ _ _ _ _ _ _ _ _ _ _ _ _ _ _ _ _ _ _ _ _ _ _ _ _ _ _ _ _ _ _ _ _ _ _ _ _ _ _ _ _ _ _ _ _ _ _ _ _ _ _ _ _ _ _ _ _ _ _ _ _ _ _ _ _ _ _ _ _ _ _ _ _ _ _ _ _ _ _ _ _ _ _ _ _ _ _ _ _ _ _ _ _ _ _ _ _ _ _ _ _ _ _ _ _ _ _ _ _ _ _ _ _ _ _ _ _ _ _ _ _ _ _ _ _ _ ?_)
            rintro u127 u128 u129 u130 u131 u132 u133 u134 u135 u136 u137 u138 wy hx
            have HY := Lib.hid hx
            clear hx k0 k1 k2 HFY HR2 hmm
            go_wp2_with fail
            go_roundw
            case rel => exact ⟨k + 1, by omega, by go_num, Lib.hid (HI.out.trans HY.out)⟩
            case measure => simp [intOf]; omega
          · have hb0 : Cd.bitAt X k = 0 := by have := Lo.bit_two X k; omega
            rw [hb0] at hmm
            clear hbt hb0
            go_wp2_with fail
            go_roundw
            case rel => exact ⟨k + 1, by omega, by go_num, HI⟩
            case measure => simp [intOf]; omega
        · obtain rfl : k = P := by omega
          go_wp2_with fail
          go_ret
          exact ⟨rfl, HB.out.ext.trans (HX.out.trans HI.out)⟩
end Go.Proofs.YtggfkpalkdkbdaaDoor
