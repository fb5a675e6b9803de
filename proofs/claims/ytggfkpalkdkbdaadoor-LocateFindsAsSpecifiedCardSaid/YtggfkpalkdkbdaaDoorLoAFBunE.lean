/- What the program's functions do, step by step: part E of the texts for this claim; no condition beyond what each theorem states. -/
import Derived.Deep.CutRange
import Derived.Deep.Cut
import Derived.Deep.DeepCutAuto
import Derived.Deep.Matrix
import Derived.Lib.SmallJoins
import Derived.SizedLaws
import Derived.Deep.Slices
import Derived.Test.YtggfkpalkdkbdaaDoorLoAFBunA
import Derived.Test.YtggfkpalkdkbdaaDoorLoAFBunB
import Derived.Test.YtggfkpalkdkbdaaDoorLoAFBunC
import Derived.Test.YtggfkpalkdkbdaaDoorLoAFBunD
/- THE WALKS over the specification of codes: Encode. -/
namespace Go.Proofs.YtggfkpalkdkbdaaDoor
open Go.RowKit
/-- The variable of Encode's result. -/
def listedRow (g : Nat) (v e : Value) : LRow := ⟨.slice (some ⟨g, 0, none⟩) 2 2, 99, 1, 2, [v, e]⟩
theorem rs_of_owns {w0 w : World} {L : List LRow} (h : Owns w0 w L) (i : Nat) {A : Option Addr} {n c e : Nat} {l : List (List UInt8)} (hi : L[i]? = some ⟨.slice A n c, e, 1, n, l.map sv⟩) (hl : l.length ≤ 9223372036854775807) : Rs RS w (.slice A n c) l := by
  have h1 := (h.row i hi).1
  have hn : n = l.length := by simp at h1; omega
  subst hn
  exact Rs.of_rdS (h.rd i hi) hl
set_option maxRecDepth 100000 in
set_option maxHeartbeats 8000000 in
theorem rEncode_ok (d gl : Nat) (gs : List (List Int)) (data : List UInt8) (G : Value) (w : World) (hG : Rs (Rs RI) w G gs) (h0 : Cd.check d gs gl = 0) (hb : data.length ≤ 4096) :
    Calls Tryd.prog 60 #[.agg #[.int .i64 d, G, .int .i64 gl], .string (sb data)] w fun e w' => ∃ v, e = .returned (.agg #[v, .int .i64 0]) ∧ Rs RS w' v (Cd.encode d gl gs data) ∧ Ext w w' := by
  have hx0 := (Ext.refl w).alloc (.cells #[.int .i64 d, G, .int .i64 gl] 24)
  have hk := Cd.check_ok h0
  have HX := Lib.hid (And.intro hx0 (Rs.ext (Rs.ext RI.ext) _ _ _ _ hx0 hG))
  obtain ⟨GA, Gc, rfl, _⟩ := hG.form
  obtain ⟨k1, k2, k3, k4, k5, k6⟩ := hk
  have hsz := Cd.size_le (d := d) (by omega) data.length
  obtain ⟨sz, hsze⟩ : ∃ sz, Cd.sizeN d data.length = sz := ⟨_, rfl⟩
  have hso := Cd.sizeOf_nat (d := d) (gl := gl) (gs := gs) hb h0
  have hcut : ∀ i, i < d → Cd.partR data i sz = (Cd.cuts d data).getD i [] := fun i hi => by rw [← hsze]; exact Cd.partR_cut (by omega) hi
  rw [hsze] at hsz hso
  obtain ⟨p, hp⟩ : ∃ p, d + gs.length + gl = p := ⟨_, rfl⟩
  have hpc : Cd.pieces d gs gl = (p : Int) := by rw [Cd.pieces_ok h0]; omega
  obtain ⟨parts, hparts⟩ : ∃ parts, Cd.cuts d data = parts := ⟨_, rfl⟩
  have hpl : parts.length = d := by rw [← hparts, Cd.cuts_len]
  have hps : ∀ q ∈ parts, q.length ≤ 1000000 := fun q hq => by
    rw [← hparts] at hq
    have h1 := Cd.cuts_all (by omega) data hq
    omega
  have hrow : ∀ k, k < p → (Cd.rowsOf d gs gl).getD k [] = (List.range d).map (Cd.rowAt d gs k) := fun k hk => by
    rw [Cd.rowsOf_ok h0]
    exact Cd.rows_get (by show k < d + gs.length + gl; rw [hp]; exact hk)
  have hrl : (Cd.rowsOf (d : Int) gs (gl : Int)).length = p := by rw [Cd.rowsOf_ok h0, Cd.rows_len, ← hp]; rfl
  obtain ⟨R, hR⟩ : ∃ R, Cd.rowsOf (d : Int) gs (gl : Int) = R := ⟨_, rfl⟩
  have henc : Cd.encode (d : Int) (gl : Int) gs data = Cd.encRows R parts := by rw [Cd.encode, hR, Int.toNat_natCast, hparts]
  rw [hparts] at hcut
  rw [hR] at hrow hrl
  have hp24 : p ≤ 24 := by omega
  have hd16 : d ≤ 16 := by omega
  have hgn : gs.length ≤ 1000000 := by omega
  have e1 : (Cd.check d gs gl != 0) = false := by rw [h0]; rfl
  have HC := Lib.hid (And.intro h0 (And.intro hso (And.intro hpc hp)))
  have HP := Lib.hid (And.intro hcut (And.intro hpl (And.intro hps (And.intro hrow (And.intro hrl henc)))))
  have hst := (Owns.start (w.alloc (.cells #[.int .i64 d, .slice GA gs.length Gc, .int .i64 gl] 24)) (L := [no, nilRow 9, no]) (by intro r hr; simp [no, nilRow] at hr; rcases hr with rfl | rfl | rfl <;> simp)).new 0 #[.slice none 0 0, .int .i64 0] 99 (by simp [maxLen])
  have HST := Lib.hid hst
  clear hG hx0 h0 hsze hso hcut hpc hp hparts hpl hps hrow hrl hR henc hst k1 k3 k4 k5 k6
  go_enter Tryd.func60, Tryd.ntmps60
  go_wp2_with fail
  refine (rCheck_any d gl gs _ _ (Rs.ext (Rs.ext RI.ext) _ _ _ _ ((Ext.refl _).alloc _) HX.out.2) hgn).mono ?_
  rintro e w1 ⟨rfl, hx1⟩
  have HO1 := Lib.hid (HST.out.next hx1)
  clear hx1
  go_wp2_with fail
  go_loopw [6, 7] (fun vo vi wr => ∃ (i cp : Nat) (A : Option Addr), i ≤ d ∧ vi = .int .i64 i ∧ vo = .slice A i cp ∧ Hid (Owns (w.alloc (.cells #[.int .i64 d, .slice GA gs.length Gc, .int .i64 gl] 24)) wr [listedRow (w.heap.size + 1) (.slice none 0 0) (.int .i64 0), ⟨.slice A i cp, 9, 1, i, (parts.take i).map sv⟩, no])) (fun _ vi _ => d - (intOf vi).toNat)
  case atStart => exact ⟨0, 0, none, Nat.zero_le _, rfl, rfl, Lib.hid (by simpa [listedRow, nilRow] using HO1.out)⟩
  case round =>
    obtain ⟨i, cp, A, hi, rfl, rfl, HI⟩ := hrel
    have hc0 : wr.cell? ⟨w.heap.size, 0, none⟩ = some (.int .i64 d) := HI.out.ext.cell (by go_simp)
    have hc1 : wr.cell? ⟨w.heap.size, 1, none⟩ = some (.slice GA gs.length Gc) := HI.out.ext.cell (by go_simp)
    have hc2 : wr.cell? ⟨w.heap.size, 2, none⟩ = some (.int .i64 gl) := HI.out.ext.cell (by go_simp)
    by_cases hlt : i < d
    · go_wp2_with fail
      refine (rSize_any d gl data.length gs _ _ (Rs.ext (Rs.ext RI.ext) _ _ _ _ HI.out.ext HX.out.2) hgn).mono ?_
      rintro e w2 ⟨rfl, hx2⟩
      rw [HC.out.2.1]
      have HX2 := Lib.hid hx2
      clear hx2 hc0 hc1 hc2
      go_wp2_with fail
      refine (rPart_any data i sz _ (by omega) (by omega) (by omega)).mono ?_
      rintro e w3 ⟨rfl, hx3⟩
      have HI3 := Lib.hid (HI.out.next (HX2.out.trans hx3))
      have htk : (parts.take (i + 1)).map sv = (parts.take i).map sv ++ [sv (Cd.partR data i sz)] := by
        have hil : i < parts.length := by rw [HP.out.2.1]; exact hlt
        rw [HP.out.1 i hlt, getD_get hil, List.take_succ_eq_append_getElem hil, List.map_append]; rfl
      obtain ⟨ct, hct⟩ : ∃ ct, Cd.partR data i sz = ct := ⟨_, rfl⟩
      rw [hct] at htk ⊢
      have HTK := Lib.hid htk
      clear hx3 htk hct
      go_wp2_with (have hB := HI3.out.new 2 #[sv ct] 9 (by simp [maxLen]); refine wpl_append_owns (u := sv ct) 34 9 rfl (.tmp 26) (.tmp 34) rfl Tryd.underlying34 info_str rfl hB 1 rfl rfl rfl (hB.cell 2 rfl 0 rfl) rfl (by omega) (by decide) ?_; clear hB; intro g8 c8 w8 hO8 _)
      have HO8 := Lib.hid (hO8.drop 2)
      clear hO8
      go_wp2_with fail
      go_roundw
      case rel => exact ⟨i + 1, c8, _, by omega, by go_num, rfl, Lib.hid (by rw [HTK.out]; exact HO8.out)⟩
      case measure => simp [intOf]; omega
    · obtain rfl : i = d := by omega
      have htk : parts.take i = parts := by rw [← HP.out.2.1, List.take_length]
      have hO5 := HI.out
      rw [htk] at hO5
      have hO6 := hO5.wider.put 2 (nilRow 9) hO5.ext (nilRow_ok _ _ _) (fun _ _ _ _ _ _ => rfl) (fun _ _ _ _ => .inl rfl)
      have HO6 := Lib.hid hO6
      clear htk hO5 hO6
      go_wp2_with fail
      clear hc0 hc1 hc2
      go_loopw [8, 9] (fun vo vk wr => ∃ (k co : Nat) (O : Option Addr), k ≤ p ∧ vk = .int .i64 k ∧ vo = .slice O k co ∧ Hid (Owns (w.alloc (.cells #[.int .i64 i, .slice GA gs.length Gc, .int .i64 gl] 24)) wr [listedRow (w.heap.size + 1) (.slice none 0 0) (.int .i64 0), ⟨.slice A i cp, 9, 1, i, parts.map sv⟩, ⟨.slice O k co, 9, 1, k, (Cd.encRows (R.take k) parts).map sv⟩, no])) (fun _ vk _ => p - (intOf vk).toNat)
      case atStart => exact ⟨0, 0, none, Nat.zero_le _, rfl, rfl, HO6.out⟩
      case round =>
        obtain ⟨k, co, O, hk2, rfl, rfl, HJ⟩ := hrel
        have hc0 : wr.cell? ⟨w.heap.size, 0, none⟩ = some (.int .i64 i) := HJ.out.ext.cell (by go_simp)
        have hc1 : wr.cell? ⟨w.heap.size, 1, none⟩ = some (.slice GA gs.length Gc) := HJ.out.ext.cell (by go_simp)
        have hc2 : wr.cell? ⟨w.heap.size, 2, none⟩ = some (.int .i64 gl) := HJ.out.ext.cell (by go_simp)
        have HCC := Lib.hid (And.intro hc0 (And.intro hc1 hc2))
        go_wp2_with fail
        refine (rPieces_any i gl gs _ _ (Rs.ext (Rs.ext RI.ext) _ _ _ _ HJ.out.ext HX.out.2) hgn).mono ?_
        rintro e w2 ⟨rfl, hx2⟩
        rw [HC.out.2.2.1]
        have hd0 : w2.cell? ⟨w.heap.size, 0, none⟩ = some (.int .i64 i) := hx2.cell HCC.out.1
        have hd1 : w2.cell? ⟨w.heap.size, 1, none⟩ = some (.slice GA gs.length Gc) := hx2.cell HCC.out.2.1
        have hd2 : w2.cell? ⟨w.heap.size, 2, none⟩ = some (.int .i64 gl) := hx2.cell HCC.out.2.2
        have HX2 := Lib.hid hx2
        clear hx2 hc0 hc1 hc2
        by_cases hlt2 : k < p
        · go_wp2_with fail
          refine (rRow_ok i gl k gs _ _ (Rs.ext (Rs.ext RI.ext) _ _ _ _ (HJ.out.ext.trans HX2.out) HX.out.2) HC.out.1 (by rw [HC.out.2.2.2]; exact hlt2)).mono ?_
          rintro e w3 ⟨A3, c3, rfl, hx3, ho3⟩
          have hrd3 := own_rd ho3
          rw [← HP.out.2.2.2.1 k hlt2] at hrd3
          have hkl : k < R.length := by rw [HP.out.2.2.2.2.1]; exact hlt2
          have hrlen : (R.getD k []).length = i := by rw [HP.out.2.2.2.1 k hlt2]; simp
          have hst : (Cd.encRows (R.take (k + 1)) parts).map sv = (Cd.encRows (R.take k) parts).map sv ++ [sv (Gf.combS (R.getD k []) parts)] := by
            rw [getD_get hkl, Cd.encRows, List.take_succ_eq_append_getElem hkl, List.map_append, List.map_append]; rfl
          obtain ⟨r, hr⟩ : ∃ r, R.getD k [] = r := ⟨_, rfl⟩
          rw [hr] at hst hrd3 hrlen
          have HJ3 := Lib.hid (HJ.out.next (HX2.out.trans hx3))
          have HRD := Lib.hid (And.intro hrd3 (And.intro hst hrlen))
          clear hx3 ho3 hrd3 hst hrlen hr hd0 hd1 hd2
          go_wp2_with fail
          refine (rcombine_any r parts _ _ _ _ _ _ _ HRD.out.2.2.symm HP.out.2.1.symm (by omega) HP.out.2.2.1 HRD.out.1 (HJ3.out.rd 1 rfl)).mono ?_
          rintro e w4 ⟨rfl, hx4⟩
          have HJ4 := Lib.hid (HJ3.out.next hx4)
          obtain ⟨ct, hct⟩ : ∃ ct, Gf.combS r parts = ct := ⟨_, rfl⟩
          have hst := HRD.out.2.1
          rw [hct] at hst ⊢
          have HTK := Lib.hid hst
          obtain ⟨ce, hce⟩ : ∃ ce, Gf.combE r parts = ce := ⟨_, rfl⟩
          rw [hce]
          have hfd : ∀ w : World, (Instr.field 130 (.agg #[sv ct, .int .i64 ce]) 0).run Tryd.prog w = .ok (sv ct) w := fun _ => by kernel_rfl
          clear hx4 hst hct hce
          go_wp2_with (have hB := HJ4.out.new 3 #[sv ct] 9 (by simp [maxLen]); refine wpl_append_owns (u := sv ct) 34 9 rfl (.tmp 42) (.tmp 49) rfl Tryd.underlying34 info_str rfl hB 2 rfl rfl rfl (hB.cell 3 rfl 0 rfl) rfl (by omega) (by decide) ?_; clear hB; intro g8 c8 w8 hO8 _)
          have HO8 := Lib.hid (hO8.drop 3)
          clear hO8
          go_wp2_with fail
          go_roundw
          case rel => exact ⟨k + 1, c8, _, by omega, by go_num, rfl, Lib.hid (by rw [HTK.out]; exact HO8.out)⟩
          case measure => simp [intOf]; omega
        · obtain rfl : k = p := by omega
          have hO5 := HJ.out.next HX2.out
          have hc3 : w2.cell? ⟨w.heap.size + 1, 0, none⟩ = some (.slice none 0 0) := hO5.cell 0 rfl 0 rfl
          have hc4 : w2.cell? ⟨w.heap.size + 1, 1, none⟩ = some (.int .i64 0) := hO5.cell 0 rfl 1 rfl
          have hf3 : w2.frozen? ⟨w.heap.size + 1, 0, none⟩ = false := hO5.frozen 0 rfl 0
          have hf4 : w2.frozen? ⟨w.heap.size + 1, 1, none⟩ = false := hO5.frozen 0 rfl 1
          have HO5 := Lib.hid hO5
          clear hO5 hd0 hd1 hd2
          go_wp2_with fail
          have hO7 := (HO5.out.store 0 rfl 0 (.slice O k co)).store 0 rfl 1 (.int .i64 0)
          have hrs : Rs RS _ (.slice O k co) (Cd.encRows (R.take k) parts) := rs_of_owns hO7 2 rfl (by simp [Cd.encRows]; omega)
          have htk : R.take k = R := by rw [← HP.out.2.2.2.2.1, List.take_length]
          rw [htk, ← HP.out.2.2.2.2.2] at hrs
          exact bodyPost_ret (v := .agg #[.slice O k co, .int .i64 0]) (by simp [results, Tryd.results60, go_sem, hc3, hc4]) rfl ⟨_, rfl, hrs, HX.out.1.trans hO7.ext⟩
theorem rEncode_no (d gl : Int) (gs : List (List Int)) (data : List UInt8) (G : Value) (w : World) (hG : Rs (Rs RI) w G gs) (h0 : Cd.check d gs gl ≠ 0) (hgn : gs.length ≤ 1000000) :
    Calls Tryd.prog 60 #[.agg #[.int .i64 d, G, .int .i64 gl], .string (sb data)] w fun e w' => e = .returned (.agg #[.slice none 0 0, .int .i64 (Cd.check d gs gl)]) ∧ Ext w w' := by
  have hx0 := (Ext.refl w).alloc (.cells #[.int .i64 d, G, .int .i64 gl] 24)
  have HX := Lib.hid (And.intro hx0 (Rs.ext (Rs.ext RI.ext) _ _ _ _ hx0 hG))
  obtain ⟨GA, Gc, rfl, _⟩ := hG.form
  have e1 : (Cd.check d gs gl != 0) = true := by rw [bne_iff_ne]; exact h0
  have hst := (Owns.start (w.alloc (.cells #[.int .i64 d, .slice GA gs.length Gc, .int .i64 gl] 24)) (L := [no]) (by intro r hr; simp [no] at hr; subst hr; simp)).new 0 #[.slice none 0 0, .int .i64 0] 99 (by simp [maxLen])
  have hst2 : Owns (w.alloc (.cells #[.int .i64 d, .slice GA gs.length Gc, .int .i64 gl] 24)) ((w.alloc (.cells #[.int .i64 d, .slice GA gs.length Gc, .int .i64 gl] 24)).alloc (.cells #[.slice none 0 0, .int .i64 0] 99)) [listedRow (w.heap.size + 1) (.slice none 0 0) (.int .i64 0)] := by simpa [listedRow] using hst
  have HST := Lib.hid hst2
  clear hG hx0 h0 hst hst2
  go_enter Tryd.func60, Tryd.ntmps60
  go_wp2_with fail
  refine (rCheck_any d gl gs _ _ (Rs.ext (Rs.ext RI.ext) _ _ _ _ ((Ext.refl _).alloc _) HX.out.2) hgn).mono ?_
  rintro e w1 ⟨rfl, hx1⟩
  have hO5 := HST.out.next hx1
  have hc3 : w1.cell? ⟨w.heap.size + 1, 0, none⟩ = some (.slice none 0 0) := hO5.cell 0 rfl 0 rfl
  have hc4 : w1.cell? ⟨w.heap.size + 1, 1, none⟩ = some (.int .i64 0) := hO5.cell 0 rfl 1 rfl
  have hf3 : w1.frozen? ⟨w.heap.size + 1, 0, none⟩ = false := hO5.frozen 0 rfl 0
  have hf4 : w1.frozen? ⟨w.heap.size + 1, 1, none⟩ = false := hO5.frozen 0 rfl 1
  have HO5 := Lib.hid hO5
  clear hO5 hx1
  go_wp2_with fail
  have hO7 := (HO5.out.store 0 rfl 0 (.slice none 0 0)).store 0 rfl 1 (.int .i64 (Cd.check d gs gl))
  exact bodyPost_ret (v := .agg #[.slice none 0 0, .int .i64 (Cd.check d gs gl)]) (by simp [results, Tryd.results60, go_sem, hc3, hc4]) rfl ⟨rfl, HX.out.1.trans hO7.ext⟩
theorem rEncode_big (d gl : Int) (gs : List (List Int)) (data : List UInt8) (G : Value) (w : World) (hG : Rs (Rs RI) w G gs) (h0 : Cd.check d gs gl = 0) (hb : 4096 < data.length) (hl : data.length ≤ 9223372036854775807) (hgn : gs.length ≤ 1000000) :
    Calls Tryd.prog 60 #[.agg #[.int .i64 d, G, .int .i64 gl], .string (sb data)] w fun e w' => e = .returned (.agg #[.slice none 0 0, .int .i64 2]) ∧ Ext w w' := by
  have hx0 := (Ext.refl w).alloc (.cells #[.int .i64 d, G, .int .i64 gl] 24)
  have HX := Lib.hid (And.intro hx0 (Rs.ext (Rs.ext RI.ext) _ _ _ _ hx0 hG))
  obtain ⟨GA, Gc, rfl, _⟩ := hG.form
  have e1 : (Cd.check d gs gl != 0) = false := by rw [h0]; rfl
  have hst := (Owns.start (w.alloc (.cells #[.int .i64 d, .slice GA gs.length Gc, .int .i64 gl] 24)) (L := [no]) (by intro r hr; simp [no] at hr; subst hr; simp)).new 0 #[.slice none 0 0, .int .i64 0] 99 (by simp [maxLen])
  have hst2 : Owns (w.alloc (.cells #[.int .i64 d, .slice GA gs.length Gc, .int .i64 gl] 24)) ((w.alloc (.cells #[.int .i64 d, .slice GA gs.length Gc, .int .i64 gl] 24)).alloc (.cells #[.slice none 0 0, .int .i64 0] 99)) [listedRow (w.heap.size + 1) (.slice none 0 0) (.int .i64 0)] := by simpa [listedRow] using hst
  have HST := Lib.hid hst2
  clear hG hx0 h0 hst hst2
  go_enter Tryd.func60, Tryd.ntmps60
  go_wp2_with fail
  refine (rCheck_any d gl gs _ _ (Rs.ext (Rs.ext RI.ext) _ _ _ _ ((Ext.refl _).alloc _) HX.out.2) hgn).mono ?_
  rintro e w1 ⟨rfl, hx1⟩
  have hO5 := HST.out.next hx1
  have hc3 : w1.cell? ⟨w.heap.size + 1, 0, none⟩ = some (.slice none 0 0) := hO5.cell 0 rfl 0 rfl
  have hc4 : w1.cell? ⟨w.heap.size + 1, 1, none⟩ = some (.int .i64 0) := hO5.cell 0 rfl 1 rfl
  have hf3 : w1.frozen? ⟨w.heap.size + 1, 0, none⟩ = false := hO5.frozen 0 rfl 0
  have hf4 : w1.frozen? ⟨w.heap.size + 1, 1, none⟩ = false := hO5.frozen 0 rfl 1
  have HO5 := Lib.hid hO5
  clear hO5 hx1
  go_wp2_with fail
  have hO7 := (HO5.out.store 0 rfl 0 (.slice none 0 0)).store 0 rfl 1 (.int .i64 2)
  exact bodyPost_ret (v := .agg #[.slice none 0 0, .int .i64 2]) (by simp [results, Tryd.results60, go_sem, hc3, hc4]) rfl ⟨rfl, HX.out.1.trans hO7.ext⟩
theorem rEncode_any (d gl : Int) (gs : List (List Int)) (data : List UInt8) (G : Value) (w : World) (hG : Rs (Rs RI) w G gs) (hl : data.length ≤ 9223372036854775807) (hgn : gs.length ≤ 1000000) :
    Calls Tryd.prog 60 #[.agg #[.int .i64 d, G, .int .i64 gl], .string (sb data)] w fun e w' => ∃ v, e = .returned (.agg #[v, .int .i64 (Cd.encE d gl gs data)]) ∧ Rs RS w' v (Cd.encL d gl gs data) ∧ Ext w w' := by
  by_cases h0 : Cd.check d gs gl = 0
  · by_cases hb : data.length ≤ 4096
    · have hk := Cd.check_ok h0
      rw [Cd.encE_ok h0 hb, Cd.encL_ok h0 hb]
      obtain ⟨n, rfl⟩ : ∃ n : Nat, d = n := ⟨d.toNat, by omega⟩
      obtain ⟨m, rfl⟩ : ∃ m : Nat, gl = m := ⟨gl.toNat, by omega⟩
      exact rEncode_ok n m gs data G w hG h0 hb
    · rw [Cd.encE_big h0 (by omega), Cd.encL_big (by omega)]
      refine (rEncode_big d gl gs data G w hG h0 (by omega) hl hgn).mono ?_
      rintro e w' ⟨rfl, hx⟩
      exact ⟨_, rfl, rs_nil _ _, hx⟩
  · rw [Cd.encE_no h0, Cd.encL_no h0]
    refine (rEncode_no d gl gs data G w hG h0 hgn).mono ?_
    rintro e w' ⟨rfl, hx⟩
    exact ⟨_, rfl, rs_nil _ _, hx⟩
end Go.Proofs.YtggfkpalkdkbdaaDoor

/- THE WALKS over the specification of codes: SameRows, SameTexts, Few. -/
namespace Cd
/-- At most n groups of at most 20 elements. -/
def few (gs : List (List Int)) (n : Nat) : Bool := decide (gs.length ≤ n) && gs.all fun g => decide (g.length ≤ 20)
end Cd
namespace Go.Proofs.YtggfkpalkdkbdaaDoor
open Go.RowKit
end Go.Proofs.YtggfkpalkdkbdaaDoor

/- THE WALKS over the specification of codes: drawn regions of less and Rank. -/
namespace Go.Proofs.YtggfkpalkdkbdaaDoor
open Go.RowKit
theorem ent_rmul : ∀ args w, (callFunc 103 args).run Tryd.prog w = .ok (.enter 103 args) w := enters_of Tryd.func103 (by kernel_rfl) rfl
theorem ent_less : ∀ args w, (callFunc 99 args).run Tryd.prog w = .ok (.enter 99 args) w := enters_of Tryd.func99 (by kernel_rfl) rfl
noncomputable def less_six_code : Code := ((Tryd.f99.body.bind (regionOf 6)).getD .skip)
def less_six_dsts : List (Option Nat) := [some 26, some 27, some 28, some 29, some 30, some 31, some 32, some 33, some 34, some 35, some 36, some 37, some 38, some 39, some 8]
theorem less_six_apart : apartD less_six_dsts = true := by decide +kernel
set_option maxRecDepth 1000000 in
set_option maxHeartbeats 16000000 in
theorem less_six (bX bY : Addr) (A : Option Addr) (n m cx cy ca i : Nat) (xr xo xf : UInt8) (la : List Value) (w wr : World) (hi8 : i < 1000000) (hin : i < n) (him : i < m) (hxor : Hid (bits .xor .u8 (xr.toNat : Int) ((Gf.mul xf xo).toNat : Int) = ((xr ^^^ Gf.mul xf xo).toNat : Int))) (hX : Hid (w.cell? (bX.add i) = some (bv xr))) (hY : Hid (w.cell? (bY.add i) = some (bv xo))) (HOO : Hid (Owns w wr.drew [⟨.slice A i ca, 5, 1, i, la⟩, no])) (c2 c3 c4 c5 c6 c10 c11 c12 c13 c14 c15 c16 c17 c18 c19 c20 c21 c22 c23 c24 c25 c26 c27 c28 c29 c30 c31 c32 c33 c34 c35 c36 c37 c38 c39 c40 : Value) (df : List Deferred) (K : Act → World → Prop)
    (hK : ∀ (g13 k13 : Nat) (u26 u27 u28 u29 u30 u31 u32 u33 u34 u35 u36 u37 u38 u39 : Value) (wx : World), Owns w wx [⟨.slice (some ⟨g13, 0, none⟩) (i + 1) k13, 5, 1, i + 1, la ++ [bv (xr ^^^ Gf.mul xf xo)]⟩, no] → K ⟨#[.slice (some bX) n cx, .slice (some bY) m cy, c2, c3, c4, c5, c6, bv xf, .slice (some ⟨g13, 0, none⟩) (i + 1) k13, .int .i64 i, c10, c11, c12, c13, c14, c15, c16, c17, c18, c19, c20, c21, c22, c23, c24, c25, u26, u27, u28, u29, u30, u31, u32, u33, u34, u35, u36, u37, u38, u39, c40], df⟩ wx) :
    Code.wp Tryd.prog less_six_code (AtEnd K) ⟨#[.slice (some bX) n cx, .slice (some bY) m cy, c2, c3, c4, c5, c6, bv xf, .slice A i ca, .int .i64 i, c10, c11, c12, c13, c14, c15, c16, c17, c18, c19, c20, c21, c22, c23, c24, c25, c26, c27, c28, c29, c30, c31, c32, c33, c34, c35, c36, c37, c38, c39, c40], df⟩ wr := by
  conv => arg 2; whnf
  refine region_inv (by kernel_rfl) [[], [], [], [1, 2], [3], [], [], [], [6, 7], [8], [5, 9], [4, 10], [11], [0, 12, 10], [13, 13, 0, 1, 2, 3, 4, 5, 6, 7, 8, 9, 10, 11, 12, 13]] (by kernel_rfl) [0, 1, 2, 3, 4, 5, 6, 7, 8, 9, 10, 11, 12, 13, 14] (by decide +kernel) (by decide +kernel) (by decide +kernel) (fun L a wc => ∃ (g12 : Nat) (g13 : Nat) (k13 : Nat), InvO less_six_dsts [.slice A i ca, .slice (some bX) n cx, .int .i64 i, .pointer (some (bX.add i)), bv xr, bv xf, .slice (some bY) m cy, .int .i64 i, .pointer (some (bY.add i)), bv xo, bv (Gf.mul xf xo), bv (xr ^^^ Gf.mul xf xo), .slice (some ⟨g12, 0, none⟩) 1 1, .slice (some ⟨g13, 0, none⟩) (i + 1) k13, .slice (some ⟨g13, 0, none⟩) (i + 1) k13] ⟨#[.slice (some bX) n cx, .slice (some bY) m cy, c2, c3, c4, c5, c6, bv xf, .slice A i ca, .int .i64 i, c10, c11, c12, c13, c14, c15, c16, c17, c18, c19, c20, c21, c22, c23, c24, c25, c26, c27, c28, c29, c30, c31, c32, c33, c34, c35, c36, c37, c38, c39, c40], df⟩ L a ∧ Hid (Owns w wc [(if L 13 = true then ⟨.slice (some ⟨g13, 0, none⟩) (i + 1) k13, 5, 1, i + 1, la ++ [bv (xr ^^^ Gf.mul xf xo)]⟩ else ⟨.slice A i ca, 5, 1, i, la⟩), (if L 12 = true then ⟨.slice (some ⟨g12, 0, none⟩) 1 1, 5, 1, 1, [bv (xr ^^^ Gf.mul xf xo)]⟩ else no)])) ⟨0, 0, 0, InvO.start, HOO⟩ ?_ ?_
  · refine ⟨?_, ?_, ?_, ?_, ?_, ?_, ?_, ?_, ?_, ?_, ?_, ?_, ?_, ?_, ?_, trivial⟩
    ·
      rintro L a wc ⟨g12, g13, k13, hv, HO⟩ hL hc hd
      exact wpOp_val rfl rfl (ex_move rfl ((hv.old 14 8 rfl (Bool.eq_false_iff.2 fun h => Bool.false_ne_true (hL.symm.trans (hc 14 h 0 (by decide))))).trans rfl)) ⟨g12, g13, k13, hv.put less_six_apart 0 rfl (lb rfl) (lb rfl) rfl, HO⟩
    ·
      rintro L a wc ⟨g12, g13, k13, hv, HO⟩ hL hc hd
      exact wpOp_val rfl rfl (ex_move rfl ((hv.fixed 0 (by decide)).trans rfl)) ⟨g12, g13, k13, hv.put less_six_apart 1 rfl (lb rfl) (lb rfl) rfl, HO⟩
    ·
      rintro L a wc ⟨g12, g13, k13, hv, HO⟩ hL hc hd
      exact wpOp_val rfl rfl (ex_move rfl ((hv.fixed 9 (by decide)).trans rfl)) ⟨g12, g13, k13, hv.put less_six_apart 2 rfl (lb rfl) (lb rfl) rfl, HO⟩
    ·
      rintro L a wc ⟨g12, g13, k13, hv, HO⟩ hL hc hd
      have b1 : (0 : Int) ≤ (i : Int) := by omega
      have b2 : (i : Int) < (n : Int) := by omega
      exact wpOp_val rfl rfl (ex_index rfl (hv.get 1 rfl rfl (hd 1 (by decide))) (hv.get 2 rfl rfl (hd 2 (by decide))) (by go_simp)) ⟨g12, g13, k13, hv.put less_six_apart 3 rfl (lb rfl) (lb rfl) rfl, HO⟩
    ·
      rintro L a wc ⟨g12, g13, k13, hv, HO⟩ hL hc hd
      have eX : wc.cell? (bX.add i) = some (bv xr) := HO.out.ext.cell hX.out
      exact wpOp_val rfl rfl (ex_load rfl (hv.get 3 rfl rfl (hd 3 (by decide))) (by go_simp)) ⟨g12, g13, k13, hv.put less_six_apart 4 rfl (lb rfl) (lb rfl) rfl, HO⟩
    ·
      rintro L a wc ⟨g12, g13, k13, hv, HO⟩ hL hc hd
      exact wpOp_val rfl rfl (ex_move rfl ((hv.fixed 7 (by decide)).trans rfl)) ⟨g12, g13, k13, hv.put less_six_apart 5 rfl (lb rfl) (lb rfl) rfl, HO⟩
    ·
      rintro L a wc ⟨g12, g13, k13, hv, HO⟩ hL hc hd
      exact wpOp_val rfl rfl (ex_move rfl ((hv.fixed 1 (by decide)).trans rfl)) ⟨g12, g13, k13, hv.put less_six_apart 6 rfl (lb rfl) (lb rfl) rfl, HO⟩
    ·
      rintro L a wc ⟨g12, g13, k13, hv, HO⟩ hL hc hd
      exact wpOp_val rfl rfl (ex_move rfl ((hv.fixed 9 (by decide)).trans rfl)) ⟨g12, g13, k13, hv.put less_six_apart 7 rfl (lb rfl) (lb rfl) rfl, HO⟩
    ·
      rintro L a wc ⟨g12, g13, k13, hv, HO⟩ hL hc hd
      have b1 : (0 : Int) ≤ (i : Int) := by omega
      have b2 : (i : Int) < (m : Int) := by omega
      exact wpOp_val rfl rfl (ex_index rfl (hv.get 6 rfl rfl (hd 6 (by decide))) (hv.get 7 rfl rfl (hd 7 (by decide))) (by go_simp)) ⟨g12, g13, k13, hv.put less_six_apart 8 rfl (lb rfl) (lb rfl) rfl, HO⟩
    ·
      rintro L a wc ⟨g12, g13, k13, hv, HO⟩ hL hc hd
      have eY : wc.cell? (bY.add i) = some (bv xo) := HO.out.ext.cell hY.out
      exact wpOp_val rfl rfl (ex_load rfl (hv.get 8 rfl rfl (hd 8 (by decide))) (by go_simp)) ⟨g12, g13, k13, hv.put less_six_apart 9 rfl (lb rfl) (lb rfl) rfl, HO⟩
    ·
      rintro L a wc ⟨g12, g13, k13, hv, HO⟩ hL hc hd
      refine wpOp_call (R := fun v w1 => v = bv (Gf.mul xf xo) ∧ wc = w1) rfl rfl (ex_call rfl rfl (map2c (hv.get 5 rfl rfl (hd 5 (by decide))) (hv.get 9 rfl rfl (hd 9 (by decide)))) (ent_rmul _ _)) ((rmul_u8 xf xo wc).mono (fun e w' h => ⟨_, h.1, rfl, h.2⟩)) ?_
      rintro v w' ⟨rfl, rfl⟩
      exact ⟨g12, g13, k13, hv.put less_six_apart 10 rfl (lb rfl) (lb rfl) rfl, HO⟩
    ·
      rintro L a wc ⟨g12, g13, k13, hv, HO⟩ hL hc hd
      have h := hxor.out
      exact wpOp_val rfl rfl (ex_bin rfl (hv.get 4 rfl rfl (hd 4 (by decide))) (hv.get 10 rfl rfl (hd 10 (by decide))) (by go_simp)) ⟨g12, g13, k13, hv.put less_six_apart 11 rfl (lb rfl) (lb rfl) rfl, HO⟩
    ·
      rintro L a wc ⟨g12, g13, k13, hv, HO⟩ hL hc hd
      have hn := HO.out.new 1 #[bv (xr ^^^ Gf.mul xf xo)] 5 (by simp [maxLen])
      exact wpOp_value rfl rfl (ex_build rfl Tryd.underlying48 info_u8 (hv.get 11 rfl rfl (hd 11 (by decide))) rfl) ⟨wc.heap.size, g13, k13, hv.put less_six_apart 12 rfl (lb rfl) (lb rfl) rfl, Lib.hid hn⟩
    ·
      rintro L a wc ⟨g12, g13, k13, hv, HO⟩ hL hc hd
      refine wpOp_append rfl rfl 48 5 rfl Tryd.underlying48 info_u8 rfl HO.out 0 (congrArg some (if_neg (by simp [hL]))) (hv.get 0 rfl rfl (hd 0 (by decide))) (hv.get 12 rfl rfl (hd 12 (by decide))) (HO.out.cell 1 (congrArg some (if_pos (hd 12 (by decide)))) 0 rfl) rfl (by omega) (by decide) ?_
      intro gg cc w2 hO2
      have hv := hv.reset 14 (Bool.eq_false_iff.2 fun h => Bool.false_ne_true (hL.symm.trans (hc 14 h 13 (by decide)))) (.slice (some ⟨gg, 0, none⟩) (i + 1) cc)
      exact ⟨g12, gg, cc, hv.put less_six_apart 13 rfl (lb rfl) (lb rfl) rfl, Lib.hid hO2⟩
    ·
      rintro L a wc ⟨g12, g13, k13, hv, HO⟩ hL hc hd
      exact wpOp_val rfl rfl (ex_assign rfl (hv.get 13 rfl rfl (hd 13 (by decide)))) ⟨g12, g13, k13, hv.put less_six_apart 14 rfl (lb rfl) (lb rfl) rfl, HO⟩
  · rintro L a wc ⟨g12, g13, k13, hv, HO⟩ hall
    show K a wc
    have ha := act_n rl41 hv.size hv.defers rfl
    simp +decide only [hv.fixed, hv.get 14 (d := 8) rfl rfl (hall 14 (by decide))] at ha
    rw [ha]
    have hO := HO.out
    simp only [hall 12 (by decide), hall 13 (by decide), if_true] at hO
    exact hK g13 k13 _ _ _ _ _ _ _ _ _ _ _ _ _ _ wc (hO.drop 1)

theorem rinv_u8 (b : UInt8) (hb : b ≠ 0) (w : World) : Calls Tryd.prog 104 #[bv b] w fun e w' => e = .returned (bv (Gf.inv b)) ∧ w = w' := by
  refine (rinv_nat b.toNat (Gf.lt8 b) w (fun h => hb (UInt8.toNat_inj.1 h))).mono ?_
  rintro e w' ⟨rfl, rfl⟩
  exact ⟨by rw [← Gf.inv_toNat], rfl⟩
set_option maxHeartbeats 1000000 in
theorem rLess_any (r o : List UInt8) (a : Nat) (VR VO : Value) (w : World) (hR : Rs RB w VR r) (hO : Rs RB w VO o) (hl : r.length ≤ 1000) (hlo : r.length ≤ o.length) (ha : a < r.length) (ho : o.getD a 0 ≠ 0) :
    Calls Tryd.prog 99 #[VR, VO, .int .i64 a] w fun e w' => ∃ A c, e = .returned (.slice A r.length c) ∧ Ext w w' ∧ w'.ownsRow w.heap.size 5 1 (.slice A r.length c) r.length ((Cd.lessR r o a).map bv) := by
  obtain ⟨RA, cr, rfl, _⟩ := hR.form
  obtain ⟨OA, co, rfl, hol⟩ := hO.form
  have hrd := hR.rd
  have hod := hO.rd
  obtain ⟨bX, rfl, _, hXa⟩ := hrd.at (k := a) (by simpa using ha)
  obtain ⟨bY, rfl, _, hYa⟩ := hod.at (k := a) (by simp; omega)
  rw [List.getElem_map] at hXa hYa
  have hao : a < o.length := by omega
  have hr0 : r[a] = r.getD a 0 := (getD_get ha).symm
  have ho0 : o[a] = o.getD a 0 := (getD_get hao).symm
  rw [hr0] at hXa
  rw [ho0] at hYa
  obtain ⟨f, hf⟩ : ∃ f, Gf.mul (r.getD a 0) (Gf.inv (o.getD a 0)) = f := ⟨_, rfl⟩
  have hls : ∀ k, k < r.length → (Cd.lessR r o a).getD k 0 = r.getD k 0 ^^^ Gf.mul f (o.getD k 0) := fun k hk => by rw [Cd.lessR_get hk, hf]
  have hll := Cd.lessR_len r o a
  obtain ⟨q, hq⟩ : ∃ q, Cd.lessR r o a = q := ⟨_, rfl⟩
  rw [hq] at hls hll ⊢
  obtain ⟨n, hn⟩ : ∃ n, r.length = n := ⟨_, rfl⟩
  obtain ⟨m, hm⟩ : ∃ m, o.length = m := ⟨_, rfl⟩
  rw [hn] at hl hlo ha hls hll ⊢
  rw [hm] at hlo hao hol ⊢
  have HRD := Lib.hid (And.intro hrd hod)
  have HLS := Lib.hid (And.intro hls hll)
  have HNM := Lib.hid (And.intro hn hm)
  have HF := Lib.hid hf
  have HO0 := Lib.hid ho
  obtain ⟨xa, hxa⟩ : ∃ xa, r.getD a 0 = xa := ⟨_, rfl⟩
  obtain ⟨ya, hya⟩ : ∃ ya, o.getD a 0 = ya := ⟨_, rfl⟩
  rw [hxa] at hXa
  rw [hya] at hYa
  have HXY := Lib.hid (And.intro hxa hya)
  have hXd : ∀ k, (w.drewN k).cell? (bX.add a) = some (bv xa) := fun k => hXa
  have hYd : ∀ k, (w.drewN k).cell? (bY.add a) = some (bv ya) := fun k => hYa
  clear hR hO hrd hod hls hll hn hm hf ho hr0 ho0 hxa hya hq
  go_enter Tryd.func99, Tryd.ntmps99
  go_wp2_with fail
  go_quiet (first
    | (go_at_call 104; exact quiet_left (rinv_u8 ya (by rw [← HXY.out.2]; exact HO0.out) _))
    | (go_at_call 103; exact quiet_add_left (rmul_u8 xa (Gf.inv ya) _))
    | (go_at_call 103; exact quiet_left (rmul_u8 xa (Gf.inv ya) _)))
  have hfe : Gf.mul xa (Gf.inv ya) = f := by rw [← HXY.out.1, ← HXY.out.2]; exact HF.out
  rw [hfe]
  have HX0 := Lib.hid ((Ext.refl w).drewN nq)
  have hst : Owns w (w.drewN nq) [⟨.slice none 0 0, 5, 1, 0, []⟩, no] := (Owns.start w (by intro r hr; simp [no] at hr; rcases hr with rfl | rfl <;> simp)).drewN nq
  have HST := Lib.hid hst
  clear hfe hXd hYd hXa hYa hst
  go_wp2_with fail
  go_loopw [8, 9] (fun vo vi wr => ∃ (i cp : Nat) (A : Option Addr), i ≤ n ∧ vi = .int .i64 i ∧ vo = .slice A i cp ∧ Hid (Owns w wr [⟨.slice A i cp, 5, 1, i, (q.take i).map bv⟩, no])) (fun _ vi _ => n - (intOf vi).toNat)
  case atStart => exact ⟨0, 0, none, Nat.zero_le _, rfl, rfl, Lib.hid (by simpa using HST.out)⟩
  case round =>
    obtain ⟨i, cp, A, hi, rfl, rfl, HI⟩ := hrel
    by_cases hlt : i < n
    · have hir : i < r.length := by rw [HNM.out.1]; exact hlt
      have him : i < o.length := by rw [HNM.out.2]; omega
      have hiq : i < q.length := by rw [HLS.out.2]; exact hlt
      have hX := HRD.out.1.all (k := i) (by simpa using hir)
      have hY := HRD.out.2.all (k := i) (by simpa using him)
      rw [List.getElem_map, ← getD_get (x := (0 : UInt8)) hir] at hX
      rw [List.getElem_map, ← getD_get (x := (0 : UInt8)) him] at hY
      have hqi : (q.take (i + 1)).map bv = (q.take i).map bv ++ [bv (r.getD i 0 ^^^ Gf.mul f (o.getD i 0))] := by
        rw [← HLS.out.1 i hlt, getD_get hiq, List.take_succ_eq_append_getElem hiq, List.map_append]; rfl
      obtain ⟨xr, hxr⟩ : ∃ xr, r.getD i 0 = xr := ⟨_, rfl⟩
      obtain ⟨xo, hxo⟩ : ∃ xo, o.getD i 0 = xo := ⟨_, rfl⟩
      rw [hxr] at hX hqi
      rw [hxo] at hY hqi
      have hxor : bits .xor .u8 (xr.toNat : Int) ((Gf.mul f xo).toNat : Int) = ((xr ^^^ Gf.mul f xo).toNat : Int) := by
        rw [u8_xor_nat _ _ (Gf.lt8 _) (Gf.lt8 _), UInt8.toNat_xor]
      have HH := Lib.hid (And.intro hX (And.intro hY (And.intro hqi hxor)))
      clear hX hY hqi hxor hxr hxo hir him hiq
      go_upto_region 6 with fail
      refine wp_atEnd' (less_six bX bY A n m cr co cp i xr xo f ((q.take i).map bv) w wr (by omega) hlt (by omega) (Lib.hid HH.out.2.2.2) (Lib.hid HH.out.1) (Lib.hid HH.out.2.1) (Lib.hid HI.out.drew) _ _ _ _ _ _ _ _ _ _ _ _ _ _ _ _ _ _ _ _ _ _ _ _ _ _ _ _ _ _ _ _ _ _ _ _ _ _ ?_)
      intros
      rename_i w8 hO8
      have HO8 := Lib.hid hO8
      clear hO8
      go_wp2_with fail
      go_roundw
      case rel => exact ⟨i + 1, _, _, by omega, by go_num, rfl, Lib.hid (by rw [HH.out.2.2.1]; exact HO8.out)⟩
      case measure => simp [intOf]; omega
    · obtain rfl : i = n := by omega
      go_wp2_with fail
      go_ret
      have hq : q.take i = q := by rw [← HLS.out.2, List.take_length]
      have h1 := HI.out
      rw [hq] at h1
      exact ⟨A, cp, rfl, h1.ext, h1.row 0 rfl⟩
end Go.Proofs.YtggfkpalkdkbdaaDoor

/- THE WALK over the specification of codes: Rank. -/
namespace Go.Proofs.YtggfkpalkdkbdaaDoor
open Go.RowKit
theorem rLess_at (r o : List UInt8) (a m : Nat) (VR VO : Value) (w : World) (hm : r.length = m) (hR : Rs RB w VR r) (hO : Rs RB w VO o) (hl : m ≤ 1000) (hlo : m ≤ o.length) (ha : a < m) (ho : o.getD a 0 ≠ 0) :
    Calls Tryd.prog 99 #[VR, VO, .int .i64 a] w fun e w' => ∃ A c, e = .returned (.slice A m c) ∧ Ext w w' ∧ w'.ownsRow w.heap.size 5 1 (.slice A m c) m ((Cd.lessR r o a).map bv) := by
  subst hm
  exact rLess_any r o a VR VO w hR hO hl hlo ha ho
/-- Values that are rows of bytes of a call's own. -/
def RowsIn (vs : List Value) (L : List LRow) (rs : List (List UInt8)) : Prop := vs.length = rs.length ∧ ∀ (j : Nat) (r : List UInt8), rs[j]? = some r → ∃ A2 c2, vs[j]? = some (.slice A2 r.length c2) ∧ byteRow A2 c2 r ∈ L
theorem RowsIn.nil (L : List LRow) : RowsIn [] L [] := ⟨rfl, fun j r h => by simp at h⟩
theorem RowsIn.mono {vs : List Value} {L M : List LRow} {rs : List (List UInt8)} (h : RowsIn vs L rs) (hm : ∀ x ∈ L, x ∈ M) : RowsIn vs M rs :=
  ⟨h.1, fun j r hj => by
    obtain ⟨A2, c2, h1, h2⟩ := h.2 j r hj
    exact ⟨A2, c2, h1, hm _ h2⟩⟩
theorem RowsIn.snoc {vs : List Value} {L : List LRow} {rs : List (List UInt8)} (h : RowsIn vs L rs) {A2 : Option Addr} {c2 m : Nat} {q : List UInt8} (hq : q.length = m) (hm : (⟨.slice A2 m c2, 5, 1, m, q.map bv⟩ : LRow) ∈ L) : RowsIn (vs ++ [.slice A2 m c2]) L (rs ++ [q]) := by
  subst hq
  refine ⟨by simp [h.1], fun j t h2 => ?_⟩
  rw [List.getElem?_append] at h2 ⊢
  rw [h.1]
  by_cases hj : j < rs.length
  · rw [if_pos hj] at h2 ⊢
    exact h.2 j t h2
  · rw [if_neg hj] at h2 ⊢
    cases hk : j - rs.length with
    | zero =>
      rw [hk] at h2
      simp at h2
      subst h2
      exact ⟨A2, c2, rfl, hm⟩
    | succ k => rw [hk] at h2; simp at h2
theorem RowsIn.rs {w0 w : World} {M : List LRow} (hO : Owns w0 w M) {i n c : Nat} {A : Option Addr} {vs : List Value} {rs : List (List UInt8)} (hi : M[i]? = some ⟨.slice A n c, 48, 1, n, vs⟩) (h : RowsIn vs M rs) (hl : rs.length ≤ 9223372036854775807) (hw : ∀ r ∈ rs, r.length ≤ 9223372036854775807) : Rs (Rs RB) w (.slice A n c) rs := by
  have h1 : vs.length = n * 1 := (hO.row i hi).1
  have hn : n = rs.length := by rw [← h.1]; omega
  subst hn
  refine ⟨A, c, rfl, hl, fun j r hj => ?_⟩
  obtain ⟨A2, c2, e1, e2⟩ := h.2 j r hj
  obtain ⟨ad, a1, _, a3⟩ := hO.rd i hi j _ e1
  obtain ⟨k, hk, e3⟩ := List.getElem_of_mem e2
  have e4 : M[k]? = some (byteRow A2 c2 r) := by rw [List.getElem?_eq_getElem hk, e3]
  exact ⟨ad, _, a1, a3, Rs.of_rd (hO.rd k (n := r.length) e4) (hw r (List.mem_of_getElem? hj))⟩
noncomputable def rank_app_code : Code := ((Tryd.f77.body.bind (regionOf 19)).getD .skip)
def rank_app_dsts : List (Option Nat) := [some 50, some 51, some 52, some 53, some 54, some 55, some 56, some 57, some 58, some 59, some 60, some 61, some 62, some 10]
theorem rank_app_apart : apartD rank_app_dsts = true := by decide +kernel
set_option maxRecDepth 1000000 in
set_option maxHeartbeats 16000000 in
theorem rank_app (bL : Addr) (A RA OA : Option Addr) (n cl i ca k p xa m cr mo co : Nat) (r o q : List UInt8) (vs : List Value) (L0 : List LRow) (w wr : World) (hi8 : i < 1000000) (hk : k < n) (hp : p < n) (hm : r.length = m) (hl : m ≤ 1000) (hlo : m ≤ o.length) (ha : xa < m) (ho : Hid (o.getD xa 0 ≠ 0)) (hq : Hid (q = Cd.lessR r o xa)) (hX : Hid (w.cell? (bL.add k) = some (.slice RA m cr))) (hY : Hid (w.cell? (bL.add p) = some (.slice OA mo co))) (HR : Hid (Rs RB w (.slice RA m cr) r)) (HS : Hid (Rs RB w (.slice OA mo co) o)) (HOO : Hid (Owns w wr.drew ([⟨.slice A i ca, 48, 1, i, vs⟩, no] ++ (L0 ++ [])))) (c0 c1 c2 c3 c4 c6 c9 c12 c13 c14 c15 c16 c17 c18 c19 c20 c21 c22 c23 c24 c25 c26 c27 c28 c29 c30 c31 c32 c33 c34 c35 c36 c37 c38 c39 c40 c41 c42 c43 c44 c45 c46 c47 c48 c49 c50 c51 c52 c53 c54 c55 c56 c57 c58 c59 c60 c61 c62 c63 c64 : Value) (df : List Deferred) (K : Act → World → Prop)
    (hK : ∀ (A2 : Option Addr) (ce g12 k12 : Nat) (u50 u51 u52 u53 u54 u55 u56 u57 u58 u59 u60 u61 u62 : Value) (wx : World), Owns w wx ([⟨.slice (some ⟨g12, 0, none⟩) (i + 1) k12, 48, 1, i + 1, vs ++ [.slice A2 m ce]⟩, no] ++ (L0 ++ [(⟨.slice A2 m ce, 5, 1, m, q.map bv⟩ : LRow)])) → K ⟨#[c0, c1, c2, c3, c4, .slice (some bL) n cl, c6, .int .i64 xa, .int .i64 p, c9, .slice (some ⟨g12, 0, none⟩) (i + 1) k12, .int .i64 k, c12, c13, c14, c15, c16, c17, c18, c19, c20, c21, c22, c23, c24, c25, c26, c27, c28, c29, c30, c31, c32, c33, c34, c35, c36, c37, c38, c39, c40, c41, c42, c43, c44, c45, c46, c47, c48, c49, u50, u51, u52, u53, u54, u55, u56, u57, u58, u59, u60, u61, u62, c63, c64], df⟩ wx) :
    Code.wp Tryd.prog rank_app_code (AtEnd K) ⟨#[c0, c1, c2, c3, c4, .slice (some bL) n cl, c6, .int .i64 xa, .int .i64 p, c9, .slice A i ca, .int .i64 k, c12, c13, c14, c15, c16, c17, c18, c19, c20, c21, c22, c23, c24, c25, c26, c27, c28, c29, c30, c31, c32, c33, c34, c35, c36, c37, c38, c39, c40, c41, c42, c43, c44, c45, c46, c47, c48, c49, c50, c51, c52, c53, c54, c55, c56, c57, c58, c59, c60, c61, c62, c63, c64], df⟩ wr := by
  conv => arg 2; whnf
  refine region_inv (by kernel_rfl) [[], [], [], [1, 2], [3], [], [], [5, 6], [7], [], [4, 8, 9], [10], [0, 11, 10], [12, 12, 0, 1, 2, 3, 4, 5, 6, 7, 8, 9, 10, 11, 12]] (by kernel_rfl) [0, 1, 2, 3, 4, 5, 6, 7, 8, 9, 10, 11, 12, 13] (by decide +kernel) (by decide +kernel) (by decide +kernel) (fun L a wc => ∃ (A2 : Option Addr) (ce : Nat) (g11 : Nat) (g12 : Nat) (k12 : Nat), InvO rank_app_dsts [.slice A i ca, .slice (some bL) n cl, .int .i64 k, .pointer (some (bL.add k)), .slice RA m cr, .slice (some bL) n cl, .int .i64 p, .pointer (some (bL.add p)), .slice OA mo co, .int .i64 xa, .slice A2 m ce, .slice (some ⟨g11, 0, none⟩) 1 1, .slice (some ⟨g12, 0, none⟩) (i + 1) k12, .slice (some ⟨g12, 0, none⟩) (i + 1) k12] ⟨#[c0, c1, c2, c3, c4, .slice (some bL) n cl, c6, .int .i64 xa, .int .i64 p, c9, .slice A i ca, .int .i64 k, c12, c13, c14, c15, c16, c17, c18, c19, c20, c21, c22, c23, c24, c25, c26, c27, c28, c29, c30, c31, c32, c33, c34, c35, c36, c37, c38, c39, c40, c41, c42, c43, c44, c45, c46, c47, c48, c49, c50, c51, c52, c53, c54, c55, c56, c57, c58, c59, c60, c61, c62, c63, c64], df⟩ L a ∧ Hid (Owns w wc ([(if L 12 = true then ⟨.slice (some ⟨g12, 0, none⟩) (i + 1) k12, 48, 1, i + 1, vs ++ [.slice A2 m ce]⟩ else ⟨.slice A i ca, 48, 1, i, vs⟩), (if L 11 = true then ⟨.slice (some ⟨g11, 0, none⟩) 1 1, 48, 1, 1, [.slice A2 m ce]⟩ else no)] ++ (L0 ++ (if L 10 = true then [(⟨.slice A2 m ce, 5, 1, m, q.map bv⟩ : LRow)] else []))))) ⟨none, 0, 0, 0, 0, InvO.start, HOO⟩ ?_ ?_
  · refine ⟨?_, ?_, ?_, ?_, ?_, ?_, ?_, ?_, ?_, ?_, ?_, ?_, ?_, ?_, trivial⟩
    ·
      rintro L a wc ⟨A2, ce, g11, g12, k12, hv, HO⟩ hL hc hd
      exact wpOp_val rfl rfl (ex_move rfl ((hv.old 13 10 rfl (Bool.eq_false_iff.2 fun h => Bool.false_ne_true (hL.symm.trans (hc 13 h 0 (by decide))))).trans rfl)) ⟨A2, ce, g11, g12, k12, hv.put rank_app_apart 0 rfl (lb rfl) (lb rfl) rfl, HO⟩
    ·
      rintro L a wc ⟨A2, ce, g11, g12, k12, hv, HO⟩ hL hc hd
      exact wpOp_val rfl rfl (ex_move rfl ((hv.fixed 5 (by decide)).trans rfl)) ⟨A2, ce, g11, g12, k12, hv.put rank_app_apart 1 rfl (lb rfl) (lb rfl) rfl, HO⟩
    ·
      rintro L a wc ⟨A2, ce, g11, g12, k12, hv, HO⟩ hL hc hd
      exact wpOp_val rfl rfl (ex_move rfl ((hv.fixed 11 (by decide)).trans rfl)) ⟨A2, ce, g11, g12, k12, hv.put rank_app_apart 2 rfl (lb rfl) (lb rfl) rfl, HO⟩
    ·
      rintro L a wc ⟨A2, ce, g11, g12, k12, hv, HO⟩ hL hc hd
      have b1 : (0 : Int) ≤ (k : Int) := by omega
      have b2 : (k : Int) < (n : Int) := by omega
      exact wpOp_val rfl rfl (ex_index rfl (hv.get 1 rfl rfl (hd 1 (by decide))) (hv.get 2 rfl rfl (hd 2 (by decide))) (by go_simp)) ⟨A2, ce, g11, g12, k12, hv.put rank_app_apart 3 rfl (lb rfl) (lb rfl) rfl, HO⟩
    ·
      rintro L a wc ⟨A2, ce, g11, g12, k12, hv, HO⟩ hL hc hd
      have eX : wc.cell? (bL.add k) = some (.slice RA m cr) := HO.out.ext.cell hX.out
      exact wpOp_val rfl rfl (ex_load rfl (hv.get 3 rfl rfl (hd 3 (by decide))) (by go_simp)) ⟨A2, ce, g11, g12, k12, hv.put rank_app_apart 4 rfl (lb rfl) (lb rfl) rfl, HO⟩
    ·
      rintro L a wc ⟨A2, ce, g11, g12, k12, hv, HO⟩ hL hc hd
      exact wpOp_val rfl rfl (ex_move rfl ((hv.fixed 5 (by decide)).trans rfl)) ⟨A2, ce, g11, g12, k12, hv.put rank_app_apart 5 rfl (lb rfl) (lb rfl) rfl, HO⟩
    ·
      rintro L a wc ⟨A2, ce, g11, g12, k12, hv, HO⟩ hL hc hd
      exact wpOp_val rfl rfl (ex_move rfl ((hv.fixed 8 (by decide)).trans rfl)) ⟨A2, ce, g11, g12, k12, hv.put rank_app_apart 6 rfl (lb rfl) (lb rfl) rfl, HO⟩
    ·
      rintro L a wc ⟨A2, ce, g11, g12, k12, hv, HO⟩ hL hc hd
      have b1 : (0 : Int) ≤ (p : Int) := by omega
      have b2 : (p : Int) < (n : Int) := by omega
      exact wpOp_val rfl rfl (ex_index rfl (hv.get 5 rfl rfl (hd 5 (by decide))) (hv.get 6 rfl rfl (hd 6 (by decide))) (by go_simp)) ⟨A2, ce, g11, g12, k12, hv.put rank_app_apart 7 rfl (lb rfl) (lb rfl) rfl, HO⟩
    ·
      rintro L a wc ⟨A2, ce, g11, g12, k12, hv, HO⟩ hL hc hd
      have eY : wc.cell? (bL.add p) = some (.slice OA mo co) := HO.out.ext.cell hY.out
      exact wpOp_val rfl rfl (ex_load rfl (hv.get 7 rfl rfl (hd 7 (by decide))) (by go_simp)) ⟨A2, ce, g11, g12, k12, hv.put rank_app_apart 8 rfl (lb rfl) (lb rfl) rfl, HO⟩
    ·
      rintro L a wc ⟨A2, ce, g11, g12, k12, hv, HO⟩ hL hc hd
      exact wpOp_val rfl rfl (ex_move rfl ((hv.fixed 7 (by decide)).trans rfl)) ⟨A2, ce, g11, g12, k12, hv.put rank_app_apart 9 rfl (lb rfl) (lb rfl) rfl, HO⟩
    ·
      rintro L a wc ⟨A2, ce, g11, g12, k12, hv, HO⟩ hL hc hd
      refine wpOp_call (R := fun v w1 => ∃ A3 c3, v = .slice A3 m c3 ∧ Ext wc w1 ∧ w1.ownsRow wc.heap.size 5 1 (.slice A3 m c3) m (q.map bv)) rfl rfl (ex_call rfl rfl (map3c (hv.get 4 rfl rfl (hd 4 (by decide))) (hv.get 8 rfl rfl (hd 8 (by decide))) (hv.get 9 rfl rfl (hd 9 (by decide)))) (ent_less _ _)) ((rLess_at r o xa m (.slice RA m cr) (.slice OA mo co) wc hm (Rs.ext RB.ext _ _ _ _ HO.out.ext HR.out) (Rs.ext RB.ext _ _ _ _ HO.out.ext HS.out) hl hlo ha ho.out).mono (fun e w' ⟨A3, c3, h1, h2, h3⟩ => ⟨_, h1, A3, c3, rfl, h2, by rw [hq.out]; exact h3⟩)) ?_
      rintro v w' ⟨A3, c3, rfl, hx, ho2⟩
      have n11 : L 11 = false := Bool.eq_false_iff.2 fun h => Bool.false_ne_true (hL.symm.trans (hc 11 h 10 (by decide)))
      have n12 : L 12 = false := Bool.eq_false_iff.2 fun h => Bool.false_ne_true (hL.symm.trans (hc 11 (hc 12 h 11 (by decide)) 10 (by decide)))
      have h := HO.out.behind hx ho2
      simp only [hL, n11, n12, Bool.false_eq_true, if_false, List.append_nil] at h
      have h2 : Owns w w' ([(if L 12 = true then ⟨.slice (some ⟨g12, 0, none⟩) (i + 1) k12, 48, 1, i + 1, vs ++ [.slice A3 m c3]⟩ else ⟨.slice A i ca, 48, 1, i, vs⟩), (if L 11 = true then ⟨.slice (some ⟨g11, 0, none⟩) 1 1, 48, 1, 1, [.slice A3 m c3]⟩ else no)] ++ (L0 ++ [(⟨.slice A3 m c3, 5, 1, m, q.map bv⟩ : LRow)])) := by simp only [n11, n12, Bool.false_eq_true, if_false]; simpa using h
      exact ⟨A3, c3, g11, g12, k12, hv.put rank_app_apart 10 rfl (lb rfl) (lb rfl) rfl, Lib.hid h2⟩
    ·
      rintro L a wc ⟨A2, ce, g11, g12, k12, hv, HO⟩ hL hc hd
      have hn := HO.out.new 1 #[.slice A2 m ce] 48 (by simp [maxLen])
      exact wpOp_value rfl rfl (ex_build rfl Tryd.underlying76 info_bytes (hv.get 10 rfl rfl (hd 10 (by decide))) rfl) ⟨A2, ce, wc.heap.size, g12, k12, hv.put rank_app_apart 11 rfl (lb rfl) (lb rfl) rfl, Lib.hid hn⟩
    ·
      rintro L a wc ⟨A2, ce, g11, g12, k12, hv, HO⟩ hL hc hd
      refine wpOp_append rfl rfl 76 48 rfl Tryd.underlying76 info_bytes rfl HO.out 0 (congrArg some (if_neg (by simp [hL]))) (hv.get 0 rfl rfl (hd 0 (by decide))) (hv.get 11 rfl rfl (hd 11 (by decide))) (HO.out.cell 1 (congrArg some (if_pos (hd 11 (by decide)))) 0 rfl) rfl (by omega) (by decide) ?_
      intro gg cc w2 hO2
      have hv := hv.reset 13 (Bool.eq_false_iff.2 fun h => Bool.false_ne_true (hL.symm.trans (hc 13 h 12 (by decide)))) (.slice (some ⟨gg, 0, none⟩) (i + 1) cc)
      exact ⟨A2, ce, g11, gg, cc, hv.put rank_app_apart 12 rfl (lb rfl) (lb rfl) rfl, Lib.hid hO2⟩
    ·
      rintro L a wc ⟨A2, ce, g11, g12, k12, hv, HO⟩ hL hc hd
      exact wpOp_val rfl rfl (ex_assign rfl (hv.get 12 rfl rfl (hd 12 (by decide)))) ⟨A2, ce, g11, g12, k12, hv.put rank_app_apart 13 rfl (lb rfl) (lb rfl) rfl, HO⟩
  · rintro L a wc ⟨A2, ce, g11, g12, k12, hv, HO⟩ hall
    show K a wc
    have ha := act_n rl65 hv.size hv.defers rfl
    simp +decide only [hv.fixed, hv.get 13 (d := 10) rfl rfl (hall 13 (by decide))] at ha
    rw [ha]
    have hO := HO.out
    simp only [hall 10 (by decide), hall 11 (by decide), hall 12 (by decide), if_true] at hO
    exact hK A2 ce g12 k12 _ _ _ _ _ _ _ _ _ _ _ _ _ wc (hO.drop 1)
set_option maxHeartbeats 4000000 in
theorem rRank_any (rows : List (List UInt8)) (n : Nat) (V : Value) (w : World) (hV : Rs (Rs RB) w V rows) (hw : ∀ r ∈ rows, r.length = n) (hn : n ≤ 1000) (hlen : rows.length ≤ 1000) :
    Calls Tryd.prog 77 #[V, .int .i64 n] w fun e w' => e = .returned (.int .i64 (Cd.rankR rows n : Nat)) ∧ Ext w w' := by
  have hz := fun xa (ha : xa ≤ n) => Cd.rankTo_zero hw xa ha
  have hsz := fun xa => Nat.le_trans (Cd.rankTo_size rows xa) hlen
  have hle := fun xa => Cd.rankTo_le rows xa
  have h0 : Cd.rankTo rows 0 = (rows, 0) := by unfold Cd.rankTo; rfl
  have HZ := Lib.hid (And.intro hz (And.intro hsz hle))
  have HV0 : Hid (Ext w w ∧ Rs (Rs RB) w V (Cd.rankTo rows 0).1) := by rw [h0]; exact Lib.hid (And.intro (Ext.refl _) hV)
  have hr0 : (Cd.rankTo rows 0).2 = 0 := by rw [h0]
  clear hz hsz hle hV hw h0
  go_enter Tryd.func77, Tryd.ntmps77
  go_wp2_with fail
  go_loopw [5, 6, 7] (fun vl vr va wr => ∃ xa rk : Nat, xa ≤ n ∧ va = .int .i64 xa ∧ vr = .int .i64 rk ∧ rk ≤ 1000 ∧ Hid (rk = (Cd.rankTo rows xa).2) ∧ Hid (Ext w wr ∧ Rs (Rs RB) wr vl (Cd.rankTo rows xa).1)) (fun _ _ va _ => n - (intOf va).toNat)
  case atStart => exact ⟨0, 0, Nat.zero_le _, rfl, rfl, by omega, Lib.hid hr0.symm, HV0⟩
  case round =>
    obtain ⟨xa, rk, hxa, rfl, rfl, hrk, HRK, HR⟩ := hrel
    obtain ⟨wo, rfl⟩ : ∃ wo, wo = wr := ⟨_, rfl⟩
    clear hr0
    by_cases hlt : xa < n
    · have hz := HZ.out.1 xa (by omega)
      have hsz := HZ.out.2.1 xa
      have hnext : ∀ p, Cd.pivTo (Cd.rankTo rows xa).1 xa (Cd.rankTo rows xa).1.length = some p → Cd.rankTo rows (xa + 1) = (Cd.restTo (Cd.rankTo rows xa).1 p xa (Cd.rankTo rows xa).1.length, (Cd.rankTo rows xa).2 + 1) := fun p h => Cd.rankTo_yes h
      have hskip : Cd.pivTo (Cd.rankTo rows xa).1 xa (Cd.rankTo rows xa).1.length = none → Cd.rankTo rows (xa + 1) = Cd.rankTo rows xa := fun h => Cd.rankTo_no h
      have hrl := HR.out.2
      obtain ⟨l, hl⟩ : ∃ l, (Cd.rankTo rows xa).1 = l := ⟨_, rfl⟩
      rw [hl] at hz hsz hnext hskip hrl
      obtain ⟨LA, lc, rfl, hll⟩ := hrl.form
      have HN := Lib.hid (And.intro hnext hskip)
      have HZZ := Lib.hid (And.intro hz hl)
      have hp0 : Cd.pivTo l xa 0 = none := by unfold Cd.pivTo; rfl
      have HP0 := Lib.hid hp0
      obtain ⟨ll, hlle⟩ : ∃ ll, l.length = ll := ⟨_, rfl⟩
      rw [hlle] at hsz hll hrl ⊢
      have HRL := Lib.hid (And.intro HR.out.1 hrl)
      have HLL := Lib.hid hlle
      clear hz hnext hskip hrl hl hp0 hlle HR
      go_wp2_with fail
      go_loop [8, 9] (fun vp vk => ∃ (k : Nat) (pv : Int), k ≤ ll ∧ vk = .int .i64 k ∧ vp = .int .i64 pv ∧ -1 ≤ pv ∧ pv ≤ 1000 ∧ Hid ((pv < 0 ∧ Cd.pivTo l xa k = none) ∨ (0 ≤ pv ∧ Cd.pivTo l xa k = some pv.toNat))) (fun _ vk => ll - (intOf vk).toNat)
      case atStart => exact ⟨0, -1, Nat.zero_le _, rfl, rfl, by omega, by omega, Lib.hid (.inl (And.intro (by omega) HP0.out))⟩
      case round =>
        obtain ⟨k, pv, hk, rfl, rfl, hpv1, hpv2, HPV⟩ := hrel
        by_cases hpv : pv < 0
        · have hno : Cd.pivTo l xa k = none := by
            rcases HPV.out with h | h
            · exact h.2
            · omega
          have HNO := Lib.hid hno
          clear hno
          by_cases hkl : k < ll
          · have hkl2 : k < l.length := by rw [HLL.out]; exact hkl
            obtain ⟨ad, u, rfl, hc, hu⟩ := HRL.out.2.at hkl2
            obtain ⟨B, cB, rfl, hlB⟩ := hu.form
            have hul := (HZZ.out.1 _ (List.getElem_mem hkl2)).1
            have hub := hu.rd.at (k := xa) (by simp [hul]; exact hlt)
            have hgd := getD_get (x := ([] : List UInt8)) hkl2
            have hno := fun h => Cd.pivTo_no (l := l) (a := xa) (k := k) HNO.out h
            have hyes := fun h => Cd.pivTo_yes (l := l) (a := xa) (k := k) HNO.out h
            rw [hgd] at hno hyes
            obtain ⟨r, hr⟩ : ∃ r, l[k] = r := ⟨_, rfl⟩
            simp only [hr] at hub
            rw [hr] at hc hul hno hyes
            rw [hul] at hc
            have hxr : xa < r.length := by rw [hul]; exact hlt
            obtain ⟨bd, rfl, _, hb⟩ := hub
            rw [List.getElem_map, ← getD_get (x := (0 : UInt8)) hxr] at hb
            obtain ⟨xb, hxb⟩ : ∃ xb, r.getD xa 0 = xb := ⟨_, rfl⟩
            rw [hxb] at hb hno hyes
            have HY := Lib.hid (And.intro hno hyes)
            clear hu hlB hul hgd hno hyes hr hxr hxb
            by_cases hb0 : xb = 0
            · have e1 : ((xb.toNat : Int) != 0) = false := by rw [hb0]; rfl
              have HB := Lib.hid hb0
              clear hb0
              go_wp2_with fail
              go_round
              case rel => exact ⟨k + 1, pv, by omega, by go_num, rfl, by omega, by omega, Lib.hid (.inl (And.intro hpv (HY.out.1 HB.out)))⟩
              case measure => simp [intOf]; omega
            · have e1 : ((xb.toNat : Int) != 0) = true := by
                rw [bne_iff_ne]
                intro h
                exact hb0 (UInt8.toNat_inj.1 (by simpa using h))
              have HB := Lib.hid hb0
              clear hb0
              go_wp2_with fail
              go_round
              case rel => exact ⟨k + 1, (k : Int), by omega, by go_num, rfl, by omega, by omega, Lib.hid (.inr (And.intro (by omega) (by rw [Int.toNat_natCast]; exact HY.out.2 HB.out)))⟩
              case measure => simp [intOf]; omega
          · obtain rfl : k = ll := by omega
            have hsk := HN.out.2 (by rw [HLL.out]; exact HNO.out)
            have HSK := Lib.hid hsk
            clear hsk
            go_wp2_with fail
            go_roundw
            case rel => exact ⟨xa + 1, rk, by omega, by go_num, rfl, by omega, Lib.hid (by rw [HSK.out]; exact HRK.out), Lib.hid (by rw [HSK.out, HZZ.out.2]; exact HRL.out)⟩
            case measure => simp [intOf]; omega
        · obtain ⟨p, rfl⟩ : ∃ p : Nat, pv = p := ⟨pv.toNat, by omega⟩
          have hyes : Cd.pivTo l xa k = some p := by
            rcases HPV.out with h | h
            · omega
            · simpa using h.2
          have hful : Cd.pivTo l xa l.length = some p := Cd.pivTo_mono hyes (by rw [HLL.out]; exact hk)
          obtain ⟨hpl, hpn⟩ := Cd.pivTo_spec hful
          have hstep := HN.out.1 p hful
          obtain ⟨bL, u2, rfl, hc2, hu2⟩ := HRL.out.2.at hpl
          obtain ⟨OA, oc, rfl, hlO⟩ := hu2.form
          have hol := (HZZ.out.1 _ (List.getElem_mem hpl)).1
          have hgp := getD_get (x := ([] : List UInt8)) hpl
          have hrlen : ∀ m, (Cd.restTo l p xa m).length ≤ m := Cd.restTo_len l p xa
          have hrle := HZ.out.2.2 xa
          rw [← HRK.out] at hrle
          have hpl2 : p < ll := by rw [← HLL.out]; exact hpl
          have HST := Lib.hid (And.intro hstep (And.intro hpn hrlen))
          have HO := Lib.hid (And.intro hc2 (And.intro hu2 (And.intro hol hgp)))
          have hr0 : Cd.restTo l p xa 0 = [] := by unfold Cd.restTo; rfl
          have HR0 := Lib.hid hr0
          clear hyes hful hpn hstep hc2 hu2 hlO hol hgp hrlen hr0
          by_cases hkl : k < ll
          all_goals
            go_wp2_with fail
            go_loopw [10, 11] (fun vo vj wr => ∃ (j i ca : Nat) (A : Option Addr) (vs : List Value) (L0 : List LRow), j ≤ ll ∧ vj = .int .i64 j ∧ vo = .slice A i ca ∧ i ≤ j ∧ Hid (Owns wo wr ([⟨.slice A i ca, 48, 1, i, vs⟩, no] ++ (L0 ++ [])) ∧ RowsIn vs L0 (Cd.restTo l p xa j))) (fun _ vj _ => ll - (intOf vj).toNat)
            case atStart => exact ⟨0, 0, 0, none, [], [], Nat.zero_le _, rfl, rfl, Nat.le_refl _, Lib.hid (And.intro (Owns.start wo (by intro r hr; simp [no] at hr; rcases hr with rfl | rfl <;> simp)) (by rw [HR0.out]; exact RowsIn.nil _))⟩
            case round =>
              obtain ⟨j, i, ca, A, vs, L0, hj, rfl, rfl, hij, HJ⟩ := hrel
              by_cases hjl : j < ll
              · by_cases hjp : j = p
                · have e1 : ((j : Int) != (p : Int)) = false := by rw [hjp]; simp
                  have hs : Cd.restTo l p xa (j + 1) = Cd.restTo l p xa j := by rw [hjp]; exact Cd.restTo_skip l p xa
                  have HS := Lib.hid hs
                  clear hjp hs
                  go_wp2_with fail
                  go_roundw
                  case rel => exact ⟨j + 1, i, ca, A, vs, L0, by omega, by go_num, rfl, by omega, Lib.hid (by rw [HS.out]; exact HJ.out)⟩
                  case measure => simp [intOf]; omega
                · have e1 : ((j : Int) != (p : Int)) = true := by rw [bne_iff_ne]; omega
                  have hs := Cd.restTo_next (l := l) (a := xa) hjp
                  have hjl2 : j < l.length := by rw [HLL.out]; exact hjl
                  obtain ⟨ad, u, ea, hc, hu⟩ := HRL.out.2.at hjl2
                  injection ea with ea
                  subst ea
                  obtain ⟨RA, cr, rfl, hlR⟩ := hu.form
                  have hrl := (HZZ.out.1 _ (List.getElem_mem hjl2)).1
                  rw [getD_get hjl2, HO.out.2.2.2] at hs
                  have hpp := HO.out
                  rw [hpp.2.2.1] at hpp
                  have HSS := Lib.hid (And.intro hs (And.intro hc (And.intro hu hrl)))
                  clear hs hc hu hrl hlR hjp hpp
                  go_upto_region 19 with fail
                  refine wp_atEnd' (rank_app bL A RA OA ll lc i ca j p xa n cr n oc l[j] l[p] _ vs L0 wo wr (by omega) hjl hpl2 HSS.out.2.2.2 hn (by rw [HO.out.2.2.1]; exact Nat.le_refl _) hlt (Lib.hid (by rw [← HO.out.2.2.2]; exact HST.out.2.1)) (Lib.hid rfl) (Lib.hid (by rw [← HSS.out.2.2.2]; exact HSS.out.2.1)) (Lib.hid (by rw [← HO.out.2.2.1]; exact HO.out.1)) (Lib.hid (by rw [← HSS.out.2.2.2]; exact HSS.out.2.2.1)) (Lib.hid (by rw [← HO.out.2.2.1]; exact HO.out.2.1)) (Lib.hid HJ.out.1.drew) _ _ _ _ _ _ _ _ _ _ _ _ _ _ _ _ _ _ _ _ _ _ _ _ _ _ _ _ _ _ _ _ _ _ _ _ _ _ _ _ _ _ _ _ _ _ _ _ _ _ _ _ _ _ _ _ _ _ _ _ _ _ ?_)
                  intro A9 c9 g9 k9
                  intros
                  rename_i wx hOx
                  have hrs : RowsIn (vs ++ [.slice A9 n c9]) (L0 ++ [(⟨.slice A9 n c9, 5, 1, n, (Cd.lessR l[j] l[p] xa).map bv⟩ : LRow)]) (Cd.restTo l p xa j ++ [Cd.lessR l[j] l[p] xa]) := (HJ.out.2.mono (fun x hx => List.mem_append_left _ hx)).snoc (by rw [Cd.lessR_len]; exact HSS.out.2.2.2) (List.mem_append_right _ (List.mem_singleton.2 rfl))
                  have HOX := Lib.hid (And.intro hOx hrs)
                  clear hOx hrs
                  go_wp2_with fail
                  go_roundw
                  case rel => exact ⟨j + 1, i + 1, _, _, _, _, by omega, by go_num, rfl, by omega, Lib.hid (And.intro (by simpa using HOX.out.1) (by rw [HSS.out.1]; exact HOX.out.2))⟩
                  case measure => simp [intOf]; omega
              · obtain rfl : j = ll := by omega
                have hrest : Rs (Rs RB) wr (.slice A i ca) (Cd.restTo l p xa j) := RowsIn.rs HJ.out.1 (i := 0) rfl (HJ.out.2.mono (fun x hx => by simp [hx])) (by have := HST.out.2.2 j; omega) (fun r hr => by
                  obtain ⟨k2, h1, h2, rfl⟩ := Cd.restTo_mem.1 hr
                  rw [Cd.lessR_len]
                  have h3 := (HZZ.out.1 _ (Cd.getD_mem (l := l) (k := k2) (x := []) (by rw [HLL.out]; exact h1))).1
                  omega)
                have HREST := Lib.hid (And.intro (HRL.out.1.trans HJ.out.1.ext) hrest)
                clear hrest
                go_wp2_with fail
                go_roundw
                case rel => exact ⟨xa + 1, rk + 1, by omega, by go_num, by go_num, by omega, Lib.hid (by rw [HST.out.1, HRK.out]), Lib.hid (by rw [HST.out.1]; show _ ∧ Rs (Rs RB) _ _ (Cd.restTo l p xa l.length); rw [HLL.out]; exact HREST.out)⟩
                case measure => simp [intOf]; omega
    · obtain rfl : xa = n := by omega
      go_wp2_with fail
      go_ret
      exact ⟨ret_int (by rw [HRK.out]; rfl), HR.out.1⟩
end Go.Proofs.YtggfkpalkdkbdaaDoor

/- THE WALK over the specification of codes: Recoverable. -/
namespace Cd
theorem can_nat {d gl m : Nat} {gs : List (List Int)} {R : List (List UInt8)} (h : check d gs gl = 0) (hR : rowsOf d gs gl = R) (hm : m < 2 ^ R.length) : can d gl gs (m : Int) = ((rankR (pickTo R m R.length) d : Int) == (d : Int)) := by
  subst hR
  have hw : ∀ r ∈ pickTo (rowsOf d gs gl) m (rowsOf d gs gl).length, r.length = d := fun r hr => by have := rowsOf_width h (pickTo_mem hr); simpa using this
  rw [Bool.eq_iff_iff, can_def, beq_iff_eq]
  have hi := rank_iff hw
  show _ ∧ _ ∧ (Gf.stairs d (pick (rowsOf d gs gl) m)).length = d ↔ _
  unfold pick
  rw [← hi]
  constructor
  · rintro ⟨_, _, h3⟩; rw [h3]
  · intro h3; exact ⟨h, hm, by omega⟩
theorem can_no {d gl m : Int} {gs : List (List Int)} (h : check d gs gl ≠ 0 ∨ isSet d gs gl m = false) : can d gl gs m = false := by
  unfold can
  rw [decide_eq_false_iff_not]
  rintro ⟨h0, h1, h2, _⟩
  rcases h with h | h
  · exact h h0
  · unfold isSet at h
    rw [decide_eq_false_iff_not] at h
    apply h
    have hl := rowsOf_len h0
    have hp := pieces_ok h0
    rw [← hl] at hp
    rw [hp, Int.toNat_natCast]
    exact ⟨h1, by rw [Go.Proofs.YtggfkpalkdkbdaaDoor.nat_pow_cast] at h2; exact h2⟩
theorem pickTo_len (R : List (List UInt8)) (m : Nat) : ∀ k, (pickTo R m k).length ≤ k
  | 0 => by simp [pickTo_zero]
  | k + 1 => by
    have ih := pickTo_len R m k
    unfold pickTo at ih ⊢
    rw [List.range_succ, List.filterMap_append, List.length_append]
    have : (List.filterMap (fun i => if bitAt m i = 1 then R[i]? else none) [k]).length ≤ 1 := List.length_filterMap_le _ _
    omega
end Cd
namespace Go.Proofs.YtggfkpalkdkbdaaDoor
open Go.RowKit
theorem ent_rank : ∀ args w, (callFunc 77 args).run Tryd.prog w = .ok (.enter 77 args) w := enters_of Tryd.func77 (by kernel_rfl) rfl
noncomputable def rec_last_code : Code := ((Tryd.f54.body.bind (regionOf 13)).getD .skip)
def rec_last_dsts : List (Option Nat) := [some 33, some 34, some 35, some 36, some 37, some 38, some 39, some 4]
theorem rec_last_apart : apartD rec_last_dsts = true := by decide +kernel
set_option maxRecDepth 1000000 in
set_option maxHeartbeats 16000000 in
theorem rec_last (B i cp d : Nat) (A : Option Addr) (bb : Bool) (rs : List (List UInt8)) (wr : World) (hd16 : d ≤ 16) (hl : rs.length ≤ 1000) (h0 : wr.cell? ⟨B, 0, none⟩ = some (.int .i64 d)) (HR : Hid (Rs (Rs RB) wr (.slice A i cp) rs)) (hw : Hid (∀ r ∈ rs, r.length = d)) (hb : Hid (((Cd.rankR rs d : Int) == (d : Int)) = bb)) (c0 c1 c3 c4 c5 c7 c8 c9 c10 c11 c12 c13 c14 c15 c16 c17 c18 c19 c20 c21 c22 c23 c24 c25 c26 c27 c28 c29 c30 c31 c32 c33 c34 c35 c36 c37 c38 c39 : Value) (df : List Deferred) (K : Act → World → Prop)
    (hK : ∀  (u33 u34 u35 u36 u37 u38 u39 : Value) (wx : World), Ext wr wx → K ⟨#[c0, c1, .pointer (some ⟨B, 0, none⟩), c3, .bool bb, c5, .slice A i cp, c7, c8, c9, c10, c11, c12, c13, c14, c15, c16, c17, c18, c19, c20, c21, c22, c23, c24, c25, c26, c27, c28, c29, c30, c31, c32, u33, u34, u35, u36, u37, u38, u39], df⟩ wx) :
    Code.wp Tryd.prog rec_last_code (AtEnd K) ⟨#[c0, c1, .pointer (some ⟨B, 0, none⟩), c3, c4, c5, .slice A i cp, c7, c8, c9, c10, c11, c12, c13, c14, c15, c16, c17, c18, c19, c20, c21, c22, c23, c24, c25, c26, c27, c28, c29, c30, c31, c32, c33, c34, c35, c36, c37, c38, c39], df⟩ wr := by
  conv => arg 2; whnf
  refine region_inv (by kernel_rfl) [[], [], [1], [0, 2], [], [4], [3, 5], [6, 3, 0, 1, 2, 3, 4, 5, 6]] (by kernel_rfl) [0, 1, 2, 3, 4, 5, 6, 7] (by decide +kernel) (by decide +kernel) (by decide +kernel) (fun L a wc => Inv rec_last_dsts [.slice A i cp, .pointer (some ⟨B, 0, none⟩), .int .i64 d, .int .i64 (Cd.rankR rs d : Nat), .pointer (some ⟨B, 0, none⟩), .int .i64 d, .bool bb, .bool bb] ⟨#[c0, c1, .pointer (some ⟨B, 0, none⟩), c3, c4, c5, .slice A i cp, c7, c8, c9, c10, c11, c12, c13, c14, c15, c16, c17, c18, c19, c20, c21, c22, c23, c24, c25, c26, c27, c28, c29, c30, c31, c32, c33, c34, c35, c36, c37, c38, c39], df⟩ L a ∧ Hid (Ext wr wc)) ⟨Inv.start, Lib.hid ((Ext.refl wr).drew)⟩ ?_ ?_
  · refine ⟨?_, ?_, ?_, ?_, ?_, ?_, ?_, ?_, trivial⟩
    ·
      rintro L a wc ⟨hv, HO⟩ hL hc hd
      exact wpOp_val rfl rfl (ex_move rfl ((hv.fixed 6 (by decide)).trans rfl)) ⟨hv.put rec_last_apart 0 rfl (lb rfl) (lb rfl) rfl, HO⟩
    ·
      rintro L a wc ⟨hv, HO⟩ hL hc hd
      exact wpOp_val rfl rfl (ex_field rfl ((hv.fixed 2 (by decide)).trans rfl) (by go_simp)) ⟨hv.put rec_last_apart 1 rfl (lb rfl) (lb rfl) rfl, HO⟩
    ·
      rintro L a wc ⟨hv, HO⟩ hL hc hd
      have e0 : wc.cell? ⟨B, 0, none⟩ = some (.int .i64 d) := HO.out.cell h0
      exact wpOp_val rfl rfl (ex_load rfl (hv.get 1 rfl rfl (hd 1 (by decide))) (by go_simp)) ⟨hv.put rec_last_apart 2 rfl (lb rfl) (lb rfl) rfl, HO⟩
    ·
      rintro L a wc ⟨hv, HO⟩ hL hc hd
      refine wpOp_call (R := fun v w1 => v = .int .i64 (Cd.rankR rs d : Nat) ∧ Ext wc w1) rfl rfl (ex_call rfl rfl (map2c (hv.get 0 rfl rfl (hd 0 (by decide))) (hv.get 2 rfl rfl (hd 2 (by decide)))) (ent_rank _ _)) ((rRank_any rs d (.slice A i cp) wc (Rs.ext (Rs.ext RB.ext) _ _ _ _ HO.out HR.out) hw.out (by omega) hl).mono (fun e w' h => ⟨_, h.1, rfl, h.2⟩)) ?_
      rintro v w' ⟨rfl, hx⟩
      exact ⟨hv.put rec_last_apart 3 rfl (lb rfl) (lb rfl) rfl, Lib.hid (HO.out.trans hx)⟩
    ·
      rintro L a wc ⟨hv, HO⟩ hL hc hd
      exact wpOp_val rfl rfl (ex_field rfl ((hv.fixed 2 (by decide)).trans rfl) (by go_simp)) ⟨hv.put rec_last_apart 4 rfl (lb rfl) (lb rfl) rfl, HO⟩
    ·
      rintro L a wc ⟨hv, HO⟩ hL hc hd
      have e0 : wc.cell? ⟨B, 0, none⟩ = some (.int .i64 d) := HO.out.cell h0
      exact wpOp_val rfl rfl (ex_load rfl (hv.get 4 rfl rfl (hd 4 (by decide))) (by go_simp)) ⟨hv.put rec_last_apart 5 rfl (lb rfl) (lb rfl) rfl, HO⟩
    ·
      rintro L a wc ⟨hv, HO⟩ hL hc hd
      have h := hb.out
      exact wpOp_val rfl rfl (ex_bin rfl (hv.get 3 rfl rfl (hd 3 (by decide))) (hv.get 5 rfl rfl (hd 5 (by decide))) (by go_simp)) ⟨hv.put rec_last_apart 6 rfl (lb rfl) (lb rfl) rfl, HO⟩
    ·
      rintro L a wc ⟨hv, HO⟩ hL hc hd
      exact wpOp_val rfl rfl (ex_assign rfl (hv.get 6 rfl rfl (hd 6 (by decide)))) ⟨hv.put rec_last_apart 7 rfl (lb rfl) (lb rfl) rfl, HO⟩
  · rintro L a wc ⟨hv, HO⟩ hall
    show K a wc
    have ha := act_n rl40 hv.size hv.defers rfl
    simp +decide only [hv.fixed, hv.get 7 (d := 4) rfl rfl (hall 7 (by decide))] at ha
    rw [ha]
    exact hK _ _ _ _ _ _ _ wc HO.out
set_option maxHeartbeats 4000000 in
theorem rRec_ok (d gl m : Nat) (gs : List (List Int)) (G : Value) (w : World) (hG : Rs (Rs RI) w G gs) (h0 : Cd.check d gs gl = 0) (hs : Cd.isSet d gs gl m = true) :
    Calls Tryd.prog 54 #[.agg #[.int .i64 d, G, .int .i64 gl], .int .i64 m] w fun e w' => e = .returned (.bool (Cd.can d gl gs m)) ∧ Ext w w' := by
  have hx0 := (Ext.refl w).alloc (.cells #[.int .i64 d, G, .int .i64 gl] 24)
  have HX := Lib.hid (And.intro hx0 (Rs.ext (Rs.ext RI.ext) _ _ _ _ hx0 hG))
  obtain ⟨GA, Gc, rfl, hgl⟩ := hG.form
  have hck := Cd.check_ok h0
  obtain ⟨k1, k2, k3, k4, k5, k6⟩ := hck
  have hgn : gs.length ≤ 1000000 := by omega
  obtain ⟨p, hp⟩ : ∃ p, d + gs.length + gl = p := ⟨_, rfl⟩
  have hpc : Cd.pieces d gs gl = (p : Int) := by rw [Cd.pieces_ok h0]; omega
  have hrow : ∀ k, k < p → (Cd.rowsOf d gs gl).getD k [] = (List.range d).map (Cd.rowAt d gs k) := fun k hk => by
    rw [Cd.rowsOf_ok h0]
    exact Cd.rows_get (by show k < d + gs.length + gl; rw [hp]; exact hk)
  have hrl : (Cd.rowsOf (d : Int) gs (gl : Int)).length = p := by rw [Cd.rowsOf_ok h0, Cd.rows_len, ← hp]; rfl
  have hwd : ∀ r ∈ Cd.rowsOf (d : Int) gs (gl : Int), r.length = d := fun r hr => by have := Cd.rowsOf_width h0 hr; simpa using this
  obtain ⟨R, hR⟩ : ∃ R, Cd.rowsOf (d : Int) gs (gl : Int) = R := ⟨_, rfl⟩
  rw [hR] at hrow hrl hwd
  have hm : m < 2 ^ p := by
    unfold Cd.isSet at hs
    rw [decide_eq_true_eq, hpc, Int.toNat_natCast] at hs
    omega
  have hcan := Cd.can_nat (m := m) h0 hR (by rw [hrl]; exact hm)
  rw [hrl] at hcan
  have hp24 : p ≤ 24 := by omega
  have hm24 : m ≤ 16777216 := by
    have : 2 ^ p ≤ 2 ^ 24 := Nat.pow_le_pow_right (by omega) hp24
    omega
  have hd16 : d ≤ 16 := by omega
  have e1 : (Cd.check (d : Int) gs (gl : Int) != 0) = false := by rw [h0]; rfl
  have HC := Lib.hid (And.intro h0 (And.intro hs (And.intro hpc hp)))
  have HP := Lib.hid (And.intro hrow (And.intro hrl (And.intro hwd hcan)))
  clear hG hx0 h0 hs hpc hp hrow hrl hwd hR hcan hm k1 k3 k4 k5 k6
  have step : ∀ (w2 : World), Ext (w.alloc (.cells #[.int .i64 d, .slice GA gs.length Gc, .int .i64 gl] 24)) w2 →
      w2.cell? ⟨w.heap.size, 0, none⟩ = some (.int .i64 d) ∧ w2.cell? ⟨w.heap.size, 1, none⟩ = some (.slice GA gs.length Gc) ∧ w2.cell? ⟨w.heap.size, 2, none⟩ = some (.int .i64 gl) := fun w2 hx => ⟨hx.cell (by go_simp), hx.cell (by go_simp), hx.cell (by go_simp)⟩
  have ST := Lib.hid step
  clear step
  go_enter Tryd.func54, Tryd.ntmps54
  go_wp2_with fail
  refine (rCheck_any d gl gs _ _ HX.out.2 hgn).mono ?_
  rintro e w1 ⟨rfl, hx1⟩
  obtain ⟨c0, c1, c2⟩ := ST.out w1 hx1
  have HX1 := Lib.hid hx1
  clear hx1
  go_wp2_with fail
  clear c0 c1 c2
  refine (rIsSet_any d gl gs m _ _ (Rs.ext (Rs.ext RI.ext) _ _ _ _ HX1.out HX.out.2) hgn).mono ?_
  rintro e w2 ⟨rfl, hx2⟩
  rw [HC.out.2.1]
  have HX2 := Lib.hid (HX1.out.trans hx2)
  have hnil : RowsOwn (w.alloc (.cells #[.int .i64 d, .slice GA gs.length Gc, .int .i64 gl] 24)) w2 none 0 0 (Cd.pickTo R m 0) := by
    rw [Cd.pickTo_zero]
    exact (RowsOwn.nil _).next HX2.out
  have HNIL := Lib.hid hnil
  clear hx2 hnil
  go_wp2_with fail
  go_loopw [6, 7] (fun vo vi wr => ∃ (k i : Nat) (A : Option Addr) (cp : Nat), k ≤ p ∧ i ≤ k ∧ vi = .int .i64 k ∧ vo = .slice A i cp ∧ Hid (RowsOwn (w.alloc (.cells #[.int .i64 d, .slice GA gs.length Gc, .int .i64 gl] 24)) wr A i cp (Cd.pickTo R m k))) (fun _ vi _ => p - (intOf vi).toNat)
  case atStart => exact ⟨0, 0, none, 0, Nat.zero_le _, Nat.le_refl _, rfl, rfl, HNIL⟩
  case round =>
    obtain ⟨k, i, A, cp, hk, hik, rfl, rfl, HR⟩ := hrel
    obtain ⟨c0, c1, c2⟩ := ST.out wr HR.out.ext
    go_wp2_with fail
    clear c0 c1 c2
    refine (rPieces_any d gl gs _ _ (Rs.ext (Rs.ext RI.ext) _ _ _ _ HR.out.ext HX.out.2) hgn).mono ?_
    rintro e w3 ⟨rfl, hx3⟩
    rw [HC.out.2.2.1]
    have HR3 := Lib.hid (HR.out.next hx3)
    obtain ⟨c0, c1, c2⟩ := ST.out w3 HR3.out.ext
    clear hx3
    by_cases hlt : k < p
    · go_wp2_with fail
      refine (rIn_any m k _ hm24 (by omega)).mono ?_
      rintro e w4 ⟨rfl, rfl⟩
      by_cases hb : Cd.bitAt m k = 1
      · have hin : Cd.inS m k = true := by unfold Cd.inS; simp [hb]
        have hkR : k < R.length := by rw [HP.out.2.1]; exact hlt
        have hpk := Cd.pickTo_yes hkR hb
        rw [← getD_get (x := ([] : List UInt8)) hkR, HP.out.1 k hlt] at hpk
        rw [hin]
        have HPK := Lib.hid hpk
        clear hin hpk hkR hb
        go_wp2_with fail
        clear c0 c1 c2
        refine (rRow_ok d gl k gs _ _ (Rs.ext (Rs.ext RI.ext) _ _ _ _ HR3.out.ext HX.out.2) HC.out.1 (by rw [HC.out.2.2.2]; exact hlt)).mono ?_
        rintro e w5 ⟨A2, ce, rfl, hx5, ho5⟩
        have hmo : RowsMore (w.alloc (.cells #[.int .i64 d, .slice GA gs.length Gc, .int .i64 gl] 24)) w5 A i cp (Cd.pickTo R m k) A2 ce ((List.range d).map (Cd.rowAt d gs k)) := HR3.out.more hx5 (by simpa using ho5)
        have HMO := Lib.hid hmo
        clear hx5 ho5 hmo
        go_wp2_with (at_builtin; refine wpl_append_row 76 rfl _ _ rfl Tryd.underlying76 info_bytes rfl HMO.out (by simp) rfl rfl (by omega) ?_; intro A' c' w6 hO)
        have HO := Lib.hid hO
        clear hO
        go_wp2_with fail
        go_roundw
        case rel => exact ⟨k + 1, i + 1, A', c', by omega, by omega, by go_num, rfl, by rw [HPK.out]; exact HO⟩
        case measure => simp [intOf]; omega
      · have hin : Cd.inS m k = false := by unfold Cd.inS; simp [hb]
        have hpk := Cd.pickTo_no (rows := R) hb
        rw [hin]
        have HPK := Lib.hid hpk
        clear hin hpk hb
        go_wp2_with fail
        clear c0 c1 c2
        go_roundw
        case rel => exact ⟨k + 1, i, A, cp, by omega, by omega, by go_num, rfl, by rw [HPK.out]; exact HR3⟩
        case measure => simp [intOf]; omega
    · obtain rfl : k = p := by omega
      have hlen := Cd.pickTo_len R m k
      have hrs := HR3.out.rs (by omega) (fun r hr => by have := HP.out.2.2.1 r (Cd.pickTo_mem hr); omega)
      have HRS := Lib.hid hrs
      have HLEN := Lib.hid hlen
      have HPW : Hid (∀ r ∈ Cd.pickTo R m k, r.length = d) := Lib.hid fun r hr => HP.out.2.2.1 r (Cd.pickTo_mem hr)
      clear hrs hlen
      go_upto_region 13 with fail
      refine wp_atEnd' (rec_last w.heap.size i cp d A (Cd.can d gl gs m) (Cd.pickTo R m k) w3 hd16 (by have := HLEN.out; omega) c0 (Lib.hid HRS.out) HPW (Lib.hid HP.out.2.2.2.symm) _ _ _ _ _ _ _ _ _ _ _ _ _ _ _ _ _ _ _ _ _ _ _ _ _ _ _ _ _ _ _ _ _ _ _ _ _ _ _ _ ?_)
      intros
      rename_i w8 hx8
      have HX8 := Lib.hid (HX.out.1.trans (HR3.out.ext.trans hx8))
      clear hx8 c0 c1 c2
      go_wp2_with fail
      go_ret
      exact ⟨rfl, HX8.out⟩
theorem rRec_any (d gl m : Int) (gs : List (List Int)) (G : Value) (w : World) (hG : Rs (Rs RI) w G gs) (hgn : gs.length ≤ 1000000) :
    Calls Tryd.prog 54 #[.agg #[.int .i64 d, G, .int .i64 gl], .int .i64 m] w fun e w' => e = .returned (.bool (Cd.can d gl gs m)) ∧ Ext w w' := by
  by_cases h0 : Cd.check d gs gl = 0
  · cases hs : Cd.isSet d gs gl m with
    | true =>
      have hk := Cd.check_ok h0
      obtain ⟨n, rfl⟩ : ∃ n : Nat, d = n := ⟨d.toNat, by omega⟩
      obtain ⟨g, rfl⟩ : ∃ n : Nat, gl = n := ⟨gl.toNat, by omega⟩
      have hm : 0 ≤ m := by unfold Cd.isSet at hs; rw [decide_eq_true_eq] at hs; exact hs.1
      obtain ⟨m', rfl⟩ : ∃ n : Nat, m = n := ⟨m.toNat, by omega⟩
      exact rRec_ok n g m' gs G w hG h0 hs
    | false =>
      have hn := Cd.can_no (d := d) (gl := gl) (gs := gs) (m := m) (.inr hs)
      have hx0 := (Ext.refl w).alloc (.cells #[.int .i64 d, G, .int .i64 gl] 24)
      have HX := Lib.hid (And.intro hx0 (Rs.ext (Rs.ext RI.ext) _ _ _ _ hx0 hG))
      obtain ⟨GA, Gc, rfl, hgl⟩ := hG.form
      have e1 : (Cd.check d gs gl != 0) = false := by rw [h0]; rfl
      have HN := Lib.hid (And.intro hn hs)
      clear hG hx0 hn hs h0
      go_enter Tryd.func54, Tryd.ntmps54
      go_wp2_with fail
      refine (rCheck_any d gl gs _ _ HX.out.2 hgn).mono ?_
      rintro e w1 ⟨rfl, hx1⟩
      have c0 : w1.cell? ⟨w.heap.size, 0, none⟩ = some (.int .i64 d) := hx1.cell (by go_simp)
      have c1 : w1.cell? ⟨w.heap.size, 1, none⟩ = some (.slice GA gs.length Gc) := hx1.cell (by go_simp)
      have c2 : w1.cell? ⟨w.heap.size, 2, none⟩ = some (.int .i64 gl) := hx1.cell (by go_simp)
      have HX1 := Lib.hid hx1
      clear hx1
      go_wp2_with fail
      clear c0 c1 c2
      refine (rIsSet_any d gl gs m _ _ (Rs.ext (Rs.ext RI.ext) _ _ _ _ HX1.out HX.out.2) hgn).mono ?_
      rintro e w2 ⟨rfl, hx2⟩
      rw [HN.out.2]
      have HX2 := Lib.hid (HX1.out.trans hx2)
      clear hx2
      go_wp2_with fail
      go_ret
      exact ⟨ret_bool HN.out.1.symm, HX.out.1.trans HX2.out⟩
  · have hn := Cd.can_no (d := d) (gl := gl) (gs := gs) (m := m) (.inl h0)
    have hx0 := (Ext.refl w).alloc (.cells #[.int .i64 d, G, .int .i64 gl] 24)
    have HX := Lib.hid (And.intro hx0 (Rs.ext (Rs.ext RI.ext) _ _ _ _ hx0 hG))
    obtain ⟨GA, Gc, rfl, hgl⟩ := hG.form
    have e1 : (Cd.check d gs gl != 0) = true := by rw [bne_iff_ne]; exact h0
    have HN := Lib.hid hn
    clear hG hx0 hn h0
    go_enter Tryd.func54, Tryd.ntmps54
    go_wp2_with fail
    refine (rCheck_any d gl gs _ _ HX.out.2 hgn).mono ?_
    rintro e w1 ⟨rfl, hx1⟩
    have HX1 := Lib.hid (HX.out.1.trans hx1)
    clear hx1
    go_wp2_with fail
    go_ret
    exact ⟨ret_bool HN.out.symm, HX1.out⟩
end Go.Proofs.YtggfkpalkdkbdaaDoor

/- DISTANCE of the specification, in plain terms: it is the program's. -/
namespace Cd
open Gf
/-- The least loss that is not recoverable, of the first k sets. -/
def distTo (P : Nat) (f : Nat → Bool) : Nat → Nat
  | 0 => P
  | k + 1 => if P - Ones.cnt k < distTo P f k ∧ f k = false then P - Ones.cnt k else distTo P f k
/-- D is the least loss that is not recoverable. -/
structure IsDist (P : Nat) (f : Nat → Bool) (n D : Nat) : Prop where
  le : D ≤ P
  least : ∀ m, m < n → f m = false → D ≤ P - Ones.cnt m
  hit : D = P ∨ ∃ m, m < n ∧ f m = false ∧ D = P - Ones.cnt m
theorem IsDist.one {P n D E : Nat} {f : Nat → Bool} (h : IsDist P f n D) (k : IsDist P f n E) : D = E := by
  have h1 : D ≤ E := by
    rcases k.hit with e | ⟨m, m1, m2, e⟩
    · rw [e]; exact h.le
    · rw [e]; exact h.least m m1 m2
  have h2 : E ≤ D := by
    rcases h.hit with e | ⟨m, m1, m2, e⟩
    · rw [e]; exact k.le
    · rw [e]; exact k.least m m1 m2
  omega
attribute [irreducible] distTo
end Cd

/- THE PLAIN LAW behind LocateNeeds; detB in terms of Suff. -/
namespace Lo
open Gf Cd
section
variable {d gl : Int} {gs : List (List Int)} {P : Nat}
theorem can_none (h : check d gs gl = 0) : can d gl gs 0 = false := by
  have hk := check_ok h
  have h1 : ¬ can d gl gs ((0 : Nat) : Int) = true := by
    rw [can_def]
    rintro ⟨_, _, h2⟩
    have h3 : pick (rowsOf d gs gl) 0 = [] := by
      unfold pick pickTo
      rw [List.filterMap_eq_nil_iff]
      intro i _
      rw [if_neg (by simp [bitAt])]
    rw [h3] at h2
    unfold Gf.stairs at h2
    simp at h2
    omega
  cases hc : can d gl gs 0 with
  | false => rfl
  | true => exact absurd hc h1
theorem chk_fine (h : check d gs gl = 0) (hP : (rowsOf d gs gl).length = P) {M : Nat} (hM : M < 2 ^ P) : chkE d gl gs (M : Int) = 0 := chkE_fine h (by rw [hP]; omega)
theorem cor_suff (h : check d gs gl = 0) (hP : (rowsOf d gs gl).length = P) (hP14 : P ≤ 14) {M k : Nat} (hM : M < 2 ^ P) (hk : k ≤ 2) : corE d gl gs (M : Int) (k : Int) = 0 ∧ (corB d gl gs (M : Int) (k : Int) = true ↔ Suff (fun t => can d gl gs (t : Int)) M (2 * k)) := by
  have hr := cor_ok (chk_fine h hP hM) (wrong := (k : Int)) (by omega)
  rw [Int.toNat_natCast, Int.toNat_natCast, hP] at hr
  refine ⟨hr.2, ?_⟩
  rw [hr.1]
  exact suff_iff hM (by omega) (can_none h) (2 * k)
end
theorem cnt_is (m : Nat) : Ones.cnt m = num m := Go.Proofs.YtggfkpalkdkbdaaDoor.cnt_num m
end Lo

/- THE WALKS over set, Suffices, Detects, Corrects of quietusref09. -/
namespace Lo
open Cd
theorem chk_set {d gl m : Int} {gs : List (List Int)} (h : check d gs gl = 0) : chkE d gl gs m = if isSet d gs gl m = true then 0 else 1 := by
  have hp : (pieces d gs gl).toNat = (rowsOf d gs gl).length := by rw [pieces_ok h, ← rowsOf_len h]; omega
  unfold chkE isSet
  rw [if_neg (by rw [h]; simp), hp]
  by_cases h1 : 0 ≤ m ∧ m < ((2 ^ (rowsOf d gs gl).length : Nat) : Int)
  · rw [decide_eq_true h1, if_pos rfl, if_neg (by omega)]
  · rw [if_pos (show m < 0 ∨ ((2 ^ (rowsOf d gs gl).length : Nat) : Int) ≤ m by omega), decide_eq_false h1]; rfl
end Lo
namespace Go.Proofs.YtggfkpalkdkbdaaDoor
open Go.RowKit
set_option maxHeartbeats 8000000 in
set_option maxRecDepth 100000 in
theorem r9Set_any (d gl : Int) (gs : List (List Int)) (m : Int) (G : Value) (w : World) (hG : Rs (Rs RI) w G gs) (hgn : gs.length ≤ 1000000) :
    Calls Tryd.prog 31 #[.agg #[.int .i64 d, G, .int .i64 gl], .int .i64 m] w fun e w' => e = .returned (.int .i64 (Lo.chkE d gl gs m)) ∧ Ext w w' := by
  have HGN := Lib.hid hgn
  clear hgn
  obtain ⟨GA, Gc, rfl, _⟩ := hG.form
  obtain ⟨ng, hng⟩ : ∃ ng, gs.length = ng := ⟨_, rfl⟩
  rw [hng] at hG ⊢
  have hB := (Owns.start w (L := [no]) (by intro r hr; simp at hr; subst hr; exact ⟨rfl, rfl, rfl⟩)).new 0 #[.int .i64 d, .slice GA ng Gc, .int .i64 gl] 24 (by simp [maxLen])
  have HG := Lib.hid hG
  have HB : Hid (Owns w (w.alloc (.cells #[.int .i64 d, .slice GA ng Gc, .int .i64 gl] 24)) [⟨.slice (some ⟨w.heap.size, 0, none⟩) 3 3, 24, 1, 3, [.int .i64 d, .slice GA ng Gc, .int .i64 gl]⟩]) := Lib.hid hB
  have HNG := Lib.hid hng
  clear hG hB hng
  go_enter Tryd.func31, Tryd.ntmps31
  go_upto_region 1 with fail
  obtain ⟨C, hC⟩ : ∃ x, w.heap.size = x := ⟨_, rfl⟩
  rw [hC] at HB ⊢
  obtain ⟨w1, hw1⟩ : ∃ x, (w.alloc (.cells #[.int .i64 d, .slice GA ng Gc, .int .i64 gl] 24)) = x := ⟨_, rfl⟩
  rw [hw1] at HB ⊢
  clear hw1 hC
  have HX := Lib.hid (Ext.refl w1)
  have HCK := Lib.hid (rCheck_any d gl gs _ w1 (Rs.ext (Rs.ext RI.ext) _ _ _ _ (HB.out.ext.trans HX.out) HG.out) HGN.out)
  have k00 : w1.cell? ⟨C, 0, none⟩ = some (.int .i64 d) := (HB.out.next HX.out).cell 0 rfl 0 rfl
  have k01 : w1.cell? ⟨C, 1, none⟩ = some (.slice GA ng Gc) := (HB.out.next HX.out).cell 0 rfl 1 rfl
  have k02 : w1.cell? ⟨C, 2, none⟩ = some (.int .i64 gl) := (HB.out.next HX.out).cell 0 rfl 2 rfl
  go_wp2_with fail
  refine HCK.out.mono ?_
  clear HCK k00 k01 k02
  rintro e w2 ⟨rfl, hx⟩
  replace HX := Lib.hid (HX.out.trans hx)
  clear hx
  obtain ⟨ck, hck⟩ : ∃ ck, Cd.check d gs gl = ck := ⟨_, rfl⟩
  rw [hck]
  have HC := Lib.hid hck
  clear hck
  by_cases h0 : ck = 0
  case neg =>
    have hne2 : (ck != 0) = true := by rw [bne_iff_ne]; exact h0
    have HE := Lib.hid (Lo.chkE_bad (m := m) (show Cd.check d gs gl ≠ 0 by rw [HC.out]; exact h0))
    clear h0
    go_wp2_with fail
    go_ret
    exact ⟨by rw [HE.out, HC.out]; rfl, HB.out.ext.trans HX.out⟩
  case pos =>
    subst h0
    have hs := rIsSet_any d gl gs m _ w2 (Rs.ext (Rs.ext RI.ext) _ _ _ _ (HB.out.ext.trans HX.out) HG.out) HGN.out
    have he := Lo.chk_set (m := m) HC.out
    obtain ⟨b, hb⟩ : ∃ b, Cd.isSet d gs gl m = b := ⟨_, rfl⟩
    rw [hb] at hs he
    have HS := Lib.hid hs
    have HE := Lib.hid he
    clear hs he hb
    have k00 : w2.cell? ⟨C, 0, none⟩ = some (.int .i64 d) := (HB.out.next HX.out).cell 0 rfl 0 rfl
    have k01 : w2.cell? ⟨C, 1, none⟩ = some (.slice GA ng Gc) := (HB.out.next HX.out).cell 0 rfl 1 rfl
    have k02 : w2.cell? ⟨C, 2, none⟩ = some (.int .i64 gl) := (HB.out.next HX.out).cell 0 rfl 2 rfl
    go_wp2_with fail
    refine HS.out.mono ?_
    clear HS k00 k01 k02
    rintro e w3 ⟨rfl, hx⟩
    replace HX := Lib.hid (HX.out.trans hx)
    clear hx
    cases b with
    | true =>
      go_wp2_with fail
      go_ret
      exact ⟨by rw [HE.out]; rfl, HB.out.ext.trans HX.out⟩
    | false =>
      go_wp2_with fail
      go_ret
      exact ⟨by rw [HE.out]; rfl, HB.out.ext.trans HX.out⟩
set_option maxHeartbeats 8000000 in
set_option maxRecDepth 100000 in
theorem r9Suff_any (d gl : Int) (gs : List (List Int)) (M most P : Nat) (G : Value) (w : World) (hG : Rs (Rs RI) w G gs) (hgn : gs.length ≤ 1000000) (h0 : Cd.check d gs gl = 0) (hP : (Cd.rowsOf d gs gl).length = P) (hM : M < 2 ^ P) (hP14 : P ≤ 14) :
    Calls Tryd.prog 32 #[.agg #[.int .i64 d, G, .int .i64 gl], .int .i64 (M : Nat), .int .i64 (most : Nat)] w fun e w' => e = .returned (.bool (Lo.suffP (fun t => Cd.can d gl gs (t : Int)) M P most)) ∧ Ext w w' := by
  have HGN := Lib.hid hgn
  clear hgn
  have hM14 : M < 16384 := Nat.lt_of_lt_of_le hM (show 2 ^ P ≤ 2 ^ 14 from Nat.pow_le_pow_right (by decide) hP14)
  have hsf := Lo.suff_iff (f := fun t => Cd.can d gl gs (t : Int)) (N := P) hM (by omega) (Lo.can_none h0) most
  obtain ⟨b, hb⟩ : ∃ b, Lo.suffP (fun t => Cd.can d gl gs (t : Int)) M P most = b := ⟨_, rfl⟩
  rw [hb] at hsf ⊢
  have HSF := Lib.hid hsf
  clear h0 hP hM hsf hb
  obtain ⟨GA, Gc, rfl, _⟩ := hG.form
  obtain ⟨ng, hng⟩ : ∃ ng, gs.length = ng := ⟨_, rfl⟩
  rw [hng] at hG ⊢
  have hB := (Owns.start w (L := [no]) (by intro r hr; simp at hr; subst hr; exact ⟨rfl, rfl, rfl⟩)).new 0 #[.int .i64 d, .slice GA ng Gc, .int .i64 gl] 24 (by simp [maxLen])
  have HG := Lib.hid hG
  have HB : Hid (Owns w (w.alloc (.cells #[.int .i64 d, .slice GA ng Gc, .int .i64 gl] 24)) [⟨.slice (some ⟨w.heap.size, 0, none⟩) 3 3, 24, 1, 3, [.int .i64 d, .slice GA ng Gc, .int .i64 gl]⟩]) := Lib.hid hB
  have HNG := Lib.hid hng
  clear hG hB hng
  go_enter Tryd.func32, Tryd.ntmps32
  go_upto_region 1 with fail
  obtain ⟨C, hC⟩ : ∃ x, w.heap.size = x := ⟨_, rfl⟩
  rw [hC] at HB ⊢
  obtain ⟨w1, hw1⟩ : ∃ x, (w.alloc (.cells #[.int .i64 d, .slice GA ng Gc, .int .i64 gl] 24)) = x := ⟨_, rfl⟩
  rw [hw1] at HB ⊢
  clear hw1 hC
  have HX := Lib.hid (Ext.refl w1)
  go_wp2_with fail
  go_loopw [7, 8] (fun v7 _ wr => ∃ k : Nat, k ≤ M + 1 ∧ v7 = .int .i64 (k : Nat) ∧ Hid (Ext w1 wr ∧ ∀ t, t < k → Lo.Sub t M → Lo.num t ≤ most → Cd.can d gl gs ((M - t : Nat) : Int) = true)) (fun v7 _ _ => M + 1 - (intOf v7).toNat)
  case atStart => exact ⟨0, Nat.zero_le _, rfl, Lib.hid ⟨Ext.refl _, fun t ht => absurd ht (by omega)⟩⟩
  case round =>
    obtain ⟨k, hk, rfl, HI⟩ := hrel
    have HX2 := Lib.hid (HX.out.trans HI.out.1)
    by_cases hkM : k ≤ M
    · have hand := and64 k M (by omega) (by omega)
      obtain ⟨z, hz⟩ : ∃ z, k &&& M = z := ⟨_, rfl⟩
      rw [hz] at hand
      by_cases hzk : z = k
      · have hsub : Lo.Sub k M := Lo.and_sub.1 (by rw [hz, hzk])
        rw [hzk] at hand
        have hcn := cCount_any k wr (by omega)
        rw [Lo.cnt_is] at hcn
        obtain ⟨nk, hnk⟩ : ∃ nk, Lo.num k = nk := ⟨_, rfl⟩
        rw [hnk] at hcn
        have HCN := Lib.hid hcn
        have HSB := Lib.hid (And.intro hsub hnk)
        clear hz hzk hsub hcn hnk
        go_wp2_with fail
        refine HCN.out.mono ?_
        clear HCN
        rintro e w' ⟨rfl, rfl⟩
        by_cases hnm : (nk : Int) ≤ (most : Int)
        · have hw3 : IntKind.i64.wrap ((M : Int) - (k : Int)) = ((M - k : Nat) : Int) := by rw [IntKind.wrap_i64]; omega
          have hw4 : wrap64 ((M : Int) - (k : Int)) = ((M - k : Nat) : Int) := by unfold wrap64; omega
          obtain ⟨y, hy⟩ : ∃ y, M - k = y := ⟨_, rfl⟩
          rw [hy] at hw3 hw4
          have hrc := rRec_any d gl (y : Int) gs _ wr (Rs.ext (Rs.ext RI.ext) _ _ _ _ (HB.out.ext.trans HX2.out) HG.out) HGN.out
          obtain ⟨c, hc⟩ : ∃ c, Cd.can d gl gs (y : Int) = c := ⟨_, rfl⟩
          rw [hc] at hrc
          have HRC := Lib.hid hrc
          have HY := Lib.hid (And.intro hy hc)
          have k00 : wr.cell? ⟨C, 0, none⟩ = some (.int .i64 d) := (HB.out.next HX2.out).cell 0 rfl 0 rfl
          have k01 : wr.cell? ⟨C, 1, none⟩ = some (.slice GA ng Gc) := (HB.out.next HX2.out).cell 0 rfl 1 rfl
          have k02 : wr.cell? ⟨C, 2, none⟩ = some (.int .i64 gl) := (HB.out.next HX2.out).cell 0 rfl 2 rfl
          clear hy hc hrc
          go_wp2_with fail
          refine HRC.out.mono ?_
          clear HRC k00 k01 k02
          rintro e w2 ⟨rfl, hx⟩
          have HX3 := Lib.hid hx
          clear hx
          cases c with
          | true =>
            go_wp2_with fail
            go_roundw
            case rel => exact ⟨k + 1, by omega, by go_num, Lib.hid ⟨HI.out.1.trans HX3.out, fun t ht hs hn => by
              by_cases e : t = k
              · rw [e, HY.out.1]; exact HY.out.2
              · exact HI.out.2 t (by omega) hs hn⟩⟩
            case measure => simp [intOf]; omega
          | false =>
            have hbf : b = false := by
              cases b with
              | false => rfl
              | true =>
                have h1 := (HSF.out.1 rfl) k HSB.out.1 (by rw [HSB.out.2]; omega)
                have h2 := HY.out.2
                rw [HY.out.1] at h1
                exact absurd (h1.symm.trans h2) (by decide)
            have HBF := Lib.hid hbf
            clear hbf
            go_wp2_with fail
            go_ret
            exact ⟨by rw [HBF.out]; rfl, HB.out.ext.trans (HX2.out.trans HX3.out)⟩
        · go_wp2_with fail
          go_roundw
          case rel => exact ⟨k + 1, by omega, by go_num, Lib.hid ⟨HI.out.1, fun t ht hs hn => by
            by_cases e : t = k
            · rw [e, HSB.out.2] at hn; omega
            · exact HI.out.2 t (by omega) hs hn⟩⟩
          case measure => simp [intOf]; omega
      · have hns : ¬ Lo.Sub k M := fun h => hzk (by rw [← hz]; exact Lo.and_sub.2 h)
        have he : ((z : Int) == (k : Int)) = false := by rw [beq_eq_false_iff_ne]; omega
        have HNS := Lib.hid hns
        clear hz hns hzk
        go_wp2_with fail
        go_roundw
        case rel => exact ⟨k + 1, by omega, by go_num, Lib.hid ⟨HI.out.1, fun t ht hs hn => by
          by_cases e : t = k
          · rw [e] at hs; exact absurd hs HNS.out
          · exact HI.out.2 t (by omega) hs hn⟩⟩
        case measure => simp [intOf]; omega
    · have hkM2 : ¬ (k : Int) ≤ (M : Int) := by omega
      have hbt : b = true := HSF.out.2 fun t hs hn => HI.out.2 t (by have := Lo.sub_le hs; omega) hs hn
      have HBT := Lib.hid hbt
      clear hbt
      go_wp2_with fail
      go_ret
      exact ⟨by rw [HBT.out]; rfl, HB.out.ext.trans HX2.out⟩
set_option maxHeartbeats 8000000 in
set_option maxRecDepth 100000 in
theorem r9Det_any (d gl : Int) (gs : List (List Int)) (m wrong : Int) (G : Value) (w : World) (hG : Rs (Rs RI) w G gs) (hgn : gs.length ≤ 1000000) (hP : Cd.check d gs gl = 0 → (Cd.rowsOf d gs gl).length ≤ 14) :
    Calls Tryd.prog 13 #[.agg #[.int .i64 d, G, .int .i64 gl], .int .i64 m, .int .i64 wrong] w fun e w' => e = .returned (.agg #[.bool (Lo.detB d gl gs m wrong), .int .i64 (Lo.detE d gl gs m wrong)]) ∧ Ext w w' := by
  have HGN := Lib.hid hgn
  clear hgn
  have HP := Lib.hid hP
  clear hP
  obtain ⟨GA, Gc, rfl, _⟩ := hG.form
  obtain ⟨ng, hng⟩ : ∃ ng, gs.length = ng := ⟨_, rfl⟩
  rw [hng] at hG ⊢
  have hB := ((Owns.start w (L := [no, no]) (by intro r hr; simp at hr; subst hr; exact ⟨rfl, rfl, rfl⟩)).new 0 #[.int .i64 d, .slice GA ng Gc, .int .i64 gl] 24 (by simp [maxLen])).new 1 #[.bool false, .int .i64 0] 31 (by simp [maxLen])
  simp only [World.size_alloc] at hB
  have HG := Lib.hid hG
  have HB : Hid (Owns w ((w.alloc (.cells #[.int .i64 d, .slice GA ng Gc, .int .i64 gl] 24)).alloc (.cells #[.bool false, .int .i64 0] 31)) [⟨.slice (some ⟨w.heap.size, 0, none⟩) 3 3, 24, 1, 3, [.int .i64 d, .slice GA ng Gc, .int .i64 gl]⟩, ⟨.slice (some ⟨w.heap.size + 1, 0, none⟩) 2 2, 31, 1, 2, [.bool false, .int .i64 0]⟩]) := Lib.hid hB
  have HNG := Lib.hid hng
  clear hG hB hng
  go_enter Tryd.func13, Tryd.ntmps13
  go_upto_region 1 with fail
  obtain ⟨C, hC⟩ : ∃ x, w.heap.size = x := ⟨_, rfl⟩
  rw [hC] at HB ⊢
  obtain ⟨Q, hQ⟩ : ∃ x, C + 1 = x := ⟨_, rfl⟩
  rw [hQ] at HB ⊢
  have nCQ : C ≠ Q := by omega
  obtain ⟨w1, hw1⟩ : ∃ x, ((w.alloc (.cells #[.int .i64 d, .slice GA ng Gc, .int .i64 gl] 24)).alloc (.cells #[.bool false, .int .i64 0] 31)) = x := ⟨_, rfl⟩
  rw [hw1] at HB ⊢
  clear hw1 hC hQ
  have HX := Lib.hid (Ext.refl w1)
  have HCK := Lib.hid (r9Set_any d gl gs m _ w1 (Rs.ext (Rs.ext RI.ext) _ _ _ _ (HB.out.ext.trans HX.out) HG.out) HGN.out)
  have k00 : w1.cell? ⟨C, 0, none⟩ = some (.int .i64 d) := (HB.out.next HX.out).cell 0 rfl 0 rfl
  have k01 : w1.cell? ⟨C, 1, none⟩ = some (.slice GA ng Gc) := (HB.out.next HX.out).cell 0 rfl 1 rfl
  have k02 : w1.cell? ⟨C, 2, none⟩ = some (.int .i64 gl) := (HB.out.next HX.out).cell 0 rfl 2 rfl
  go_wp2_with fail
  refine HCK.out.mono ?_
  clear HCK k00 k01 k02
  rintro e w2 ⟨rfl, hx⟩
  replace HX := Lib.hid (HX.out.trans hx)
  clear hx
  obtain ⟨er, her⟩ : ∃ er, Lo.chkE d gl gs m = er := ⟨_, rfl⟩
  rw [her]
  have HER := Lib.hid her
  clear her
  by_cases h0 : er = 0
  case neg =>
    have hne2 : (er != 0) = true := by rw [bne_iff_ne]; exact h0
    have hr := Lo.det_bad (wrong := wrong) (show Lo.chkE d gl gs m ≠ 0 by rw [HER.out]; exact h0)
    rw [HER.out] at hr
    have HR := Lib.hid hr
    clear hr h0
    have HS0 := Lib.hid (HB.out.next HX.out)
    have k10 : w2.cell? ⟨Q, 0, none⟩ = some (.bool false) := (HB.out.next HX.out).cell 1 rfl 0 rfl
    have k11 : w2.cell? ⟨Q, 1, none⟩ = some (.int .i64 0) := (HB.out.next HX.out).cell 1 rfl 1 rfl
    have f10 : w2.frozen? ⟨Q, 0, none⟩ = false := HS0.out.frozen 1 rfl 0
    have f11 : w2.frozen? ⟨Q, 1, none⟩ = false := HS0.out.frozen 1 rfl 1
    have HS := Lib.hid ((HS0.out.store 1 rfl 0 (.bool false)).store 1 rfl 1 (.int .i64 er))
    go_wp2_with fail
    refine bodyPost_ret (results_cell1L (v := .agg #[.bool false, .int .i64 er]) rfl rfl ?_) rfl ?_
    · go_simp
    exact ⟨by rw [HR.out.1, HR.out.2], HS.out.ext⟩
  case pos =>
    subst h0
    obtain ⟨hck, hm0, hm1⟩ := Lo.chkE_ok HER.out
    obtain ⟨M, rfl⟩ : ∃ M : Nat, m = M := ⟨m.toNat, by omega⟩
    have hm2 : M < 2 ^ (Cd.rowsOf d gs gl).length := by omega
    have hP14 := HP.out hck
    have HK := Lib.hid (And.intro hck (And.intro hm2 hP14))
    clear hck hm0 hm1 hm2 hP14
    by_cases hw0 : wrong < 0
    · have hr := Lo.det_range HER.out (show wrong < 0 ∨ 4 < wrong from Or.inl hw0)
      have HR := Lib.hid hr
      clear hr
      have HS0 := Lib.hid (HB.out.next HX.out)
      have k10 : w2.cell? ⟨Q, 0, none⟩ = some (.bool false) := (HB.out.next HX.out).cell 1 rfl 0 rfl
      have k11 : w2.cell? ⟨Q, 1, none⟩ = some (.int .i64 0) := (HB.out.next HX.out).cell 1 rfl 1 rfl
      have f10 : w2.frozen? ⟨Q, 0, none⟩ = false := HS0.out.frozen 1 rfl 0
      have f11 : w2.frozen? ⟨Q, 1, none⟩ = false := HS0.out.frozen 1 rfl 1
      have HS := Lib.hid ((HS0.out.store 1 rfl 0 (.bool false)).store 1 rfl 1 (.int .i64 3))
      go_wp2_with fail
      refine bodyPost_ret (results_cell1L (v := .agg #[.bool false, .int .i64 3]) rfl rfl ?_) rfl ?_
      · go_simp
      exact ⟨by rw [HR.out.1, HR.out.2], HS.out.ext⟩
    · by_cases hw4 : 4 < wrong
      · have hr := Lo.det_range HER.out (show wrong < 0 ∨ 4 < wrong from Or.inr hw4)
        have HR := Lib.hid hr
        clear hr
        have HS0 := Lib.hid (HB.out.next HX.out)
        have k10 : w2.cell? ⟨Q, 0, none⟩ = some (.bool false) := (HB.out.next HX.out).cell 1 rfl 0 rfl
        have k11 : w2.cell? ⟨Q, 1, none⟩ = some (.int .i64 0) := (HB.out.next HX.out).cell 1 rfl 1 rfl
        have f10 : w2.frozen? ⟨Q, 0, none⟩ = false := HS0.out.frozen 1 rfl 0
        have f11 : w2.frozen? ⟨Q, 1, none⟩ = false := HS0.out.frozen 1 rfl 1
        have HS := Lib.hid ((HS0.out.store 1 rfl 0 (.bool false)).store 1 rfl 1 (.int .i64 3))
        go_wp2_with fail
        refine bodyPost_ret (results_cell1L (v := .agg #[.bool false, .int .i64 3]) rfl rfl ?_) rfl ?_
        · go_simp
        exact ⟨by rw [HR.out.1, HR.out.2], HS.out.ext⟩
      · obtain ⟨e, rfl⟩ : ∃ e : Nat, wrong = e := ⟨wrong.toNat, by omega⟩
        have hr := Lo.det_ok HER.out (show ¬ ((e : Int) < 0 ∨ 4 < (e : Int)) by omega)
        rw [Int.toNat_natCast, Int.toNat_natCast] at hr
        have HR := Lib.hid hr
        have hsu := r9Suff_any d gl gs M (e) (Cd.rowsOf d gs gl).length _ w2 (Rs.ext (Rs.ext RI.ext) _ _ _ _ (HB.out.ext.trans HX.out) HG.out) HGN.out HK.out.1 rfl HK.out.2.1 HK.out.2.2
        obtain ⟨bb, hbb⟩ : ∃ bb, Lo.suffP (fun t => Cd.can d gl gs (t : Int)) M (Cd.rowsOf d gs gl).length (e) = bb := ⟨_, rfl⟩
        rw [hbb] at hsu
        have HSU := Lib.hid hsu
        have HBB := Lib.hid hbb
        clear hr hsu hbb
        have k00 : w2.cell? ⟨C, 0, none⟩ = some (.int .i64 d) := (HB.out.next HX.out).cell 0 rfl 0 rfl
        have k01 : w2.cell? ⟨C, 1, none⟩ = some (.slice GA ng Gc) := (HB.out.next HX.out).cell 0 rfl 1 rfl
        have k02 : w2.cell? ⟨C, 2, none⟩ = some (.int .i64 gl) := (HB.out.next HX.out).cell 0 rfl 2 rfl
        go_wp2_with fail
        refine HSU.out.mono ?_
        clear HSU k00 k01 k02
        rintro e w3 ⟨rfl, hx⟩
        replace HX := Lib.hid (HX.out.trans hx)
        clear hx
        have HS0 := Lib.hid (HB.out.next HX.out)
        have k10 : w3.cell? ⟨Q, 0, none⟩ = some (.bool false) := (HB.out.next HX.out).cell 1 rfl 0 rfl
        have k11 : w3.cell? ⟨Q, 1, none⟩ = some (.int .i64 0) := (HB.out.next HX.out).cell 1 rfl 1 rfl
        have f10 : w3.frozen? ⟨Q, 0, none⟩ = false := HS0.out.frozen 1 rfl 0
        have f11 : w3.frozen? ⟨Q, 1, none⟩ = false := HS0.out.frozen 1 rfl 1
        have HS := Lib.hid ((HS0.out.store 1 rfl 0 (.bool bb)).store 1 rfl 1 (.int .i64 0))
        go_wp2_with fail
        refine bodyPost_ret (results_cell1L (v := .agg #[.bool bb, .int .i64 0]) rfl rfl ?_) rfl ?_
        · go_simp
        exact ⟨by rw [HR.out.1, HR.out.2, HBB.out], HS.out.ext⟩
set_option maxHeartbeats 8000000 in
set_option maxRecDepth 100000 in
theorem r9Cor_any (d gl : Int) (gs : List (List Int)) (m wrong : Int) (G : Value) (w : World) (hG : Rs (Rs RI) w G gs) (hgn : gs.length ≤ 1000000) (hP : Cd.check d gs gl = 0 → (Cd.rowsOf d gs gl).length ≤ 14) :
    Calls Tryd.prog 14 #[.agg #[.int .i64 d, G, .int .i64 gl], .int .i64 m, .int .i64 wrong] w fun e w' => e = .returned (.agg #[.bool (Lo.corB d gl gs m wrong), .int .i64 (Lo.corE d gl gs m wrong)]) ∧ Ext w w' := by
  have HGN := Lib.hid hgn
  clear hgn
  have HP := Lib.hid hP
  clear hP
  obtain ⟨GA, Gc, rfl, _⟩ := hG.form
  obtain ⟨ng, hng⟩ : ∃ ng, gs.length = ng := ⟨_, rfl⟩
  rw [hng] at hG ⊢
  have hB := ((Owns.start w (L := [no, no]) (by intro r hr; simp at hr; subst hr; exact ⟨rfl, rfl, rfl⟩)).new 0 #[.int .i64 d, .slice GA ng Gc, .int .i64 gl] 24 (by simp [maxLen])).new 1 #[.bool false, .int .i64 0] 31 (by simp [maxLen])
  simp only [World.size_alloc] at hB
  have HG := Lib.hid hG
  have HB : Hid (Owns w ((w.alloc (.cells #[.int .i64 d, .slice GA ng Gc, .int .i64 gl] 24)).alloc (.cells #[.bool false, .int .i64 0] 31)) [⟨.slice (some ⟨w.heap.size, 0, none⟩) 3 3, 24, 1, 3, [.int .i64 d, .slice GA ng Gc, .int .i64 gl]⟩, ⟨.slice (some ⟨w.heap.size + 1, 0, none⟩) 2 2, 31, 1, 2, [.bool false, .int .i64 0]⟩]) := Lib.hid hB
  have HNG := Lib.hid hng
  clear hG hB hng
  go_enter Tryd.func14, Tryd.ntmps14
  go_upto_region 1 with fail
  obtain ⟨C, hC⟩ : ∃ x, w.heap.size = x := ⟨_, rfl⟩
  rw [hC] at HB ⊢
  obtain ⟨Q, hQ⟩ : ∃ x, C + 1 = x := ⟨_, rfl⟩
  rw [hQ] at HB ⊢
  have nCQ : C ≠ Q := by omega
  obtain ⟨w1, hw1⟩ : ∃ x, ((w.alloc (.cells #[.int .i64 d, .slice GA ng Gc, .int .i64 gl] 24)).alloc (.cells #[.bool false, .int .i64 0] 31)) = x := ⟨_, rfl⟩
  rw [hw1] at HB ⊢
  clear hw1 hC hQ
  have HX := Lib.hid (Ext.refl w1)
  have HCK := Lib.hid (r9Set_any d gl gs m _ w1 (Rs.ext (Rs.ext RI.ext) _ _ _ _ (HB.out.ext.trans HX.out) HG.out) HGN.out)
  have k00 : w1.cell? ⟨C, 0, none⟩ = some (.int .i64 d) := (HB.out.next HX.out).cell 0 rfl 0 rfl
  have k01 : w1.cell? ⟨C, 1, none⟩ = some (.slice GA ng Gc) := (HB.out.next HX.out).cell 0 rfl 1 rfl
  have k02 : w1.cell? ⟨C, 2, none⟩ = some (.int .i64 gl) := (HB.out.next HX.out).cell 0 rfl 2 rfl
  go_wp2_with fail
  refine HCK.out.mono ?_
  clear HCK k00 k01 k02
  rintro e w2 ⟨rfl, hx⟩
  replace HX := Lib.hid (HX.out.trans hx)
  clear hx
  obtain ⟨er, her⟩ : ∃ er, Lo.chkE d gl gs m = er := ⟨_, rfl⟩
  rw [her]
  have HER := Lib.hid her
  clear her
  by_cases h0 : er = 0
  case neg =>
    have hne2 : (er != 0) = true := by rw [bne_iff_ne]; exact h0
    have hr := Lo.cor_bad (wrong := wrong) (show Lo.chkE d gl gs m ≠ 0 by rw [HER.out]; exact h0)
    rw [HER.out] at hr
    have HR := Lib.hid hr
    clear hr h0
    have HS0 := Lib.hid (HB.out.next HX.out)
    have k10 : w2.cell? ⟨Q, 0, none⟩ = some (.bool false) := (HB.out.next HX.out).cell 1 rfl 0 rfl
    have k11 : w2.cell? ⟨Q, 1, none⟩ = some (.int .i64 0) := (HB.out.next HX.out).cell 1 rfl 1 rfl
    have f10 : w2.frozen? ⟨Q, 0, none⟩ = false := HS0.out.frozen 1 rfl 0
    have f11 : w2.frozen? ⟨Q, 1, none⟩ = false := HS0.out.frozen 1 rfl 1
    have HS := Lib.hid ((HS0.out.store 1 rfl 0 (.bool false)).store 1 rfl 1 (.int .i64 er))
    go_wp2_with fail
    refine bodyPost_ret (results_cell1L (v := .agg #[.bool false, .int .i64 er]) rfl rfl ?_) rfl ?_
    · go_simp
    exact ⟨by rw [HR.out.1, HR.out.2], HS.out.ext⟩
  case pos =>
    subst h0
    obtain ⟨hck, hm0, hm1⟩ := Lo.chkE_ok HER.out
    obtain ⟨M, rfl⟩ : ∃ M : Nat, m = M := ⟨m.toNat, by omega⟩
    have hm2 : M < 2 ^ (Cd.rowsOf d gs gl).length := by omega
    have hP14 := HP.out hck
    have HK := Lib.hid (And.intro hck (And.intro hm2 hP14))
    clear hck hm0 hm1 hm2 hP14
    by_cases hw0 : wrong < 0
    · have hr := Lo.cor_range HER.out (show wrong < 0 ∨ 2 < wrong from Or.inl hw0)
      have HR := Lib.hid hr
      clear hr
      have HS0 := Lib.hid (HB.out.next HX.out)
      have k10 : w2.cell? ⟨Q, 0, none⟩ = some (.bool false) := (HB.out.next HX.out).cell 1 rfl 0 rfl
      have k11 : w2.cell? ⟨Q, 1, none⟩ = some (.int .i64 0) := (HB.out.next HX.out).cell 1 rfl 1 rfl
      have f10 : w2.frozen? ⟨Q, 0, none⟩ = false := HS0.out.frozen 1 rfl 0
      have f11 : w2.frozen? ⟨Q, 1, none⟩ = false := HS0.out.frozen 1 rfl 1
      have HS := Lib.hid ((HS0.out.store 1 rfl 0 (.bool false)).store 1 rfl 1 (.int .i64 3))
      go_wp2_with fail
      refine bodyPost_ret (results_cell1L (v := .agg #[.bool false, .int .i64 3]) rfl rfl ?_) rfl ?_
      · go_simp
      exact ⟨by rw [HR.out.1, HR.out.2], HS.out.ext⟩
    · by_cases hw4 : 2 < wrong
      · have hr := Lo.cor_range HER.out (show wrong < 0 ∨ 2 < wrong from Or.inr hw4)
        have HR := Lib.hid hr
        clear hr
        have HS0 := Lib.hid (HB.out.next HX.out)
        have k10 : w2.cell? ⟨Q, 0, none⟩ = some (.bool false) := (HB.out.next HX.out).cell 1 rfl 0 rfl
        have k11 : w2.cell? ⟨Q, 1, none⟩ = some (.int .i64 0) := (HB.out.next HX.out).cell 1 rfl 1 rfl
        have f10 : w2.frozen? ⟨Q, 0, none⟩ = false := HS0.out.frozen 1 rfl 0
        have f11 : w2.frozen? ⟨Q, 1, none⟩ = false := HS0.out.frozen 1 rfl 1
        have HS := Lib.hid ((HS0.out.store 1 rfl 0 (.bool false)).store 1 rfl 1 (.int .i64 3))
        go_wp2_with fail
        refine bodyPost_ret (results_cell1L (v := .agg #[.bool false, .int .i64 3]) rfl rfl ?_) rfl ?_
        · go_simp
        exact ⟨by rw [HR.out.1, HR.out.2], HS.out.ext⟩
      · obtain ⟨e, rfl⟩ : ∃ e : Nat, wrong = e := ⟨wrong.toNat, by omega⟩
        have hr := Lo.cor_ok HER.out (show ¬ ((e : Int) < 0 ∨ 2 < (e : Int)) by omega)
        rw [Int.toNat_natCast, Int.toNat_natCast] at hr
        have HR := Lib.hid hr
        have hsu := r9Suff_any d gl gs M (2 * e) (Cd.rowsOf d gs gl).length _ w2 (Rs.ext (Rs.ext RI.ext) _ _ _ _ (HB.out.ext.trans HX.out) HG.out) HGN.out HK.out.1 rfl HK.out.2.1 HK.out.2.2
        obtain ⟨bb, hbb⟩ : ∃ bb, Lo.suffP (fun t => Cd.can d gl gs (t : Int)) M (Cd.rowsOf d gs gl).length (2 * e) = bb := ⟨_, rfl⟩
        rw [hbb] at hsu
        have HSU := Lib.hid hsu
        have HBB := Lib.hid hbb
        clear hr hsu hbb
        have k00 : w2.cell? ⟨C, 0, none⟩ = some (.int .i64 d) := (HB.out.next HX.out).cell 0 rfl 0 rfl
        have k01 : w2.cell? ⟨C, 1, none⟩ = some (.slice GA ng Gc) := (HB.out.next HX.out).cell 0 rfl 1 rfl
        have k02 : w2.cell? ⟨C, 2, none⟩ = some (.int .i64 gl) := (HB.out.next HX.out).cell 0 rfl 2 rfl
        go_wp2_with fail
        refine HSU.out.mono ?_
        clear HSU k00 k01 k02
        rintro e w3 ⟨rfl, hx⟩
        replace HX := Lib.hid (HX.out.trans hx)
        clear hx
        have HS0 := Lib.hid (HB.out.next HX.out)
        have k10 : w3.cell? ⟨Q, 0, none⟩ = some (.bool false) := (HB.out.next HX.out).cell 1 rfl 0 rfl
        have k11 : w3.cell? ⟨Q, 1, none⟩ = some (.int .i64 0) := (HB.out.next HX.out).cell 1 rfl 1 rfl
        have f10 : w3.frozen? ⟨Q, 0, none⟩ = false := HS0.out.frozen 1 rfl 0
        have f11 : w3.frozen? ⟨Q, 1, none⟩ = false := HS0.out.frozen 1 rfl 1
        have HS := Lib.hid ((HS0.out.store 1 rfl 0 (.bool bb)).store 1 rfl 1 (.int .i64 0))
        go_wp2_with fail
        refine bodyPost_ret (results_cell1L (v := .agg #[.bool bb, .int .i64 0]) rfl rfl ?_) rfl ?_
        · go_simp
        exact ⟨by rw [HR.out.1, HR.out.2, HBB.out], HS.out.ext⟩
end Go.Proofs.YtggfkpalkdkbdaaDoor

/- THE EXAMPLES of the document's chapter on locating, worked out. -/
namespace Lo
open Gf Cd
def exG : List (List Int) := [[0, 1], [2, 3]]
def exL : List (List UInt8) := [[1, 2], [3, 4], [5, 6], [7, 0], [2, 6], [2, 6], [43, 18]]
def exOne : List (List UInt8) := exL.set 2 [9, 9]
def exTwo : List (List UInt8) := exOne.set 3 [9, 9]
def exA : List (List UInt8) := exL.set 4 [2, 7]
def exB : List (List UInt8) := exL.set 6 [0, 0]
theorem ex_det2 : detB 4 1 exG 127 2 = true ∧ detE 4 1 exG 127 2 = 0 := by decide +kernel
theorem ex_det3 : detB 4 1 exG 127 3 = false ∧ detE 4 1 exG 127 3 = 0 := by decide +kernel
theorem ex_cor1 : corB 4 1 exG 127 1 = true ∧ corE 4 1 exG 127 1 = 0 := by decide +kernel
theorem ex_cor63 : corB 4 1 exG 63 1 = false ∧ corE 4 1 exG 63 1 = 0 := by decide +kernel
theorem ex_fit : fitB 4 1 exG 7 19 exL = true ∧ givE 4 1 exG 7 19 exL = 0 := by decide +kernel
theorem ex_fitA : fitB 4 1 exG 7 19 exA = false ∧ givE 4 1 exG 7 19 exA = 0 := by decide +kernel
theorem ex_one : locR 4 1 exG 7 127 exOne 1 = ([1, 2, 3, 4, 5, 6, 7], 4, 0) := by decide +kernel
theorem ex_two : (locR 4 1 exG 7 127 exTwo 1).2.2 = 17 := by decide +kernel
end Lo

/- THE EXAMPLES of Clash, worked out. -/
namespace Lo
open Gf Cd
def ltB (a b : Nat) : Bool := decide (num a < num b) || (num a == num b && befF 16 a b)
theorem ltB_iff {a b : Nat} (ha : a < 2 ^ 16) (hb : b < 2 ^ 16) : ltB a b = true ↔ Lt a b := by
  unfold ltB Lt
  rw [Bool.or_eq_true, Bool.and_eq_true, decide_eq_true_iff, beq_iff_eq, befF_iff 16 a b ha hb]
def leastB (bad : Nat → Bool) (x : Nat) : Bool := x != 0 && decide (x < 128) && bad x && (List.range 128).all fun z => z == 0 || !bad z || z == x || ltB x z
theorem sub127 {z : Nat} (h : z < 128) : Sub z 127 := by
  rw [← and_sub]
  have := Nat.and_two_pow_sub_one_eq_mod z 7
  rw [show (2 : Nat) ^ 7 - 1 = 127 from rfl, show (2 : Nat) ^ 7 = 128 from rfl] at this
  rw [this]; exact Nat.mod_eq_of_lt h
theorem leastB_least {bad : Nat → Bool} {x : Nat} (h : leastB bad x = true) : Least bad 127 x := by
  unfold leastB at h
  rw [Bool.and_eq_true, Bool.and_eq_true, Bool.and_eq_true, bne_iff_ne, decide_eq_true_iff, List.all_eq_true] at h
  obtain ⟨⟨⟨h1, h2⟩, h3⟩, h4⟩ := h
  refine ⟨h1, sub127 h2, h3, fun z hz hs hb => ?_⟩
  have hz2 : z < 128 := by have := sub_le hs; omega
  have h5 := h4 z (List.mem_range.2 hz2)
  rw [Bool.or_eq_true, Bool.or_eq_true, Bool.or_eq_true, beq_iff_eq, beq_iff_eq, hb] at h5
  rcases h5 with ((h5 | h5) | h5) | h5
  · exact absurd h5 hz
  · cases h5
  · exact .inl h5
  · exact .inr ((ltB_iff (by omega) (by omega)).1 h5)
theorem cl_ex {d gl : Int} {gs : List (List Int)} {pieces : List (List UInt8)} {x E : Int} {X : Nat} (hg : givE d gl gs 7 127 pieces = 0) (h : leastB (badSet d gl gs pieces) X = true) (hc : ClashOut d gl gs 7 127 pieces x E) : x = X ∧ E = 0 := by
  have hl := leastB_least h
  rcases hc with ⟨h1, _⟩ | ⟨_, h1, _⟩ | ⟨_, _, h1 | ⟨Y, rfl, rfl, h1⟩⟩
  · exact absurd hg h1
  · exact absurd h1 (by decide +kernel)
  · have := h1.2.2 X hl.1 hl.2.1
    rw [hl.2.2.1] at this
    cases this
  · rw [Least.one h1 hl]; exact ⟨rfl, rfl⟩
theorem cl_exN {d gl : Int} {gs : List (List Int)} {pieces : List (List UInt8)} {x E : Int} (hg : givE d gl gs 7 127 pieces = 0) (h : ((List.range 128).all fun z => z == 0 || !badSet d gl gs pieces z) = true) (hc : ClashOut d gl gs 7 127 pieces x E) : E = 8 := by
  rcases hc with ⟨h1, _⟩ | ⟨_, h1, _⟩ | ⟨_, _, h1 | ⟨Y, rfl, rfl, h1⟩⟩
  · exact absurd hg h1
  · exact absurd h1 (by decide +kernel)
  · exact h1.2.1
  · rw [List.all_eq_true] at h
    have hy : Y < 128 := by have := sub_le h1.2.1; have e : (127 : Int).toNat = 127 := rfl; rw [e] at this; omega
    have h2 := h Y (List.mem_range.2 hy)
    rw [Bool.or_eq_true, beq_iff_eq, h1.2.2.1] at h2
    rcases h2 with h2 | h2
    · exact absurd h2 h1.1
    · cases h2
theorem ex_givA : givE 4 1 exG 7 127 exA = 0 := by decide +kernel
theorem ex_givB : givE 4 1 exG 7 127 exB = 0 := by decide +kernel
theorem ex_givL : givE 4 1 exG 7 127 exL = 0 := by decide +kernel
theorem ex_clA : leastB (badSet 4 1 exG exA) 19 = true := by decide +kernel
theorem ex_clB : leastB (badSet 4 1 exG exB) 79 = true := by decide +kernel
theorem ex_clL : ((List.range 128).all fun z => z == 0 || !badSet 4 1 exG exL z) = true := by decide +kernel
end Lo

/- example, with, and the drawn regions of sanity (quietuslaw09). -/
namespace Go.Proofs.YtggfkpalkdkbdaaDoor
open Go.RowKit
theorem ex_extract9 {P : Program} {o : Oper} {a : Act} {w : World} {i : Nat} {x : Operand} {vs : Array Value} {v : Value} (ho : o.op = .extract x i) (hx : a.eval x = .tuple vs) (hi : vs[i]? = some v) : (execOp a.eval o).run P w = .ok (.value v) w := by
  unfold execOp
  simp only [ho, hx, Instr.extract, hi, Sem.run_bind, Sem.run_pure, Result.andThen_ok]
/-- The cells of a block. -/
def Cells (w : World) (B : Nat) (cs : List Value) : Prop := ∀ (i : Nat) v, cs[i]? = some v → w.cell? ⟨B, i, none⟩ = some v
theorem Cells.ext {w w' : World} {B : Nat} {cs : List Value} (h : Cells w B cs) (hx : Ext w w') : Cells w' B cs := fun i v hi => hx.cell (h i v hi)
theorem cells_new (w : World) (cs : Array Value) (t : TypeId) : Cells (w.alloc (.cells cs t)) w.heap.size cs.toList := fun i v hi => cell_of_row _ _ i cs t (0, 0) (heap_new _ _) |>.trans (by simpa using hi)
theorem Rs.two {α : Type} {R : World → Value → α → Prop} {w : World} {g c : Nat} {u0 u1 : Value} {x0 x1 : α} (h0 : w.cell? ⟨g, 0, none⟩ = some u0) (r0 : R w u0 x0) (h1 : w.cell? ⟨g, 1, none⟩ = some u1) (r1 : R w u1 x1) : Rs R w (.slice (some ⟨g, 0, none⟩) 2 c) [x0, x1] :=
  ⟨some ⟨g, 0, none⟩, c, rfl, by simp, fun i x hi => by
    match i, hi with
    | 0, hi => simp at hi; subst hi; exact ⟨_, u0, rfl, h0, r0⟩
    | 1, hi => simp at hi; subst hi; exact ⟨_, u1, rfl, h1, r1⟩
    | i + 2, hi => simp at hi⟩
theorem rt_lit {W : World} {g c : Nat} {l : List (List UInt8)} (h : Cells W g (l.map sv)) (hl : l.length ≤ 1000) : Rs RS W (.slice (some ⟨g, 0, none⟩) l.length c) l :=
  ⟨some ⟨g, 0, none⟩, c, rfl, by omega, fun i x hi => ⟨⟨g, 0, none⟩, sv x, rfl, by rw [Addr.add_lit, Nat.zero_add]; exact h i _ (by rw [List.getElem?_map, hi]; rfl), rfl⟩⟩
theorem results_cell_tmp9 {P : Program} {fn : Func} {a b : Tmp} {t : TypeId} (h : fn.results = #[.cell a t, .tmp b]) {tmps : Array Value} {ad : Addr} {v : Value} {w : World} (ha : tmps.getD a undef = .pointer (some ad)) (hl : (loadVar t ad).run P w = .ok v w) :
    (results fn tmps).run P w = .ok (.tuple #[v, tmps.getD b undef]) w := by
  rw [Array.getD_eq_getD_getElem?] at ha
  simp [results, h, asAddr, ha, hl]
set_option maxRecDepth 100000 in
theorem example9_any (w : World) :
    Calls Tryd.prog 27 #[] w fun e w' => ∃ GA gc LA lc, e = .returned (.tuple #[.agg #[.int .i64 4, .slice GA 2 gc, .int .i64 1], .slice LA 7 lc]) ∧ Rs (Rs RI) w' (.slice GA 2 gc) Lo.exG ∧ Rs RS w' (.slice LA 7 lc) Lo.exL ∧ Ext w w' := by
  go_enter Tryd.func27, Tryd.ntmps27
  go_wp2_with fail
  refine bodyPost_ret (results_cell_tmp9 (v := .agg #[.int .i64 4, .slice (some ⟨w.heap.size + 1 + 1 + 1, 0, none⟩) 2 2, .int .i64 1]) rfl rfl ?_) rfl ?_
  · go_simp
  refine ⟨some ⟨w.heap.size + 1 + 1 + 1, 0, none⟩, 2, some ⟨w.heap.size + 1 + 1 + 1 + 1 + 1, 0, none⟩, 7, rfl, ?_, ?_, (((((Ext.refl w).alloc _).alloc _).alloc _).alloc _).alloc _ |>.alloc _⟩
  · refine Rs.two (u0 := .slice (some ⟨w.heap.size + 1, 0, none⟩) 2 2) (u1 := .slice (some ⟨w.heap.size + 1 + 1, 0, none⟩) 2 2) (by go_simp) ?_ (by go_simp) ?_
    · exact Rs.two (u0 := .int .i64 0) (u1 := .int .i64 1) (by go_simp) ⟨rfl, by decide, by decide⟩ (by go_simp) ⟨rfl, by decide, by decide⟩
    · exact Rs.two (u0 := .int .i64 2) (u1 := .int .i64 3) (by go_simp) ⟨rfl, by decide, by decide⟩ (by go_simp) ⟨rfl, by decide, by decide⟩
  · refine rt_lit (l := Lo.exL) ?_ (by decide)
    have h := cells_new (((((w.alloc (.cells #[.int .i64 4, .slice (some ⟨w.heap.size + 1 + 1 + 1, 0, none⟩) 2 2, .int .i64 1] 24)).alloc (.cells #[.int .i64 0, .int .i64 1] 3)).alloc (.cells #[.int .i64 2, .int .i64 3] 3)).alloc (.cells #[.slice (some ⟨w.heap.size + 1, 0, none⟩) 2 2, .slice (some ⟨w.heap.size + 1 + 1, 0, none⟩) 2 2] 63)).alloc (.cells #[.int .i64 4, .slice (some ⟨w.heap.size + 1 + 1 + 1, 0, none⟩) 2 2, .int .i64 1] 24)) #[.string ⟨#[1, 2]⟩, .string ⟨#[3, 4]⟩, .string ⟨#[5, 6]⟩, .string ⟨#[7, 0]⟩, .string ⟨#[2, 6]⟩, .string ⟨#[2, 6]⟩, .string ⟨#[43, 18]⟩] 9
    simp only [World.size_alloc] at h
    exact h
set_option maxRecDepth 100000 in
theorem with9_any (l : List (List UInt8)) (A : Addr) (n c k : Nat) (s : List UInt8) (w : World) (hA : Rs RS w (.slice (some A) n c) l) (hl : l.length = n) (hk : k < n) (hn : n ≤ 1000) :
    Calls Tryd.prog 28 #[.slice (some A) n c, .int .i64 (k : Nat), .string (sb s)] w fun e w' => ∃ A' c', e = .returned (.slice A' n c') ∧ Rs RS w' (.slice A' n c') (l.set k s) ∧ Ext w w' := by
  have hO0 : Owns w (w.alloc (.cells #[] 9)) [⟨.slice (some ⟨w.heap.size, 0, none⟩) 0 0, 9, 1, 0, []⟩] := (Owns.start w (L := [no]) (by intro r hr; simp at hr; subst hr; exact ⟨rfl, rfl, rfl⟩)).new 0 #[] 9 (by simp [maxLen])
  have hnews : ∀ (j : Nat) (u : Value), (l.map sv)[j]? = some u → (w.alloc (.cells #[] 9)).cell? (A.add j) = some u := fun j u hj => by
    rw [List.getElem?_map] at hj
    obtain ⟨x, hx, rfl⟩ := Option.map_eq_some_iff.1 hj
    obtain ⟨hjl, rfl⟩ := List.getElem?_eq_some_iff.1 hx
    obtain ⟨ad, u, e, hc, hu⟩ := hA.at (i := j) hjl
    injection e with e
    subst e
    have hu : u = sv _ := hu
    subst hu
    exact hO0.ext.cell hc
  have hone : ∀ u ∈ l.map sv, u.oneCell' = true := by intro u hu; obtain ⟨b, _, rfl⟩ := List.mem_map.1 hu; rfl
  have HN := Lib.hid (And.intro hnews hone)
  have HO0 := Lib.hid hO0
  have HL := Lib.hid hl
  have v1 : (0 : Int) ≤ (k : Int) := by omega
  have v2 : (k : Int) < (n : Int) := by omega
  clear hnews hone hO0 hA hl
  go_enter Tryd.func28, Tryd.ntmps28
  go_wp2_with (refine wpl_append_all 34 9 rfl (.tmp 8) (.tmp 9) rfl Tryd.underlying34 info_str rfl HO0.out 0 rfl rfl rfl ((List.length_map _).trans HL.out) HN.out.1 HN.out.2 (by omega) (by omega) (by decide) ?_; intro g1 c1 w3 hO3 _; have h1 : Owns w w3 [⟨.slice (some ⟨g1, 0, none⟩) n c1, 9, 1, n, l.map sv⟩] := (by simpa using hO3); have b0 : w3.cell? ⟨g1, k, none⟩ = some (sv (l.getD k [])) := h1.cell 0 rfl k (by rw [List.getElem?_map, List.getD_eq_getElem?_getD, List.getElem?_eq_getElem (by rw [HL.out]; exact hk)]; rfl); have f0 : w3.frozen? ⟨g1, k, none⟩ = false := h1.frozen 0 rfl k)
  go_ret
  have h2 := h1.store 0 rfl k (.string (sb s))
  have h3 : Rd (w3.setCell ⟨g1, k, none⟩ (.string (sb s))) (some ⟨g1, 0, none⟩) ((l.set k s).map sv) := by rw [List.map_set]; exact h2.rd 0 rfl
  have h4 := Rs.of_rdS (c := c1) h3 (by rw [List.length_set, HL.out]; omega)
  rw [List.length_set, HL.out] at h4
  exact ⟨some ⟨g1, 0, none⟩, c1, rfl, h4, h2.ext⟩
noncomputable def sn11_code : Code := ((Tryd.f10.body.bind (regionOf 11)).getD .skip)
def sn11_dsts : List (Option Nat) := [some 78, some 79, some 80, some 81, some 77, some 82, some 83, some 21, some 22]
theorem sn11_apart : apartD sn11_dsts = true := by decide +kernel
set_option maxRecDepth 1000000 in
set_option maxHeartbeats 16000000 in
theorem sn11 (wr : World) (C lc gc : Nat) (GA LA : Option Addr) (l2 : List (List UInt8)) (k0 : wr.cell? ⟨C, 0, none⟩ = some (.int .i64 4)) (k1 : wr.cell? ⟨C, 1, none⟩ = some (.slice GA 2 gc)) (k2 : wr.cell? ⟨C, 2, none⟩ = some (.int .i64 1))
  (HW : Hid (∀ w1 : World, Ext wr w1 → Calls Tryd.prog 28 #[.slice LA 7 lc, .int .i64 4, .string ⟨#[2, 7]⟩] w1 fun e w' => ∃ A c, e = .returned (.slice A 7 c) ∧ Rs RS w' (.slice A 7 c) l2 ∧ Ext w1 w'))
  (HC : Hid (∀ (w1 : World) (A : Option Addr) (c : Nat), Ext wr w1 → Rs RS w1 (.slice A 7 c) l2 → Calls Tryd.prog 17 #[.agg #[.int .i64 4, .slice GA 2 gc, .int .i64 1], .int .i64 7, .int .i64 19, .slice A 7 c] w1 fun e w' => e = .returned (.tuple #[.bool false, .int .i64 0]) ∧ Ext w1 w')) (c0 c3 c4 c5 c6 c7 c8 c9 c10 c11 c12 c13 c14 c15 c16 c17 c18 c19 c20 c21 c22 c23 c24 c25 c26 c27 c28 c29 c30 c31 c32 c33 c34 c35 c36 c37 c38 c39 c40 c41 c42 c43 c44 c45 c46 c47 c48 c49 c50 c51 c52 c53 c54 c55 c56 c57 c58 c59 c60 c61 c62 c63 c64 c65 c66 c67 c68 c69 c70 c71 c72 c73 c74 c75 c76 c77 c78 c79 c80 c81 c82 c83 c84 c85 c86 c87 c88 c89 c90 c91 c92 c93 c94 c95 c96 c97 c98 c99 c100 c101 c102 c103 c104 c105 c106 c107 c108 c109 c110 c111 c112 c113 c114 c115 c116 c117 c118 c119 c120 c121 c122 c123 c124 c125 c126 c127 c128 c129 c130 c131 c132 c133 c134 c135 c136 c137 c138 c139 c140 c141 c142 c143 c144 c145 c146 c147 c148 c149 c150 c151 c152 c153 c154 c155 c156 c157 c158 c159 c160 c161 c162 c163 c164 c165 c166 c167 c168 c169 c170 c171 c172 c173 c174 c175 c176 c177 c178 c179 c180 : Value) (df : List Deferred) (K : Act → World → Prop)
    (hK : ∀  (u77 u78 u79 u80 u81 u82 u83 : Value) (wx : World), Ext wr wx → K ⟨#[c0, .pointer (some ⟨C, 0, none⟩), .slice LA 7 lc, c3, c4, c5, c6, c7, c8, c9, c10, c11, c12, c13, c14, c15, c16, c17, c18, c19, c20, .bool false, .int .i64 0, c23, c24, c25, c26, c27, c28, c29, c30, c31, c32, c33, c34, c35, c36, c37, c38, c39, c40, c41, c42, c43, c44, c45, c46, c47, c48, c49, c50, c51, c52, c53, c54, c55, c56, c57, c58, c59, c60, c61, c62, c63, c64, c65, c66, c67, c68, c69, c70, c71, c72, c73, c74, c75, c76, u77, u78, u79, u80, u81, u82, u83, c84, c85, c86, c87, c88, c89, c90, c91, c92, c93, c94, c95, c96, c97, c98, c99, c100, c101, c102, c103, c104, c105, c106, c107, c108, c109, c110, c111, c112, c113, c114, c115, c116, c117, c118, c119, c120, c121, c122, c123, c124, c125, c126, c127, c128, c129, c130, c131, c132, c133, c134, c135, c136, c137, c138, c139, c140, c141, c142, c143, c144, c145, c146, c147, c148, c149, c150, c151, c152, c153, c154, c155, c156, c157, c158, c159, c160, c161, c162, c163, c164, c165, c166, c167, c168, c169, c170, c171, c172, c173, c174, c175, c176, c177, c178, c179, c180], df⟩ wx) :
    Code.wp Tryd.prog sn11_code (AtEnd K) ⟨#[c0, .pointer (some ⟨C, 0, none⟩), .slice LA 7 lc, c3, c4, c5, c6, c7, c8, c9, c10, c11, c12, c13, c14, c15, c16, c17, c18, c19, c20, c21, c22, c23, c24, c25, c26, c27, c28, c29, c30, c31, c32, c33, c34, c35, c36, c37, c38, c39, c40, c41, c42, c43, c44, c45, c46, c47, c48, c49, c50, c51, c52, c53, c54, c55, c56, c57, c58, c59, c60, c61, c62, c63, c64, c65, c66, c67, c68, c69, c70, c71, c72, c73, c74, c75, c76, c77, c78, c79, c80, c81, c82, c83, c84, c85, c86, c87, c88, c89, c90, c91, c92, c93, c94, c95, c96, c97, c98, c99, c100, c101, c102, c103, c104, c105, c106, c107, c108, c109, c110, c111, c112, c113, c114, c115, c116, c117, c118, c119, c120, c121, c122, c123, c124, c125, c126, c127, c128, c129, c130, c131, c132, c133, c134, c135, c136, c137, c138, c139, c140, c141, c142, c143, c144, c145, c146, c147, c148, c149, c150, c151, c152, c153, c154, c155, c156, c157, c158, c159, c160, c161, c162, c163, c164, c165, c166, c167, c168, c169, c170, c171, c172, c173, c174, c175, c176, c177, c178, c179, c180], df⟩ wr := by
  conv => arg 2; whnf
  refine region_inv (by kernel_rfl) [[], [], [1], [0, 2, 2], [3], [4], [4], [5, 3, 0, 1, 2, 3, 4, 5], [6, 7, 0, 1, 2, 3, 4, 5, 6, 7]] (by kernel_rfl) [0, 1, 2, 3, 4, 5, 6, 7, 8] (by decide +kernel) (by decide +kernel) (by decide +kernel) (fun L a wc => ∃ (VA : Option Addr) (vc : Nat), Inv sn11_dsts [.agg #[.int .i64 4, .slice GA 2 gc, .int .i64 1], .slice LA 7 lc, .slice VA 7 vc, .tuple #[.bool false, .int .i64 0], .tuple #[.bool false, .int .i64 0], .bool false, .int .i64 0, .bool false, .int .i64 0] ⟨#[c0, .pointer (some ⟨C, 0, none⟩), .slice LA 7 lc, c3, c4, c5, c6, c7, c8, c9, c10, c11, c12, c13, c14, c15, c16, c17, c18, c19, c20, c21, c22, c23, c24, c25, c26, c27, c28, c29, c30, c31, c32, c33, c34, c35, c36, c37, c38, c39, c40, c41, c42, c43, c44, c45, c46, c47, c48, c49, c50, c51, c52, c53, c54, c55, c56, c57, c58, c59, c60, c61, c62, c63, c64, c65, c66, c67, c68, c69, c70, c71, c72, c73, c74, c75, c76, c77, c78, c79, c80, c81, c82, c83, c84, c85, c86, c87, c88, c89, c90, c91, c92, c93, c94, c95, c96, c97, c98, c99, c100, c101, c102, c103, c104, c105, c106, c107, c108, c109, c110, c111, c112, c113, c114, c115, c116, c117, c118, c119, c120, c121, c122, c123, c124, c125, c126, c127, c128, c129, c130, c131, c132, c133, c134, c135, c136, c137, c138, c139, c140, c141, c142, c143, c144, c145, c146, c147, c148, c149, c150, c151, c152, c153, c154, c155, c156, c157, c158, c159, c160, c161, c162, c163, c164, c165, c166, c167, c168, c169, c170, c171, c172, c173, c174, c175, c176, c177, c178, c179, c180], df⟩ L a ∧ Hid (Ext wr wc ∧ (L 2 = true → Rs RS wc (.slice VA 7 vc) l2))) ⟨none, 0, Inv.start, Lib.hid ⟨(Ext.refl wr).drew, fun h => by cases h⟩⟩ ?_ ?_
  · refine ⟨?_, ?_, ?_, ?_, ?_, ?_, ?_, ?_, ?_, trivial⟩
    ·
      rintro L a wc ⟨VA, vc, hv, HO⟩ hL hc hd
      have h0 : wc.cell? ⟨C, 0, none⟩ = some (.int .i64 4) := HO.out.1.cell k0
      have h1 : wc.cell? ⟨C, 1, none⟩ = some (.slice GA 2 gc) := HO.out.1.cell k1
      have h2 : wc.cell? ⟨C, 2, none⟩ = some (.int .i64 1) := HO.out.1.cell k2
      exact wpOp_val rfl rfl (ex_load rfl ((hv.fixed 1 (by decide)).trans rfl) (by go_simp)) ⟨VA, vc, hv.put sn11_apart 0 rfl (lb rfl) (lb rfl) rfl, HO⟩
    ·
      rintro L a wc ⟨VA, vc, hv, HO⟩ hL hc hd
      exact wpOp_val rfl rfl (ex_move rfl ((hv.fixed 2 (by decide)).trans rfl)) ⟨VA, vc, hv.put sn11_apart 1 rfl (lb rfl) (lb rfl) rfl, HO⟩
    ·
      rintro L a wc ⟨VA, vc, hv, HO⟩ hL hc hd
      refine wpOp_call (R := fun v w1 => ∃ A c, v = .slice A 7 c ∧ Rs RS w1 (.slice A 7 c) l2 ∧ Ext wc w1) rfl rfl (ex_call rfl rfl (by simp only [List.map_toArray, List.map_cons, List.map_nil, (hv.get 1 rfl rfl (hd 1 (by decide)))]; rfl) (enters_of Tryd.func28 (by kernel_rfl) rfl _ _)) ((HW.out wc HO.out.1).mono (fun e w' h => by obtain ⟨A, c, rfl, h1, h2⟩ := h; exact ⟨_, rfl, A, c, rfl, h1, h2⟩)) ?_
      rintro v w' ⟨A2, c2, rfl, hr, hx⟩
      exact ⟨A2, c2, hv.put sn11_apart 2 rfl (lb rfl) (lb rfl) rfl, Lib.hid ⟨HO.out.1.trans hx, fun _ => hr⟩⟩
    ·
      rintro L a wc ⟨VA, vc, hv, HO⟩ hL hc hd
      refine wpOp_call (R := fun v w1 => v = .tuple #[.bool false, .int .i64 0] ∧ Ext wc w1) rfl rfl (ex_call rfl rfl (by simp only [List.map_toArray, List.map_cons, List.map_nil, (hv.get 0 rfl rfl (hd 0 (by decide))), (hv.get 2 rfl rfl (hd 2 (by decide)))]; rfl) (enters_of Tryd.func17 (by kernel_rfl) rfl _ _)) ((HC.out wc VA vc HO.out.1 (HO.out.2 (hd 2 (by decide)))).mono (fun e w' h => ⟨_, h.1, rfl, h.2⟩)) ?_
      rintro v w' ⟨rfl, hx⟩
      exact ⟨VA, vc, hv.put sn11_apart 3 rfl (lb rfl) (lb rfl) rfl, Lib.hid ⟨HO.out.1.trans hx, fun h => Rs.ext RS.ext _ _ _ _ hx (HO.out.2 h)⟩⟩
    ·
      rintro L a wc ⟨VA, vc, hv, HO⟩ hL hc hd
      exact wpOp_val rfl rfl (ex_move rfl (hv.get 3 rfl rfl (hd 3 (by decide)))) ⟨VA, vc, hv.put sn11_apart 4 rfl (lb rfl) (lb rfl) rfl, HO⟩
    ·
      rintro L a wc ⟨VA, vc, hv, HO⟩ hL hc hd
      exact wpOp_val rfl rfl (ex_extract9 rfl (hv.get 4 rfl rfl (hd 4 (by decide))) rfl) ⟨VA, vc, hv.put sn11_apart 5 rfl (lb rfl) (lb rfl) rfl, HO⟩
    ·
      rintro L a wc ⟨VA, vc, hv, HO⟩ hL hc hd
      exact wpOp_val rfl rfl (ex_extract9 rfl (hv.get 4 rfl rfl (hd 4 (by decide))) rfl) ⟨VA, vc, hv.put sn11_apart 6 rfl (lb rfl) (lb rfl) rfl, HO⟩
    ·
      rintro L a wc ⟨VA, vc, hv, HO⟩ hL hc hd
      exact wpOp_val rfl rfl (ex_assign rfl (hv.get 5 rfl rfl (hd 5 (by decide)))) ⟨VA, vc, hv.put sn11_apart 7 rfl (lb rfl) (lb rfl) rfl, HO⟩
    ·
      rintro L a wc ⟨VA, vc, hv, HO⟩ hL hc hd
      exact wpOp_val rfl rfl (ex_assign rfl (hv.get 6 rfl rfl (hd 6 (by decide)))) ⟨VA, vc, hv.put sn11_apart 8 rfl (lb rfl) (lb rfl) rfl, HO⟩
  · rintro L a wc ⟨VA, vc, hv, HO⟩ hall
    show K a wc
    have ha := act_n rl181 hv.size hv.defers rfl
    simp +decide only [hv.fixed, hv.get 7 (d := 21) rfl rfl (hall 7 (by decide)), hv.get 8 (d := 22) rfl rfl (hall 8 (by decide))] at ha
    rw [ha]
    exact hK _ _ _ _ _ _ _ wc HO.out.1
noncomputable def sn12_code : Code := ((Tryd.f10.body.bind (regionOf 12)).getD .skip)
def sn12_dsts : List (Option Nat) := [some 85, some 86, some 87, some 88, some 84, some 89, some 90, some 23, some 24]
theorem sn12_apart : apartD sn12_dsts = true := by decide +kernel
set_option maxRecDepth 1000000 in
set_option maxHeartbeats 16000000 in
theorem sn12 (wr : World) (C lc gc : Nat) (GA LA : Option Addr) (l2 : List (List UInt8)) (k0 : wr.cell? ⟨C, 0, none⟩ = some (.int .i64 4)) (k1 : wr.cell? ⟨C, 1, none⟩ = some (.slice GA 2 gc)) (k2 : wr.cell? ⟨C, 2, none⟩ = some (.int .i64 1))
  (HW : Hid (∀ w1 : World, Ext wr w1 → Calls Tryd.prog 28 #[.slice LA 7 lc, .int .i64 4, .string ⟨#[2, 7]⟩] w1 fun e w' => ∃ A c, e = .returned (.slice A 7 c) ∧ Rs RS w' (.slice A 7 c) l2 ∧ Ext w1 w'))
  (HC : Hid (∀ (w1 : World) (A : Option Addr) (c : Nat), Ext wr w1 → Rs RS w1 (.slice A 7 c) l2 → Calls Tryd.prog 19 #[.agg #[.int .i64 4, .slice GA 2 gc, .int .i64 1], .int .i64 7, .int .i64 127, .slice A 7 c] w1 fun e w' => e = .returned (.tuple #[.int .i64 19, .int .i64 0]) ∧ Ext w1 w')) (c0 c3 c4 c5 c6 c7 c8 c9 c10 c11 c12 c13 c14 c15 c16 c17 c18 c19 c20 c21 c22 c23 c24 c25 c26 c27 c28 c29 c30 c31 c32 c33 c34 c35 c36 c37 c38 c39 c40 c41 c42 c43 c44 c45 c46 c47 c48 c49 c50 c51 c52 c53 c54 c55 c56 c57 c58 c59 c60 c61 c62 c63 c64 c65 c66 c67 c68 c69 c70 c71 c72 c73 c74 c75 c76 c77 c78 c79 c80 c81 c82 c83 c84 c85 c86 c87 c88 c89 c90 c91 c92 c93 c94 c95 c96 c97 c98 c99 c100 c101 c102 c103 c104 c105 c106 c107 c108 c109 c110 c111 c112 c113 c114 c115 c116 c117 c118 c119 c120 c121 c122 c123 c124 c125 c126 c127 c128 c129 c130 c131 c132 c133 c134 c135 c136 c137 c138 c139 c140 c141 c142 c143 c144 c145 c146 c147 c148 c149 c150 c151 c152 c153 c154 c155 c156 c157 c158 c159 c160 c161 c162 c163 c164 c165 c166 c167 c168 c169 c170 c171 c172 c173 c174 c175 c176 c177 c178 c179 c180 : Value) (df : List Deferred) (K : Act → World → Prop)
    (hK : ∀  (u84 u85 u86 u87 u88 u89 u90 : Value) (wx : World), Ext wr wx → K ⟨#[c0, .pointer (some ⟨C, 0, none⟩), .slice LA 7 lc, c3, c4, c5, c6, c7, c8, c9, c10, c11, c12, c13, c14, c15, c16, c17, c18, c19, c20, c21, c22, .int .i64 19, .int .i64 0, c25, c26, c27, c28, c29, c30, c31, c32, c33, c34, c35, c36, c37, c38, c39, c40, c41, c42, c43, c44, c45, c46, c47, c48, c49, c50, c51, c52, c53, c54, c55, c56, c57, c58, c59, c60, c61, c62, c63, c64, c65, c66, c67, c68, c69, c70, c71, c72, c73, c74, c75, c76, c77, c78, c79, c80, c81, c82, c83, u84, u85, u86, u87, u88, u89, u90, c91, c92, c93, c94, c95, c96, c97, c98, c99, c100, c101, c102, c103, c104, c105, c106, c107, c108, c109, c110, c111, c112, c113, c114, c115, c116, c117, c118, c119, c120, c121, c122, c123, c124, c125, c126, c127, c128, c129, c130, c131, c132, c133, c134, c135, c136, c137, c138, c139, c140, c141, c142, c143, c144, c145, c146, c147, c148, c149, c150, c151, c152, c153, c154, c155, c156, c157, c158, c159, c160, c161, c162, c163, c164, c165, c166, c167, c168, c169, c170, c171, c172, c173, c174, c175, c176, c177, c178, c179, c180], df⟩ wx) :
    Code.wp Tryd.prog sn12_code (AtEnd K) ⟨#[c0, .pointer (some ⟨C, 0, none⟩), .slice LA 7 lc, c3, c4, c5, c6, c7, c8, c9, c10, c11, c12, c13, c14, c15, c16, c17, c18, c19, c20, c21, c22, c23, c24, c25, c26, c27, c28, c29, c30, c31, c32, c33, c34, c35, c36, c37, c38, c39, c40, c41, c42, c43, c44, c45, c46, c47, c48, c49, c50, c51, c52, c53, c54, c55, c56, c57, c58, c59, c60, c61, c62, c63, c64, c65, c66, c67, c68, c69, c70, c71, c72, c73, c74, c75, c76, c77, c78, c79, c80, c81, c82, c83, c84, c85, c86, c87, c88, c89, c90, c91, c92, c93, c94, c95, c96, c97, c98, c99, c100, c101, c102, c103, c104, c105, c106, c107, c108, c109, c110, c111, c112, c113, c114, c115, c116, c117, c118, c119, c120, c121, c122, c123, c124, c125, c126, c127, c128, c129, c130, c131, c132, c133, c134, c135, c136, c137, c138, c139, c140, c141, c142, c143, c144, c145, c146, c147, c148, c149, c150, c151, c152, c153, c154, c155, c156, c157, c158, c159, c160, c161, c162, c163, c164, c165, c166, c167, c168, c169, c170, c171, c172, c173, c174, c175, c176, c177, c178, c179, c180], df⟩ wr := by
  conv => arg 2; whnf
  refine region_inv (by kernel_rfl) [[], [], [1], [0, 2, 2], [3], [4], [4], [5, 3, 0, 1, 2, 3, 4, 5], [6, 7, 0, 1, 2, 3, 4, 5, 6, 7]] (by kernel_rfl) [0, 1, 2, 3, 4, 5, 6, 7, 8] (by decide +kernel) (by decide +kernel) (by decide +kernel) (fun L a wc => ∃ (VA : Option Addr) (vc : Nat), Inv sn12_dsts [.agg #[.int .i64 4, .slice GA 2 gc, .int .i64 1], .slice LA 7 lc, .slice VA 7 vc, .tuple #[.int .i64 19, .int .i64 0], .tuple #[.int .i64 19, .int .i64 0], .int .i64 19, .int .i64 0, .int .i64 19, .int .i64 0] ⟨#[c0, .pointer (some ⟨C, 0, none⟩), .slice LA 7 lc, c3, c4, c5, c6, c7, c8, c9, c10, c11, c12, c13, c14, c15, c16, c17, c18, c19, c20, c21, c22, c23, c24, c25, c26, c27, c28, c29, c30, c31, c32, c33, c34, c35, c36, c37, c38, c39, c40, c41, c42, c43, c44, c45, c46, c47, c48, c49, c50, c51, c52, c53, c54, c55, c56, c57, c58, c59, c60, c61, c62, c63, c64, c65, c66, c67, c68, c69, c70, c71, c72, c73, c74, c75, c76, c77, c78, c79, c80, c81, c82, c83, c84, c85, c86, c87, c88, c89, c90, c91, c92, c93, c94, c95, c96, c97, c98, c99, c100, c101, c102, c103, c104, c105, c106, c107, c108, c109, c110, c111, c112, c113, c114, c115, c116, c117, c118, c119, c120, c121, c122, c123, c124, c125, c126, c127, c128, c129, c130, c131, c132, c133, c134, c135, c136, c137, c138, c139, c140, c141, c142, c143, c144, c145, c146, c147, c148, c149, c150, c151, c152, c153, c154, c155, c156, c157, c158, c159, c160, c161, c162, c163, c164, c165, c166, c167, c168, c169, c170, c171, c172, c173, c174, c175, c176, c177, c178, c179, c180], df⟩ L a ∧ Hid (Ext wr wc ∧ (L 2 = true → Rs RS wc (.slice VA 7 vc) l2))) ⟨none, 0, Inv.start, Lib.hid ⟨(Ext.refl wr).drew, fun h => by cases h⟩⟩ ?_ ?_
  · refine ⟨?_, ?_, ?_, ?_, ?_, ?_, ?_, ?_, ?_, trivial⟩
    ·
      rintro L a wc ⟨VA, vc, hv, HO⟩ hL hc hd
      have h0 : wc.cell? ⟨C, 0, none⟩ = some (.int .i64 4) := HO.out.1.cell k0
      have h1 : wc.cell? ⟨C, 1, none⟩ = some (.slice GA 2 gc) := HO.out.1.cell k1
      have h2 : wc.cell? ⟨C, 2, none⟩ = some (.int .i64 1) := HO.out.1.cell k2
      exact wpOp_val rfl rfl (ex_load rfl ((hv.fixed 1 (by decide)).trans rfl) (by go_simp)) ⟨VA, vc, hv.put sn12_apart 0 rfl (lb rfl) (lb rfl) rfl, HO⟩
    ·
      rintro L a wc ⟨VA, vc, hv, HO⟩ hL hc hd
      exact wpOp_val rfl rfl (ex_move rfl ((hv.fixed 2 (by decide)).trans rfl)) ⟨VA, vc, hv.put sn12_apart 1 rfl (lb rfl) (lb rfl) rfl, HO⟩
    ·
      rintro L a wc ⟨VA, vc, hv, HO⟩ hL hc hd
      refine wpOp_call (R := fun v w1 => ∃ A c, v = .slice A 7 c ∧ Rs RS w1 (.slice A 7 c) l2 ∧ Ext wc w1) rfl rfl (ex_call rfl rfl (by simp only [List.map_toArray, List.map_cons, List.map_nil, (hv.get 1 rfl rfl (hd 1 (by decide)))]; rfl) (enters_of Tryd.func28 (by kernel_rfl) rfl _ _)) ((HW.out wc HO.out.1).mono (fun e w' h => by obtain ⟨A, c, rfl, h1, h2⟩ := h; exact ⟨_, rfl, A, c, rfl, h1, h2⟩)) ?_
      rintro v w' ⟨A2, c2, rfl, hr, hx⟩
      exact ⟨A2, c2, hv.put sn12_apart 2 rfl (lb rfl) (lb rfl) rfl, Lib.hid ⟨HO.out.1.trans hx, fun _ => hr⟩⟩
    ·
      rintro L a wc ⟨VA, vc, hv, HO⟩ hL hc hd
      refine wpOp_call (R := fun v w1 => v = .tuple #[.int .i64 19, .int .i64 0] ∧ Ext wc w1) rfl rfl (ex_call rfl rfl (by simp only [List.map_toArray, List.map_cons, List.map_nil, (hv.get 0 rfl rfl (hd 0 (by decide))), (hv.get 2 rfl rfl (hd 2 (by decide)))]; rfl) (enters_of Tryd.func19 (by kernel_rfl) rfl _ _)) ((HC.out wc VA vc HO.out.1 (HO.out.2 (hd 2 (by decide)))).mono (fun e w' h => ⟨_, h.1, rfl, h.2⟩)) ?_
      rintro v w' ⟨rfl, hx⟩
      exact ⟨VA, vc, hv.put sn12_apart 3 rfl (lb rfl) (lb rfl) rfl, Lib.hid ⟨HO.out.1.trans hx, fun h => Rs.ext RS.ext _ _ _ _ hx (HO.out.2 h)⟩⟩
    ·
      rintro L a wc ⟨VA, vc, hv, HO⟩ hL hc hd
      exact wpOp_val rfl rfl (ex_move rfl (hv.get 3 rfl rfl (hd 3 (by decide)))) ⟨VA, vc, hv.put sn12_apart 4 rfl (lb rfl) (lb rfl) rfl, HO⟩
    ·
      rintro L a wc ⟨VA, vc, hv, HO⟩ hL hc hd
      exact wpOp_val rfl rfl (ex_extract9 rfl (hv.get 4 rfl rfl (hd 4 (by decide))) rfl) ⟨VA, vc, hv.put sn12_apart 5 rfl (lb rfl) (lb rfl) rfl, HO⟩
    ·
      rintro L a wc ⟨VA, vc, hv, HO⟩ hL hc hd
      exact wpOp_val rfl rfl (ex_extract9 rfl (hv.get 4 rfl rfl (hd 4 (by decide))) rfl) ⟨VA, vc, hv.put sn12_apart 6 rfl (lb rfl) (lb rfl) rfl, HO⟩
    ·
      rintro L a wc ⟨VA, vc, hv, HO⟩ hL hc hd
      exact wpOp_val rfl rfl (ex_assign rfl (hv.get 5 rfl rfl (hd 5 (by decide)))) ⟨VA, vc, hv.put sn12_apart 7 rfl (lb rfl) (lb rfl) rfl, HO⟩
    ·
      rintro L a wc ⟨VA, vc, hv, HO⟩ hL hc hd
      exact wpOp_val rfl rfl (ex_assign rfl (hv.get 6 rfl rfl (hd 6 (by decide)))) ⟨VA, vc, hv.put sn12_apart 8 rfl (lb rfl) (lb rfl) rfl, HO⟩
  · rintro L a wc ⟨VA, vc, hv, HO⟩ hall
    show K a wc
    have ha := act_n rl181 hv.size hv.defers rfl
    simp +decide only [hv.fixed, hv.get 7 (d := 23) rfl rfl (hall 7 (by decide)), hv.get 8 (d := 24) rfl rfl (hall 8 (by decide))] at ha
    rw [ha]
    exact hK _ _ _ _ _ _ _ wc HO.out.1
noncomputable def sn13_code : Code := ((Tryd.f10.body.bind (regionOf 13)).getD .skip)
def sn13_dsts : List (Option Nat) := [some 92, some 93, some 94, some 95, some 91, some 96, some 97, some 25, some 26]
theorem sn13_apart : apartD sn13_dsts = true := by decide +kernel
set_option maxRecDepth 1000000 in
set_option maxHeartbeats 16000000 in
theorem sn13 (wr : World) (C lc gc : Nat) (GA LA : Option Addr) (l2 : List (List UInt8)) (k0 : wr.cell? ⟨C, 0, none⟩ = some (.int .i64 4)) (k1 : wr.cell? ⟨C, 1, none⟩ = some (.slice GA 2 gc)) (k2 : wr.cell? ⟨C, 2, none⟩ = some (.int .i64 1))
  (HW : Hid (∀ w1 : World, Ext wr w1 → Calls Tryd.prog 28 #[.slice LA 7 lc, .int .i64 6, .string ⟨#[0, 0]⟩] w1 fun e w' => ∃ A c, e = .returned (.slice A 7 c) ∧ Rs RS w' (.slice A 7 c) l2 ∧ Ext w1 w'))
  (HC : Hid (∀ (w1 : World) (A : Option Addr) (c : Nat), Ext wr w1 → Rs RS w1 (.slice A 7 c) l2 → Calls Tryd.prog 19 #[.agg #[.int .i64 4, .slice GA 2 gc, .int .i64 1], .int .i64 7, .int .i64 127, .slice A 7 c] w1 fun e w' => e = .returned (.tuple #[.int .i64 79, .int .i64 0]) ∧ Ext w1 w')) (c0 c3 c4 c5 c6 c7 c8 c9 c10 c11 c12 c13 c14 c15 c16 c17 c18 c19 c20 c21 c22 c23 c24 c25 c26 c27 c28 c29 c30 c31 c32 c33 c34 c35 c36 c37 c38 c39 c40 c41 c42 c43 c44 c45 c46 c47 c48 c49 c50 c51 c52 c53 c54 c55 c56 c57 c58 c59 c60 c61 c62 c63 c64 c65 c66 c67 c68 c69 c70 c71 c72 c73 c74 c75 c76 c77 c78 c79 c80 c81 c82 c83 c84 c85 c86 c87 c88 c89 c90 c91 c92 c93 c94 c95 c96 c97 c98 c99 c100 c101 c102 c103 c104 c105 c106 c107 c108 c109 c110 c111 c112 c113 c114 c115 c116 c117 c118 c119 c120 c121 c122 c123 c124 c125 c126 c127 c128 c129 c130 c131 c132 c133 c134 c135 c136 c137 c138 c139 c140 c141 c142 c143 c144 c145 c146 c147 c148 c149 c150 c151 c152 c153 c154 c155 c156 c157 c158 c159 c160 c161 c162 c163 c164 c165 c166 c167 c168 c169 c170 c171 c172 c173 c174 c175 c176 c177 c178 c179 c180 : Value) (df : List Deferred) (K : Act → World → Prop)
    (hK : ∀  (u91 u92 u93 u94 u95 u96 u97 : Value) (wx : World), Ext wr wx → K ⟨#[c0, .pointer (some ⟨C, 0, none⟩), .slice LA 7 lc, c3, c4, c5, c6, c7, c8, c9, c10, c11, c12, c13, c14, c15, c16, c17, c18, c19, c20, c21, c22, c23, c24, .int .i64 79, .int .i64 0, c27, c28, c29, c30, c31, c32, c33, c34, c35, c36, c37, c38, c39, c40, c41, c42, c43, c44, c45, c46, c47, c48, c49, c50, c51, c52, c53, c54, c55, c56, c57, c58, c59, c60, c61, c62, c63, c64, c65, c66, c67, c68, c69, c70, c71, c72, c73, c74, c75, c76, c77, c78, c79, c80, c81, c82, c83, c84, c85, c86, c87, c88, c89, c90, u91, u92, u93, u94, u95, u96, u97, c98, c99, c100, c101, c102, c103, c104, c105, c106, c107, c108, c109, c110, c111, c112, c113, c114, c115, c116, c117, c118, c119, c120, c121, c122, c123, c124, c125, c126, c127, c128, c129, c130, c131, c132, c133, c134, c135, c136, c137, c138, c139, c140, c141, c142, c143, c144, c145, c146, c147, c148, c149, c150, c151, c152, c153, c154, c155, c156, c157, c158, c159, c160, c161, c162, c163, c164, c165, c166, c167, c168, c169, c170, c171, c172, c173, c174, c175, c176, c177, c178, c179, c180], df⟩ wx) :
    Code.wp Tryd.prog sn13_code (AtEnd K) ⟨#[c0, .pointer (some ⟨C, 0, none⟩), .slice LA 7 lc, c3, c4, c5, c6, c7, c8, c9, c10, c11, c12, c13, c14, c15, c16, c17, c18, c19, c20, c21, c22, c23, c24, c25, c26, c27, c28, c29, c30, c31, c32, c33, c34, c35, c36, c37, c38, c39, c40, c41, c42, c43, c44, c45, c46, c47, c48, c49, c50, c51, c52, c53, c54, c55, c56, c57, c58, c59, c60, c61, c62, c63, c64, c65, c66, c67, c68, c69, c70, c71, c72, c73, c74, c75, c76, c77, c78, c79, c80, c81, c82, c83, c84, c85, c86, c87, c88, c89, c90, c91, c92, c93, c94, c95, c96, c97, c98, c99, c100, c101, c102, c103, c104, c105, c106, c107, c108, c109, c110, c111, c112, c113, c114, c115, c116, c117, c118, c119, c120, c121, c122, c123, c124, c125, c126, c127, c128, c129, c130, c131, c132, c133, c134, c135, c136, c137, c138, c139, c140, c141, c142, c143, c144, c145, c146, c147, c148, c149, c150, c151, c152, c153, c154, c155, c156, c157, c158, c159, c160, c161, c162, c163, c164, c165, c166, c167, c168, c169, c170, c171, c172, c173, c174, c175, c176, c177, c178, c179, c180], df⟩ wr := by
  conv => arg 2; whnf
  refine region_inv (by kernel_rfl) [[], [], [1], [0, 2, 2], [3], [4], [4], [5, 3, 0, 1, 2, 3, 4, 5], [6, 7, 0, 1, 2, 3, 4, 5, 6, 7]] (by kernel_rfl) [0, 1, 2, 3, 4, 5, 6, 7, 8] (by decide +kernel) (by decide +kernel) (by decide +kernel) (fun L a wc => ∃ (VA : Option Addr) (vc : Nat), Inv sn13_dsts [.agg #[.int .i64 4, .slice GA 2 gc, .int .i64 1], .slice LA 7 lc, .slice VA 7 vc, .tuple #[.int .i64 79, .int .i64 0], .tuple #[.int .i64 79, .int .i64 0], .int .i64 79, .int .i64 0, .int .i64 79, .int .i64 0] ⟨#[c0, .pointer (some ⟨C, 0, none⟩), .slice LA 7 lc, c3, c4, c5, c6, c7, c8, c9, c10, c11, c12, c13, c14, c15, c16, c17, c18, c19, c20, c21, c22, c23, c24, c25, c26, c27, c28, c29, c30, c31, c32, c33, c34, c35, c36, c37, c38, c39, c40, c41, c42, c43, c44, c45, c46, c47, c48, c49, c50, c51, c52, c53, c54, c55, c56, c57, c58, c59, c60, c61, c62, c63, c64, c65, c66, c67, c68, c69, c70, c71, c72, c73, c74, c75, c76, c77, c78, c79, c80, c81, c82, c83, c84, c85, c86, c87, c88, c89, c90, c91, c92, c93, c94, c95, c96, c97, c98, c99, c100, c101, c102, c103, c104, c105, c106, c107, c108, c109, c110, c111, c112, c113, c114, c115, c116, c117, c118, c119, c120, c121, c122, c123, c124, c125, c126, c127, c128, c129, c130, c131, c132, c133, c134, c135, c136, c137, c138, c139, c140, c141, c142, c143, c144, c145, c146, c147, c148, c149, c150, c151, c152, c153, c154, c155, c156, c157, c158, c159, c160, c161, c162, c163, c164, c165, c166, c167, c168, c169, c170, c171, c172, c173, c174, c175, c176, c177, c178, c179, c180], df⟩ L a ∧ Hid (Ext wr wc ∧ (L 2 = true → Rs RS wc (.slice VA 7 vc) l2))) ⟨none, 0, Inv.start, Lib.hid ⟨(Ext.refl wr).drew, fun h => by cases h⟩⟩ ?_ ?_
  · refine ⟨?_, ?_, ?_, ?_, ?_, ?_, ?_, ?_, ?_, trivial⟩
    ·
      rintro L a wc ⟨VA, vc, hv, HO⟩ hL hc hd
      have h0 : wc.cell? ⟨C, 0, none⟩ = some (.int .i64 4) := HO.out.1.cell k0
      have h1 : wc.cell? ⟨C, 1, none⟩ = some (.slice GA 2 gc) := HO.out.1.cell k1
      have h2 : wc.cell? ⟨C, 2, none⟩ = some (.int .i64 1) := HO.out.1.cell k2
      exact wpOp_val rfl rfl (ex_load rfl ((hv.fixed 1 (by decide)).trans rfl) (by go_simp)) ⟨VA, vc, hv.put sn13_apart 0 rfl (lb rfl) (lb rfl) rfl, HO⟩
    ·
      rintro L a wc ⟨VA, vc, hv, HO⟩ hL hc hd
      exact wpOp_val rfl rfl (ex_move rfl ((hv.fixed 2 (by decide)).trans rfl)) ⟨VA, vc, hv.put sn13_apart 1 rfl (lb rfl) (lb rfl) rfl, HO⟩
    ·
      rintro L a wc ⟨VA, vc, hv, HO⟩ hL hc hd
      refine wpOp_call (R := fun v w1 => ∃ A c, v = .slice A 7 c ∧ Rs RS w1 (.slice A 7 c) l2 ∧ Ext wc w1) rfl rfl (ex_call rfl rfl (by simp only [List.map_toArray, List.map_cons, List.map_nil, (hv.get 1 rfl rfl (hd 1 (by decide)))]; rfl) (enters_of Tryd.func28 (by kernel_rfl) rfl _ _)) ((HW.out wc HO.out.1).mono (fun e w' h => by obtain ⟨A, c, rfl, h1, h2⟩ := h; exact ⟨_, rfl, A, c, rfl, h1, h2⟩)) ?_
      rintro v w' ⟨A2, c2, rfl, hr, hx⟩
      exact ⟨A2, c2, hv.put sn13_apart 2 rfl (lb rfl) (lb rfl) rfl, Lib.hid ⟨HO.out.1.trans hx, fun _ => hr⟩⟩
    ·
      rintro L a wc ⟨VA, vc, hv, HO⟩ hL hc hd
      refine wpOp_call (R := fun v w1 => v = .tuple #[.int .i64 79, .int .i64 0] ∧ Ext wc w1) rfl rfl (ex_call rfl rfl (by simp only [List.map_toArray, List.map_cons, List.map_nil, (hv.get 0 rfl rfl (hd 0 (by decide))), (hv.get 2 rfl rfl (hd 2 (by decide)))]; rfl) (enters_of Tryd.func19 (by kernel_rfl) rfl _ _)) ((HC.out wc VA vc HO.out.1 (HO.out.2 (hd 2 (by decide)))).mono (fun e w' h => ⟨_, h.1, rfl, h.2⟩)) ?_
      rintro v w' ⟨rfl, hx⟩
      exact ⟨VA, vc, hv.put sn13_apart 3 rfl (lb rfl) (lb rfl) rfl, Lib.hid ⟨HO.out.1.trans hx, fun h => Rs.ext RS.ext _ _ _ _ hx (HO.out.2 h)⟩⟩
    ·
      rintro L a wc ⟨VA, vc, hv, HO⟩ hL hc hd
      exact wpOp_val rfl rfl (ex_move rfl (hv.get 3 rfl rfl (hd 3 (by decide)))) ⟨VA, vc, hv.put sn13_apart 4 rfl (lb rfl) (lb rfl) rfl, HO⟩
    ·
      rintro L a wc ⟨VA, vc, hv, HO⟩ hL hc hd
      exact wpOp_val rfl rfl (ex_extract9 rfl (hv.get 4 rfl rfl (hd 4 (by decide))) rfl) ⟨VA, vc, hv.put sn13_apart 5 rfl (lb rfl) (lb rfl) rfl, HO⟩
    ·
      rintro L a wc ⟨VA, vc, hv, HO⟩ hL hc hd
      exact wpOp_val rfl rfl (ex_extract9 rfl (hv.get 4 rfl rfl (hd 4 (by decide))) rfl) ⟨VA, vc, hv.put sn13_apart 6 rfl (lb rfl) (lb rfl) rfl, HO⟩
    ·
      rintro L a wc ⟨VA, vc, hv, HO⟩ hL hc hd
      exact wpOp_val rfl rfl (ex_assign rfl (hv.get 5 rfl rfl (hd 5 (by decide)))) ⟨VA, vc, hv.put sn13_apart 7 rfl (lb rfl) (lb rfl) rfl, HO⟩
    ·
      rintro L a wc ⟨VA, vc, hv, HO⟩ hL hc hd
      exact wpOp_val rfl rfl (ex_assign rfl (hv.get 6 rfl rfl (hd 6 (by decide)))) ⟨VA, vc, hv.put sn13_apart 8 rfl (lb rfl) (lb rfl) rfl, HO⟩
  · rintro L a wc ⟨VA, vc, hv, HO⟩ hall
    show K a wc
    have ha := act_n rl181 hv.size hv.defers rfl
    simp +decide only [hv.fixed, hv.get 7 (d := 25) rfl rfl (hall 7 (by decide)), hv.get 8 (d := 26) rfl rfl (hall 8 (by decide))] at ha
    rw [ha]
    exact hK _ _ _ _ _ _ _ wc HO.out.1
end Go.Proofs.YtggfkpalkdkbdaaDoor

/- THE WALK over sanity (quietuslaw09). -/
namespace Lo
theorem ex_rows : (Cd.rowsOf 4 exG 1).length ≤ 14 := by decide +kernel
end Lo
namespace Go.Proofs.YtggfkpalkdkbdaaDoor
open Go.RowKit
set_option maxHeartbeats 16000000 in
set_option maxRecDepth 100000 in
theorem sanity9_any (w : World) (hT : Tab w) : Calls Tryd.prog 10 #[] w fun e w' => e = .returned (.bool true) ∧ Ext w w' := by
  have HT0 := Lib.hid hT
  clear hT
  go_enter Tryd.func10, Tryd.ntmps10
  go_upto_region 2 with fail
  refine (example9_any w).mono ?_
  rintro e w1 ⟨GA, gc, LA, lc, rfl, hG, hL, hx1⟩
  have hxa := (Ext.refl w1).alloc (.cells #[.int .i64 4, .slice GA 2 gc, .int .i64 1] 24)
  obtain ⟨LB, uL, rfl, _, _⟩ := hL.at (i := 0) (by decide)
  have hcn := cells_new w1 #[.int .i64 4, .slice GA 2 gc, .int .i64 1] 24
  have HG1 := Lib.hid (Rs.ext (Rs.ext RI.ext) _ _ _ _ hxa hG)
  have HL1 := Lib.hid (Rs.ext RS.ext _ _ _ _ hxa hL)
  have HX01 := Lib.hid (hx1.trans hxa)
  have HCN := Lib.hid hcn
  clear hG hL hx1 hcn
  go_upto_region 2 with fail
  obtain ⟨C, hC⟩ : ∃ C, w1.heap.size = C := ⟨_, rfl⟩
  rw [hC] at HCN
  rw [hC]
  obtain ⟨wa, hwa⟩ : ∃ x, w1.alloc (.cells #[.int .i64 4, .slice GA 2 gc, .int .i64 1] 24) = x := ⟨_, rfl⟩
  rw [hwa] at HG1 HL1 HX01 HCN ⊢
  have HG := Lib.hid HG1.out
  have HL := Lib.hid HL1.out
  have HT := Lib.hid (HT0.out.ext HX01.out)
  have HK : Hid (wa.cell? ⟨C, 0, none⟩ = some (.int .i64 4) ∧ wa.cell? ⟨C, 1, none⟩ = some (.slice GA 2 gc) ∧ wa.cell? ⟨C, 2, none⟩ = some (.int .i64 1)) := Lib.hid ⟨HCN.out 0 _ rfl, HCN.out 1 _ rfl, HCN.out 2 _ rfl⟩
  have HX := Lib.hid (Ext.refl wa)
  clear hxa hwa hC HG1 HL1 HCN HT0
  have hc := with9_any Lo.exL LB 7 lc 2 [9, 9] wa HL.out rfl (by decide) (by decide)
  have HC := Lib.hid hc
  clear hc
  go_upto_region 3 with fail
  refine HC.out.mono ?_
  clear HC
  rintro e w2 ⟨A1, d1, rfl, hl1, hx⟩
  have H1 : Hid (Rs RS w2 (.slice A1 7 d1) Lo.exOne) := Lib.hid hl1
  have HX2 := Lib.hid hx
  replace HX := Lib.hid (HX.out.trans hx)
  clear hx
  obtain ⟨A1, uA, rfl, _, _⟩ := hl1.at (i := 0) (by decide)
  clear hl1
  have hc := with9_any Lo.exOne A1 7 d1 3 [9, 9] w2 H1.out rfl (by decide) (by decide)
  have HC := Lib.hid hc
  clear hc
  go_upto_region 4 with fail
  refine HC.out.mono ?_
  clear HC
  rintro e w3 ⟨A2, d2, rfl, hl2, hx⟩
  have H2 : Hid (Rs RS w3 (.slice A2 7 d2) Lo.exTwo) := Lib.hid hl2
  replace H1 := Lib.hid (Rs.ext RS.ext _ _ _ _ hx H1.out)
  have HX3 := Lib.hid (Ext.refl w3)
  clear hl2 HX2
  replace HX := Lib.hid (HX.out.trans hx)
  clear hx
  have hc := lDetects_any 4 1 Lo.exG 127 2 _ w3 (HT.out.ext HX.out) (Rs.ext (Rs.ext RI.ext) _ _ _ _ HX.out HG.out) (fun _ => Lo.ex_rows)
  rw [Lo.ex_det2.1, Lo.ex_det2.2] at hc
  have HC := Lib.hid hc
  have k0 : w3.cell? ⟨C, 0, none⟩ = some (.int .i64 4) := HX.out.cell HK.out.1
  have k1 : w3.cell? ⟨C, 1, none⟩ = some (.slice GA 2 gc) := HX.out.cell HK.out.2.1
  have k2 : w3.cell? ⟨C, 2, none⟩ = some (.int .i64 1) := HX.out.cell HK.out.2.2
  clear hc
  go_wp2_with fail
  refine HC.out.mono ?_
  clear HC
  rintro e w4 ⟨rfl, hx⟩
  clear k0 k1 k2
  replace HX3 := Lib.hid (HX3.out.trans hx)
  replace HX := Lib.hid (HX.out.trans hx)
  clear hx
  have hc := lDetects_any 4 1 Lo.exG 127 3 _ w4 (HT.out.ext HX.out) (Rs.ext (Rs.ext RI.ext) _ _ _ _ HX.out HG.out) (fun _ => Lo.ex_rows)
  rw [Lo.ex_det3.1, Lo.ex_det3.2] at hc
  have HC := Lib.hid hc
  have k0 : w4.cell? ⟨C, 0, none⟩ = some (.int .i64 4) := HX.out.cell HK.out.1
  have k1 : w4.cell? ⟨C, 1, none⟩ = some (.slice GA 2 gc) := HX.out.cell HK.out.2.1
  have k2 : w4.cell? ⟨C, 2, none⟩ = some (.int .i64 1) := HX.out.cell HK.out.2.2
  clear hc
  go_wp2_with fail
  refine HC.out.mono ?_
  clear HC
  rintro e w5 ⟨rfl, hx⟩
  clear k0 k1 k2
  replace HX3 := Lib.hid (HX3.out.trans hx)
  replace HX := Lib.hid (HX.out.trans hx)
  clear hx
  have hc := lCorrects_any 4 1 Lo.exG 127 1 _ w5 (HT.out.ext HX.out) (Rs.ext (Rs.ext RI.ext) _ _ _ _ HX.out HG.out) (fun _ => Lo.ex_rows)
  rw [Lo.ex_cor1.1, Lo.ex_cor1.2] at hc
  have HC := Lib.hid hc
  have k0 : w5.cell? ⟨C, 0, none⟩ = some (.int .i64 4) := HX.out.cell HK.out.1
  have k1 : w5.cell? ⟨C, 1, none⟩ = some (.slice GA 2 gc) := HX.out.cell HK.out.2.1
  have k2 : w5.cell? ⟨C, 2, none⟩ = some (.int .i64 1) := HX.out.cell HK.out.2.2
  clear hc
  go_wp2_with fail
  refine HC.out.mono ?_
  clear HC
  rintro e w6 ⟨rfl, hx⟩
  clear k0 k1 k2
  replace HX3 := Lib.hid (HX3.out.trans hx)
  replace HX := Lib.hid (HX.out.trans hx)
  clear hx
  have hc := lCorrects_any 4 1 Lo.exG 63 1 _ w6 (HT.out.ext HX.out) (Rs.ext (Rs.ext RI.ext) _ _ _ _ HX.out HG.out) (fun _ => Lo.ex_rows)
  rw [Lo.ex_cor63.1, Lo.ex_cor63.2] at hc
  have HC := Lib.hid hc
  have k0 : w6.cell? ⟨C, 0, none⟩ = some (.int .i64 4) := HX.out.cell HK.out.1
  have k1 : w6.cell? ⟨C, 1, none⟩ = some (.slice GA 2 gc) := HX.out.cell HK.out.2.1
  have k2 : w6.cell? ⟨C, 2, none⟩ = some (.int .i64 1) := HX.out.cell HK.out.2.2
  clear hc
  go_wp2_with fail
  refine HC.out.mono ?_
  clear HC
  rintro e w7 ⟨rfl, hx⟩
  clear k0 k1 k2
  replace HX3 := Lib.hid (HX3.out.trans hx)
  replace HX := Lib.hid (HX.out.trans hx)
  clear hx
  have hc := lLocate_any 4 1 7 127 1 Lo.exG Lo.exOne _ (some A1) d1 w7 (HT.out.ext HX.out) (Rs.ext (Rs.ext RI.ext) _ _ _ _ HX.out HG.out) (Rs.ext RS.ext _ _ _ _ HX3.out H1.out) (by decide) (fun _ => Lo.ex_rows)
  rw [Lo.ex_one] at hc
  have HC := Lib.hid hc
  have k0 : w7.cell? ⟨C, 0, none⟩ = some (.int .i64 4) := HX.out.cell HK.out.1
  have k1 : w7.cell? ⟨C, 1, none⟩ = some (.slice GA 2 gc) := HX.out.cell HK.out.2.1
  have k2 : w7.cell? ⟨C, 2, none⟩ = some (.int .i64 1) := HX.out.cell HK.out.2.2
  clear hc
  go_wp2_with fail
  refine HC.out.mono ?_
  clear HC
  rintro e w8 ⟨rfl, hx⟩
  clear k0 k1 k2
  replace HX3 := Lib.hid (HX3.out.trans hx)
  replace HX := Lib.hid (HX.out.trans hx)
  clear hx
  obtain ⟨s2, hs2⟩ : ∃ s, sb (Lo.locR 4 1 Lo.exG 7 127 Lo.exTwo 1).1 = s := ⟨_, rfl⟩
  obtain ⟨z2, hz2⟩ : ∃ s, (Lo.locR 4 1 Lo.exG 7 127 Lo.exTwo 1).2.1 = s := ⟨_, rfl⟩
  have hc := lLocate_any 4 1 7 127 1 Lo.exG Lo.exTwo _ A2 d2 w8 (HT.out.ext HX.out) (Rs.ext (Rs.ext RI.ext) _ _ _ _ HX.out HG.out) (Rs.ext RS.ext _ _ _ _ HX3.out H2.out) (by decide) (fun _ => Lo.ex_rows)
  rw [hs2, hz2, Lo.ex_two] at hc
  have HC := Lib.hid hc
  have k0 : w8.cell? ⟨C, 0, none⟩ = some (.int .i64 4) := HX.out.cell HK.out.1
  have k1 : w8.cell? ⟨C, 1, none⟩ = some (.slice GA 2 gc) := HX.out.cell HK.out.2.1
  have k2 : w8.cell? ⟨C, 2, none⟩ = some (.int .i64 1) := HX.out.cell HK.out.2.2
  clear hc
  clear hs2 hz2
  go_wp2_with fail
  refine HC.out.mono ?_
  clear HC
  rintro e w9 ⟨rfl, hx⟩
  clear k0 k1 k2
  replace HX3 := Lib.hid (HX3.out.trans hx)
  replace HX := Lib.hid (HX.out.trans hx)
  clear hx
  have hc := lFits_any 4 1 7 19 Lo.exG Lo.exL _ (some LB) lc w9 (HT.out.ext HX.out) (Rs.ext (Rs.ext RI.ext) _ _ _ _ HX.out HG.out) (Rs.ext RS.ext _ _ _ _ HX.out HL.out)
  rw [Lo.ex_fit.1, Lo.ex_fit.2] at hc
  have HC := Lib.hid hc
  have k0 : w9.cell? ⟨C, 0, none⟩ = some (.int .i64 4) := HX.out.cell HK.out.1
  have k1 : w9.cell? ⟨C, 1, none⟩ = some (.slice GA 2 gc) := HX.out.cell HK.out.2.1
  have k2 : w9.cell? ⟨C, 2, none⟩ = some (.int .i64 1) := HX.out.cell HK.out.2.2
  clear hc
  go_wp2_with fail
  refine HC.out.mono ?_
  clear HC
  rintro e w10 ⟨rfl, hx⟩
  clear k0 k1 k2
  replace HX3 := Lib.hid (HX3.out.trans hx)
  replace HX := Lib.hid (HX.out.trans hx)
  clear hx
  have HW : Hid (∀ w1 : World, Ext w10 w1 → Calls Tryd.prog 28 #[.slice (some LB) 7 lc, .int .i64 4, .string ⟨#[2, 7]⟩] w1 fun e w' => ∃ A c, e = .returned (.slice A 7 c) ∧ Rs RS w' (.slice A 7 c) Lo.exA ∧ Ext w1 w') := Lib.hid fun w1 h => with9_any Lo.exL LB 7 lc 4 [2, 7] w1 (Rs.ext RS.ext _ _ _ _ (HX.out.trans h) HL.out) rfl (by decide) (by decide)
  have HC : Hid (∀ (w1 : World) (A : Option Addr) (c : Nat), Ext w10 w1 → Rs RS w1 (.slice A 7 c) Lo.exA → Calls Tryd.prog 17 #[.agg #[.int .i64 4, .slice GA 2 gc, .int .i64 1], .int .i64 7, .int .i64 19, .slice A 7 c] w1 fun e w' => e = .returned (.tuple #[.bool false, .int .i64 0]) ∧ Ext w1 w') := Lib.hid fun w1 A c h hr => by
    have hc := lFits_any 4 1 7 19 Lo.exG Lo.exA _ A c w1 (HT.out.ext (HX.out.trans h)) (Rs.ext (Rs.ext RI.ext) _ _ _ _ (HX.out.trans h) HG.out) hr
    rw [Lo.ex_fitA.1, Lo.ex_fitA.2] at hc
    exact hc
  have k0 : w10.cell? ⟨C, 0, none⟩ = some (.int .i64 4) := HX.out.cell HK.out.1
  have k1 : w10.cell? ⟨C, 1, none⟩ = some (.slice GA 2 gc) := HX.out.cell HK.out.2.1
  have k2 : w10.cell? ⟨C, 2, none⟩ = some (.int .i64 1) := HX.out.cell HK.out.2.2
  go_upto_region 11 with fail
  refine wp_atEnd' (sn11 w10 C lc gc GA (some LB) Lo.exA k0 k1 k2 HW HC _ _ _ _ _ _ _ _ _ _ _ _ _ _ _ _ _ _ _ _ _ _ _ _ _ _ _ _ _ _ _ _ _ _ _ _ _ _ _ _ _ _ _ _ _ _ _ _ _ _ _ _ _ _ _ _ _ _ _ _ _ _ _ _ _ _ _ _ _ _ _ _ _ _ _ _ _ _ _ _ _ _ _ _ _ _ _ _ _ _ _ _ _ _ _ _ _ _ _ _ _ _ _ _ _ _ _ _ _ _ _ _ _ _ _ _ _ _ _ _ _ _ _ _ _ _ _ _ _ _ _ _ _ _ _ _ _ _ _ _ _ _ _ _ _ _ _ _ _ _ _ _ _ _ _ _ _ _ _ _ _ _ _ _ _ _ _ _ _ _ _ _ _ _ _ _ _ _ _ _ _ ?_)
  rintro u77 u78 u79 u80 u81 u82 u83 w11 hx
  clear k0 k1 k2 HW HC
  replace HX3 := Lib.hid (HX3.out.trans hx)
  replace HX := Lib.hid (HX.out.trans hx)
  clear hx
  have HW : Hid (∀ w1 : World, Ext w11 w1 → Calls Tryd.prog 28 #[.slice (some LB) 7 lc, .int .i64 4, .string ⟨#[2, 7]⟩] w1 fun e w' => ∃ A c, e = .returned (.slice A 7 c) ∧ Rs RS w' (.slice A 7 c) Lo.exA ∧ Ext w1 w') := Lib.hid fun w1 h => with9_any Lo.exL LB 7 lc 4 [2, 7] w1 (Rs.ext RS.ext _ _ _ _ (HX.out.trans h) HL.out) rfl (by decide) (by decide)
  have HC : Hid (∀ (w1 : World) (A : Option Addr) (c : Nat), Ext w11 w1 → Rs RS w1 (.slice A 7 c) Lo.exA → Calls Tryd.prog 19 #[.agg #[.int .i64 4, .slice GA 2 gc, .int .i64 1], .int .i64 7, .int .i64 127, .slice A 7 c] w1 fun e w' => e = .returned (.tuple #[.int .i64 19, .int .i64 0]) ∧ Ext w1 w') := Lib.hid fun w1 A c h hr => by
    have hc := lClash_any 4 1 7 127 Lo.exG Lo.exA _ A c w1 (HT.out.ext (HX.out.trans h)) (Rs.ext (Rs.ext RI.ext) _ _ _ _ (HX.out.trans h) HG.out) hr (fun _ => Lo.ex_rows)
    refine hc.mono ?_
    rintro e w' ⟨x, E, rfl, h1, h2⟩
    obtain ⟨rfl, rfl⟩ := Lo.cl_ex Lo.ex_givA Lo.ex_clA h1
    exact ⟨rfl, h2⟩
  have k0 : w11.cell? ⟨C, 0, none⟩ = some (.int .i64 4) := HX.out.cell HK.out.1
  have k1 : w11.cell? ⟨C, 1, none⟩ = some (.slice GA 2 gc) := HX.out.cell HK.out.2.1
  have k2 : w11.cell? ⟨C, 2, none⟩ = some (.int .i64 1) := HX.out.cell HK.out.2.2
  go_upto_region 12 with fail
  refine wp_atEnd' (sn12 w11 C lc gc GA (some LB) Lo.exA k0 k1 k2 HW HC _ _ _ _ _ _ _ _ _ _ _ _ _ _ _ _ _ _ _ _ _ _ _ _ _ _ _ _ _ _ _ _ _ _ _ _ _ _ _ _ _ _ _ _ _ _ _ _ _ _ _ _ _ _ _ _ _ _ _ _ _ _ _ _ _ _ _ _ _ _ _ _ _ _ _ _ _ _ _ _ _ _ _ _ _ _ _ _ _ _ _ _ _ _ _ _ _ _ _ _ _ _ _ _ _ _ _ _ _ _ _ _ _ _ _ _ _ _ _ _ _ _ _ _ _ _ _ _ _ _ _ _ _ _ _ _ _ _ _ _ _ _ _ _ _ _ _ _ _ _ _ _ _ _ _ _ _ _ _ _ _ _ _ _ _ _ _ _ _ _ _ _ _ _ _ _ _ _ _ _ _ ?_)
  rintro u84 u85 u86 u87 u88 u89 u90 w12 hx
  clear k0 k1 k2 HW HC
  replace HX3 := Lib.hid (HX3.out.trans hx)
  replace HX := Lib.hid (HX.out.trans hx)
  clear hx
  have HW : Hid (∀ w1 : World, Ext w12 w1 → Calls Tryd.prog 28 #[.slice (some LB) 7 lc, .int .i64 6, .string ⟨#[0, 0]⟩] w1 fun e w' => ∃ A c, e = .returned (.slice A 7 c) ∧ Rs RS w' (.slice A 7 c) Lo.exB ∧ Ext w1 w') := Lib.hid fun w1 h => with9_any Lo.exL LB 7 lc 6 [0, 0] w1 (Rs.ext RS.ext _ _ _ _ (HX.out.trans h) HL.out) rfl (by decide) (by decide)
  have HC : Hid (∀ (w1 : World) (A : Option Addr) (c : Nat), Ext w12 w1 → Rs RS w1 (.slice A 7 c) Lo.exB → Calls Tryd.prog 19 #[.agg #[.int .i64 4, .slice GA 2 gc, .int .i64 1], .int .i64 7, .int .i64 127, .slice A 7 c] w1 fun e w' => e = .returned (.tuple #[.int .i64 79, .int .i64 0]) ∧ Ext w1 w') := Lib.hid fun w1 A c h hr => by
    have hc := lClash_any 4 1 7 127 Lo.exG Lo.exB _ A c w1 (HT.out.ext (HX.out.trans h)) (Rs.ext (Rs.ext RI.ext) _ _ _ _ (HX.out.trans h) HG.out) hr (fun _ => Lo.ex_rows)
    refine hc.mono ?_
    rintro e w' ⟨x, E, rfl, h1, h2⟩
    obtain ⟨rfl, rfl⟩ := Lo.cl_ex Lo.ex_givB Lo.ex_clB h1
    exact ⟨rfl, h2⟩
  have k0 : w12.cell? ⟨C, 0, none⟩ = some (.int .i64 4) := HX.out.cell HK.out.1
  have k1 : w12.cell? ⟨C, 1, none⟩ = some (.slice GA 2 gc) := HX.out.cell HK.out.2.1
  have k2 : w12.cell? ⟨C, 2, none⟩ = some (.int .i64 1) := HX.out.cell HK.out.2.2
  go_upto_region 13 with fail
  refine wp_atEnd' (sn13 w12 C lc gc GA (some LB) Lo.exB k0 k1 k2 HW HC _ _ _ _ _ _ _ _ _ _ _ _ _ _ _ _ _ _ _ _ _ _ _ _ _ _ _ _ _ _ _ _ _ _ _ _ _ _ _ _ _ _ _ _ _ _ _ _ _ _ _ _ _ _ _ _ _ _ _ _ _ _ _ _ _ _ _ _ _ _ _ _ _ _ _ _ _ _ _ _ _ _ _ _ _ _ _ _ _ _ _ _ _ _ _ _ _ _ _ _ _ _ _ _ _ _ _ _ _ _ _ _ _ _ _ _ _ _ _ _ _ _ _ _ _ _ _ _ _ _ _ _ _ _ _ _ _ _ _ _ _ _ _ _ _ _ _ _ _ _ _ _ _ _ _ _ _ _ _ _ _ _ _ _ _ _ _ _ _ _ _ _ _ _ _ _ _ _ _ _ _ ?_)
  rintro u91 u92 u93 u94 u95 u96 u97 w13 hx
  clear k0 k1 k2 HW HC
  replace HX3 := Lib.hid (HX3.out.trans hx)
  replace HX := Lib.hid (HX.out.trans hx)
  clear hx
  have hc := lClash_any 4 1 7 127 Lo.exG Lo.exL _ (some LB) lc w13 (HT.out.ext HX.out) (Rs.ext (Rs.ext RI.ext) _ _ _ _ HX.out HG.out) (Rs.ext RS.ext _ _ _ _ HX.out HL.out) (fun _ => Lo.ex_rows)
  have HC := Lib.hid hc
  have k0 : w13.cell? ⟨C, 0, none⟩ = some (.int .i64 4) := HX.out.cell HK.out.1
  have k1 : w13.cell? ⟨C, 1, none⟩ = some (.slice GA 2 gc) := HX.out.cell HK.out.2.1
  have k2 : w13.cell? ⟨C, 2, none⟩ = some (.int .i64 1) := HX.out.cell HK.out.2.2
  clear hc
  go_wp2_with fail
  refine HC.out.mono ?_
  clear HC
  rintro e w14 ⟨x, E, rfl, hco, hx⟩
  clear k0 k1 k2
  obtain rfl := Lo.cl_exN Lo.ex_givL Lo.ex_clL hco
  replace HX := Lib.hid (HX.out.trans hx)
  have hsb : sb [1, 2, 3, 4, 5, 6, 7] = ⟨#[1, 2, 3, 4, 5, 6, 7]⟩ := rfl
  rw [hsb]
  clear hx hco hsb
  go_wp2_with fail
  go_ret
  exact ⟨rfl, HX01.out.trans HX.out⟩
end Go.Proofs.YtggfkpalkdkbdaaDoor

/- THE WALK over LocateAsksAsSpecified. -/
namespace Go.Proofs.YtggfkpalkdkbdaaDoor
open Go.RowKit
set_option maxHeartbeats 16000000 in
set_option maxRecDepth 100000 in
theorem law_asks (d gl m wrong : Int) (gs : List (List Int)) (G : Value) (w : World) (hT : Tab w) (hG : Rs (Rs RI) w G gs) (hgl : gs.length ≤ 4611686018427387904) :
    Calls Tryd.prog 3 #[.agg #[.int .i64 d, G, .int .i64 gl], .int .i64 m, .int .i64 wrong] w fun e w' => e = .returned (.bool true) ∧ Ext w w' := by
  have HGL := Lib.hid hgl
  clear hgl
  obtain ⟨GA, Gc, rfl, _⟩ := hG.form
  obtain ⟨ng, hng⟩ : ∃ ng, gs.length = ng := ⟨_, rfl⟩
  rw [hng] at hG ⊢
  have hB := (Owns.start w (L := [no]) (by intro r hr; simp at hr; subst hr; exact ⟨rfl, rfl, rfl⟩)).new 0 #[.int .i64 d, .slice GA ng Gc, .int .i64 gl] 24 (by simp [maxLen])
  have HG := Lib.hid hG
  have HB : Hid (Owns w (w.alloc (.cells #[.int .i64 d, .slice GA ng Gc, .int .i64 gl] 24)) [⟨.slice (some ⟨w.heap.size, 0, none⟩) 3 3, 24, 1, 3, [.int .i64 d, .slice GA ng Gc, .int .i64 gl]⟩]) := Lib.hid hB
  have HNG := Lib.hid hng
  clear hG hB hng
  have HT := Lib.hid (hT.ext HB.out.ext)
  clear hT
  go_enter Tryd.func3, Tryd.ntmps3
  go_upto_region 1 with fail
  obtain ⟨C, hC⟩ : ∃ x, w.heap.size = x := ⟨_, rfl⟩
  rw [hC] at HB ⊢
  obtain ⟨w1, hw1⟩ : ∃ x, (w.alloc (.cells #[.int .i64 d, .slice GA ng Gc, .int .i64 gl] 24)) = x := ⟨_, rfl⟩
  rw [hw1] at HB HT ⊢
  clear hw1 hC
  have HX := Lib.hid (Ext.refl w1)
  have HF := Lib.hid (lFew_any d gl 9 0 gs _ none 0 0 w1 (Rs.ext (Rs.ext RI.ext) _ _ _ _ (HB.out.ext.trans HX.out) HG.out) HGL.out)
  have k00 : w1.cell? ⟨C, 0, none⟩ = some (.int .i64 d) := (HB.out.next HX.out).cell 0 rfl 0 rfl
  have k01 : w1.cell? ⟨C, 1, none⟩ = some (.slice GA ng Gc) := (HB.out.next HX.out).cell 0 rfl 1 rfl
  have k02 : w1.cell? ⟨C, 2, none⟩ = some (.int .i64 gl) := (HB.out.next HX.out).cell 0 rfl 2 rfl
  go_wp2_with fail
  refine HF.out.mono ?_
  clear HF k00 k01 k02
  rintro e w2 ⟨b, rfl, hfo, hx⟩
  replace HX := Lib.hid (HX.out.trans hx)
  have HFO := Lib.hid hfo
  clear hfo
  clear hx
  have HSA := Lib.hid (fun w' (h : Ext w1 w') => sanity9_any w' (HT.out.ext h))
  cases b with
  | false =>
    go_wp2_with fail
    refine (HSA.out w2 HX.out).mono ?_
    rintro e w3 ⟨rfl, hx⟩
    go_wp2_with fail
    go_ret
    exact ⟨rfl, HB.out.ext.trans (HX.out.trans hx)⟩
  | true =>
    have hgn := (HFO.out (by trivial)).groups
    have HGN : Hid (gs.length ≤ 1000000) := Lib.hid (by omega)
    have HN : Hid (Cd.check d gs gl = 0 → (Cd.rowsOf d gs gl).length ≤ 14) := Lib.hid fun h => by have := (HFO.out (by trivial)).rows h; omega
    obtain ⟨b1, hb1⟩ : ∃ b, Lo.detB d gl gs m wrong = b := ⟨_, rfl⟩
    obtain ⟨e1, he1⟩ : ∃ e, Lo.detE d gl gs m wrong = e := ⟨_, rfl⟩
    obtain ⟨b2, hb2⟩ : ∃ b, Lo.corB d gl gs m wrong = b := ⟨_, rfl⟩
    obtain ⟨e2, he2⟩ : ∃ e, Lo.corE d gl gs m wrong = e := ⟨_, rfl⟩
    have HD : Hid (∀ w', Ext w1 w' → Calls Tryd.prog 11 #[.agg #[.int .i64 d, .slice GA ng Gc, .int .i64 gl], .int .i64 m, .int .i64 wrong] w' fun e w'' => e = .returned (.tuple #[.bool b1, .int .i64 e1]) ∧ Ext w' w'') := Lib.hid fun w' h => by
      rw [← hb1, ← he1]; exact lDetects_any d gl gs m wrong _ w' (HT.out.ext h) (Rs.ext (Rs.ext RI.ext) _ _ _ _ (HB.out.ext.trans h) HG.out) HN.out
    have HC : Hid (∀ w', Ext w1 w' → Calls Tryd.prog 12 #[.agg #[.int .i64 d, .slice GA ng Gc, .int .i64 gl], .int .i64 m, .int .i64 wrong] w' fun e w'' => e = .returned (.tuple #[.bool b2, .int .i64 e2]) ∧ Ext w' w'') := Lib.hid fun w' h => by
      rw [← hb2, ← he2]; exact lCorrects_any d gl gs m wrong _ w' (HT.out.ext h) (Rs.ext (Rs.ext RI.ext) _ _ _ _ (HB.out.ext.trans h) HG.out) HN.out
    have HD9 : Hid (∀ w', Ext w1 w' → Calls Tryd.prog 13 #[.agg #[.int .i64 d, .slice GA ng Gc, .int .i64 gl], .int .i64 m, .int .i64 wrong] w' fun e w'' => e = .returned (.agg #[.bool b1, .int .i64 e1]) ∧ Ext w' w'') := Lib.hid fun w' h => by
      rw [← hb1, ← he1]; exact r9Det_any d gl gs m wrong _ w' (Rs.ext (Rs.ext RI.ext) _ _ _ _ (HB.out.ext.trans h) HG.out) HGN.out HN.out
    have HC9 : Hid (∀ w', Ext w1 w' → Calls Tryd.prog 14 #[.agg #[.int .i64 d, .slice GA ng Gc, .int .i64 gl], .int .i64 m, .int .i64 wrong] w' fun e w'' => e = .returned (.agg #[.bool b2, .int .i64 e2]) ∧ Ext w' w'') := Lib.hid fun w' h => by
      rw [← hb2, ← he2]; exact r9Cor_any d gl gs m wrong _ w' (Rs.ext (Rs.ext RI.ext) _ _ _ _ (HB.out.ext.trans h) HG.out) HGN.out HN.out
    clear hgn hb1 he1 hb2 he2
    have HD1 := Lib.hid (HD.out w2 HX.out)
    have k00 : w2.cell? ⟨C, 0, none⟩ = some (.int .i64 d) := (HB.out.next HX.out).cell 0 rfl 0 rfl
    have k01 : w2.cell? ⟨C, 1, none⟩ = some (.slice GA ng Gc) := (HB.out.next HX.out).cell 0 rfl 1 rfl
    have k02 : w2.cell? ⟨C, 2, none⟩ = some (.int .i64 gl) := (HB.out.next HX.out).cell 0 rfl 2 rfl
    go_wp2_with fail
    refine HD1.out.mono ?_
    clear HD1 k00 k01 k02
    rintro e w3 ⟨rfl, hx⟩
    replace HX := Lib.hid (HX.out.trans hx)
    clear hx
    have HC1 := Lib.hid (HC.out w3 HX.out)
    have k00 : w3.cell? ⟨C, 0, none⟩ = some (.int .i64 d) := (HB.out.next HX.out).cell 0 rfl 0 rfl
    have k01 : w3.cell? ⟨C, 1, none⟩ = some (.slice GA ng Gc) := (HB.out.next HX.out).cell 0 rfl 1 rfl
    have k02 : w3.cell? ⟨C, 2, none⟩ = some (.int .i64 gl) := (HB.out.next HX.out).cell 0 rfl 2 rfl
    go_wp2_with fail
    refine HC1.out.mono ?_
    clear HC1 k00 k01 k02
    rintro e w4 ⟨rfl, hx⟩
    replace HX := Lib.hid (HX.out.trans hx)
    clear hx
    have HD2 := Lib.hid (HD9.out w4 HX.out)
    have k00 : w4.cell? ⟨C, 0, none⟩ = some (.int .i64 d) := (HB.out.next HX.out).cell 0 rfl 0 rfl
    have k01 : w4.cell? ⟨C, 1, none⟩ = some (.slice GA ng Gc) := (HB.out.next HX.out).cell 0 rfl 1 rfl
    have k02 : w4.cell? ⟨C, 2, none⟩ = some (.int .i64 gl) := (HB.out.next HX.out).cell 0 rfl 2 rfl
    go_wp2_with fail
    refine HD2.out.mono ?_
    clear HD2 k00 k01 k02
    rintro e w5 ⟨rfl, hx⟩
    replace HX := Lib.hid (HX.out.trans hx)
    clear hx
    have hQ1 : Owns w1 (w5.alloc (.cells #[.bool b1, .int .i64 e1] 31)) [⟨.slice (some ⟨w5.heap.size, 0, none⟩) 2 2, 31, 1, 2, [.bool b1, .int .i64 e1]⟩] := (((Owns.start w1 (L := [no]) (by intro r hr; simp at hr; subst hr; exact ⟨rfl, rfl, rfl⟩)).next HX.out).new 0 #[.bool b1, .int .i64 e1] 31 (by simp [maxLen]))
    have HQ := Lib.hid hQ1
    clear hQ1
    go_upto_region 7 with fail
    obtain ⟨Q, hQ⟩ : ∃ x, w5.heap.size = x := ⟨_, rfl⟩
    obtain ⟨w6, hw6⟩ : ∃ x, w5.alloc (.cells #[.bool b1, .int .i64 e1] 31) = x := ⟨_, rfl⟩
    rw [hQ, hw6] at HQ
    rw [hQ, hw6]
    clear hQ hw6
    replace HX := Lib.hid HQ.out.ext
    have HC2 := Lib.hid (HC9.out w6 HX.out)
    have k00 : w6.cell? ⟨C, 0, none⟩ = some (.int .i64 d) := (HB.out.next HX.out).cell 0 rfl 0 rfl
    have k01 : w6.cell? ⟨C, 1, none⟩ = some (.slice GA ng Gc) := (HB.out.next HX.out).cell 0 rfl 1 rfl
    have k02 : w6.cell? ⟨C, 2, none⟩ = some (.int .i64 gl) := (HB.out.next HX.out).cell 0 rfl 2 rfl
    go_wp2_with fail
    refine HC2.out.mono ?_
    clear HC2 k00 k01 k02
    rintro e w7 ⟨rfl, hx⟩
    replace HX := Lib.hid (HX.out.trans hx)
    have HXQ := Lib.hid hx
    clear hx
    have hR1 : Owns w1 (w7.alloc (.cells #[.bool b2, .int .i64 e2] 31)) [⟨.slice (some ⟨Q, 0, none⟩) 2 2, 31, 1, 2, [.bool b1, .int .i64 e1]⟩, ⟨.slice (some ⟨w7.heap.size, 0, none⟩) 2 2, 31, 1, 2, [.bool b2, .int .i64 e2]⟩] := (HQ.out.next HXQ.out).wider.new 1 #[.bool b2, .int .i64 e2] 31 (by simp [maxLen])
    have HR := Lib.hid hR1
    clear hR1 HQ
    go_upto_region 8 with fail
    obtain ⟨R, hR⟩ : ∃ x, w7.heap.size = x := ⟨_, rfl⟩
    obtain ⟨w8, hw8⟩ : ∃ x, w7.alloc (.cells #[.bool b2, .int .i64 e2] 31) = x := ⟨_, rfl⟩
    rw [hR, hw8] at HR
    rw [hR, hw8]
    clear hR hw8 HXQ
    replace HX := Lib.hid HR.out.ext
    have HS8 := Lib.hid (HSA.out w8 HX.out)
    go_wp2_with fail
    refine HS8.out.mono ?_
    clear HS8
    rintro e w9 ⟨rfl, hx⟩
    have q0 : w9.cell? ⟨Q, 0, none⟩ = some (.bool b1) := (HR.out.next hx).cell 0 rfl 0 rfl
    have q1 : w9.cell? ⟨Q, 1, none⟩ = some (.int .i64 e1) := (HR.out.next hx).cell 0 rfl 1 rfl
    have r0 : w9.cell? ⟨R, 0, none⟩ = some (.bool b2) := (HR.out.next hx).cell 1 rfl 0 rfl
    have r1 : w9.cell? ⟨R, 1, none⟩ = some (.int .i64 e2) := (HR.out.next hx).cell 1 rfl 1 rfl
    have u1 : (b1 == b1) = true := by simp
    have u2 : (e1 == e1) = true := by simp
    have u3 : (b2 == b2) = true := by simp
    have u4 : (e2 == e2) = true := by simp
    have HE := Lib.hid (HB.out.ext.trans (HX.out.trans hx))
    clear hx
    go_wp2_with fail
    go_ret
    exact ⟨rfl, HE.out⟩
end Go.Proofs.YtggfkpalkdkbdaaDoor

/- ARGUMENTS that are codes read as such. -/
namespace Go.Proofs.YtggfkpalkdkbdaaDoor
open Go.ChangeShapes Go.WideShapes Go.ChangeAt Go.RowKit Go.ChangeMaps Go.Deep
variable {H : Type} {enc : TypeId × Value → H} {W : World} {base : Nat}
theorem list_getD {l : List Int} {k : Nat} (h : k < l.length) : l.getD k 0 = l[k] := by rw [List.getD_eq_getElem?_getD, List.getElem?_eq_getElem h]; rfl
theorem read_rows {fuel : Nat} {v : Value} {x : DataW H × List MemPlace} (h : DataW.trod enc Tryd.prog W base (fun _ => true) true fuel 22 [v] = some x) : ∃ l, Rs (Rs RI) W v l := by
  rcases open_int_rows Tryd.underlying22 Tryd.underlying63 Tryd.underlying3 (by kernel_rfl) (by kernel_rfl) h with ⟨hcs, _⟩ | ⟨a, len, cap, A, L, C, Z, hcs, _, hl, hm, _, hx⟩
  · injection hcs with hcs _
    subst hcs
    exact ⟨[], none, 0, rfl, by simp, fun i x h => by simp at h⟩
  · injection hcs with hcs _
    subst hcs
    refine ⟨(List.range len).map fun r => (Z r).take (L r), some a, cap, by simp, by simp; unfold maxLen at hm; omega, fun i y hi => ?_⟩
    have hi1 : i < len := by have := (List.getElem?_eq_some_iff.1 hi).1; simpa using this
    have e : y = (Z i).take (L i) := by
      have := (List.getElem?_eq_some_iff.1 hi).2
      rw [← this]; simp
    subst e
    obtain ⟨h1, h2, h3, h4, h5, h6, h7⟩ := hx i (by omega)
    refine ⟨a, _, rfl, h1, A i, C i, ?_, ?_, fun k z hk => ?_⟩
    · rw [List.length_take]; congr 1; omega
    · rw [List.length_take]; unfold maxLen at h3; omega
    · have hk1 : k < ((Z i).take (L i)).length := (List.getElem?_eq_some_iff.1 hk).1
      have hk2 : k < (Z i).length := by rw [List.length_take] at hk1; omega
      have hk3 : k < C i := by omega
      have e : z = (Z i)[k] := by
        have := (List.getElem?_eq_some_iff.1 hk).2
        rw [← this, List.getElem_take]
      subst e
      have hb := bounds_i64 (h5 _ (List.getElem_mem hk2))
      cases hA : A i with
      | none => have := h6 hA; omega
      | some b =>
        have h8 := (h7 b hA).2 k hk3
        rw [list_getD hk2] at h8
        exact ⟨b, _, rfl, h8, rfl, by omega, by omega⟩
theorem cellsRows : Tryd.prog.cellsOf 22 = 1 := by kernel_rfl
theorem cellsInt : Tryd.prog.cellsOf 3 = 1 := by kernel_rfl
theorem array3 {α : Type} {cs : Array α} (h : cs.size = 3) : ∃ c0 c1 c2, cs = #[c0, c1, c2] := by
  obtain ⟨l⟩ := cs
  match l, h with
  | [c0, c1, c2], _ => exact ⟨c0, c1, c2, rfl⟩
end Go.Proofs.YtggfkpalkdkbdaaDoor

/- THE FORM's OWN REACH, for slices of bytes and of strings that were opened by open_bytes, open_strs. -/
namespace Go.Proofs.YtggfkpalkdkbdaaDoor
open Go.RowKit Go.ChangeShapes Go.WideShapes Go.ChangeAt
variable {H : Type} {enc : TypeId × Value → H} {P : Program}
theorem sized_part {ts : List TypeId} {ds : List (DataW H)} (h : (DataW.weightsEach P ts ds).all (· ≤ reachBytes) = true) {j : Nat} {t : TypeId} {d : DataW H} (ht : ts[j]? = some t) (hd : ds[j]? = some d) : ∀ n ∈ d.weights P t, n ≤ reachBytes := fun n hn => by
  have := List.all_eq_true.1 h n (DataW.weights_mem_each ht hd n hn)
  simpa using this
theorem weightsAll_mem {P : Program} {e : TypeId} {d : DataW H} {n : Nat} (hn : n ∈ d.weights P e) : ∀ {ds : List (DataW H)}, d ∈ ds → n ∈ DataW.weightsAll P e ds
  | x :: r, h => by
    rw [DataW.weightsAll, List.mem_append]
    rcases List.mem_cons.1 h with rfl | h
    · exact Or.inl hn
    · exact Or.inr (weightsAll_mem hn h)
theorem sized_strs {W : World} {j : Nat} {t e : TypeId} {A : Option Addr} {c : Nat} {l : List (List UInt8)} {d : DataW H} {ps : List MemPlace} (ht : P.underlying t = some (.slice e)) (he : P.underlying e = some .string) (hc : P.cellsOf e = 1)
    (hd : DataW.Trod enc P W j (fun _ => true) true t (.slice A l.length c) d ps) (hR : Rd W A (l.map fun p => .string (sb p))) (hw : ∀ n ∈ d.weights P t, n ≤ reachBytes) : ∀ p ∈ l, p.length ≤ 140737488351232 := by
  obtain ⟨fuel, hf⟩ := hd
  rcases open_strings ht he hc hf with ⟨hcs, hx⟩ | ⟨a, len', cap', ss, hcs, _, hl, hm, hz, hx, hcell, hwz⟩
  · simp [Value.cells] at hcs
    intro p hp
    rw [hcs.2.1] at hp
    cases hp
  · simp [Value.cells] at hcs
    obtain ⟨rfl, rfl, rfl⟩ := hcs
    rw [if_pos rfl] at hz
    injection hx with hx _
    subst hx
    intro p hp
    obtain ⟨i, hi, rfl⟩ := List.getElem_of_mem hp
    obtain ⟨ad, e1, _, e3⟩ := hR i (.string (sb l[i])) (by rw [List.getElem?_map, List.getElem?_eq_getElem hi]; rfl)
    injection e1 with e1
    subst e1
    have h1 := hcell i (by omega)
    rw [h1] at e3
    injection e3 with e3
    injection e3 with e3
    have hm : ss.getD i ByteArray.empty ∈ ss.take l.length := by
      rw [List.getD_eq_getElem?_getD, List.getElem?_eq_getElem (by omega), Option.getD_some]
      exact List.mem_take_iff_getElem.2 ⟨i, by omega, rfl⟩
    have hlen : l[i].length = (ss.getD i ByteArray.empty).size := by rw [e3, size_sb]
    have := hw (ss.getD i ByteArray.empty).data.toList.length (by
      simp only [DataW.weights, ht]
      refine List.mem_cons_of_mem _ (List.mem_append.2 (Or.inl (weightsAll_mem (d := .lit (.string (ss.getD i ByteArray.empty).data.toList)) (by simp [DataW.weights]) ?_)))
      unfold strs
      exact List.mem_map.2 ⟨_, hm, rfl⟩)
    unfold reachBytes at this
    rw [hlen]
    have h2 : (ss.getD i ByteArray.empty).size = (ss.getD i ByteArray.empty).data.toList.length := rfl
    omega
end Go.Proofs.YtggfkpalkdkbdaaDoor

/- ARGUMENTS of law 09: cases. -/
namespace Go.Proofs.YtggfkpalkdkbdaaDoor
open Go.ChangeShapes Go.WideShapes Go.ChangeAt Go.RowKit Go.ChangeMaps Go.Deep
variable {H : Type} {enc : TypeId × Value → H} {W : World} {base : Nat}
theorem bytesInts : Tryd.prog.bytesOf 63 = 24 := by kernel_rfl
/-- The form's own reach, for a list of lists. -/
theorem sized_rows {fuel : Nat} {v : Value} {x : DataW H × List MemPlace} (h : DataW.trod enc Tryd.prog W base (fun _ => true) true fuel 22 [v] = some x) (hw : ∀ n ∈ x.1.weights Tryd.prog 22, n ≤ reachBytes) {l : List (List Int)} (hl : Rs (Rs RI) W v l) : l.length ≤ 4611686018427387904 := by
  obtain ⟨A, c, rfl, _⟩ := hl.form
  rcases open_int_rows Tryd.underlying22 Tryd.underlying63 Tryd.underlying3 (by kernel_rfl) (by kernel_rfl) h with ⟨hcs, _⟩ | ⟨a, len, cap, A', L, C, Z, hcs, _, _, hm, hx, _⟩
  · injection hcs with hcs _
    injection hcs with _ h2 _
    omega
  · injection hcs with hcs _
    injection hcs with _ h2 _
    subst hx
    have := hw ((len + (cap - len)) * 24) (by simp only [DataW.weights, Tryd.underlying22, bytesInts, List.length_map, List.length_range, List.mem_cons, true_or])
    unfold reachBytes at this
    omega
set_option maxRecDepth 100000 in
/-- A code, with the number of its groups. -/
theorem trod_code {m : Nat} {c0 c1 c2 : Value} {y : DataW H × List MemPlace} (hf : DataW.trod enc Tryd.prog W base (fun _ => true) true m 24 [c0, c1, c2] = some y) (hw : ∀ n ∈ y.1.weights Tryd.prog 24, n ≤ reachBytes) :
    ∃ (a0 a2 : Int) (gs : List (List Int)), c0 = .int .i64 a0 ∧ c2 = .int .i64 a2 ∧ Rs (Rs RI) W c1 gs ∧ gs.length ≤ 4611686018427387904 := by
  obtain ⟨zs, m, _, hy, _, hlen2, hz⟩ := DataW.trod_struct Tryd.underlying24 hf
  obtain ⟨z0, z1, z2, rfl⟩ : ∃ z0 z1 z2, zs = [z0, z1, z2] := by
    match zs, hlen2 with
    | [z0, z1, z2], _ => exact ⟨z0, z1, z2, rfl⟩
  subst hy
  have g0 : DataW.trod enc Tryd.prog W base (fun _ => true) true m 3 [c0] = some z0 := by
    have := hz 0 _ rfl
    simpa [Value.cells, cellsInt] using this
  have g1 : DataW.trod enc Tryd.prog W base (fun _ => true) true m 22 [c1] = some z1 := by
    have := hz 1 _ rfl
    simpa [Value.cells, cellsRows] using this
  have g2 : DataW.trod enc Tryd.prog W base (fun _ => true) true m 3 [c2] = some z2 := by
    have := hz 2 _ rfl
    simpa [Value.cells, cellsInt] using this
  obtain ⟨gs, h1⟩ := read_rows g1
  obtain ⟨a0, ha0, _, w0⟩ := DataW.trod_int Tryd.underlying3 g0
  obtain ⟨a2, ha2, _, w2⟩ := DataW.trod_int Tryd.underlying3 g2
  injection ha0 with ha0 _
  injection ha2 with ha2 _
  refine ⟨a0, a2, gs, ha0, ha2, h1, sized_rows g1 (fun n hn => hw n ?_) h1⟩
  simp only [DataW.weights, Tryd.underlying24]
  exact DataW.weights_mem_each (j := 1) rfl rfl n hn
set_option maxRecDepth 100000 in
/-- A code as an argument of its own. -/
theorem open_code_sized {b0 : Nat} {v : Value} {d : DataW H} {ps : List MemPlace} (hval : Value.okWide Tryd.prog W .any b0 24 v) (hd : DataW.Trod enc Tryd.prog W base (fun _ => true) true 24 v d ps) (hw : ∀ n ∈ d.weights Tryd.prog 24, n ≤ reachBytes) :
    ∃ (a0 a2 : Int) (G : Value) (gs : List (List Int)), v = .agg #[.int .i64 a0, G, .int .i64 a2] ∧ Rs (Rs RI) W G gs ∧ gs.length ≤ 4611686018427387904 := by
  obtain ⟨cs, rfl, hsz⟩ := okWide_struct Tryd.underlying24 hval
  obtain ⟨c0, c1, c2, rfl⟩ := array3 (hsz.trans (by kernel_rfl))
  obtain ⟨fuel, hf⟩ := hd
  have hf2 : DataW.trod enc Tryd.prog W base (fun _ => true) true fuel 24 [c0, c1, c2] = some (d, ps) := by simpa [Value.cells] using hf
  obtain ⟨a0, a2, gs, rfl, rfl, h1, h2⟩ := trod_code hf2 hw
  exact ⟨a0, a2, c1, gs, rfl, h1, h2⟩
end Go.Proofs.YtggfkpalkdkbdaaDoor

/- What Spoil builds, in plain terms; the drawn regions of Spoil (quietuslaw09). -/
namespace Lo
open Cd
/-- The pieces up to k that are other ones than before. -/
def chL (m : Nat) (l own : List (List UInt8)) (k : Nat) : List Nat := (List.range k).filter fun j => bitAt m j == 1 && decide (l.getD j [] ≠ own.getD j [])
def chTo (m : Nat) (l own : List (List UInt8)) (k : Nat) : Nat := toSet (chL m l own k)
section
variable {m k : Nat} {l own : List (List UInt8)}
theorem toSet_end (l : List Nat) (x : Nat) : toSet (l ++ [x]) = toSet l + 2 ^ x := by simp [toSet]
theorem chTo_zero : chTo m l own 0 = 0 := by simp [chTo, chL, toSet]
theorem chTo_yes (h : bitAt m k = 1) (h2 : l.getD k [] ≠ own.getD k []) : chTo m l own (k + 1) = chTo m l own k + 2 ^ k := by
  unfold chTo chL
  rw [List.range_succ, List.filter_append, List.filter_cons, if_pos (by rw [h, decide_eq_true h2]; rfl), List.filter_nil, toSet_end]
theorem chTo_no (h : bitAt m k ≠ 1 ∨ l.getD k [] = own.getD k []) : chTo m l own (k + 1) = chTo m l own k := by
  have hf : (bitAt m k == 1 && decide (l.getD k [] ≠ own.getD k [])) = false := by
    rcases h with h | h
    · rw [beq_eq_false_iff_ne.2 h, Bool.false_and]
    · rw [decide_eq_false (fun e => e h), Bool.and_false]
  unfold chTo chL
  rw [List.range_succ, List.filter_append, List.filter_cons, hf, if_neg (by decide), List.filter_nil, List.append_nil]
theorem chTo_lt (k : Nat) : chTo m l own k < 2 ^ k := by
  induction k with
  | zero => rw [chTo_zero]; decide
  | succ k ih =>
    by_cases h : bitAt m k = 1 ∧ l.getD k [] ≠ own.getD k []
    · rw [chTo_yes h.1 h.2, Nat.pow_succ]; omega
    · have h3 : bitAt m k ≠ 1 ∨ l.getD k [] = own.getD k [] := by
        rcases Decidable.not_and_iff_not_or_not.1 h with h1 | h1
        · exact .inl h1
        · exact .inr (Decidable.not_not.1 h1)
      rw [chTo_no h3, Nat.pow_succ]; omega
theorem chTo_bit (P i : Nat) : bitAt (chTo m l own P) i = 1 ↔ i < P ∧ bitAt m i = 1 ∧ l.getD i [] ≠ own.getD i [] := by
  have h := els_of (chL m l own P) P 0 (List.pairwise_lt_range.filter _) (fun z hz => ⟨Nat.zero_le _, by have := List.mem_range.1 (List.mem_filter.1 hz).1; exact this⟩) i (Nat.zero_le _)
  rw [show chTo m l own P = toSet (chL m l own P) from rfl, h]
  unfold chL
  rw [List.mem_filter, List.mem_range]
  simp
end
end Lo
namespace Go.Proofs.YtggfkpalkdkbdaaDoor
open Go.RowKit
theorem ex_lens {P : Program} {o : Oper} {a : Act} {w : World} {x : Operand} {t : TypeId} {b : ByteArray} {n : Nat} (ho : o.op = .call { callee := .builtin .len, args := #[x], argTypes := #[t] }) (ht : P.underlying t = some .string) (hx : a.eval x = .string b) (hn : b.size = n) : (execOp a.eval o).run P w = .ok (.value (.int .i64 n)) w := by
  subst hn
  unfold execOp
  simp only [ho, resolve, invoke, builtin, Sem.run_bind, Sem.run_pure, Result.andThen_ok, List.map_toArray, List.map_cons, List.map_nil, hx]
  simp [Builtin.len_, run_underlying ht, Result.andThen]
  rfl
end Go.Proofs.YtggfkpalkdkbdaaDoor

/- Drawn regions of Spoil's second loop. -/
namespace Go.Proofs.YtggfkpalkdkbdaaDoor
open Go.RowKit
theorem wrap_small (c p : Nat) (h1 : c < 1000000) (h2 : p < 1000000) : wrap64 ((c : Int) + (p : Int)) = ((c + p : Nat) : Int) := by
  unfold wrap64; omega
end Go.Proofs.YtggfkpalkdkbdaaDoor

/- THE WALK over Given of quietusref09. -/
namespace Go.Proofs.YtggfkpalkdkbdaaDoor
open Go.RowKit
noncomputable def gv_no_code : Code := ((Tryd.f35.body.bind (regionOf 9)).getD .skip)
def gv_no_dsts : List (Option Nat) := [some 36, some 37, some 38, some 39, some 40, some 41, some 42, some 43, some 44, some 45, some 46, some 47, some 48, some 49, some 50, some 51]
theorem gv_no_apart : apartD gv_no_dsts = true := by decide +kernel
set_option maxRecDepth 1000000 in
set_option maxHeartbeats 16000000 in
theorem gv_no (wr : World) (C n M k pl cp : Nat) (pd : Addr) (hk : k < pl) (hp24 : pl ≤ 24) (HBB : Hid (bits .and .i64 ((M : Int) / 2 ^ k) 1 = ((0 : Nat) : Int))) (c0 c5 c6 c7 c8 c9 c11 c12 c13 c14 c15 c16 c17 c18 c19 c20 c21 c22 c23 c24 c25 c26 c27 c28 c29 c30 c31 c32 c33 c34 c35 c36 c37 c38 c39 c40 c41 c42 c43 c44 c45 c46 c47 c48 c49 c50 c51 : Value) (df : List Deferred) (K : Act → World → Prop)
    (hK : ∀  (u36 u37 u38 u39 u40 u41 u42 u43 u44 u45 u46 u47 u48 u49 u50 : Value) (wx : World), Ext wr wx → K ⟨#[c0, .int .i64 (n : Nat), .int .i64 (M : Nat), .slice (some pd) pl cp, .pointer (some ⟨C, 0, none⟩), c5, c6, c7, c8, c9, .int .i64 (k : Nat), c11, c12, c13, c14, c15, c16, c17, c18, c19, c20, c21, c22, c23, c24, c25, c26, c27, c28, c29, c30, c31, c32, c33, c34, c35, u36, u37, u38, u39, u40, u41, u42, u43, u44, u45, u46, u47, u48, u49, u50, .bool false], df⟩ wx) :
    Code.wp Tryd.prog gv_no_code (AtEnd K) ⟨#[c0, .int .i64 (n : Nat), .int .i64 (M : Nat), .slice (some pd) pl cp, .pointer (some ⟨C, 0, none⟩), c5, c6, c7, c8, c9, .int .i64 (k : Nat), c11, c12, c13, c14, c15, c16, c17, c18, c19, c20, c21, c22, c23, c24, c25, c26, c27, c28, c29, c30, c31, c32, c33, c34, c35, c36, c37, c38, c39, c40, c41, c42, c43, c44, c45, c46, c47, c48, c49, c50, c51], df⟩ wr := by
  conv => arg 2; whnf
  refine region_inv (by kernel_rfl) [[], [], [0, 1], [2], [3], [4], [5], [5], [6, 7, 5], [8, 5], [9, 5], [5], [5], [11, 12, 5, 5], [10, 13, 5], [5, 14]] (by kernel_rfl) [0, 1, 2, 3, 4, 5, 6, 7, 8, 9, 10, 11, 12, 13, 14, 15] (by decide +kernel) (by decide +kernel) (by decide +kernel) (fun L a wc => Inv gv_no_dsts [.int .i64 (M : Nat), .int .i64 (k : Nat), .int .i64 ((M : Int) / 2 ^ k), .int .i64 (0 : Nat), .bool false, .bool false, undef, undef, undef, undef, undef, undef, undef, undef, undef, .bool false] ⟨#[c0, .int .i64 (n : Nat), .int .i64 (M : Nat), .slice (some pd) pl cp, .pointer (some ⟨C, 0, none⟩), c5, c6, c7, c8, c9, .int .i64 (k : Nat), c11, c12, c13, c14, c15, c16, c17, c18, c19, c20, c21, c22, c23, c24, c25, c26, c27, c28, c29, c30, c31, c32, c33, c34, c35, c36, c37, c38, c39, c40, c41, c42, c43, c44, c45, c46, c47, c48, c49, c50, c51], df⟩ L a ∧ Hid (Ext wr wc)) ⟨Inv.start, Lib.hid ((Ext.refl wr).drew)⟩ ?_ ?_
  · refine ⟨?_, ?_, ?_, ?_, ?_, ?_, ?_, ?_, ?_, ?_, ?_, ?_, ?_, ?_, ?_, ?_, trivial⟩
    ·
      rintro L a wc ⟨hv, HO⟩ hL hc hd
      exact wpOp_val rfl rfl (ex_move rfl ((hv.fixed 2 (by decide)).trans rfl)) ⟨hv.put gv_no_apart 0 rfl (lb rfl) (lb rfl) rfl, HO⟩
    ·
      rintro L a wc ⟨hv, HO⟩ hL hc hd
      exact wpOp_val rfl rfl (ex_move rfl ((hv.fixed 10 (by decide)).trans rfl)) ⟨hv.put gv_no_apart 1 rfl (lb rfl) (lb rfl) rfl, HO⟩
    ·
      rintro L a wc ⟨hv, HO⟩ hL hc hd
      have u0 : (0 : Int) ≤ (k : Int) := by omega
      have u1 : (k : Int) < 64 := by omega
      exact wpOp_val rfl rfl (ex_bin rfl (hv.get 0 rfl rfl (hd 0 (by decide))) (hv.get 1 rfl rfl (hd 1 (by decide))) (by go_simp)) ⟨hv.put gv_no_apart 2 rfl (lb rfl) (lb rfl) rfl, HO⟩
    ·
      rintro L a wc ⟨hv, HO⟩ hL hc hd
      have u := HBB.out
      exact wpOp_val rfl rfl (ex_bin rfl (hv.get 2 rfl rfl (hd 2 (by decide))) rfl (by go_simp)) ⟨hv.put gv_no_apart 3 rfl (lb rfl) (lb rfl) rfl, HO⟩
    ·
      rintro L a wc ⟨hv, HO⟩ hL hc hd
      exact wpOp_val rfl rfl (ex_bin rfl (hv.get 3 rfl rfl (hd 3 (by decide))) rfl (by go_simp)) ⟨hv.put gv_no_apart 4 rfl (lb rfl) (lb rfl) rfl, HO⟩
    ·
      rintro L a wc ⟨hv, HO⟩ hL hc hd
      exact wpOp_val rfl rfl (ex_move rfl (hv.get 4 rfl rfl (hd 4 (by decide)))) ⟨hv.put gv_no_apart 5 rfl (lb rfl) (lb rfl) rfl, HO⟩
    ·
      rintro L a wc ⟨hv, HO⟩ hL hc hd
      exact wpOp_off rfl ((wanted_at rfl rfl (hv.get 5 rfl rfl (hd 5 (by decide)))).trans rfl) ⟨hv.put gv_no_apart 6 rfl (lb rfl) (lb rfl) rfl, HO⟩
    ·
      rintro L a wc ⟨hv, HO⟩ hL hc hd
      exact wpOp_off rfl ((wanted_at rfl rfl (hv.get 5 rfl rfl (hd 5 (by decide)))).trans rfl) ⟨hv.put gv_no_apart 7 rfl (lb rfl) (lb rfl) rfl, HO⟩
    ·
      rintro L a wc ⟨hv, HO⟩ hL hc hd
      exact wpOp_off rfl ((wanted_at rfl rfl (hv.get 5 rfl rfl (hd 5 (by decide)))).trans rfl) ⟨hv.put gv_no_apart 8 rfl (lb rfl) (lb rfl) rfl, HO⟩
    ·
      rintro L a wc ⟨hv, HO⟩ hL hc hd
      exact wpOp_off rfl ((wanted_at rfl rfl (hv.get 5 rfl rfl (hd 5 (by decide)))).trans rfl) ⟨hv.put gv_no_apart 9 rfl (lb rfl) (lb rfl) rfl, HO⟩
    ·
      rintro L a wc ⟨hv, HO⟩ hL hc hd
      exact wpOp_off rfl ((wanted_at rfl rfl (hv.get 5 rfl rfl (hd 5 (by decide)))).trans rfl) ⟨hv.put gv_no_apart 10 rfl (lb rfl) (lb rfl) rfl, HO⟩
    ·
      rintro L a wc ⟨hv, HO⟩ hL hc hd
      exact wpOp_off rfl ((wanted_at rfl rfl (hv.get 5 rfl rfl (hd 5 (by decide)))).trans rfl) ⟨hv.put gv_no_apart 11 rfl (lb rfl) (lb rfl) rfl, HO⟩
    ·
      rintro L a wc ⟨hv, HO⟩ hL hc hd
      exact wpOp_off rfl ((wanted_at rfl rfl (hv.get 5 rfl rfl (hd 5 (by decide)))).trans rfl) ⟨hv.put gv_no_apart 12 rfl (lb rfl) (lb rfl) rfl, HO⟩
    ·
      rintro L a wc ⟨hv, HO⟩ hL hc hd
      exact wpOp_off rfl ((wanted_at rfl rfl (hv.get 5 rfl rfl (hd 5 (by decide)))).trans rfl) ⟨hv.put gv_no_apart 13 rfl (lb rfl) (lb rfl) rfl, HO⟩
    ·
      rintro L a wc ⟨hv, HO⟩ hL hc hd
      exact wpOp_off rfl ((wanted_at rfl rfl (hv.get 5 rfl rfl (hd 5 (by decide)))).trans rfl) ⟨hv.put gv_no_apart 14 rfl (lb rfl) (lb rfl) rfl, HO⟩
    ·
      rintro L a wc ⟨hv, HO⟩ hL hc hd
      exact wpOp_val rfl rfl (ex_pick rfl (hv.get 5 rfl rfl (hd 5 (by decide))) rfl) ⟨hv.put gv_no_apart 15 rfl (lb rfl) (lb rfl) rfl, HO⟩
  · rintro L a wc ⟨hv, HO⟩ hall
    show K a wc
    have ha := act_n rl52 hv.size hv.defers rfl
    simp +decide only [hv.fixed, hv.get 15 (d := 51) rfl rfl (hall 15 (by decide))] at ha
    rw [ha]
    exact hK _ _ _ _ _ _ _ _ _ _ _ _ _ _ _ wc HO.out
noncomputable def gv_same_code : Code := ((Tryd.f35.body.bind (regionOf 9)).getD .skip)
def gv_same_dsts : List (Option Nat) := [some 36, some 37, some 38, some 39, some 40, some 41, some 42, some 43, some 44, some 45, some 46, some 47, some 48, some 49, some 50, some 51]
theorem gv_same_apart : apartD gv_same_dsts = true := by decide +kernel
set_option maxRecDepth 1000000 in
set_option maxHeartbeats 16000000 in
theorem gv_same (wr : World) (C ng Gc n M k pl cp : Nat) (GA : Option Addr) (pd : Addr) (d gl : Int) (hk : k < pl) (hp24 : pl ≤ 24) (HBB : Hid (bits .and .i64 ((M : Int) / 2 ^ k) 1 = ((1 : Nat) : Int))) (p : List UInt8) (sz : Nat) (k0 : wr.cell? ⟨C, 0, none⟩ = some (.int .i64 d)) (k1 : wr.cell? ⟨C, 1, none⟩ = some (.slice GA ng Gc)) (k2 : wr.cell? ⟨C, 2, none⟩ = some (.int .i64 gl)) (hp : wr.cell? (pd.add k) = some (sv p)) (HC : Hid (∀ w1 : World, Ext wr w1 → Calls Tryd.prog 43 #[.agg #[.int .i64 d, .slice GA ng Gc, .int .i64 gl], .int .i64 (n : Nat)] w1 fun e w' => e = .returned (.int .i64 (sz : Nat)) ∧ Ext w1 w')) (hne : ((p.length : Int) != (sz : Int)) = false) (c0 c5 c6 c7 c8 c9 c11 c12 c13 c14 c15 c16 c17 c18 c19 c20 c21 c22 c23 c24 c25 c26 c27 c28 c29 c30 c31 c32 c33 c34 c35 c36 c37 c38 c39 c40 c41 c42 c43 c44 c45 c46 c47 c48 c49 c50 c51 : Value) (df : List Deferred) (K : Act → World → Prop)
    (hK : ∀  (u36 u37 u38 u39 u40 u41 u42 u43 u44 u45 u46 u47 u48 u49 u50 : Value) (wx : World), Ext wr wx → K ⟨#[c0, .int .i64 (n : Nat), .int .i64 (M : Nat), .slice (some pd) pl cp, .pointer (some ⟨C, 0, none⟩), c5, c6, c7, c8, c9, .int .i64 (k : Nat), c11, c12, c13, c14, c15, c16, c17, c18, c19, c20, c21, c22, c23, c24, c25, c26, c27, c28, c29, c30, c31, c32, c33, c34, c35, u36, u37, u38, u39, u40, u41, u42, u43, u44, u45, u46, u47, u48, u49, u50, .bool false], df⟩ wx) :
    Code.wp Tryd.prog gv_same_code (AtEnd K) ⟨#[c0, .int .i64 (n : Nat), .int .i64 (M : Nat), .slice (some pd) pl cp, .pointer (some ⟨C, 0, none⟩), c5, c6, c7, c8, c9, .int .i64 (k : Nat), c11, c12, c13, c14, c15, c16, c17, c18, c19, c20, c21, c22, c23, c24, c25, c26, c27, c28, c29, c30, c31, c32, c33, c34, c35, c36, c37, c38, c39, c40, c41, c42, c43, c44, c45, c46, c47, c48, c49, c50, c51], df⟩ wr := by
  conv => arg 2; whnf
  refine region_inv (by kernel_rfl) [[], [], [0, 1], [2], [3], [4], [5], [5], [6, 7, 5], [8, 5], [9, 5], [5], [5], [11, 12, 5, 5], [10, 13, 5], [5, 14]] (by kernel_rfl) [0, 1, 2, 3, 4, 5, 6, 7, 8, 9, 10, 11, 12, 13, 14, 15] (by decide +kernel) (by decide +kernel) (by decide +kernel) (fun L a wc => Inv gv_same_dsts [.int .i64 (M : Nat), .int .i64 (k : Nat), .int .i64 ((M : Int) / 2 ^ k), .int .i64 (1 : Nat), .bool true, .bool true, .slice (some pd) pl cp, .int .i64 (k : Nat), .pointer (some (pd.add k)), .string (sb p), .int .i64 (p.length : Nat), .agg #[.int .i64 d, .slice GA ng Gc, .int .i64 gl], .int .i64 (n : Nat), .int .i64 (sz : Nat), .bool false, .bool false] ⟨#[c0, .int .i64 (n : Nat), .int .i64 (M : Nat), .slice (some pd) pl cp, .pointer (some ⟨C, 0, none⟩), c5, c6, c7, c8, c9, .int .i64 (k : Nat), c11, c12, c13, c14, c15, c16, c17, c18, c19, c20, c21, c22, c23, c24, c25, c26, c27, c28, c29, c30, c31, c32, c33, c34, c35, c36, c37, c38, c39, c40, c41, c42, c43, c44, c45, c46, c47, c48, c49, c50, c51], df⟩ L a ∧ Hid (Ext wr wc)) ⟨Inv.start, Lib.hid ((Ext.refl wr).drew)⟩ ?_ ?_
  · refine ⟨?_, ?_, ?_, ?_, ?_, ?_, ?_, ?_, ?_, ?_, ?_, ?_, ?_, ?_, ?_, ?_, trivial⟩
    ·
      rintro L a wc ⟨hv, HO⟩ hL hc hd
      exact wpOp_val rfl rfl (ex_move rfl ((hv.fixed 2 (by decide)).trans rfl)) ⟨hv.put gv_same_apart 0 rfl (lb rfl) (lb rfl) rfl, HO⟩
    ·
      rintro L a wc ⟨hv, HO⟩ hL hc hd
      exact wpOp_val rfl rfl (ex_move rfl ((hv.fixed 10 (by decide)).trans rfl)) ⟨hv.put gv_same_apart 1 rfl (lb rfl) (lb rfl) rfl, HO⟩
    ·
      rintro L a wc ⟨hv, HO⟩ hL hc hd
      have u0 : (0 : Int) ≤ (k : Int) := by omega
      have u1 : (k : Int) < 64 := by omega
      exact wpOp_val rfl rfl (ex_bin rfl (hv.get 0 rfl rfl (hd 0 (by decide))) (hv.get 1 rfl rfl (hd 1 (by decide))) (by go_simp)) ⟨hv.put gv_same_apart 2 rfl (lb rfl) (lb rfl) rfl, HO⟩
    ·
      rintro L a wc ⟨hv, HO⟩ hL hc hd
      have u := HBB.out
      exact wpOp_val rfl rfl (ex_bin rfl (hv.get 2 rfl rfl (hd 2 (by decide))) rfl (by go_simp)) ⟨hv.put gv_same_apart 3 rfl (lb rfl) (lb rfl) rfl, HO⟩
    ·
      rintro L a wc ⟨hv, HO⟩ hL hc hd
      exact wpOp_val rfl rfl (ex_bin rfl (hv.get 3 rfl rfl (hd 3 (by decide))) rfl (by go_simp)) ⟨hv.put gv_same_apart 4 rfl (lb rfl) (lb rfl) rfl, HO⟩
    ·
      rintro L a wc ⟨hv, HO⟩ hL hc hd
      exact wpOp_val rfl rfl (ex_move rfl (hv.get 4 rfl rfl (hd 4 (by decide)))) ⟨hv.put gv_same_apart 5 rfl (lb rfl) (lb rfl) rfl, HO⟩
    ·
      rintro L a wc ⟨hv, HO⟩ hL hc hd
      exact wpOp_val rfl ((wanted_at rfl rfl (hv.get 5 rfl rfl (hd 5 (by decide)))).trans rfl) (ex_move rfl ((hv.fixed 3 (by decide)).trans rfl)) ⟨hv.put gv_same_apart 6 rfl (lb rfl) (lb rfl) rfl, HO⟩
    ·
      rintro L a wc ⟨hv, HO⟩ hL hc hd
      exact wpOp_val rfl ((wanted_at rfl rfl (hv.get 5 rfl rfl (hd 5 (by decide)))).trans rfl) (ex_move rfl ((hv.fixed 10 (by decide)).trans rfl)) ⟨hv.put gv_same_apart 7 rfl (lb rfl) (lb rfl) rfl, HO⟩
    ·
      rintro L a wc ⟨hv, HO⟩ hL hc hd
      have u1 : (0 : Int) ≤ (k : Int) := by omega
      have u2 : (k : Int) < (pl : Int) := by omega
      exact wpOp_val rfl ((wanted_at rfl rfl (hv.get 5 rfl rfl (hd 5 (by decide)))).trans rfl) (ex_index rfl (hv.get 6 rfl rfl (hd 6 (by decide))) (hv.get 7 rfl rfl (hd 7 (by decide))) (by go_simp)) ⟨hv.put gv_same_apart 8 rfl (lb rfl) (lb rfl) rfl, HO⟩
    ·
      rintro L a wc ⟨hv, HO⟩ hL hc hd
      have h0 : wc.cell? (pd.add k) = some (.string (sb p)) := HO.out.cell hp
      exact wpOp_val rfl ((wanted_at rfl rfl (hv.get 5 rfl rfl (hd 5 (by decide)))).trans rfl) (ex_load rfl (hv.get 8 rfl rfl (hd 8 (by decide))) (by go_simp)) ⟨hv.put gv_same_apart 9 rfl (lb rfl) (lb rfl) rfl, HO⟩
    ·
      rintro L a wc ⟨hv, HO⟩ hL hc hd
      exact wpOp_val rfl ((wanted_at rfl rfl (hv.get 5 rfl rfl (hd 5 (by decide)))).trans rfl) (ex_lens rfl Tryd.underlying9 (hv.get 9 rfl rfl (hd 9 (by decide))) (size_sb _)) ⟨hv.put gv_same_apart 10 rfl (lb rfl) (lb rfl) rfl, HO⟩
    ·
      rintro L a wc ⟨hv, HO⟩ hL hc hd
      have h0 : wc.cell? ⟨C, 0, none⟩ = some (.int .i64 d) := HO.out.cell k0
      have h1 : wc.cell? ⟨C, 1, none⟩ = some (.slice GA ng Gc) := HO.out.cell k1
      have h2 : wc.cell? ⟨C, 2, none⟩ = some (.int .i64 gl) := HO.out.cell k2
      exact wpOp_val rfl ((wanted_at rfl rfl (hv.get 5 rfl rfl (hd 5 (by decide)))).trans rfl) (ex_load rfl ((hv.fixed 4 (by decide)).trans rfl) (by go_simp)) ⟨hv.put gv_same_apart 11 rfl (lb rfl) (lb rfl) rfl, HO⟩
    ·
      rintro L a wc ⟨hv, HO⟩ hL hc hd
      exact wpOp_val rfl ((wanted_at rfl rfl (hv.get 5 rfl rfl (hd 5 (by decide)))).trans rfl) (ex_move rfl ((hv.fixed 1 (by decide)).trans rfl)) ⟨hv.put gv_same_apart 12 rfl (lb rfl) (lb rfl) rfl, HO⟩
    ·
      rintro L a wc ⟨hv, HO⟩ hL hc hd
      refine wpOp_callw (R := fun v w1 => v = .int .i64 (sz : Nat) ∧ Ext wc w1) rfl ((wanted_at rfl rfl (hv.get 5 rfl rfl (hd 5 (by decide)))).trans rfl) (ex_call rfl rfl (map2c (hv.get 11 rfl rfl (hd 11 (by decide))) (hv.get 12 rfl rfl (hd 12 (by decide)))) (enters_of Tryd.func43 (by kernel_rfl) rfl _ _)) ((HC.out wc HO.out).mono (fun e w' h => ⟨_, h.1, rfl, h.2⟩)) ?_
      rintro v w' ⟨rfl, hx⟩
      exact ⟨hv.put gv_same_apart 13 rfl (lb rfl) (lb rfl) rfl, Lib.hid (HO.out.trans hx)⟩
    ·
      rintro L a wc ⟨hv, HO⟩ hL hc hd
      have u := hne
      exact wpOp_val rfl ((wanted_at rfl rfl (hv.get 5 rfl rfl (hd 5 (by decide)))).trans rfl) (ex_bin rfl (hv.get 10 rfl rfl (hd 10 (by decide))) (hv.get 13 rfl rfl (hd 13 (by decide))) (by go_simp)) ⟨hv.put gv_same_apart 14 rfl (lb rfl) (lb rfl) rfl, HO⟩
    ·
      rintro L a wc ⟨hv, HO⟩ hL hc hd
      exact wpOp_val rfl rfl (ex_pick rfl (hv.get 5 rfl rfl (hd 5 (by decide))) (hv.get 14 rfl rfl (hd 14 (by decide)))) ⟨hv.put gv_same_apart 15 rfl (lb rfl) (lb rfl) rfl, HO⟩
  · rintro L a wc ⟨hv, HO⟩ hall
    show K a wc
    have ha := act_n rl52 hv.size hv.defers rfl
    simp +decide only [hv.fixed, hv.get 15 (d := 51) rfl rfl (hall 15 (by decide))] at ha
    rw [ha]
    exact hK _ _ _ _ _ _ _ _ _ _ _ _ _ _ _ wc HO.out
noncomputable def gv_other_code : Code := ((Tryd.f35.body.bind (regionOf 9)).getD .skip)
def gv_other_dsts : List (Option Nat) := [some 36, some 37, some 38, some 39, some 40, some 41, some 42, some 43, some 44, some 45, some 46, some 47, some 48, some 49, some 50, some 51]
theorem gv_other_apart : apartD gv_other_dsts = true := by decide +kernel
set_option maxRecDepth 1000000 in
set_option maxHeartbeats 16000000 in
theorem gv_other (wr : World) (C ng Gc n M k pl cp : Nat) (GA : Option Addr) (pd : Addr) (d gl : Int) (hk : k < pl) (hp24 : pl ≤ 24) (HBB : Hid (bits .and .i64 ((M : Int) / 2 ^ k) 1 = ((1 : Nat) : Int))) (p : List UInt8) (sz : Nat) (k0 : wr.cell? ⟨C, 0, none⟩ = some (.int .i64 d)) (k1 : wr.cell? ⟨C, 1, none⟩ = some (.slice GA ng Gc)) (k2 : wr.cell? ⟨C, 2, none⟩ = some (.int .i64 gl)) (hp : wr.cell? (pd.add k) = some (sv p)) (HC : Hid (∀ w1 : World, Ext wr w1 → Calls Tryd.prog 43 #[.agg #[.int .i64 d, .slice GA ng Gc, .int .i64 gl], .int .i64 (n : Nat)] w1 fun e w' => e = .returned (.int .i64 (sz : Nat)) ∧ Ext w1 w')) (hne : ((p.length : Int) != (sz : Int)) = true) (c0 c5 c6 c7 c8 c9 c11 c12 c13 c14 c15 c16 c17 c18 c19 c20 c21 c22 c23 c24 c25 c26 c27 c28 c29 c30 c31 c32 c33 c34 c35 c36 c37 c38 c39 c40 c41 c42 c43 c44 c45 c46 c47 c48 c49 c50 c51 : Value) (df : List Deferred) (K : Act → World → Prop)
    (hK : ∀  (u36 u37 u38 u39 u40 u41 u42 u43 u44 u45 u46 u47 u48 u49 u50 : Value) (wx : World), Ext wr wx → K ⟨#[c0, .int .i64 (n : Nat), .int .i64 (M : Nat), .slice (some pd) pl cp, .pointer (some ⟨C, 0, none⟩), c5, c6, c7, c8, c9, .int .i64 (k : Nat), c11, c12, c13, c14, c15, c16, c17, c18, c19, c20, c21, c22, c23, c24, c25, c26, c27, c28, c29, c30, c31, c32, c33, c34, c35, u36, u37, u38, u39, u40, u41, u42, u43, u44, u45, u46, u47, u48, u49, u50, .bool true], df⟩ wx) :
    Code.wp Tryd.prog gv_other_code (AtEnd K) ⟨#[c0, .int .i64 (n : Nat), .int .i64 (M : Nat), .slice (some pd) pl cp, .pointer (some ⟨C, 0, none⟩), c5, c6, c7, c8, c9, .int .i64 (k : Nat), c11, c12, c13, c14, c15, c16, c17, c18, c19, c20, c21, c22, c23, c24, c25, c26, c27, c28, c29, c30, c31, c32, c33, c34, c35, c36, c37, c38, c39, c40, c41, c42, c43, c44, c45, c46, c47, c48, c49, c50, c51], df⟩ wr := by
  conv => arg 2; whnf
  refine region_inv (by kernel_rfl) [[], [], [0, 1], [2], [3], [4], [5], [5], [6, 7, 5], [8, 5], [9, 5], [5], [5], [11, 12, 5, 5], [10, 13, 5], [5, 14]] (by kernel_rfl) [0, 1, 2, 3, 4, 5, 6, 7, 8, 9, 10, 11, 12, 13, 14, 15] (by decide +kernel) (by decide +kernel) (by decide +kernel) (fun L a wc => Inv gv_other_dsts [.int .i64 (M : Nat), .int .i64 (k : Nat), .int .i64 ((M : Int) / 2 ^ k), .int .i64 (1 : Nat), .bool true, .bool true, .slice (some pd) pl cp, .int .i64 (k : Nat), .pointer (some (pd.add k)), .string (sb p), .int .i64 (p.length : Nat), .agg #[.int .i64 d, .slice GA ng Gc, .int .i64 gl], .int .i64 (n : Nat), .int .i64 (sz : Nat), .bool true, .bool true] ⟨#[c0, .int .i64 (n : Nat), .int .i64 (M : Nat), .slice (some pd) pl cp, .pointer (some ⟨C, 0, none⟩), c5, c6, c7, c8, c9, .int .i64 (k : Nat), c11, c12, c13, c14, c15, c16, c17, c18, c19, c20, c21, c22, c23, c24, c25, c26, c27, c28, c29, c30, c31, c32, c33, c34, c35, c36, c37, c38, c39, c40, c41, c42, c43, c44, c45, c46, c47, c48, c49, c50, c51], df⟩ L a ∧ Hid (Ext wr wc)) ⟨Inv.start, Lib.hid ((Ext.refl wr).drew)⟩ ?_ ?_
  · refine ⟨?_, ?_, ?_, ?_, ?_, ?_, ?_, ?_, ?_, ?_, ?_, ?_, ?_, ?_, ?_, ?_, trivial⟩
    ·
      rintro L a wc ⟨hv, HO⟩ hL hc hd
      exact wpOp_val rfl rfl (ex_move rfl ((hv.fixed 2 (by decide)).trans rfl)) ⟨hv.put gv_other_apart 0 rfl (lb rfl) (lb rfl) rfl, HO⟩
    ·
      rintro L a wc ⟨hv, HO⟩ hL hc hd
      exact wpOp_val rfl rfl (ex_move rfl ((hv.fixed 10 (by decide)).trans rfl)) ⟨hv.put gv_other_apart 1 rfl (lb rfl) (lb rfl) rfl, HO⟩
    ·
      rintro L a wc ⟨hv, HO⟩ hL hc hd
      have u0 : (0 : Int) ≤ (k : Int) := by omega
      have u1 : (k : Int) < 64 := by omega
      exact wpOp_val rfl rfl (ex_bin rfl (hv.get 0 rfl rfl (hd 0 (by decide))) (hv.get 1 rfl rfl (hd 1 (by decide))) (by go_simp)) ⟨hv.put gv_other_apart 2 rfl (lb rfl) (lb rfl) rfl, HO⟩
    ·
      rintro L a wc ⟨hv, HO⟩ hL hc hd
      have u := HBB.out
      exact wpOp_val rfl rfl (ex_bin rfl (hv.get 2 rfl rfl (hd 2 (by decide))) rfl (by go_simp)) ⟨hv.put gv_other_apart 3 rfl (lb rfl) (lb rfl) rfl, HO⟩
    ·
      rintro L a wc ⟨hv, HO⟩ hL hc hd
      exact wpOp_val rfl rfl (ex_bin rfl (hv.get 3 rfl rfl (hd 3 (by decide))) rfl (by go_simp)) ⟨hv.put gv_other_apart 4 rfl (lb rfl) (lb rfl) rfl, HO⟩
    ·
      rintro L a wc ⟨hv, HO⟩ hL hc hd
      exact wpOp_val rfl rfl (ex_move rfl (hv.get 4 rfl rfl (hd 4 (by decide)))) ⟨hv.put gv_other_apart 5 rfl (lb rfl) (lb rfl) rfl, HO⟩
    ·
      rintro L a wc ⟨hv, HO⟩ hL hc hd
      exact wpOp_val rfl ((wanted_at rfl rfl (hv.get 5 rfl rfl (hd 5 (by decide)))).trans rfl) (ex_move rfl ((hv.fixed 3 (by decide)).trans rfl)) ⟨hv.put gv_other_apart 6 rfl (lb rfl) (lb rfl) rfl, HO⟩
    ·
      rintro L a wc ⟨hv, HO⟩ hL hc hd
      exact wpOp_val rfl ((wanted_at rfl rfl (hv.get 5 rfl rfl (hd 5 (by decide)))).trans rfl) (ex_move rfl ((hv.fixed 10 (by decide)).trans rfl)) ⟨hv.put gv_other_apart 7 rfl (lb rfl) (lb rfl) rfl, HO⟩
    ·
      rintro L a wc ⟨hv, HO⟩ hL hc hd
      have u1 : (0 : Int) ≤ (k : Int) := by omega
      have u2 : (k : Int) < (pl : Int) := by omega
      exact wpOp_val rfl ((wanted_at rfl rfl (hv.get 5 rfl rfl (hd 5 (by decide)))).trans rfl) (ex_index rfl (hv.get 6 rfl rfl (hd 6 (by decide))) (hv.get 7 rfl rfl (hd 7 (by decide))) (by go_simp)) ⟨hv.put gv_other_apart 8 rfl (lb rfl) (lb rfl) rfl, HO⟩
    ·
      rintro L a wc ⟨hv, HO⟩ hL hc hd
      have h0 : wc.cell? (pd.add k) = some (.string (sb p)) := HO.out.cell hp
      exact wpOp_val rfl ((wanted_at rfl rfl (hv.get 5 rfl rfl (hd 5 (by decide)))).trans rfl) (ex_load rfl (hv.get 8 rfl rfl (hd 8 (by decide))) (by go_simp)) ⟨hv.put gv_other_apart 9 rfl (lb rfl) (lb rfl) rfl, HO⟩
    ·
      rintro L a wc ⟨hv, HO⟩ hL hc hd
      exact wpOp_val rfl ((wanted_at rfl rfl (hv.get 5 rfl rfl (hd 5 (by decide)))).trans rfl) (ex_lens rfl Tryd.underlying9 (hv.get 9 rfl rfl (hd 9 (by decide))) (size_sb _)) ⟨hv.put gv_other_apart 10 rfl (lb rfl) (lb rfl) rfl, HO⟩
    ·
      rintro L a wc ⟨hv, HO⟩ hL hc hd
      have h0 : wc.cell? ⟨C, 0, none⟩ = some (.int .i64 d) := HO.out.cell k0
      have h1 : wc.cell? ⟨C, 1, none⟩ = some (.slice GA ng Gc) := HO.out.cell k1
      have h2 : wc.cell? ⟨C, 2, none⟩ = some (.int .i64 gl) := HO.out.cell k2
      exact wpOp_val rfl ((wanted_at rfl rfl (hv.get 5 rfl rfl (hd 5 (by decide)))).trans rfl) (ex_load rfl ((hv.fixed 4 (by decide)).trans rfl) (by go_simp)) ⟨hv.put gv_other_apart 11 rfl (lb rfl) (lb rfl) rfl, HO⟩
    ·
      rintro L a wc ⟨hv, HO⟩ hL hc hd
      exact wpOp_val rfl ((wanted_at rfl rfl (hv.get 5 rfl rfl (hd 5 (by decide)))).trans rfl) (ex_move rfl ((hv.fixed 1 (by decide)).trans rfl)) ⟨hv.put gv_other_apart 12 rfl (lb rfl) (lb rfl) rfl, HO⟩
    ·
      rintro L a wc ⟨hv, HO⟩ hL hc hd
      refine wpOp_callw (R := fun v w1 => v = .int .i64 (sz : Nat) ∧ Ext wc w1) rfl ((wanted_at rfl rfl (hv.get 5 rfl rfl (hd 5 (by decide)))).trans rfl) (ex_call rfl rfl (map2c (hv.get 11 rfl rfl (hd 11 (by decide))) (hv.get 12 rfl rfl (hd 12 (by decide)))) (enters_of Tryd.func43 (by kernel_rfl) rfl _ _)) ((HC.out wc HO.out).mono (fun e w' h => ⟨_, h.1, rfl, h.2⟩)) ?_
      rintro v w' ⟨rfl, hx⟩
      exact ⟨hv.put gv_other_apart 13 rfl (lb rfl) (lb rfl) rfl, Lib.hid (HO.out.trans hx)⟩
    ·
      rintro L a wc ⟨hv, HO⟩ hL hc hd
      have u := hne
      exact wpOp_val rfl ((wanted_at rfl rfl (hv.get 5 rfl rfl (hd 5 (by decide)))).trans rfl) (ex_bin rfl (hv.get 10 rfl rfl (hd 10 (by decide))) (hv.get 13 rfl rfl (hd 13 (by decide))) (by go_simp)) ⟨hv.put gv_other_apart 14 rfl (lb rfl) (lb rfl) rfl, HO⟩
    ·
      rintro L a wc ⟨hv, HO⟩ hL hc hd
      exact wpOp_val rfl rfl (ex_pick rfl (hv.get 5 rfl rfl (hd 5 (by decide))) (hv.get 14 rfl rfl (hd 14 (by decide)))) ⟨hv.put gv_other_apart 15 rfl (lb rfl) (lb rfl) rfl, HO⟩
  · rintro L a wc ⟨hv, HO⟩ hall
    show K a wc
    have ha := act_n rl52 hv.size hv.defers rfl
    simp +decide only [hv.fixed, hv.get 15 (d := 51) rfl rfl (hall 15 (by decide))] at ha
    rw [ha]
    exact hK _ _ _ _ _ _ _ _ _ _ _ _ _ _ _ wc HO.out
set_option maxHeartbeats 8000000 in
set_option maxRecDepth 100000 in
theorem r9Given_any (d gl n m : Int) (gs : List (List Int)) (pieces : List (List UInt8)) (G : Value) (PA : Option Addr) (cp : Nat) (w : World) (hG : Rs (Rs RI) w G gs) (hP : Rs RS w (.slice PA pieces.length cp) pieces) (hgn : gs.length ≤ 1000000) :
    Calls Tryd.prog 35 #[.agg #[.int .i64 d, G, .int .i64 gl], .int .i64 n, .int .i64 m, .slice PA pieces.length cp] w fun e w' => e = .returned (.int .i64 (Lo.givE d gl gs n m pieces)) ∧ Ext w w' := by
  have HGN := Lib.hid hgn
  clear hgn
  obtain ⟨GA, Gc, rfl, _⟩ := hG.form
  obtain ⟨ng, hng⟩ : ∃ ng, gs.length = ng := ⟨_, rfl⟩
  rw [hng] at hG ⊢
  have hB : Owns w (w.alloc (.cells #[.int .i64 d, .slice GA ng Gc, .int .i64 gl] 24)) [⟨.slice (some ⟨w.heap.size, 0, none⟩) 3 3, 24, 1, 3, [.int .i64 d, .slice GA ng Gc, .int .i64 gl]⟩] := (Owns.start w (L := [no]) (by intro r hr; simp at hr; subst hr; exact ⟨rfl, rfl, rfl⟩)).new 0 #[.int .i64 d, .slice GA ng Gc, .int .i64 gl] 24 (by simp [maxLen])
  have HG := Lib.hid hG
  have HB := Lib.hid hB
  clear hG hB hng
  have HP := Lib.hid (Rs.ext RS.ext _ _ _ _ HB.out.ext hP)
  clear hP
  obtain ⟨pl, hpl⟩ : ∃ pl, pieces.length = pl := ⟨_, rfl⟩
  rw [hpl] at HP ⊢
  have HPL := Lib.hid hpl
  clear hpl
  go_enter Tryd.func35, Tryd.ntmps35
  go_upto_region 1 with fail
  obtain ⟨C, hC⟩ : ∃ C, w.heap.size = C := ⟨_, rfl⟩
  rw [hC] at HB ⊢
  obtain ⟨w1, hw1⟩ : ∃ x, w.alloc (.cells #[.int .i64 d, .slice GA ng Gc, .int .i64 gl] 24) = x := ⟨_, rfl⟩
  rw [hw1] at HB HP ⊢
  clear hw1 hC
  have b0 : w1.cell? ⟨C, 0, none⟩ = some (.int .i64 d) := HB.out.cell 0 rfl 0 rfl
  have b1 : w1.cell? ⟨C, 1, none⟩ = some (.slice GA ng Gc) := HB.out.cell 0 rfl 1 rfl
  have b2 : w1.cell? ⟨C, 2, none⟩ = some (.int .i64 gl) := HB.out.cell 0 rfl 2 rfl
  have HCK := Lib.hid (r9Set_any d gl gs m _ w1 (Rs.ext (Rs.ext RI.ext) _ _ _ _ HB.out.ext HG.out) HGN.out)
  go_wp2_with fail
  refine HCK.out.mono ?_
  clear HCK
  rintro e w2 ⟨rfl, hx2⟩
  have HB2 := Lib.hid (HB.out.next hx2)
  have HP2 := Lib.hid (Rs.ext RS.ext _ _ _ _ hx2 HP.out)
  clear hx2 b0 b1 b2 HP
  obtain ⟨er, her⟩ : ∃ er, Lo.chkE d gl gs m = er := ⟨_, rfl⟩
  rw [her]
  have HER := Lib.hid her
  clear her
  by_cases h0 : er = 0
  case neg =>
    have hne : (er == 0) = false := by rw [beq_eq_false_iff_ne]; exact h0
    have hne2 : (er != 0) = true := by rw [bne_iff_ne]; exact h0
    have hr := Lo.givE_chk (n := n) (pieces := pieces) (show Lo.chkE d gl gs m ≠ 0 by rw [HER.out]; exact h0)
    rw [HER.out] at hr
    have HR := Lib.hid hr
    clear hr h0
    go_wp2_with fail
    go_ret
    exact ⟨by rw [HR.out]; rfl, HB2.out.ext⟩
  case pos =>
    subst h0
    obtain ⟨hck, hm0, hm1⟩ := Lo.chkE_ok HER.out
    obtain ⟨M, rfl⟩ : ∃ M : Nat, m = M := ⟨m.toNat, by omega⟩
    have hm2 : M < 2 ^ (Cd.rowsOf d gs gl).length := by omega
    have hpn : Cd.pieces d gs gl = ((Cd.rowsOf d gs gl).length : Int) := by rw [Cd.pieces_ok hck, ← Cd.rowsOf_len hck]
    have hn24 : (Cd.rowsOf d gs gl).length ≤ 24 := by have h1 := Cd.rowsOf_len hck; have h2 := Cd.check_ok hck; omega
    have HCH := Lib.hid hck
    clear hck hm0 hm1
    by_cases hn0 : n < 0
    · have hr := Lo.givE_arg (pieces := pieces) HER.out (Or.inl hn0)
      have HR := Lib.hid hr
      clear hr hpn
      go_wp2_with fail
      go_ret
      exact ⟨by rw [HR.out]; rfl, HB2.out.ext⟩
    · by_cases hn4 : 4096 < n
      · have hr := Lo.givE_arg (pieces := pieces) HER.out (Or.inr (Or.inl hn4))
        have HR := Lib.hid hr
        clear hr hpn
        go_wp2_with fail
        go_ret
        exact ⟨by rw [HR.out]; rfl, HB2.out.ext⟩
      · obtain ⟨L, hL⟩ : ∃ L, (Cd.rowsOf d gs gl).length = L := ⟨_, rfl⟩
        have hpc := rPieces_any d gl gs _ w2 (Rs.ext (Rs.ext RI.ext) _ _ _ _ HB2.out.ext HG.out) HGN.out
        rw [hpn, hL] at hpc
        rw [hL] at hn24 hm2
        have HPC := Lib.hid hpc
        have HL := Lib.hid (And.intro hL hm2)
        obtain ⟨N, rfl⟩ : ∃ N : Nat, n = N := ⟨n.toNat, by omega⟩
        have hk := Cd.check_ok HCH.out
        obtain ⟨D, rfl⟩ : ∃ k : Nat, d = k := ⟨d.toNat, by omega⟩
        obtain ⟨g, rfl⟩ : ∃ k : Nat, gl = k := ⟨gl.toNat, by omega⟩
        have hso := Cd.sizeOf_nat (d := D) (gl := g) (gs := gs) (n := N) (by omega) HCH.out
        obtain ⟨sz, hsz⟩ : ∃ sz, Cd.sizeN D N = sz := ⟨_, rfl⟩
        rw [hsz] at hso
        have HSO := Lib.hid hso
        have HSZ := Lib.hid hsz
        have hm24 : M < 16777216 := Nat.lt_of_lt_of_le hm2 (Nat.pow_le_pow_right (by decide) hn24)
        have b0 : w2.cell? ⟨C, 0, none⟩ = some (.int .i64 D) := HB2.out.cell 0 rfl 0 rfl
        have b1 : w2.cell? ⟨C, 1, none⟩ = some (.slice GA ng Gc) := HB2.out.cell 0 rfl 1 rfl
        have b2 : w2.cell? ⟨C, 2, none⟩ = some (.int .i64 g) := HB2.out.cell 0 rfl 2 rfl
        clear hpc hpn hL hm2 hk hso hsz
        go_wp2_with fail
        refine HPC.out.mono ?_
        clear HPC
        rintro e w3 ⟨rfl, hx3⟩
        have HB3 := Lib.hid (HB2.out.next hx3)
        have HP3 := Lib.hid (Rs.ext RS.ext _ _ _ _ hx3 HP2.out)
        clear hx3 b0 b1 b2 HP2
        by_cases hpe : pl = L
        case neg =>
          have e3 : ((pl : Int) != (L : Int)) = true := by rw [bne_iff_ne]; omega
          have hr := Lo.givE_arg (n := (N : Int)) (pieces := pieces) HER.out (Or.inr (Or.inr (by rw [HPL.out, HL.out.1]; exact hpe)))
          have HR := Lib.hid hr
          clear hr
          go_wp2_with fail
          go_ret
          exact ⟨by rw [HR.out]; rfl, HB3.out.ext⟩
        case pos =>
          subst hpe
          have e3 : ((pl : Int) != (pl : Int)) = false := by simp
          go_wp2_with fail
          go_loopw [10] (fun vk wr => ∃ k : Nat, k ≤ pl ∧ vk = .int .i64 k ∧ Hid (Ext w3 wr ∧ ∀ j, j < k → Cd.bitAt M j = 1 → (pieces.getD j []).length = sz)) (fun vk _ => pl - (intOf vk).toNat)
          case atStart => exact ⟨0, Nat.zero_le _, rfl, Ext.refl _, fun j hj => absurd hj (by omega)⟩
          case round =>
            obtain ⟨k, hk2, rfl, HI⟩ := hrel
            have HP4 := Lib.hid (Rs.ext RS.ext _ _ _ _ HI.out.1 HP3.out)
            have HB4 := Lib.hid (HB3.out.next HI.out.1)
            by_cases hlt : k < pl
            · obtain ⟨pd, u, rfl, hpc, hu⟩ := HP4.out.at (i := k) (by rw [HPL.out]; exact hlt)
              have hu' : u = sv (pieces[k]'(by rw [HPL.out]; exact hlt)) := hu
              subst hu'
              have hgp : pieces.getD k [] = pieces[k]'(by rw [HPL.out]; exact hlt) := by rw [List.getD_eq_getElem?_getD, List.getElem?_eq_getElem (by rw [HPL.out]; exact hlt)]; rfl
              have hmm : bits .and .i64 ((M : Int) / 2 ^ k) 1 = ((Cd.bitAt M k : Nat) : Int) := by
                have hle : M / 2 ^ k ≤ M := Nat.div_le_self _ _
                have := odd64 (M / 2 ^ k) (by omega)
                rw [Cd.bitAt, ← this]
                simp
              obtain ⟨p, hp⟩ : ∃ p, pieces[k]'(by rw [HPL.out]; exact hlt) = p := ⟨_, rfl⟩
              rw [hp] at hpc hgp
              have HGP := Lib.hid hgp
              clear hgp hp hu
              by_cases hb : Cd.bitAt M k = 1
              · have HBT := Lib.hid hb
                rw [hb] at hmm
                have HMM := Lib.hid hmm
                have HCS : Hid (∀ w1 : World, Ext wr w1 → Calls Tryd.prog 43 #[.agg #[.int .i64 D, .slice GA ng Gc, .int .i64 g], .int .i64 (N : Nat)] w1 fun e w' => e = .returned (.int .i64 (sz : Nat)) ∧ Ext w1 w') := Lib.hid fun w' h => by
                  have hcs := rSize_any D g N gs _ w' (Rs.ext (Rs.ext RI.ext) _ _ _ _ (HB4.out.ext.trans h) HG.out) HGN.out
                  rw [HSO.out] at hcs
                  exact hcs
                have b0 : wr.cell? ⟨C, 0, none⟩ = some (.int .i64 D) := HB4.out.cell 0 rfl 0 rfl
                have b1 : wr.cell? ⟨C, 1, none⟩ = some (.slice GA ng Gc) := HB4.out.cell 0 rfl 1 rfl
                have b2 : wr.cell? ⟨C, 2, none⟩ = some (.int .i64 g) := HB4.out.cell 0 rfl 2 rfl
                clear hb hmm
                by_cases hps : p.length = sz
                · have e5 : ((p.length : Int) != (sz : Int)) = false := by rw [hps]; simp
                  have HPS := Lib.hid hps
                  clear hps
                  go_upto_region 9 with fail
                  refine wp_atEnd' (gv_same wr C ng Gc N M k pl cp GA pd D g hlt hn24 HMM p sz b0 b1 b2 hpc HCS e5 _ _ _ _ _ _ _ _ _ _ _ _ _ _ _ _ _ _ _ _ _ _ _ _ _ _ _ _ _ _ _ _ _ _ _ _ _ _ _ _ _ _ _ _ _ _ _ _ _ ?_)
                  rintro u36 u37 u38 u39 u40 u41 u42 u43 u44 u45 u46 u47 u48 u49 u50 w5 hx
                  have HX5 := Lib.hid hx
                  clear hx b0 b1 b2 hpc HCS e5
                  go_wp2_with fail
                  go_roundw
                  case rel => exact ⟨k + 1, by omega, by go_num, HI.out.1.trans HX5.out, fun j hj hbj => by
                    by_cases hjk : j = k
                    · rw [hjk, HGP.out, HPS.out]
                    · exact HI.out.2 j (by omega) hbj⟩
                  case measure => simp [intOf]; omega
                · have e5 : ((p.length : Int) != (sz : Int)) = true := by rw [bne_iff_ne]; omega
                  have hbl : Cd.badLen (Cd.sizeN ((D : Int)).toNat ((N : Int)).toNat) ((M : Int)).toNat pieces = true := by
                    rw [Int.toNat_natCast, Int.toNat_natCast, Int.toNat_natCast, Cd.badLen_iff]
                    exact ⟨k, by rw [HPL.out]; exact hlt, HBT.out, by rw [HGP.out, HSZ.out]; exact hps⟩
                  have HR := Lib.hid (Lo.givE_len HER.out hbl)
                  clear hps hbl
                  go_upto_region 9 with fail
                  refine wp_atEnd' (gv_other wr C ng Gc N M k pl cp GA pd D g hlt hn24 HMM p sz b0 b1 b2 hpc HCS e5 _ _ _ _ _ _ _ _ _ _ _ _ _ _ _ _ _ _ _ _ _ _ _ _ _ _ _ _ _ _ _ _ _ _ _ _ _ _ _ _ _ _ _ _ _ _ _ _ _ ?_)
                  rintro u36 u37 u38 u39 u40 u41 u42 u43 u44 u45 u46 u47 u48 u49 u50 w5 hx
                  have HX5 := Lib.hid hx
                  clear hx b0 b1 b2 hpc HCS e5
                  go_wp2_with fail
                  go_ret
                  exact ⟨by rw [HR.out]; rfl, HB4.out.ext.trans HX5.out⟩
              · have hb0 : Cd.bitAt M k = 0 := by have := Lo.bit_two M k; omega
                rw [hb0] at hmm
                have HMM := Lib.hid hmm
                have HBT := Lib.hid hb
                clear hb hb0 hmm hpc
                go_upto_region 9 with fail
                refine wp_atEnd' (gv_no wr C N M k pl cp pd hlt hn24 HMM _ _ _ _ _ _ _ _ _ _ _ _ _ _ _ _ _ _ _ _ _ _ _ _ _ _ _ _ _ _ _ _ _ _ _ _ _ _ _ _ _ _ _ _ _ _ _ _ _ ?_)
                rintro u36 u37 u38 u39 u40 u41 u42 u43 u44 u45 u46 u47 u48 u49 u50 w5 hx
                have HX5 := Lib.hid hx
                clear hx
                go_wp2_with fail
                go_roundw
                case rel => exact ⟨k + 1, by omega, by go_num, HI.out.1.trans HX5.out, fun j hj hbj => by
                  by_cases hjk : j = k
                  · rw [hjk] at hbj; exact absurd hbj HBT.out
                  · exact HI.out.2 j (by omega) hbj⟩
                case measure => simp [intOf]; omega
            · obtain rfl : k = pl := by omega
              have hbl : Cd.badLen (Cd.sizeN ((D : Int)).toNat ((N : Int)).toNat) ((M : Int)).toNat pieces = false := by
                rw [Int.toNat_natCast, Int.toNat_natCast, Int.toNat_natCast, ← Bool.not_eq_true, Cd.badLen_iff]
                rintro ⟨j, h1, h2, h3⟩
                rw [HSZ.out] at h3
                exact h3 (HI.out.2 j (by rw [← HPL.out]; exact h1) h2)
              have HR := Lib.hid (Lo.givE_fine HER.out (by rw [HPL.out, HL.out.1]; omega) hbl)
              clear hbl
              go_wp2_with fail
              go_ret
              exact ⟨by rw [HR.out]; rfl, HB4.out.ext⟩
end Go.Proofs.YtggfkpalkdkbdaaDoor
