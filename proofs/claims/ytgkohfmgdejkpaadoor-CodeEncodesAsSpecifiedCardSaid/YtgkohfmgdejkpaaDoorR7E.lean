/- THE WALKS over the specification of codes: Encode. -/
import Derived.Test.YtgkohfmgdejkpaaDoorR7D
namespace Go.Proofs.YtgkohfmgdejkpaaDoor
open Go.RowKit
/-- The variable of Encode's result. -/
def listedRow (g : Nat) (v e : Value) : LRow := ⟨.slice (some ⟨g, 0, none⟩) 2 2, 36, 1, 2, [v, e]⟩
theorem rs_of_owns {w0 w : World} {L : List LRow} (h : Owns w0 w L) (i : Nat) {A : Option Addr} {n c e : Nat} {l : List (List UInt8)} (hi : L[i]? = some ⟨.slice A n c, e, 1, n, l.map sv⟩) (hl : l.length ≤ 9223372036854775807) : Rs RS w (.slice A n c) l := by
  have h1 := (h.row i hi).1
  have hn : n = l.length := by simp at h1; omega
  subst hn
  exact Rs.of_rdS (h.rd i hi) hl
set_option maxRecDepth 100000 in
set_option maxHeartbeats 8000000 in
theorem rEncode_ok (d gl : Nat) (gs : List (List Int)) (data : List UInt8) (G : Value) (w : World) (hG : Rs (Rs RI) w G gs) (h0 : Cd.check d gs gl = 0) (hb : data.length ≤ 4096) :
    Calls Tryd.prog 11 #[.agg #[.int .i64 d, G, .int .i64 gl], .string (sb data)] w fun e w' => ∃ v, e = .returned (.agg #[v, .int .i64 0]) ∧ Rs RS w' v (Cd.encode d gl gs data) ∧ Ext w w' := by
  have hx0 := (Ext.refl w).alloc (.cells #[.int .i64 d, G, .int .i64 gl] 24)
  have hk := Cd.check_ok h0
  have HX := Lib.hid (And.intro hx0 (Rs.ext (Rs.ext RI.ext) _ _ _ _ hx0 hG))
  obtain ⟨GA, Gc, rfl, _⟩ := hG.form
  obtain ⟨k1, k2, k3, k4, k5, k6⟩ := hk
  have hsz := Cd.size_le (d := d) (by omega) data.length
  obtain ⟨sz, hsze⟩ : ∃ sz, Cd.sizeN d data.length = sz := ⟨_, rfl⟩
  have hso := Cd.sizeOf_nat (d := d) (gl := gl) (gs := gs) hb h0
  have hcut : ∀ i, i < d → Cd.partR data i sz = (Cd.cuts d data).getD i [] := fun i hi => by rw [← hsze]; exact Cd.partR_cut (by omega) hi
  rw [hsze] at hsz hso
  obtain ⟨p, hp⟩ : ∃ p, d + gs.length + gl = p := ⟨_, rfl⟩
  have hpc : Cd.pieces d gs gl = (p : Int) := by rw [Cd.pieces_ok h0]; omega
  obtain ⟨parts, hparts⟩ : ∃ parts, Cd.cuts d data = parts := ⟨_, rfl⟩
  have hpl : parts.length = d := by rw [← hparts, Cd.cuts_len]
  have hps : ∀ q ∈ parts, q.length ≤ 1000000 := fun q hq => by
    rw [← hparts] at hq
    have h1 := Cd.cuts_all (by omega) data hq
    omega
  have hrow : ∀ k, k < p → (Cd.rowsOf d gs gl).getD k [] = (List.range d).map (Cd.rowAt d gs k) := fun k hk => by
    rw [Cd.rowsOf_ok h0]
    exact Cd.rows_get (by show k < d + gs.length + gl; rw [hp]; exact hk)
  have hrl : (Cd.rowsOf (d : Int) gs (gl : Int)).length = p := by rw [Cd.rowsOf_ok h0, Cd.rows_len, ← hp]; rfl
  obtain ⟨R, hR⟩ : ∃ R, Cd.rowsOf (d : Int) gs (gl : Int) = R := ⟨_, rfl⟩
  have henc : Cd.encode (d : Int) (gl : Int) gs data = Cd.encRows R parts := by rw [Cd.encode, hR, Int.toNat_natCast, hparts]
  rw [hparts] at hcut
  rw [hR] at hrow hrl
  have hp24 : p ≤ 24 := by omega
  have hd16 : d ≤ 16 := by omega
  have hgn : gs.length ≤ 1000000 := by omega
  have e1 : (Cd.check d gs gl != 0) = false := by rw [h0]; rfl
  have HC := Lib.hid (And.intro h0 (And.intro hso (And.intro hpc hp)))
  have HP := Lib.hid (And.intro hcut (And.intro hpl (And.intro hps (And.intro hrow (And.intro hrl henc)))))
  have hst := (Owns.start (w.alloc (.cells #[.int .i64 d, .slice GA gs.length Gc, .int .i64 gl] 24)) (L := [no, nilRow 9, no]) (by intro r hr; simp [no, nilRow] at hr; rcases hr with rfl | rfl | rfl <;> simp)).new 0 #[.slice none 0 0, .int .i64 0] 36 (by simp [maxLen])
  have HST := Lib.hid hst
  clear hG hx0 h0 hsze hso hcut hpc hp hparts hpl hps hrow hrl hR henc hst k1 k3 k4 k5 k6
  go_enter Tryd.func11, Tryd.ntmps11
  go_wp2_with fail
  refine (rCheck_any d gl gs _ _ (Rs.ext (Rs.ext RI.ext) _ _ _ _ ((Ext.refl _).alloc _) HX.out.2) hgn).mono ?_
  rintro e w1 ⟨rfl, hx1⟩
  have HO1 := Lib.hid (HST.out.next hx1)
  clear hx1
  go_wp2_with fail
  go_loopw [6, 7] (fun vo vi wr => ∃ (i cp : Nat) (A : Option Addr), i ≤ d ∧ vi = .int .i64 i ∧ vo = .slice A i cp ∧ Hid (Owns (w.alloc (.cells #[.int .i64 d, .slice GA gs.length Gc, .int .i64 gl] 24)) wr [listedRow (w.heap.size + 1) (.slice none 0 0) (.int .i64 0), ⟨.slice A i cp, 9, 1, i, (parts.take i).map sv⟩, no])) (fun _ vi _ => d - (intOf vi).toNat)
  case atStart => exact ⟨0, 0, none, Nat.zero_le _, rfl, rfl, Lib.hid (by simpa [listedRow, nilRow] using HO1.out)⟩
  case round =>
    obtain ⟨i, cp, A, hi, rfl, rfl, HI⟩ := hrel
    have hc0 : wr.cell? ⟨w.heap.size, 0, none⟩ = some (.int .i64 d) := HI.out.ext.cell (by go_simp)
    have hc1 : wr.cell? ⟨w.heap.size, 1, none⟩ = some (.slice GA gs.length Gc) := HI.out.ext.cell (by go_simp)
    have hc2 : wr.cell? ⟨w.heap.size, 2, none⟩ = some (.int .i64 gl) := HI.out.ext.cell (by go_simp)
    by_cases hlt : i < d
    · go_wp2_with fail
      refine (rSize_any d gl data.length gs _ _ (Rs.ext (Rs.ext RI.ext) _ _ _ _ HI.out.ext HX.out.2) hgn).mono ?_
      rintro e w2 ⟨rfl, hx2⟩
      rw [HC.out.2.1]
      have HX2 := Lib.hid hx2
      clear hx2 hc0 hc1 hc2
      go_wp2_with fail
      refine (rPart_any data i sz _ (by omega) (by omega) (by omega)).mono ?_
      rintro e w3 ⟨rfl, hx3⟩
      have HI3 := Lib.hid (HI.out.next (HX2.out.trans hx3))
      have htk : (parts.take (i + 1)).map sv = (parts.take i).map sv ++ [sv (Cd.partR data i sz)] := by
        have hil : i < parts.length := by rw [HP.out.2.1]; exact hlt
        rw [HP.out.1 i hlt, getD_get hil, List.take_succ_eq_append_getElem hil, List.map_append]; rfl
      obtain ⟨ct, hct⟩ : ∃ ct, Cd.partR data i sz = ct := ⟨_, rfl⟩
      rw [hct] at htk ⊢
      have HTK := Lib.hid htk
      clear hx3 htk hct
      go_wp2_with (have hB := HI3.out.new 2 #[sv ct] 9 (by simp [maxLen]); refine wpl_append_owns (u := sv ct) 32 9 rfl (.tmp 26) (.tmp 34) rfl Tryd.underlying32 info_str rfl hB 1 rfl rfl rfl (hB.cell 2 rfl 0 rfl) rfl (by omega) (by decide) ?_; clear hB; intro g8 c8 w8 hO8 _)
      have HO8 := Lib.hid (hO8.drop 2)
      clear hO8
      go_wp2_with fail
      go_roundw
      case rel => exact ⟨i + 1, c8, _, by omega, by go_num, rfl, Lib.hid (by rw [HTK.out]; exact HO8.out)⟩
      case measure => simp [intOf]; omega
    · obtain rfl : i = d := by omega
      have htk : parts.take i = parts := by rw [← HP.out.2.1, List.take_length]
      have hO5 := HI.out
      rw [htk] at hO5
      have hO6 := hO5.wider.put 2 (nilRow 9) hO5.ext (nilRow_ok _ _ _) (fun _ _ _ _ _ _ => rfl) (fun _ _ _ _ => .inl rfl)
      have HO6 := Lib.hid hO6
      clear htk hO5 hO6
      go_wp2_with fail
      clear hc0 hc1 hc2
      go_loopw [8, 9] (fun vo vk wr => ∃ (k co : Nat) (O : Option Addr), k ≤ p ∧ vk = .int .i64 k ∧ vo = .slice O k co ∧ Hid (Owns (w.alloc (.cells #[.int .i64 i, .slice GA gs.length Gc, .int .i64 gl] 24)) wr [listedRow (w.heap.size + 1) (.slice none 0 0) (.int .i64 0), ⟨.slice A i cp, 9, 1, i, parts.map sv⟩, ⟨.slice O k co, 9, 1, k, (Cd.encRows (R.take k) parts).map sv⟩, no])) (fun _ vk _ => p - (intOf vk).toNat)
      case atStart => exact ⟨0, 0, none, Nat.zero_le _, rfl, rfl, HO6.out⟩
      case round =>
        obtain ⟨k, co, O, hk2, rfl, rfl, HJ⟩ := hrel
        have hc0 : wr.cell? ⟨w.heap.size, 0, none⟩ = some (.int .i64 i) := HJ.out.ext.cell (by go_simp)
        have hc1 : wr.cell? ⟨w.heap.size, 1, none⟩ = some (.slice GA gs.length Gc) := HJ.out.ext.cell (by go_simp)
        have hc2 : wr.cell? ⟨w.heap.size, 2, none⟩ = some (.int .i64 gl) := HJ.out.ext.cell (by go_simp)
        have HCC := Lib.hid (And.intro hc0 (And.intro hc1 hc2))
        go_wp2_with fail
        refine (rPieces_any i gl gs _ _ (Rs.ext (Rs.ext RI.ext) _ _ _ _ HJ.out.ext HX.out.2) hgn).mono ?_
        rintro e w2 ⟨rfl, hx2⟩
        rw [HC.out.2.2.1]
        have hd0 : w2.cell? ⟨w.heap.size, 0, none⟩ = some (.int .i64 i) := hx2.cell HCC.out.1
        have hd1 : w2.cell? ⟨w.heap.size, 1, none⟩ = some (.slice GA gs.length Gc) := hx2.cell HCC.out.2.1
        have hd2 : w2.cell? ⟨w.heap.size, 2, none⟩ = some (.int .i64 gl) := hx2.cell HCC.out.2.2
        have HX2 := Lib.hid hx2
        clear hx2 hc0 hc1 hc2
        by_cases hlt2 : k < p
        · go_wp2_with fail
          refine (rRow_ok i gl k gs _ _ (Rs.ext (Rs.ext RI.ext) _ _ _ _ (HJ.out.ext.trans HX2.out) HX.out.2) HC.out.1 (by rw [HC.out.2.2.2]; exact hlt2)).mono ?_
          rintro e w3 ⟨A3, c3, rfl, hx3, ho3⟩
          have hrd3 := own_rd ho3
          rw [← HP.out.2.2.2.1 k hlt2] at hrd3
          have hkl : k < R.length := by rw [HP.out.2.2.2.2.1]; exact hlt2
          have hrlen : (R.getD k []).length = i := by rw [HP.out.2.2.2.1 k hlt2]; simp
          have hst : (Cd.encRows (R.take (k + 1)) parts).map sv = (Cd.encRows (R.take k) parts).map sv ++ [sv (Gf.combS (R.getD k []) parts)] := by
            rw [getD_get hkl, Cd.encRows, List.take_succ_eq_append_getElem hkl, List.map_append, List.map_append]; rfl
          obtain ⟨r, hr⟩ : ∃ r, R.getD k [] = r := ⟨_, rfl⟩
          rw [hr] at hst hrd3 hrlen
          have HJ3 := Lib.hid (HJ.out.next (HX2.out.trans hx3))
          have HRD := Lib.hid (And.intro hrd3 (And.intro hst hrlen))
          clear hx3 ho3 hrd3 hst hrlen hr hd0 hd1 hd2
          go_wp2_with fail
          refine (rcombine_any r parts _ _ _ _ _ _ _ HRD.out.2.2.symm HP.out.2.1.symm (by omega) HP.out.2.2.1 HRD.out.1 (HJ3.out.rd 1 rfl)).mono ?_
          rintro e w4 ⟨rfl, hx4⟩
          have HJ4 := Lib.hid (HJ3.out.next hx4)
          obtain ⟨ct, hct⟩ : ∃ ct, Gf.combS r parts = ct := ⟨_, rfl⟩
          have hst := HRD.out.2.1
          rw [hct] at hst ⊢
          have HTK := Lib.hid hst
          obtain ⟨ce, hce⟩ : ∃ ce, Gf.combE r parts = ce := ⟨_, rfl⟩
          rw [hce]
          have hfd : ∀ w : World, (Instr.field 63 (.agg #[sv ct, .int .i64 ce]) 0).run Tryd.prog w = .ok (sv ct) w := fun _ => by kernel_rfl
          clear hx4 hst hct hce
          go_wp2_with (have hB := HJ4.out.new 3 #[sv ct] 9 (by simp [maxLen]); refine wpl_append_owns (u := sv ct) 32 9 rfl (.tmp 42) (.tmp 49) rfl Tryd.underlying32 info_str rfl hB 2 rfl rfl rfl (hB.cell 3 rfl 0 rfl) rfl (by omega) (by decide) ?_; clear hB; intro g8 c8 w8 hO8 _)
          have HO8 := Lib.hid (hO8.drop 3)
          clear hO8
          go_wp2_with fail
          go_roundw
          case rel => exact ⟨k + 1, c8, _, by omega, by go_num, rfl, Lib.hid (by rw [HTK.out]; exact HO8.out)⟩
          case measure => simp [intOf]; omega
        · obtain rfl : k = p := by omega
          have hO5 := HJ.out.next HX2.out
          have hc3 : w2.cell? ⟨w.heap.size + 1, 0, none⟩ = some (.slice none 0 0) := hO5.cell 0 rfl 0 rfl
          have hc4 : w2.cell? ⟨w.heap.size + 1, 1, none⟩ = some (.int .i64 0) := hO5.cell 0 rfl 1 rfl
          have hf3 : w2.frozen? ⟨w.heap.size + 1, 0, none⟩ = false := hO5.frozen 0 rfl 0
          have hf4 : w2.frozen? ⟨w.heap.size + 1, 1, none⟩ = false := hO5.frozen 0 rfl 1
          have HO5 := Lib.hid hO5
          clear hO5 hd0 hd1 hd2
          go_wp2_with fail
          have hO7 := (HO5.out.store 0 rfl 0 (.slice O k co)).store 0 rfl 1 (.int .i64 0)
          have hrs : Rs RS _ (.slice O k co) (Cd.encRows (R.take k) parts) := rs_of_owns hO7 2 rfl (by simp [Cd.encRows]; omega)
          have htk : R.take k = R := by rw [← HP.out.2.2.2.2.1, List.take_length]
          rw [htk, ← HP.out.2.2.2.2.2] at hrs
          exact bodyPost_ret (v := .agg #[.slice O k co, .int .i64 0]) (by simp [results, Tryd.results11, go_sem, hc3, hc4]) rfl ⟨_, rfl, hrs, HX.out.1.trans hO7.ext⟩
theorem rEncode_no (d gl : Int) (gs : List (List Int)) (data : List UInt8) (G : Value) (w : World) (hG : Rs (Rs RI) w G gs) (h0 : Cd.check d gs gl ≠ 0) (hgn : gs.length ≤ 1000000) :
    Calls Tryd.prog 11 #[.agg #[.int .i64 d, G, .int .i64 gl], .string (sb data)] w fun e w' => e = .returned (.agg #[.slice none 0 0, .int .i64 (Cd.check d gs gl)]) ∧ Ext w w' := by
  have hx0 := (Ext.refl w).alloc (.cells #[.int .i64 d, G, .int .i64 gl] 24)
  have HX := Lib.hid (And.intro hx0 (Rs.ext (Rs.ext RI.ext) _ _ _ _ hx0 hG))
  obtain ⟨GA, Gc, rfl, _⟩ := hG.form
  have e1 : (Cd.check d gs gl != 0) = true := by rw [bne_iff_ne]; exact h0
  have hst := (Owns.start (w.alloc (.cells #[.int .i64 d, .slice GA gs.length Gc, .int .i64 gl] 24)) (L := [no]) (by intro r hr; simp [no] at hr; subst hr; simp)).new 0 #[.slice none 0 0, .int .i64 0] 36 (by simp [maxLen])
  have hst2 : Owns (w.alloc (.cells #[.int .i64 d, .slice GA gs.length Gc, .int .i64 gl] 24)) ((w.alloc (.cells #[.int .i64 d, .slice GA gs.length Gc, .int .i64 gl] 24)).alloc (.cells #[.slice none 0 0, .int .i64 0] 36)) [listedRow (w.heap.size + 1) (.slice none 0 0) (.int .i64 0)] := by simpa [listedRow] using hst
  have HST := Lib.hid hst2
  clear hG hx0 h0 hst hst2
  go_enter Tryd.func11, Tryd.ntmps11
  go_wp2_with fail
  refine (rCheck_any d gl gs _ _ (Rs.ext (Rs.ext RI.ext) _ _ _ _ ((Ext.refl _).alloc _) HX.out.2) hgn).mono ?_
  rintro e w1 ⟨rfl, hx1⟩
  have hO5 := HST.out.next hx1
  have hc3 : w1.cell? ⟨w.heap.size + 1, 0, none⟩ = some (.slice none 0 0) := hO5.cell 0 rfl 0 rfl
  have hc4 : w1.cell? ⟨w.heap.size + 1, 1, none⟩ = some (.int .i64 0) := hO5.cell 0 rfl 1 rfl
  have hf3 : w1.frozen? ⟨w.heap.size + 1, 0, none⟩ = false := hO5.frozen 0 rfl 0
  have hf4 : w1.frozen? ⟨w.heap.size + 1, 1, none⟩ = false := hO5.frozen 0 rfl 1
  have HO5 := Lib.hid hO5
  clear hO5 hx1
  go_wp2_with fail
  have hO7 := (HO5.out.store 0 rfl 0 (.slice none 0 0)).store 0 rfl 1 (.int .i64 (Cd.check d gs gl))
  exact bodyPost_ret (v := .agg #[.slice none 0 0, .int .i64 (Cd.check d gs gl)]) (by simp [results, Tryd.results11, go_sem, hc3, hc4]) rfl ⟨rfl, HX.out.1.trans hO7.ext⟩
theorem rEncode_big (d gl : Int) (gs : List (List Int)) (data : List UInt8) (G : Value) (w : World) (hG : Rs (Rs RI) w G gs) (h0 : Cd.check d gs gl = 0) (hb : 4096 < data.length) (hl : data.length ≤ 9223372036854775807) (hgn : gs.length ≤ 1000000) :
    Calls Tryd.prog 11 #[.agg #[.int .i64 d, G, .int .i64 gl], .string (sb data)] w fun e w' => e = .returned (.agg #[.slice none 0 0, .int .i64 2]) ∧ Ext w w' := by
  have hx0 := (Ext.refl w).alloc (.cells #[.int .i64 d, G, .int .i64 gl] 24)
  have HX := Lib.hid (And.intro hx0 (Rs.ext (Rs.ext RI.ext) _ _ _ _ hx0 hG))
  obtain ⟨GA, Gc, rfl, _⟩ := hG.form
  have e1 : (Cd.check d gs gl != 0) = false := by rw [h0]; rfl
  have hst := (Owns.start (w.alloc (.cells #[.int .i64 d, .slice GA gs.length Gc, .int .i64 gl] 24)) (L := [no]) (by intro r hr; simp [no] at hr; subst hr; simp)).new 0 #[.slice none 0 0, .int .i64 0] 36 (by simp [maxLen])
  have hst2 : Owns (w.alloc (.cells #[.int .i64 d, .slice GA gs.length Gc, .int .i64 gl] 24)) ((w.alloc (.cells #[.int .i64 d, .slice GA gs.length Gc, .int .i64 gl] 24)).alloc (.cells #[.slice none 0 0, .int .i64 0] 36)) [listedRow (w.heap.size + 1) (.slice none 0 0) (.int .i64 0)] := by simpa [listedRow] using hst
  have HST := Lib.hid hst2
  clear hG hx0 h0 hst hst2
  go_enter Tryd.func11, Tryd.ntmps11
  go_wp2_with fail
  refine (rCheck_any d gl gs _ _ (Rs.ext (Rs.ext RI.ext) _ _ _ _ ((Ext.refl _).alloc _) HX.out.2) hgn).mono ?_
  rintro e w1 ⟨rfl, hx1⟩
  have hO5 := HST.out.next hx1
  have hc3 : w1.cell? ⟨w.heap.size + 1, 0, none⟩ = some (.slice none 0 0) := hO5.cell 0 rfl 0 rfl
  have hc4 : w1.cell? ⟨w.heap.size + 1, 1, none⟩ = some (.int .i64 0) := hO5.cell 0 rfl 1 rfl
  have hf3 : w1.frozen? ⟨w.heap.size + 1, 0, none⟩ = false := hO5.frozen 0 rfl 0
  have hf4 : w1.frozen? ⟨w.heap.size + 1, 1, none⟩ = false := hO5.frozen 0 rfl 1
  have HO5 := Lib.hid hO5
  clear hO5 hx1
  go_wp2_with fail
  have hO7 := (HO5.out.store 0 rfl 0 (.slice none 0 0)).store 0 rfl 1 (.int .i64 2)
  exact bodyPost_ret (v := .agg #[.slice none 0 0, .int .i64 2]) (by simp [results, Tryd.results11, go_sem, hc3, hc4]) rfl ⟨rfl, HX.out.1.trans hO7.ext⟩
theorem rEncode_any (d gl : Int) (gs : List (List Int)) (data : List UInt8) (G : Value) (w : World) (hG : Rs (Rs RI) w G gs) (hl : data.length ≤ 9223372036854775807) (hgn : gs.length ≤ 1000000) :
    Calls Tryd.prog 11 #[.agg #[.int .i64 d, G, .int .i64 gl], .string (sb data)] w fun e w' => ∃ v, e = .returned (.agg #[v, .int .i64 (Cd.encE d gl gs data)]) ∧ Rs RS w' v (Cd.encL d gl gs data) ∧ Ext w w' := by
  by_cases h0 : Cd.check d gs gl = 0
  · by_cases hb : data.length ≤ 4096
    · have hk := Cd.check_ok h0
      rw [Cd.encE_ok h0 hb, Cd.encL_ok h0 hb]
      obtain ⟨n, rfl⟩ : ∃ n : Nat, d = n := ⟨d.toNat, by omega⟩
      obtain ⟨m, rfl⟩ : ∃ m : Nat, gl = m := ⟨gl.toNat, by omega⟩
      exact rEncode_ok n m gs data G w hG h0 hb
    · rw [Cd.encE_big h0 (by omega), Cd.encL_big (by omega)]
      refine (rEncode_big d gl gs data G w hG h0 (by omega) hl hgn).mono ?_
      rintro e w' ⟨rfl, hx⟩
      exact ⟨_, rfl, rs_nil _ _, hx⟩
  · rw [Cd.encE_no h0, Cd.encL_no h0]
    refine (rEncode_no d gl gs data G w hG h0 hgn).mono ?_
    rintro e w' ⟨rfl, hx⟩
    exact ⟨_, rfl, rs_nil _ _, hx⟩
end Go.Proofs.YtgkohfmgdejkpaaDoor
