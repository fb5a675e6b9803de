/- THE WALK over CodeRoundTrips. -/
import Derived.Test.YtcfffppeohehpaaDoorTrip
import Derived.Test.YtcfffppeohehpaaDoorTripR
import Derived.Test.YtcfffppeohehpaaDoorLaw
import Derived.Lib.ConvBytes
namespace Go.Proofs.YtcfffppeohehpaaDoor
open Go.RowKit
theorem add_zero (g k : Nat) : (⟨g, 0, none⟩ : Addr).add k = ⟨g, k, none⟩ := by unfold Addr.add; split <;> simp_all
theorem Rd.stored {w : World} {g : Nat} {xs : List Value} (h : Rd w (some ⟨g, 0, none⟩) xs) (i : Nat) (v : Value) : Rd (w.setCell ⟨g, i, none⟩ v) (some ⟨g, 0, none⟩) (xs.set i v) := fun k x hx => by
  have hk : k < xs.length := by
    have := (List.getElem?_eq_some_iff.1 hx).1
    rwa [List.length_set] at this
  have hc := h.all hk
  rw [add_zero] at hc
  refine ⟨_, rfl, ?_, ?_⟩
  · have := lt_of_cell hc
    have hs : (w.setCell ⟨g, i, none⟩ v).heap.size = w.heap.size := by simp
    rw [hs]
    exact this
  · rw [add_zero]
    by_cases hki : k = i
    · subst hki
      rw [List.getElem?_set_self hk] at hx
      rw [World.cell?_setCell_same' _ _ _ (by rw [hc]; rfl)]
      exact hx
    · rw [World.cell?_setCell_other _ _ _ _ (by intro he; injection he with _ he; exact hki he.symm)]
      rw [List.getElem?_set_ne (Ne.symm hki), List.getElem?_eq_getElem hk] at hx
      rw [hc]
      exact hx
/-- '[]byte(s)': a new row of the string's bytes. -/
theorem conv_bytes (w : World) (l : List UInt8) : ∃ (cap : Nat) (w' : World), (convert 9 57 (.string (sb l))).run Tryd.prog w = .ok (.slice (some ⟨w.heap.size, 0, none⟩) l.length cap) w' ∧ Ext w w' ∧ w'.heap.size = w.heap.size + 1 ∧
    (∀ j (hj : j < l.length), w'.cell? ⟨w.heap.size, j, none⟩ = some (bv l[j])) ∧ (∀ j, j < l.length → w'.frozen? ⟨w.heap.size, j, none⟩ = false) := by
  have h := Lib.run_convert_string_bytes (P := Tryd.prog) w 9 57 5 (sb l) Tryd.underlying9 Tryd.underlying57 Tryd.underlying5
  rw [size_sb] at h
  have hb := Lib.bytesWorld_at_new w 5 (sb l)
  have hs : l.length ≤ (Lib.bytesCells w 5 (sb l)).size := by
    simp [Lib.bytesCells, sb]
  refine ⟨_, _, h, ⟨rfl, rfl, rfl, by rw [Lib.bytesWorld_size]; omega, fun k hk => Lib.bytesWorld_at_old w _ _ k hk⟩, Lib.bytesWorld_size _ _ _, fun j hj => ?_, fun j hj => ?_⟩
  · rw [Lib.bytesWorld_cell w _ _ j (by rw [size_sb]; exact hj)]
    show some (Value.int .u8 ((l.getD j 0).toNat : Int)) = _
    rw [List.getD_eq_getElem?_getD, List.getElem?_eq_getElem hj]
    rfl
  · simp only [World.frozen?, hb]
    simp
    omega
/-- The box of a code. -/
theorem box_code {w : World} {d gl : Int} {gs : List (List Int)} {A : Option Addr} {c : Nat} (hG : Rs (Rs RI) w (.slice A gs.length c) gs) :
    Rs (Rs RI) (w.alloc (.cells #[.int .i64 d, .slice A gs.length c, .int .i64 gl] 24)) (.slice A gs.length c) gs ∧ Cells (w.alloc (.cells #[.int .i64 d, .slice A gs.length c, .int .i64 gl] 24)) w.heap.size [.int .i64 d, .slice A gs.length c, .int .i64 gl] :=
  ⟨Rs.ext (Rs.ext RI.ext) _ _ _ _ ((Ext.refl w).alloc _) hG, cells_new w _ _⟩
set_option maxRecDepth 100000 in
set_option maxHeartbeats 8000000 in
theorem trips_out (d gl : Int) (gs : List (List Int)) (data : List UInt8) (G : Value) (n0 n1 n2 n3 : Nat) (w : World) (hT : Tab w) (hG : Rs (Rs RI) w G gs) (hl : data.length ≤ 9223372036854775807)
    (ho : 20 < gs.length ∨ data.length = 0 ∨ 200 < data.length ∨ Cd.check d gs gl ≠ 0) :
    Calls Tryd.prog 6 #[.agg #[.int .i64 d, G, .int .i64 gl], .string (sb data), .agg #[.int .u32 n0, .int .u32 n1, .int .u32 n2, .int .u32 n3]] w fun e w' => e = .returned (.bool true) ∧ Ext w w' := by
  obtain ⟨A, c, rfl, hgl⟩ := hG.form
  have hx := (((Ext.refl w).alloc (.cells #[.int .i64 d, .slice A gs.length c, .int .i64 gl] 24)).alloc (.cells #[.int .u32 n0, .int .u32 n1, .int .u32 n2, .int .u32 n3] 56))
  have HG := Lib.hid (Rs.ext (Rs.ext RI.ext) _ _ _ _ hx hG)
  have HT := Lib.hid hT
  have HX := Lib.hid hx
  clear hG hT hx
  by_cases h1 : 20 < gs.length
  · clear ho
    go_enter Tryd.func6, Tryd.ntmps6
    go_wp2_with fail
    refine (sanity_any _ (HT.out.ext HX.out)).mono ?_
    rintro e w2 ⟨rfl, hx2⟩
    go_wp2_with fail
    go_ret
    exact ⟨rfl, HX.out.trans hx2⟩
  · by_cases h2 : data.length = 0
    · have e2 : ((data.length : Int) == 0) = true := by rw [h2]; rfl
      have H2 := Lib.hid h2
      clear ho h2
      go_enter Tryd.func6, Tryd.ntmps6
      go_wp2_with fail
      refine (sanity_any _ (HT.out.ext HX.out)).mono ?_
      rintro e w2 ⟨rfl, hx2⟩
      go_wp2_with fail
      go_ret
      exact ⟨rfl, HX.out.trans hx2⟩
    · have e2 : ((data.length : Int) == 0) = false := by rw [beq_eq_false_iff_ne]; omega
      by_cases h3 : 200 < data.length
      · clear ho h2
        go_enter Tryd.func6, Tryd.ntmps6
        go_wp2_with fail
        refine (sanity_any _ (HT.out.ext HX.out)).mono ?_
        rintro e w2 ⟨rfl, hx2⟩
        go_wp2_with fail
        go_ret
        exact ⟨rfl, HX.out.trans hx2⟩
      · have h4 : Cd.check d gs gl ≠ 0 := by omega
        have e4 : (Cd.check d gs gl != 0) = true := by rw [bne_iff_ne]; exact h4
        clear ho h2 h4
        go_enter Tryd.func6, Tryd.ntmps6
        go_wp2_with fail
        refine (cCheck_any d gl gs _ _ HG.out).mono ?_
        rintro e w2 ⟨rfl, hx2⟩
        have HX2 := Lib.hid (HX.out.trans hx2)
        clear hx2
        go_wp2_with fail
        refine (sanity_any _ (HT.out.ext HX2.out)).mono ?_
        rintro e w3 ⟨rfl, hx3⟩
        go_wp2_with fail
        go_ret
        exact ⟨rfl, HX2.out.trans hx3⟩
set_option maxRecDepth 100000 in
set_option maxHeartbeats 8000000 in
theorem trips_in (d gl : Nat) (gs : List (List Int)) (data : List UInt8) (G : Value) (n0 n1 n2 n3 : Nat) (w : World) (hT : Tab w) (hG : Rs (Rs RI) w G gs) (b0 : n0 < 4294967296) (b1 : n1 < 4294967296) (b2 : n2 < 4294967296) (b3 : n3 < 4294967296)
    (hg20 : gs.length ≤ 20) (hd1 : 1 ≤ data.length) (hd2 : data.length ≤ 200) (h0 : Cd.check d gs gl = 0) :
    Calls Tryd.prog 6 #[.agg #[.int .i64 d, G, .int .i64 gl], .string (sb data), .agg #[.int .u32 n0, .int .u32 n1, .int .u32 n2, .int .u32 n3]] w fun e w' => e = .returned (.bool true) ∧ Ext w w' := by
  obtain ⟨A, c, rfl, hgl⟩ := hG.form
  have hx := (((Ext.refl w).alloc (.cells #[.int .i64 d, .slice A gs.length c, .int .i64 gl] 24)).alloc (.cells #[.int .u32 n0, .int .u32 n1, .int .u32 n2, .int .u32 n3] 56))
  have hB : Cells ((w.alloc (.cells #[.int .i64 d, .slice A gs.length c, .int .i64 gl] 24)).alloc (.cells #[.int .u32 n0, .int .u32 n1, .int .u32 n2, .int .u32 n3] 56)) w.heap.size [.int .i64 d, .slice A gs.length c, .int .i64 gl] := (cells_new w #[.int .i64 d, .slice A gs.length c, .int .i64 gl] 24).ext ((Ext.refl _).alloc _)
  have hN : Cells ((w.alloc (.cells #[.int .i64 d, .slice A gs.length c, .int .i64 gl] 24)).alloc (.cells #[.int .u32 n0, .int .u32 n1, .int .u32 n2, .int .u32 n3] 56)) (w.heap.size + 1) [.int .u32 n0, .int .u32 n1, .int .u32 n2, .int .u32 n3] := by
    have h := cells_new (w.alloc (.cells #[.int .i64 d, .slice A gs.length c, .int .i64 gl] 24)) #[.int .u32 n0, .int .u32 n1, .int .u32 n2, .int .u32 n3] 56
    rw [World.size_alloc] at h
    exact h
  have HG := Lib.hid (Rs.ext (Rs.ext RI.ext) _ _ _ _ hx hG)
  have HT := Lib.hid hT
  have HX := Lib.hid hx
  have HB := Lib.hid (And.intro hB hN)
  have e2 : ((data.length : Int) == 0) = false := by rw [beq_eq_false_iff_ne]; omega
  have e4 : (Cd.check (d : Int) gs (gl : Int) != 0) = false := by rw [h0]; rfl
  have hk := Cd.check_ok h0
  have hrl := Cd.rowsOf_len h0
  have hpc : Cd.pieces (d : Int) gs (gl : Int) = ((Cd.rowsOf (d : Int) gs (gl : Int)).length : Int) := by rw [Cd.pieces_ok h0, hrl]
  obtain ⟨L, hL⟩ : ∃ L, (Cd.rowsOf (d : Int) gs (gl : Int)).length = L := ⟨_, rfl⟩
  rw [hL] at hrl hpc
  have hL1 : 1 ≤ L := by omega
  have hL24 : L ≤ 24 := by omega
  have H0 := Lib.hid h0
  have HL := Lib.hid hL
  have HP := Lib.hid hpc
  clear hG hT hx hB hN h0 hk hrl hL hpc
  go_enter Tryd.func6, Tryd.ntmps6
  go_wp2_with fail
  refine (cCheck_any d gl gs _ _ HG.out).mono ?_
  rintro e w2 ⟨rfl, hx2⟩
  have HB2 := Lib.hid (And.intro (HB.out.1.ext hx2) (HB.out.2.ext hx2))
  have HX2 := Lib.hid (HX.out.trans hx2)
  have HG2 := Lib.hid (Rs.ext (Rs.ext RI.ext) _ _ _ _ hx2 HG.out)
  have c0 : w2.cell? ⟨w.heap.size, 0, none⟩ = some (.int .i64 d) := HB2.out.1 0 _ rfl
  have c1 : w2.cell? ⟨w.heap.size, 1, none⟩ = some (.slice A gs.length c) := HB2.out.1 1 _ rfl
  have c2 : w2.cell? ⟨w.heap.size, 2, none⟩ = some (.int .i64 gl) := HB2.out.1 2 _ rfl
  clear hx2
  go_wp2_with fail
  clear c0 c1 c2
  refine (cEncode_own d gl gs data _ _ (HT.out.ext HX2.out) HG2.out (by omega)).mono ?_
  rintro e w3 ⟨v, rfl, hv, hO⟩
  rw [Cd.encE_ok H0.out (by omega)]
  rw [Cd.encL_ok H0.out (by omega)] at hv hO
  have hEl := Cd.encode_len (d : Int) (gl : Int) gs data
  rw [HL.out] at hEl
  obtain ⟨E, hE⟩ : ∃ E, Cd.encode (d : Int) (gl : Int) gs data = E := ⟨_, rfl⟩
  rw [hE] at hv hO hEl
  rw [hEl] at hO
  obtain ⟨L', rfl⟩ : ∃ L', L = L' + 1 := ⟨L - 1, by omega⟩
  obtain ⟨gL, cL, rfl⟩ := ownsRow_succ (hO.row 0 rfl)
  have HE := Lib.hid (And.intro hE hEl)
  have HB3 := Lib.hid (And.intro (HB2.out.1.ext hO.ext) (HB2.out.2.ext hO.ext))
  have HX3 := Lib.hid (HX2.out.trans hO.ext)
  have HG3 := Lib.hid (Rs.ext (Rs.ext RI.ext) _ _ _ _ hO.ext HG2.out)
  have HO3 := Lib.hid hO
  have c0 : w3.cell? ⟨w.heap.size, 0, none⟩ = some (.int .i64 d) := HB3.out.1 0 _ rfl
  have c1 : w3.cell? ⟨w.heap.size, 1, none⟩ = some (.slice A gs.length c) := HB3.out.1 1 _ rfl
  have c2 : w3.cell? ⟨w.heap.size, 2, none⟩ = some (.int .i64 gl) := HB3.out.1 2 _ rfl
  clear hE hEl hv hO
  obtain ⟨L, hLL⟩ : ∃ L, L' + 1 = L := ⟨_, rfl⟩
  rw [hLL] at hL1 hL24 HL HP HE HO3 ⊢
  clear hLL
  go_wp2_with fail
  clear c0 c1 c2
  refine (cPieces_any d gl gs _ _ HG3.out).mono ?_
  rintro e w4 ⟨rfl, hx4⟩
  rw [HP.out]
  have HB4 := Lib.hid (And.intro (HB3.out.1.ext hx4) (HB3.out.2.ext hx4))
  have HX4 := Lib.hid (HX3.out.trans hx4)
  have HG4 := Lib.hid (Rs.ext (Rs.ext RI.ext) _ _ _ _ hx4 HG3.out)
  have HO4 := Lib.hid (HO3.out.next hx4)
  have q1 : w4.cell? ⟨w.heap.size + 1, 0, none⟩ = some (.int .u32 n0) := HB4.out.2 0 _ rfl
  have eL : ((L : Int) != (L : Int)) = false := by simp
  clear hx4
  have hM1 : 1 ≤ 2 ^ L := Nat.one_le_two_pow
  have hM2 : 2 ^ L ≤ 16777216 := show 2 ^ L ≤ 2 ^ 24 from Nat.pow_le_pow_right (by decide) hL24
  have hw1 := wrap_pow L (by omega)
  have hw2 : IntKind.i64.wrap (2 ^ L) = ((2 ^ L : Nat) : Int) := by rw [IntKind.wrap_i64]; unfold wrap64 at hw1; exact hw1
  have hmL : n0 % 2 ^ L < 2 ^ L := Nat.mod_lt _ (by omega)
  obtain ⟨M, hM⟩ : ∃ M, 2 ^ L = M := ⟨_, rfl⟩
  rw [hM] at hM1 hM2 hw1 hw2 hmL
  have hrem : Int.tmod (n0 : Int) (M : Int) = ((n0 % M : Nat) : Int) := (Int.ofNat_tmod n0 M).symm
  obtain ⟨m, hm⟩ : ∃ m, n0 % M = m := ⟨_, rfl⟩
  rw [hm] at hmL hrem
  have eM : ((M : Int) == 0) = false := by rw [beq_eq_false_iff_ne]; omega
  have HM := Lib.hid hM
  have hwm : IntKind.i64.wrap (m : Int) = (m : Int) := by rw [IntKind.wrap_i64]; omega
  have hwn : IntKind.i64.wrap (n0 : Int) = (n0 : Int) := by rw [IntKind.wrap_i64]; omega
  clear hM hm
  go_wp2_with fail
  go_quiet (fail)
  clear q1
  obtain ⟨w5, hw5⟩ : ∃ w5, w4.drewN nq = w5 := ⟨_, rfl⟩
  have hx5 : Ext w4 w5 := by subst hw5; exact (Ext.refl w4).drewN nq
  rw [hw5]
  have HB5 := Lib.hid (And.intro (HB4.out.1.ext hx5) (HB4.out.2.ext hx5))
  have HX5 := Lib.hid (HX4.out.trans hx5)
  have HG5 := Lib.hid (Rs.ext (Rs.ext RI.ext) _ _ _ _ hx5 HG4.out)
  have HO5 := Lib.hid (HO4.out.next hx5)
  have c0 : w5.cell? ⟨w.heap.size, 0, none⟩ = some (.int .i64 d) := HB5.out.1 0 _ rfl
  have c1 : w5.cell? ⟨w.heap.size, 1, none⟩ = some (.slice A gs.length c) := HB5.out.1 1 _ rfl
  have c2 : w5.cell? ⟨w.heap.size, 2, none⟩ = some (.int .i64 gl) := HB5.out.1 2 _ rfl
  clear hw5 hx5
  have hsz : Cd.sizeN d data.length ≤ data.length := Cd.size_le (by have := Cd.check_ok H0.out; omega) _
  have hpm : ∀ p ∈ E, p.length ≤ 140737488351232 := fun p hp => by
    obtain ⟨j, hj, rfl⟩ := List.getElem_of_mem hp
    have h := Cd.encode_even H0.out data (k := j) (by rw [HL.out, ← HE.out.2]; exact hj)
    rw [HE.out.1, List.getD_eq_getElem?_getD, List.getElem?_eq_getElem hj, Int.toNat_natCast] at h
    have h2 : E[j].length = Cd.sizeN d data.length := h
    omega
  have hrd := Rs.of_rdS (c := cL) (HO5.out.rd 0 rfl) (by rw [HE.out.2]; omega)
  have hdec := cDecode_any d gl data.length m gs E _ (some ⟨gL, 0, none⟩) cL w5 (HT.out.ext HX5.out) HG5.out hrd hpm
  rw [HE.out.2] at hdec
  have hcan := cRec_any d gl m gs (.slice A gs.length c)
  have HDEC := Lib.hid hdec
  have HPM := Lib.hid hpm
  clear hrd hdec hpm
  go_wp2_with fail
  clear c0 c1 c2
  refine HDEC.out.mono ?_
  rintro e w6 ⟨rfl, hx6⟩
  have HB6 := Lib.hid (And.intro (HB5.out.1.ext hx6) (HB5.out.2.ext hx6))
  have HX6 := Lib.hid (HX5.out.trans hx6)
  have HG6 := Lib.hid (Rs.ext (Rs.ext RI.ext) _ _ _ _ hx6 HG5.out)
  have HO6 := Lib.hid (HO5.out.next hx6)
  have c0 : w6.cell? ⟨w.heap.size, 0, none⟩ = some (.int .i64 d) := HB6.out.1 0 _ rfl
  have c1 : w6.cell? ⟨w.heap.size, 1, none⟩ = some (.slice A gs.length c) := HB6.out.1 1 _ rfl
  have c2 : w6.cell? ⟨w.heap.size, 2, none⟩ = some (.int .i64 gl) := HB6.out.1 2 _ rfl
  clear hx6
  cases hc : Cd.can (d : Int) (gl : Int) gs (m : Int) with
  | false =>
    have hlost := Cd.dec_lost H0.out (by rw [HL.out, HM.out]; exact hmL) hc (data := data) (by omega)
    rw [HE.out.1] at hlost
    rw [hlost.1, hlost.2, show sb [] = ({ data := #[] } : ByteArray) from rfl]
    have HC := Lib.hid hc
    clear hlost hc
    go_wp2_with fail
    clear c0 c1 c2
    refine (cRec_any d gl m gs _ _ (HT.out.ext HX6.out) HG6.out).mono ?_
    rintro e w7 ⟨rfl, hx7⟩
    rw [HC.out]
    have HX7 := Lib.hid (HX6.out.trans hx7)
    clear hx7
    go_wp2_with fail
    refine (sanity_any _ (HT.out.ext HX7.out)).mono ?_
    rintro e w8 ⟨rfl, hx8⟩
    have HX8 := Lib.hid (HX7.out.trans hx8)
    clear hx8
    go_wp2_with fail
    go_ret
    exact ⟨rfl, HX8.out⟩
  | true =>
    have hok := Cd.dec_enc H0.out hc (pieces := E) (data := data) (by omega) (by rw [HE.out.2, HL.out]) (fun _ _ _ => by rw [HE.out.1])
    rw [hok.1, hok.2]
    have hs := sb_same (e := data) rfl
    have HC := Lib.hid hc
    clear hok hc
    go_wp2_with fail
    clear c0 c1 c2
    refine (cRec_any d gl m gs _ _ (HT.out.ext HX6.out) HG6.out).mono ?_
    rintro e w7 ⟨rfl, hx7⟩
    rw [HC.out]
    have HB7 := Lib.hid (And.intro (HB6.out.1.ext hx7) (HB6.out.2.ext hx7))
    have HX7 := Lib.hid (HX6.out.trans hx7)
    have HG7 := Lib.hid (Rs.ext (Rs.ext RI.ext) _ _ _ _ hx7 HG6.out)
    have HO7 := Lib.hid (HO6.out.next hx7)
    have q1 : w7.cell? ⟨w.heap.size + 1, 1, none⟩ = some (.int .u32 n1) := HB7.out.2 1 _ rfl
    have q3 : w7.cell? ⟨w.heap.size + 1, 3, none⟩ = some (.int .u32 n3) := HB7.out.2 3 _ rfl
    have hkL : n1 % L < L := Nat.mod_lt _ hL1
    have hkk : (n1 : Int) % (L : Int) = ((n1 % L : Nat) : Int) := (Int.natCast_emod n1 L).symm
    obtain ⟨k, hk⟩ : ∃ k, n1 % L = k := ⟨_, rfl⟩
    rw [hk] at hkL hkk
    have eLL : ((L : Int) == 0) = false := by rw [beq_eq_false_iff_ne]; omega
    have hmm : bits .and .i64 ((m : Int) / 2 ^ k) 1 = ((Cd.bitAt m k : Nat) : Int) := by
      have hle : m / 2 ^ k ≤ m := Nat.div_le_self _ _
      have := odd64 (m / 2 ^ k) (by omega)
      rw [Cd.bitAt, ← this]
      simp
    have hb01 : Cd.bitAt m k = 0 ∨ Cd.bitAt m k = 1 := by unfold Cd.bitAt; omega
    have h256 : ((n3 : Int) % 256) = ((n3 % 256 : Nat) : Int) := (Int.natCast_emod n3 256).symm
    clear hx7 hk
    obtain ⟨x, hxx⟩ : ∃ x, n3 % 256 = x := ⟨_, rfl⟩
    rw [hxx] at h256
    have hx256 : x < 256 := by rw [← hxx]; exact Nat.mod_lt _ (by decide)
    have HXX := Lib.hid hxx
    clear hxx
    rcases hb01 with hb | hb
    · rw [hb] at hmm
      clear hb
      go_wp2_with fail
      refine (sanity_any _ (HT.out.ext HX7.out)).mono ?_
      rintro e w8 ⟨rfl, hx8⟩
      have HX8 := Lib.hid (HX7.out.trans hx8)
      clear hx8
      go_wp2_with fail
      go_ret
      exact ⟨rfl, HX8.out⟩
    · rw [hb] at hmm
      have HBIT := Lib.hid hb
      clear hb
      by_cases hx0 : x = 0
      · have ex : ((x : Int) == 0) = true := by rw [hx0]; rfl
        clear hx0
        go_wp2_with fail
        refine (sanity_any _ (HT.out.ext HX7.out)).mono ?_
        rintro e w8 ⟨rfl, hx8⟩
        have HX8 := Lib.hid (HX7.out.trans hx8)
        clear hx8
        go_wp2_with fail
        go_ret
        exact ⟨rfl, HX8.out⟩
      · have ex : ((x : Int) == 0) = false := by rw [beq_eq_false_iff_ne]; omega
        have l1 : w7.cell? ⟨gL, k, none⟩ = some (sv (E.getD k [])) := HO7.out.cell 0 rfl k (by rw [List.getElem?_map, List.getD_eq_getElem?_getD, List.getElem?_eq_getElem (by rw [HE.out.2]; exact hkL)]; rfl)
        have hpl : (E.getD k []).length = Cd.sizeN d data.length := by
          have h := Cd.encode_even H0.out data (k := k) (by rw [HL.out]; exact hkL)
          rw [HE.out.1, Int.toNat_natCast] at h
          exact h
        obtain ⟨p, hp⟩ : ∃ p, E.getD k [] = p := ⟨_, rfl⟩
        rw [hp] at l1 hpl
        have hp1 : 1 ≤ p.length := by
          have h := Cd.size_ge (d := d) (by have := Cd.check_ok H0.out; omega) data.length
          rw [← hpl] at h
          rcases Nat.eq_zero_or_pos p.length with h1 | h1
          · rw [h1, Nat.mul_zero] at h; omega
          · exact h1
        have hpb : p.length ≤ 200 := by omega
        have HPP := Lib.hid (And.intro hp hpl)
        clear hp hpl
        obtain ⟨cb, w8, hcv, hx8, hs8, hcl8, hfr8⟩ := conv_bytes w7 p
        have ep : ((p.length : Int) == 0) = false := by rw [beq_eq_false_iff_ne]; omega
        have hil : n2 % p.length < p.length := Nat.mod_lt _ hp1
        have hir : Int.tmod (n2 : Int) (p.length : Int) = ((n2 % p.length : Nat) : Int) := (Int.ofNat_tmod n2 p.length).symm
        obtain ⟨i, hi⟩ : ∃ i, n2 % p.length = i := ⟨_, rfl⟩
        rw [hi] at hil hir
        clear hi
        have r2 : w8.cell? ⟨w.heap.size + 1, 2, none⟩ = some (.int .u32 n2) := hx8.cell (HB7.out.2 2 _ rfl)
        have r3 : w8.cell? ⟨w.heap.size + 1, 3, none⟩ = some (.int .u32 n3) := hx8.cell (HB7.out.2 3 _ rfl)
        have r4 : w8.cell? ⟨w7.heap.size, i, none⟩ = some (bv (p.getD i 0)) := by
          rw [hcl8 i hil, List.getD_eq_getElem?_getD, List.getElem?_eq_getElem hil]; rfl
        have r5 : w8.frozen? ⟨w7.heap.size, i, none⟩ = false := hfr8 i hil
        have HX8 := Lib.hid hx8
        have HC8 := Lib.hid hcl8
        have hg3 : IntKind.u8.wrap (n3 : Int) = (x : Int) := by
          rw [IntKind.wrap_u8, h256]
        have hu8 : ∃ xb : UInt8, (x : Int) = (xb.toNat : Int) ∧ xb ≠ 0 := ⟨UInt8.ofNat x, by rw [UInt8.toNat_ofNat', Nat.mod_eq_of_lt (by omega)], fun h => by
          have h2 := congrArg UInt8.toNat h
          rw [UInt8.toNat_ofNat', Nat.mod_eq_of_lt (by omega)] at h2
          exact hx0 h2⟩
        obtain ⟨xb, hxb, hxb0⟩ := hu8
        have hxor : bits .xor .u8 ((p.getD i 0).toNat : Int) (x : Int) = ((p.getD i 0 ^^^ xb).toNat : Int) := by
          rw [hxb, u8_xor_nat _ _ (Gf.lt8 _) (Gf.lt8 _), UInt8.toNat_xor]
        have HXB := Lib.hid hxb0
        have H1 := Lib.hid hir
        have H2 := Lib.hid hg3
        have H3 := Lib.hid hxor
        have HR := Lib.hid (And.intro r2 (And.intro r3 (And.intro r4 r5)))
        clear hx8 hcl8 hfr8 hs8 hir hg3 hxor hxb hxb0 r2 r3 r4 r5
        go_wp2_with fail
        refine wp_atEnd (trip_flip w7.heap.size (w.heap.size + 1) p.length i n2 n3 x cb (p.getD i 0) (p.getD i 0 ^^^ xb) w8 b2 hpb hil HR.out.1 HR.out.2.1 HR.out.2.2.1 HR.out.2.2.2 H1 H2 H3 _ _ _ _ _ _ _ _ _ _ _ _ _ _ _ _ _ _ _ _ _ _ _ _ _ _ _ _ _ _ _ _ _ _ _ _ _ _ _ _ _ _ _ _ _ _ _ _ _ _ _ _ _ _ _ _ _ _ _ _ _ _ _ _ _ _ _ _ _ _ _ _ _ _ _ _ _ _ _ _ _ _ _ _ _ _ _ _ _ _ _ _ _ _ _ _ _ _ _ _ _ _ _ _ _ _ _ _ _ _ _ _ _ _ _ _ _ _ _ _ _ _ _ _ _ _ _ _ _ _ _ _ _ _ _ _ _ _ _ _ _ _ _ _ _ _ _ _ _ _ _ _ _ _ _ _ _ _ _ _ _ _ _ _ _ _ _ _ _ _ ?_)
        rintro u117 u118 u119 u120 u121 u122 u123 u124 u125 u126 u127 u128 u129 u130 wx rfl
        obtain ⟨pp, hpp⟩ : ∃ pp, p.set i (p.getD i 0 ^^^ xb) = pp := ⟨_, rfl⟩
        have hppl : pp.length = p.length := by rw [← hpp, List.length_set]
        have hppn : pp ≠ p := fun he => by
          have h1 : pp[i]? = p[i]? := by rw [he]
          rw [← hpp, List.getElem?_set_self hil, List.getElem?_eq_getElem hil] at h1
          injection h1 with h1
          rw [List.getD_eq_getElem?_getD, List.getElem?_eq_getElem hil] at h1
          have h2 : p[i] ^^^ xb = p[i] := h1
          refine HXB.out ?_
          have h3 : p[i] ^^^ (p[i] ^^^ xb) = p[i] ^^^ p[i] := by rw [h2]
          rw [← UInt8.xor_assoc, UInt8.xor_self, UInt8.zero_xor] at h3
          exact h3
        obtain ⟨w9, hw9⟩ : ∃ w9, w8.drew.setCell ⟨w7.heap.size, i, none⟩ (bv (p.getD i 0 ^^^ xb)) = w9 := ⟨_, rfl⟩
        have hx9 : Ext w7 w9 := by rw [← hw9]; exact HX8.out.drew.setCell (p := ⟨w7.heap.size, i, none⟩) (Nat.le_refl _) _
        have hrd9 : Rd w9 (some ⟨w7.heap.size, 0, none⟩) (pp.map bv) := by
          have h1 : Rd w8.drew (some ⟨w7.heap.size, 0, none⟩) (p.map bv) := fun j y hj => by
            have hjl : j < p.length := by
              have := (List.getElem?_eq_some_iff.1 hj).1
              rwa [List.length_map] at this
            rw [List.getElem?_map, List.getElem?_eq_getElem hjl] at hj
            injection hj with hj
            subst hj
            have h8 := HC8.out j hjl
            exact ⟨_, rfl, lt_of_cell (p := ⟨w7.heap.size, j, none⟩) (w := w8.drew) h8, by rw [add_zero]; exact h8⟩
          have h2 := h1.stored i (bv (p.getD i 0 ^^^ xb))
          rw [← List.map_set, hpp, hw9] at h2
          exact h2
        rw [hw9]
        have hcv9 := str_u8 (w := w9) (c := cb) (n := p.length) (l := pp) hppl.symm hrd9
        have hO9 := HO7.out.next hx9
        have s1 : w9.cell? ⟨gL, k, none⟩ = some (sv p) := hO9.cell 0 rfl k (by rw [List.getElem?_map, ← HPP.out.1, List.getD_eq_getElem?_getD, List.getElem?_eq_getElem (by rw [HE.out.2]; exact hkL)]; rfl)
        have s2 : w9.frozen? ⟨gL, k, none⟩ = false := hO9.frozen 0 rfl k
        have hst := hO9.store 0 rfl k (sv pp)
        obtain ⟨w10, hw10⟩ : ∃ w10, w9.setCell ⟨gL, k, none⟩ (sv pp) = w10 := ⟨_, rfl⟩
        rw [hw10] at hst
        have hx10 : Ext w2 w10 := hst.ext
        have c0 : w10.cell? ⟨w.heap.size, 0, none⟩ = some (.int .i64 d) := hx10.cell (HB2.out.1 0 _ rfl)
        have c1 : w10.cell? ⟨w.heap.size, 1, none⟩ = some (.slice A gs.length c) := hx10.cell (HB2.out.1 1 _ rfl)
        have c2 : w10.cell? ⟨w.heap.size, 2, none⟩ = some (.int .i64 gl) := hx10.cell (HB2.out.1 2 _ rfl)
        have HC10 := Lib.hid (And.intro c0 (And.intro c1 c2))
        have c0' := c0
        have c1' := c1
        have c2' := c2
        rw [← hw10] at c0' c1' c2'
        have hEs : (E.set k pp).length = L := by rw [List.length_set, HE.out.2]
        have hrs := Rs.of_rdS (c := cL) (l := E.set k pp) (w := w10) (A := some ⟨gL, 0, none⟩) (by rw [List.map_set]; exact hst.rd 0 rfl) (by rw [hEs]; omega)
        have hgs := Rs.ext (Rs.ext RI.ext) _ _ _ _ hx10 HG2.out
        have HX10 := Lib.hid (HX2.out.trans hx10)
        have hdec := cDecode_any d gl data.length m gs (E.set k pp) _ (some ⟨gL, 0, none⟩) cL w10 (HT.out.ext HX10.out) hgs hrs (fun q hq => by
          rcases List.mem_or_eq_of_mem_set hq with hq | hq
          · exact HPM.out q hq
          · rw [hq, hppl]; omega)
        rw [hEs] at hdec
        have hturn := Cd.dec_turned (k := k) (b := pp) (data := data) H0.out (by rw [HL.out, HM.out]; exact hmL) HC.out (by rw [HL.out]; exact hkL) HBIT.out (by omega) (by rw [HE.out.1, HPP.out.1]; exact hppl) (by rw [HE.out.1, HPP.out.1]; exact hppn)
        rw [HE.out.1] at hturn
        have hK2 : 2 ^ k ≤ m := by
          rcases Nat.lt_or_ge m (2 ^ k) with h | h
          · have h2 := HBIT.out
            unfold Cd.bitAt at h2
            rw [Nat.div_eq_of_lt h] at h2
            omega
          · exact h
        have hwk := wrap_pow k (by omega)
        have hwk2 : IntKind.i64.wrap (2 ^ k) = ((2 ^ k : Nat) : Int) := by rw [IntKind.wrap_i64]; unfold wrap64 at hwk; exact hwk
        obtain ⟨K2, hk2⟩ : ∃ K2, 2 ^ k = K2 := ⟨_, rfl⟩
        rw [hk2] at hK2 hwk2 hturn
        have HWK := Lib.hid hwk2
        have HDEC2 := Lib.hid hdec
        have HT2 := Lib.hid hturn
        have HW10 := Lib.hid hw10
        have HG10 := Lib.hid hgs
        clear hw9 hx9 hrd9 hpp hppl hppn hO9 hst hx10 hrs hgs hdec hturn hwk hwk2 hk2 hw10 c0 c1 c2 hEs
        go_wp2_with fail
        rw [HW10.out]
        clear c0' c1' c2' s1 s2 hcv9
        refine HDEC2.out.mono ?_
        rintro e w11 ⟨rfl, hx11⟩
        have c0 := hx11.cell HC10.out.1
        have c1 := hx11.cell HC10.out.2.1
        have c2 := hx11.cell HC10.out.2.2
        have HX11 := Lib.hid (HX10.out.trans hx11)
        have HG11 := Lib.hid (Rs.ext (Rs.ext RI.ext) _ _ _ _ hx11 HG10.out)
        clear hx11
        go_wp2_with fail
        have HCC := Lib.hid (And.intro c0 (And.intro c1 c2))
        clear c0 c1 c2
        refine wp_atEnd' (trip_less w.heap.size m k K2 c d gl gs A w11 (by omega) hK2 (by omega) HWK.out HCC.out.1 HCC.out.2.1 HCC.out.2.2 (Lib.hid (HT.out.ext HX11.out)) HG11 _ _ _ _ _ _ _ _ _ _ _ _ _ _ _ _ _ _ _ _ _ _ _ _ _ _ _ _ _ _ _ _ _ _ _ _ _ _ _ _ _ _ _ _ _ _ _ _ _ _ _ _ _ _ _ _ _ _ _ _ _ _ _ _ _ _ _ _ _ _ _ _ _ _ _ _ _ _ _ _ _ _ _ _ _ _ _ _ _ _ _ _ _ _ _ _ _ _ _ _ _ _ _ _ _ _ _ _ _ _ _ _ _ _ _ _ _ _ _ _ _ _ _ _ _ _ _ _ _ _ _ _ _ _ _ _ _ _ _ _ _ _ _ _ _ _ _ _ _ _ _ _ _ _ _ _ _ _ _ _ _ _ _ _ _ _ _ _ _ ?_)
        intro u145 u146 u147 u148 u149 wx hx12
        have HX12 := Lib.hid (HX11.out.trans hx12)
        clear hx12
        obtain ⟨E9, hE9⟩ : ∃ E9, Cd.decE (d : Int) (gl : Int) gs (data.length : Int) (m : Int) (E.set k pp) = E9 := ⟨_, rfl⟩
        obtain ⟨S9, hS9⟩ : ∃ S9, Cd.decS (d : Int) (gl : Int) gs (data.length : Int) (m : Int) (E.set k pp) = S9 := ⟨_, rfl⟩
        have ht := HT2.out
        rw [hE9, hS9] at ht
        rw [hE9, hS9]
        clear hE9 hS9
        cases hc2 : Cd.can (d : Int) (gl : Int) gs ((m - K2 : Nat) : Int) with
        | true =>
          obtain rfl : E9 = 14 := ht.2 hc2
          clear ht hc2
          go_wp2_with fail
          refine (sanity_any _ (HT.out.ext HX12.out)).mono ?_
          rintro e w13 ⟨rfl, hx13⟩
          have HX13 := Lib.hid (HX12.out.trans hx13)
          clear hx13
          go_wp2_with fail
          go_ret
          exact ⟨rfl, HX13.out⟩
        | false =>
          rcases ht.1 with h14 | ⟨h14, hne⟩
          · subst h14
            clear ht hc2
            go_wp2_with fail
            refine (sanity_any _ (HT.out.ext HX12.out)).mono ?_
            rintro e w13 ⟨rfl, hx13⟩
            have HX13 := Lib.hid (HX12.out.trans hx13)
            clear hx13
            go_wp2_with fail
            go_ret
            exact ⟨rfl, HX13.out⟩
          · subst h14
            have hs2 := sb_other hne
            clear ht hc2 hne
            go_wp2_with fail
            refine (sanity_any _ (HT.out.ext HX12.out)).mono ?_
            rintro e w13 ⟨rfl, hx13⟩
            have HX13 := Lib.hid (HX12.out.trans hx13)
            clear hx13
            go_wp2_with fail
            go_ret
            exact ⟨rfl, HX13.out⟩
/-- CodeRoundTrips is true. -/
theorem trips_walk (d gl : Int) (gs : List (List Int)) (data : List UInt8) (G : Value) (n0 n1 n2 n3 : Nat) (w : World) (hT : Tab w) (hG : Rs (Rs RI) w G gs) (b0 : n0 < 4294967296) (b1 : n1 < 4294967296) (b2 : n2 < 4294967296) (b3 : n3 < 4294967296) (hl : data.length ≤ 9223372036854775807) :
    Calls Tryd.prog 6 #[.agg #[.int .i64 d, G, .int .i64 gl], .string (sb data), .agg #[.int .u32 n0, .int .u32 n1, .int .u32 n2, .int .u32 n3]] w fun e w' => e = .returned (.bool true) ∧ Ext w w' := by
  by_cases ho : 20 < gs.length ∨ data.length = 0 ∨ 200 < data.length ∨ Cd.check d gs gl ≠ 0
  · exact trips_out d gl gs data G n0 n1 n2 n3 w hT hG hl ho
  · have h0 : Cd.check d gs gl = 0 := by omega
    have hk := Cd.check_ok h0
    obtain ⟨d', rfl⟩ : ∃ k : Nat, d = k := ⟨d.toNat, by omega⟩
    obtain ⟨gl', rfl⟩ : ∃ k : Nat, gl = k := ⟨gl.toNat, by omega⟩
    exact trips_in d' gl' gs data G n0 n1 n2 n3 w hT hG b0 b1 b2 b3 (by omega) (by omega) (by omega) h0
end Go.Proofs.YtcfffppeohehpaaDoor
