/- THE WALKS over the specification of perils: Loss, Least. -/
import Derived.Test.YtdbolgollpnfdaaDoorKRefA
namespace Go.Proofs.YtdbolgollpnfdaaDoor
open Go.RowKit
/-- The variable of a number or an error. -/
def countedRow (g : Nat) (v e : Value) : LRow := ⟨.slice (some ⟨g, 0, none⟩) 2 2, 38, 1, 2, [v, e]⟩
theorem pe_cells {w w2 : World} {d gl : Int} {G T C : Value} (hx : Ext (w.alloc (.cells #[.int .i64 d, G, .int .i64 gl, T, C] 27)) w2) :
    w2.cell? ⟨w.heap.size, 0, none⟩ = some (.int .i64 d) ∧ w2.cell? ⟨w.heap.size, 1, none⟩ = some G ∧ w2.cell? ⟨w.heap.size, 2, none⟩ = some (.int .i64 gl) ∧ w2.cell? ⟨w.heap.size, 3, none⟩ = some T ∧ w2.cell? ⟨w.heap.size, 4, none⟩ = some C :=
  ⟨hx.cell (by go_simp), hx.cell (by go_simp), hx.cell (by go_simp), hx.cell (by go_simp), hx.cell (by go_simp)⟩
theorem counted_start {w : World} {d gl : Int} {G T C : Value} : Owns (w.alloc (.cells #[.int .i64 d, G, .int .i64 gl, T, C] 27)) ((w.alloc (.cells #[.int .i64 d, G, .int .i64 gl, T, C] 27)).alloc (.cells #[.int .i64 0, .int .i64 0] 38)) [countedRow (w.heap.size + 1) (.int .i64 0) (.int .i64 0)] := by
  have hst := (Owns.start (w.alloc (.cells #[.int .i64 d, G, .int .i64 gl, T, C] 27)) (L := [no]) (by intro r hr; simp [no] at hr; subst hr; simp)).new 0 #[.int .i64 0, .int .i64 0] 38 (by simp [maxLen])
  simpa [countedRow] using hst
set_option maxRecDepth 100000 in
set_option maxHeartbeats 8000000 in
theorem qLoss_any (p : Rk.Pe) (v : Value) (w : World) (hv : RP w v p) (hgn : p.gs.length ≤ 1000000) :
    Calls Tryd.prog 13 #[v] w fun e w' => e = .returned (.agg #[.int .i64 (Rk.lossOf p : Nat), .int .i64 (Rk.check p)]) ∧ Ext w w' := by
  obtain ⟨G, T, C, rfl, hG, hTT, hC⟩ := hv
  have hx0 := (Ext.refl w).alloc (.cells #[.int .i64 p.d, G, .int .i64 p.gl, T, C] 27)
  have hC0 := Rs.ext RI.ext _ _ _ _ hx0 hC
  have hrp : RP (w.alloc (.cells #[.int .i64 p.d, G, .int .i64 p.gl, T, C] 27)) (.agg #[.int .i64 p.d, G, .int .i64 p.gl, T, C]) p := ⟨G, T, C, rfl, Rs.ext (Rs.ext RI.ext) _ _ _ _ hx0 hG, Rs.ext RI.ext _ _ _ _ hx0 hTT, hC0⟩
  have HRP := Lib.hid (And.intro hrp hx0)
  obtain ⟨A3, c3, rfl, hl3⟩ := hC.form
  have HC0 := Lib.hid hC0
  have HST := Lib.hid (counted_start (w := w) (d := p.d) (gl := p.gl) (G := G) (T := T) (C := .slice A3 p.ch.length c3))
  clear hG hTT hC hrp hx0 hC0
  by_cases h0 : Rk.check p = 0
  · have e1 : (Rk.check p != 0) = false := by rw [h0]; rfl
    have ho := Rk.ok_of h0
    have hfew := ho.few
    have HOK := Lib.hid (And.intro ho (And.intro h0 (Rk.lossOf_ok h0)))
    have h12 : 2 ^ p.ch.length ≤ 2 ^ 12 := Nat.pow_le_pow_right (by omega) hfew
    obtain ⟨N, hN⟩ : ∃ N, 2 ^ p.ch.length = N := ⟨_, rfl⟩
    have hwN : wrap64 (2 ^ p.ch.length) = (N : Int) := by rw [wrap_pow _ (by omega), hN]
    rw [hN] at h12
    have hN12 : N ≤ 4096 := h12
    have HN := Lib.hid (And.intro hN hwN)
    clear h0 ho h12 hN hwN
    go_enter Tryd.func13, Tryd.ntmps13
    go_wp2_with fail
    refine (qCheck_any p _ _ (RP.ext _ _ _ _ ((Ext.refl _).alloc _) HRP.out.1) hgn).mono ?_
    rintro e w1 ⟨rfl, hx1⟩
    have HO1 := Lib.hid (HST.out.next hx1)
    clear hx1
    go_wp2_with fail
    go_loopw [4, 5] (fun vs vi wr => ∃ k : Nat, k ≤ N ∧ vi = .int .i64 k ∧ vs = .int .i64 (Rk.lossTo p k : Nat) ∧ Hid (Owns (w.alloc (.cells #[.int .i64 p.d, G, .int .i64 p.gl, T, .slice A3 p.ch.length c3] 27)) wr [countedRow (w.heap.size + 1) (.int .i64 0) (.int .i64 0)])) (fun _ vi _ => N - (intOf vi).toNat)
    case atStart => exact ⟨0, Nat.zero_le _, rfl, by rw [Rk.lossTo_zero]; rfl, HO1⟩
    case round =>
      obtain ⟨k, hk, rfl, rfl, HI⟩ := hrel
      obtain ⟨c0, c1, c2, c3', c4⟩ := pe_cells HI.out.ext
      have hwN := HN.out.2
      have hls := loss_bound HOK.out.1 k (by omega)
      by_cases hlt : k < N
      · go_wp2_with fail
        clear hwN
        go_loop [6, 7] (fun vw vi => ∃ (i : Nat) (z : Int), i ≤ p.ch.length ∧ vi = .int .i64 i ∧ vw = .int .i64 z ∧ Hid (z = ((Rk.weightTo p.ch k i : Nat) : Int))) (fun _ vi => p.ch.length - (intOf vi).toNat)
        case atStart => exact ⟨0, 1, Nat.zero_le _, rfl, rfl, Lib.hid (by rw [Rk.weightTo_zero]; rfl)⟩
        case round =>
          obtain ⟨i, z, hi, rfl, rfl, HZ⟩ := hrel
          by_cases hlt2 : i < p.ch.length
          · obtain ⟨ad, u, rfl, hcell, hu⟩ := HC0.out.at hlt2
            obtain ⟨rfl, hlo, hhi⟩ := hu
            have hcell2 := HI.out.ext.cell hcell
            have hc16 := HOK.out.1.ch_ok _ (List.getElem_mem hlt2)
            have hstep := Rk.weightTo_succ p.ch k i
            have hgd : p.ch.getD i 0 = p.ch[i] := by rw [List.getD_eq_getElem?_getD, List.getElem?_eq_getElem hlt2]; rfl
            rw [hgd] at hstep
            have hmm : bits .and .i64 ((k : Int) / 2 ^ i) 1 = ((Cd.bitAt k i : Nat) : Int) := by
              have hle : k / 2 ^ i ≤ k := Nat.div_le_self _ _
              have := odd64 (k / 2 ^ i) (by omega)
              rw [Cd.bitAt, ← this]
              simp
            have hwb := weight_bound HOK.out.1 k (i + 1) (by omega)
            obtain ⟨x, hx⟩ : ∃ x, p.ch[i] = x := ⟨_, rfl⟩
            rw [hx] at hcell2 hlo hhi hc16 hstep
            rcases Cd.bit_01 k i with hb | hb
            · rw [hb] at hmm
              have hf : wrap64 (z * (16 - x)) = ((Rk.weightTo p.ch k (i + 1) : Nat) : Int) := by
                rw [hstep] at hwb ⊢
                have h1 : ((Rk.factor x (Cd.bitAt k i) : Nat) : Int) = 16 - x := by rw [Rk.factor_zero hb]; omega
                have h2 : z * (16 - x) = ((Rk.weightTo p.ch k i * Rk.factor x (Cd.bitAt k i) : Nat) : Int) := by rw [Int.natCast_mul, h1, HZ.out]
                rw [h2]
                exact wrap_nat _ (by omega)
              have HF := Lib.hid hf
              clear hf hstep hwb hb hcell hx hgd
              go_wp2_with fail
              go_round
              case rel => exact ⟨i + 1, _, by omega, by go_num, rfl, HF⟩
              case measure => simp [intOf]; omega
            · rw [hb] at hmm
              have hf : wrap64 (z * x) = ((Rk.weightTo p.ch k (i + 1) : Nat) : Int) := by
                rw [hstep] at hwb ⊢
                have h1 : ((Rk.factor x (Cd.bitAt k i) : Nat) : Int) = x := by rw [Rk.factor_one (by omega)]; omega
                have h2 : z * x = ((Rk.weightTo p.ch k i * Rk.factor x (Cd.bitAt k i) : Nat) : Int) := by rw [Int.natCast_mul, h1, HZ.out]
                rw [h2]
                exact wrap_nat _ (by omega)
              have HF := Lib.hid hf
              clear hf hstep hwb hb hcell hx hgd
              go_wp2_with fail
              go_round
              case rel => exact ⟨i + 1, _, by omega, by go_num, rfl, HF⟩
              case measure => simp [intOf]; omega
          · obtain rfl : i = p.ch.length := by omega
            have hwb := weight_bound HOK.out.1 k p.ch.length (Nat.le_refl _)
            have hsucc := Rk.lossTo_succ p k
            have hwd := Rk.weight_def p.ch k
            rw [hwd] at hsucc
            cases hlo : Rk.loses p k with
            | true =>
              rw [hlo, if_pos rfl] at hsucc
              have hz9 : z = ((Rk.weightTo p.ch k p.ch.length : Nat) : Int) := HZ.out
              have hadd : ((Rk.lossTo p k : Nat) : Int) + z = ((Rk.lossTo p (k + 1) : Nat) : Int) := by rw [hsucc, hz9]; omega
              have hb2 := loss_bound HOK.out.1 (k + 1) (by omega)
              obtain ⟨S2, hS2⟩ : ∃ S2, Rk.lossTo p (k + 1) = S2 := ⟨_, rfl⟩
              rw [hS2] at hadd hb2
              obtain ⟨S1, hS1⟩ : ∃ S1, Rk.lossTo p k = S1 := ⟨_, rfl⟩
              rw [hS1] at hadd hls ⊢
              have HLS := Lib.hid (And.intro hlo hS2)
              clear hsucc hlo hwd hz9 hwb hS1 hS2
              go_wp2_with fail
              clear c0 c1 c2 c3' c4
              refine (qLoses_any p k _ _ (RP.ext _ _ _ _ HI.out.ext HRP.out.1) HOK.out.1 (by omega)).mono ?_
              rintro e w2 ⟨rfl, hx2⟩
              rw [HLS.out.1]
              have HO2 := Lib.hid (HI.out.next hx2)
              clear hx2
              go_wp2_with fail
              go_roundw
              case rel => exact ⟨k + 1, by omega, by go_num, by rw [HLS.out.2], HO2⟩
              case measure => simp [intOf]; omega
            | false =>
              rw [hlo, if_neg (by decide), Nat.add_zero] at hsucc
              have HLS := Lib.hid (And.intro hlo hsucc)
              clear hsucc hlo hwd hwb
              go_wp2_with fail
              clear c0 c1 c2 c3' c4
              refine (qLoses_any p k _ _ (RP.ext _ _ _ _ HI.out.ext HRP.out.1) HOK.out.1 (by omega)).mono ?_
              rintro e w2 ⟨rfl, hx2⟩
              rw [HLS.out.1]
              have HO2 := Lib.hid (HI.out.next hx2)
              clear hx2
              go_wp2_with fail
              go_roundw
              case rel => exact ⟨k + 1, by omega, by go_num, by rw [HLS.out.2, Nat.add_zero], HO2⟩
              case measure => simp [intOf]; omega
      · obtain rfl : k = N := by omega
        have hc3 : wr.cell? ⟨w.heap.size + 1, 0, none⟩ = some (.int .i64 0) := HI.out.cell 0 rfl 0 rfl
        have hc4 : wr.cell? ⟨w.heap.size + 1, 1, none⟩ = some (.int .i64 0) := HI.out.cell 0 rfl 1 rfl
        have hf3 : wr.frozen? ⟨w.heap.size + 1, 0, none⟩ = false := HI.out.frozen 0 rfl 0
        have hf4 : wr.frozen? ⟨w.heap.size + 1, 1, none⟩ = false := HI.out.frozen 0 rfl 1
        go_wp2_with fail
        have hO7 := (HI.out.store 0 rfl 0 (.int .i64 (Rk.lossTo p k : Nat))).store 0 rfl 1 (.int .i64 0)
        exact bodyPost_ret (v := .agg #[.int .i64 (Rk.lossTo p k : Nat), .int .i64 0]) (by simp [results, Tryd.results13, go_sem, hc3, hc4]) rfl ⟨by rw [HOK.out.2.2, HOK.out.2.1, Rk.loss_def, HN.out.1], HRP.out.2.trans hO7.ext⟩
  · have e1 : (Rk.check p != 0) = true := by rw [bne_iff_ne]; exact h0
    have HP := Lib.hid (Rk.lossOf_no h0)
    clear h0
    go_enter Tryd.func13, Tryd.ntmps13
    go_wp2_with fail
    refine (qCheck_any p _ _ (RP.ext _ _ _ _ ((Ext.refl _).alloc _) HRP.out.1) hgn).mono ?_
    rintro e w1 ⟨rfl, hx1⟩
    have HO1 := Lib.hid (HST.out.next hx1)
    have hc3 : w1.cell? ⟨w.heap.size + 1, 0, none⟩ = some (.int .i64 0) := HO1.out.cell 0 rfl 0 rfl
    have hc4 : w1.cell? ⟨w.heap.size + 1, 1, none⟩ = some (.int .i64 0) := HO1.out.cell 0 rfl 1 rfl
    have hf3 : w1.frozen? ⟨w.heap.size + 1, 0, none⟩ = false := HO1.out.frozen 0 rfl 0
    have hf4 : w1.frozen? ⟨w.heap.size + 1, 1, none⟩ = false := HO1.out.frozen 0 rfl 1
    clear hx1
    go_wp2_with fail
    have hO7 := (HO1.out.store 0 rfl 0 (.int .i64 0)).store 0 rfl 1 (.int .i64 (Rk.check p))
    exact bodyPost_ret (v := .agg #[.int .i64 0, .int .i64 (Rk.check p)]) (by simp [results, Tryd.results13, go_sem, hc3, hc4]) rfl ⟨by rw [HP.out]; rfl, HRP.out.2.trans hO7.ext⟩
set_option maxRecDepth 100000 in
set_option maxHeartbeats 8000000 in
theorem qLeast_any (p : Rk.Pe) (v : Value) (w : World) (hv : RP w v p) (hgn : p.gs.length ≤ 1000000) :
    Calls Tryd.prog 14 #[v] w fun e w' => e = .returned (.agg #[.int .i64 (Rk.least firstB p : Nat), .int .i64 (Rk.check p)]) ∧ Ext w w' := by
  obtain ⟨G, T, C, rfl, hG, hTT, hC⟩ := hv
  have hx0 := (Ext.refl w).alloc (.cells #[.int .i64 p.d, G, .int .i64 p.gl, T, C] 27)
  have hC0 := Rs.ext RI.ext _ _ _ _ hx0 hC
  have hrp : RP (w.alloc (.cells #[.int .i64 p.d, G, .int .i64 p.gl, T, C] 27)) (.agg #[.int .i64 p.d, G, .int .i64 p.gl, T, C]) p := ⟨G, T, C, rfl, Rs.ext (Rs.ext RI.ext) _ _ _ _ hx0 hG, Rs.ext RI.ext _ _ _ _ hx0 hTT, hC0⟩
  have HRP := Lib.hid (And.intro hrp hx0)
  obtain ⟨A3, c3, rfl, hl3⟩ := hC.form
  have HST := Lib.hid (counted_start (w := w) (d := p.d) (gl := p.gl) (G := G) (T := T) (C := .slice A3 p.ch.length c3))
  clear hG hTT hC hrp hx0 hC0
  by_cases h0 : Rk.check p = 0
  · have e1 : (Rk.check p != 0) = false := by rw [h0]; rfl
    have ho := Rk.ok_of h0
    have hfew := ho.few
    have HOK := Lib.hid (And.intro ho (And.intro h0 (Rk.least_ok (fst := firstB) h0)))
    have h12 : 2 ^ p.ch.length ≤ 2 ^ 12 := Nat.pow_le_pow_right (by omega) hfew
    have hlb := fun k hk => Rk.leastTo_lt firstB p k hk
    have hl0 := Rk.leastTo_zero firstB p
    have hpos : 0 < 2 ^ p.ch.length := Nat.pow_pos (by omega)
    obtain ⟨N, hN⟩ : ∃ N, 2 ^ p.ch.length = N := ⟨_, rfl⟩
    have hwN : wrap64 (2 ^ p.ch.length) = (N : Int) := by rw [wrap_pow _ (by omega), hN]
    rw [hN] at h12 hlb hl0 hpos
    have hN12 : N ≤ 4096 := h12
    have HN := Lib.hid (And.intro hN (And.intro hwN (And.intro hlb hl0)))
    clear h0 ho h12 hN hlb hl0
    go_enter Tryd.func14, Tryd.ntmps14
    go_wp2_with fail
    refine (qCheck_any p _ _ (RP.ext _ _ _ _ ((Ext.refl _).alloc _) HRP.out.1) hgn).mono ?_
    rintro e w1 ⟨rfl, hx1⟩
    have HO1 := Lib.hid (HST.out.next hx1)
    obtain ⟨c0, c1, c2, c3', c4⟩ := pe_cells HO1.out.ext
    clear hx1
    go_wp2_with fail
    clear c0 c1 c2 c3' c4 hwN
    go_loopw [4, 5] (fun vs vi wr => ∃ k b : Nat, k ≤ N ∧ b < N ∧ vi = .int .i64 k ∧ vs = .int .i64 b ∧ Hid (Owns (w.alloc (.cells #[.int .i64 p.d, G, .int .i64 p.gl, T, .slice A3 p.ch.length c3] 27)) wr [countedRow (w.heap.size + 1) (.int .i64 0) (.int .i64 0)] ∧ b = Rk.leastTo firstB p k)) (fun _ vi _ => N - (intOf vi).toNat)
    case atStart => exact ⟨0, N - 1, Nat.zero_le _, by omega, rfl, by go_num, Lib.hid (And.intro HO1.out HN.out.2.2.2.symm)⟩
    case round =>
      obtain ⟨k, b, hk, hb, rfl, rfl, HI⟩ := hrel
      obtain ⟨c0, c1, c2, c3', c4⟩ := pe_cells HI.out.1.ext
      have hwN := HN.out.2.1
      by_cases hlt : k < N
      · have hfb := first_bef (a := k) (b := b) (by omega) (by omega)
        have hyes := fun h1 h2 => Rk.leastTo_yes (fst := firstB) (p := p) (k := k) h1 h2
        have hno := fun h1 => Rk.leastTo_no (fst := firstB) (p := p) (k := k) h1
        have hnot := fun h1 => Rk.leastTo_not (fst := firstB) (p := p) (k := k) h1
        rw [← HI.out.2] at hyes hno hnot
        rw [hfb] at hyes hno
        have hck := Cd.bit_01 0 0
        obtain ⟨r, hr⟩ : ∃ r, Rk.bef 12 k b = r := ⟨_, rfl⟩
        rw [hr] at hyes hno
        obtain ⟨ck, hck2⟩ : ∃ ck, Rk.cnt k = ck := ⟨_, rfl⟩
        obtain ⟨cb, hcb⟩ : ∃ cb, Rk.cnt b = cb := ⟨_, rfl⟩
        rw [hck2, hcb] at hyes hno
        have HA := Lib.hid (And.intro hr (And.intro hck2 hcb))
        have HB := Lib.hid (And.intro hyes (And.intro hno hnot))
        clear hfb hyes hno hnot hck hr hck2 hcb
        have six : (Rk.loses p k = false) ∨ (Rk.loses p k = true ∧ ck < cb) ∨ (Rk.loses p k = true ∧ ¬ ck < cb ∧ ck ≠ cb) ∨ (Rk.loses p k = true ∧ ck = cb ∧ r = true) ∨ (Rk.loses p k = true ∧ ck = cb ∧ r = false) := by
          cases Rk.loses p k with
          | false => exact .inl rfl
          | true =>
            by_cases h1 : ck < cb
            · exact .inr (.inl ⟨rfl, h1⟩)
            · by_cases h2 : ck = cb
              · cases r with
                | true => exact .inr (.inr (.inr (.inl ⟨rfl, h2, rfl⟩)))
                | false => exact .inr (.inr (.inr (.inr ⟨rfl, h2, rfl⟩)))
              · exact .inr (.inr (.inl ⟨rfl, h1, h2⟩))
        have bst : ∃ b2, b2 < N ∧ b2 = Rk.leastTo firstB p (k + 1) := ⟨_, HN.out.2.2.1 (k + 1) (by omega), rfl⟩
        have size_le : ∀ s, Rk.cnt s ≤ 16 := by
          have h : ∀ n s, Rk.cntF n s ≤ n := by
            intro n
            induction n with
            | zero => intro s; exact Nat.le_refl _
            | succ n ih => intro s; rw [Rk.cntF]; have := ih (s / 2); omega
          exact fun s => h 16 s
        have hk16 : ck ≤ 16 := by rw [← HA.out.2.1]; exact size_le k
        have hb16 : cb ≤ 16 := by rw [← HA.out.2.2]; exact size_le b
        clear size_le bst
        rcases six with g1 | ⟨g1, g2⟩ | ⟨g1, g2, g3⟩ | ⟨g1, g2, g3⟩ | ⟨g1, g2, g3⟩
        · have hst := HB.out.2.2 g1
          have HG1 := Lib.hid (And.intro g1 hst)
          clear g1 hst
          go_wp2_with fail
          clear c0 c1 c2 c3' c4 hwN
          refine (qLoses_any p k _ _ (RP.ext _ _ _ _ HI.out.1.ext HRP.out.1) HOK.out.1 (by omega)).mono ?_
          rintro e w2 ⟨rfl, hx2⟩
          rw [HG1.out.1]
          have HO2 := Lib.hid (HI.out.1.next hx2)
          clear hx2
          go_wp2_with fail
          refine (qBefore_any k b _ (by omega) (by omega)).mono ?_
          rintro e w3 ⟨rfl, rfl⟩
          rw [HA.out.1]
          go_wp2_with fail
          go_roundw
          case rel => exact ⟨k + 1, b, by omega, hb, by go_num, rfl, Lib.hid (And.intro HO2.out (by rw [HG1.out.2]))⟩
          case measure => simp [intOf]; omega
        · have hst := HB.out.1 (.inl g2) g1
          have HG1 := Lib.hid (And.intro g1 hst)
          clear g1 hst
          go_wp2_with fail
          clear c0 c1 c2 c3' c4 hwN
          refine (qLoses_any p k _ _ (RP.ext _ _ _ _ HI.out.1.ext HRP.out.1) HOK.out.1 (by omega)).mono ?_
          rintro e w2 ⟨rfl, hx2⟩
          rw [HG1.out.1]
          have HO2 := Lib.hid (HI.out.1.next hx2)
          clear hx2
          go_wp2_with fail
          refine (qBefore_any k b _ (by omega) (by omega)).mono ?_
          rintro e w3 ⟨rfl, rfl⟩
          rw [HA.out.1]
          go_wp2_with fail
          refine (qSize_any k _ (by omega)).mono ?_
          rintro e w4 ⟨rfl, rfl⟩
          rw [HA.out.2.1]
          go_wp2_with fail
          refine (qSize_any b _ (by omega)).mono ?_
          rintro e w4 ⟨rfl, rfl⟩
          rw [HA.out.2.2]
          go_wp2_with fail
          go_roundw
          case rel => exact ⟨k + 1, k, by omega, hlt, by go_num, rfl, Lib.hid (And.intro HO2.out (by rw [HG1.out.2]))⟩
          case measure => simp [intOf]; omega
        · have hst := HB.out.2.1 (fun h => by rcases h with h | h; exact g2 h; exact g3 h.1)
          have HG1 := Lib.hid (And.intro g1 hst)
          have e5 : ((ck : Int) == (cb : Int)) = false := by rw [beq_eq_false_iff_ne]; omega
          clear g1 hst g3
          go_wp2_with fail
          clear c0 c1 c2 c3' c4 hwN
          refine (qLoses_any p k _ _ (RP.ext _ _ _ _ HI.out.1.ext HRP.out.1) HOK.out.1 (by omega)).mono ?_
          rintro e w2 ⟨rfl, hx2⟩
          rw [HG1.out.1]
          have HO2 := Lib.hid (HI.out.1.next hx2)
          clear hx2
          go_wp2_with fail
          refine (qBefore_any k b _ (by omega) (by omega)).mono ?_
          rintro e w3 ⟨rfl, rfl⟩
          rw [HA.out.1]
          go_wp2_with fail
          refine (qSize_any k _ (by omega)).mono ?_
          rintro e w4 ⟨rfl, rfl⟩
          rw [HA.out.2.1]
          go_wp2_with fail
          refine (qSize_any b _ (by omega)).mono ?_
          rintro e w4 ⟨rfl, rfl⟩
          rw [HA.out.2.2]
          go_wp2_with fail
          refine (qSize_any k _ (by omega)).mono ?_
          rintro e w4 ⟨rfl, rfl⟩
          rw [HA.out.2.1]
          go_wp2_with fail
          refine (qSize_any b _ (by omega)).mono ?_
          rintro e w4 ⟨rfl, rfl⟩
          rw [HA.out.2.2]
          go_wp2_with fail
          go_roundw
          case rel => exact ⟨k + 1, b, by omega, hb, by go_num, rfl, Lib.hid (And.intro HO2.out (by rw [HG1.out.2]))⟩
          case measure => simp [intOf]; omega
        · have hst := HB.out.1 (.inr ⟨g2, g3⟩) g1
          have HG1 := Lib.hid (And.intro g1 (And.intro hst g3))
          have e5 : ((ck : Int) == (cb : Int)) = true := by rw [beq_iff_eq]; omega
          have e6 : ¬ ck < cb := by omega
          clear g1 hst g3 g2
          go_wp2_with fail
          clear c0 c1 c2 c3' c4 hwN
          refine (qLoses_any p k _ _ (RP.ext _ _ _ _ HI.out.1.ext HRP.out.1) HOK.out.1 (by omega)).mono ?_
          rintro e w2 ⟨rfl, hx2⟩
          rw [HG1.out.1]
          have HO2 := Lib.hid (HI.out.1.next hx2)
          clear hx2
          go_wp2_with fail
          refine (qBefore_any k b _ (by omega) (by omega)).mono ?_
          rintro e w3 ⟨rfl, rfl⟩
          rw [HA.out.1, HG1.out.2.2]
          go_wp2_with fail
          refine (qSize_any k _ (by omega)).mono ?_
          rintro e w4 ⟨rfl, rfl⟩
          rw [HA.out.2.1]
          go_wp2_with fail
          refine (qSize_any b _ (by omega)).mono ?_
          rintro e w4 ⟨rfl, rfl⟩
          rw [HA.out.2.2]
          go_wp2_with fail
          refine (qSize_any k _ (by omega)).mono ?_
          rintro e w4 ⟨rfl, rfl⟩
          rw [HA.out.2.1]
          go_wp2_with fail
          refine (qSize_any b _ (by omega)).mono ?_
          rintro e w4 ⟨rfl, rfl⟩
          rw [HA.out.2.2]
          go_wp2_with fail
          go_roundw
          case rel => exact ⟨k + 1, k, by omega, hlt, by go_num, rfl, Lib.hid (And.intro HO2.out (by rw [HG1.out.2.1]))⟩
          case measure => simp [intOf]; omega
        · have hst := HB.out.2.1 (fun h => by rcases h with h | h; omega; rw [g3] at h; exact absurd h.2 (by decide))
          have HG1 := Lib.hid (And.intro g1 (And.intro hst g3))
          have e5 : ((ck : Int) == (cb : Int)) = true := by rw [beq_iff_eq]; omega
          have e6 : ¬ ck < cb := by omega
          clear g1 hst g3 g2
          go_wp2_with fail
          clear c0 c1 c2 c3' c4 hwN
          refine (qLoses_any p k _ _ (RP.ext _ _ _ _ HI.out.1.ext HRP.out.1) HOK.out.1 (by omega)).mono ?_
          rintro e w2 ⟨rfl, hx2⟩
          rw [HG1.out.1]
          have HO2 := Lib.hid (HI.out.1.next hx2)
          clear hx2
          go_wp2_with fail
          refine (qBefore_any k b _ (by omega) (by omega)).mono ?_
          rintro e w3 ⟨rfl, rfl⟩
          rw [HA.out.1, HG1.out.2.2]
          go_wp2_with fail
          refine (qSize_any k _ (by omega)).mono ?_
          rintro e w4 ⟨rfl, rfl⟩
          rw [HA.out.2.1]
          go_wp2_with fail
          refine (qSize_any b _ (by omega)).mono ?_
          rintro e w4 ⟨rfl, rfl⟩
          rw [HA.out.2.2]
          go_wp2_with fail
          refine (qSize_any k _ (by omega)).mono ?_
          rintro e w4 ⟨rfl, rfl⟩
          rw [HA.out.2.1]
          go_wp2_with fail
          refine (qSize_any b _ (by omega)).mono ?_
          rintro e w4 ⟨rfl, rfl⟩
          rw [HA.out.2.2]
          go_wp2_with fail
          go_roundw
          case rel => exact ⟨k + 1, b, by omega, hb, by go_num, rfl, Lib.hid (And.intro HO2.out (by rw [HG1.out.2.1]))⟩
          case measure => simp [intOf]; omega
      · obtain rfl : k = N := by omega
        have hc3 : wr.cell? ⟨w.heap.size + 1, 0, none⟩ = some (.int .i64 0) := HI.out.1.cell 0 rfl 0 rfl
        have hc4 : wr.cell? ⟨w.heap.size + 1, 1, none⟩ = some (.int .i64 0) := HI.out.1.cell 0 rfl 1 rfl
        have hf3 : wr.frozen? ⟨w.heap.size + 1, 0, none⟩ = false := HI.out.1.frozen 0 rfl 0
        have hf4 : wr.frozen? ⟨w.heap.size + 1, 1, none⟩ = false := HI.out.1.frozen 0 rfl 1
        go_wp2_with fail
        have hO7 := (HI.out.1.store 0 rfl 0 (.int .i64 b)).store 0 rfl 1 (.int .i64 0)
        exact bodyPost_ret (v := .agg #[.int .i64 b, .int .i64 0]) (by simp [results, Tryd.results14, go_sem, hc3, hc4]) rfl ⟨by rw [HOK.out.2.2, HOK.out.2.1, HI.out.2, HN.out.1], HRP.out.2.trans hO7.ext⟩
  · have e1 : (Rk.check p != 0) = true := by rw [bne_iff_ne]; exact h0
    have HP := Lib.hid (Rk.least_no (fst := firstB) h0)
    clear h0
    go_enter Tryd.func14, Tryd.ntmps14
    go_wp2_with fail
    refine (qCheck_any p _ _ (RP.ext _ _ _ _ ((Ext.refl _).alloc _) HRP.out.1) hgn).mono ?_
    rintro e w1 ⟨rfl, hx1⟩
    have HO1 := Lib.hid (HST.out.next hx1)
    have hc3 : w1.cell? ⟨w.heap.size + 1, 0, none⟩ = some (.int .i64 0) := HO1.out.cell 0 rfl 0 rfl
    have hc4 : w1.cell? ⟨w.heap.size + 1, 1, none⟩ = some (.int .i64 0) := HO1.out.cell 0 rfl 1 rfl
    have hf3 : w1.frozen? ⟨w.heap.size + 1, 0, none⟩ = false := HO1.out.frozen 0 rfl 0
    have hf4 : w1.frozen? ⟨w.heap.size + 1, 1, none⟩ = false := HO1.out.frozen 0 rfl 1
    clear hx1
    go_wp2_with fail
    have hO7 := (HO1.out.store 0 rfl 0 (.int .i64 0)).store 0 rfl 1 (.int .i64 (Rk.check p))
    exact bodyPost_ret (v := .agg #[.int .i64 0, .int .i64 (Rk.check p)]) (by simp [results, Tryd.results14, go_sem, hc3, hc4]) rfl ⟨by rw [HP.out]; rfl, HRP.out.2.trans hO7.ext⟩
end Go.Proofs.YtdbolgollpnfdaaDoor
