/- What the program's functions do, step by step: part F of the texts for this claim; no condition beyond what each theorem states. -/
import Derived.Test.YtdmljilcbndmfaaDoorRbChoBunA
import Derived.Test.YtdmljilcbndmfaaDoorRbChoBunB
import Derived.Test.YtdmljilcbndmfaaDoorRbChoBunC
import Derived.Test.YtdmljilcbndmfaaDoorRbChoBunD
import Derived.Test.YtdmljilcbndmfaaDoorRbChoBunE
/- THE WALK over wrong of the specification of rebuilds. -/
namespace Go.Proofs.YtdmljilcbndmfaaDoor
open Go.RowKit
set_option maxHeartbeats 8000000 in
set_option maxRecDepth 100000 in
theorem sWrong_any (d gl : Int) (gs : List (List Int)) (lost piece : Int) (G : Value) (w : World) (hG : Rs (Rs RI) w G gs) (hgn : gs.length ≤ 4611686018427387904) :
    Calls Tryd.prog 44 #[.agg #[.int .i64 d, G, .int .i64 gl], .int .i64 lost, .int .i64 piece] w fun e w' => e = .returned (.int .i64 (Rb.err1 d gl gs lost piece)) ∧ Ext w w' := by
  obtain ⟨GA, Gc, rfl, _⟩ := hG.form
  obtain ⟨ng, hng⟩ : ∃ ng, gs.length = ng := ⟨_, rfl⟩
  have hx1 := (Ext.refl w).alloc (.cells #[.int .i64 d, .slice GA ng Gc, .int .i64 gl] 24)
  have hB : Owns w (w.alloc (.cells #[.int .i64 d, .slice GA ng Gc, .int .i64 gl] 24)) [⟨.slice (some ⟨w.heap.size, 0, none⟩) 3 3, 24, 1, 3, [.int .i64 d, .slice GA ng Gc, .int .i64 gl]⟩] := (Owns.start w (L := [no]) (by intro r hr; simp at hr; subst hr; exact ⟨rfl, rfl, rfl⟩)).new 0 #[.int .i64 d, .slice GA ng Gc, .int .i64 gl] 24 (by simp [maxLen])
  rw [hng] at hG ⊢
  have hpn : Cd.check d gs gl = 0 → Cd.pieces d gs gl = ((Cd.rowsOf d gs gl).length : Int) := fun h => by rw [Cd.pieces_ok h, Cd.rowsOf_len h]
  have hn24 : Cd.check d gs gl = 0 → (Cd.rowsOf d gs gl).length ≤ 24 := fun h => by have h1 := Cd.rowsOf_len h; have h2 := Cd.check_ok h; omega
  obtain ⟨er, her⟩ : ∃ er, Rb.err1 d gl gs lost piece = er := ⟨_, rfl⟩
  rw [her]
  have HER := Lib.hid her
  have HPN := Lib.hid (And.intro hpn hn24)
  clear her hpn hn24
  have HG := Lib.hid (And.intro hG hgn)
  have HB := Lib.hid hB
  clear hG hgn hB hng hx1
  go_enter Tryd.func44, Tryd.ntmps44
  go_upto_region 1 with fail
  obtain ⟨Q, hQ⟩ : ∃ Q, w.heap.size = Q := ⟨_, rfl⟩
  rw [hQ] at HB ⊢
  obtain ⟨w1, hw1⟩ : ∃ x, w.alloc (.cells #[.int .i64 d, .slice GA ng Gc, .int .i64 gl] 24) = x := ⟨_, rfl⟩
  rw [hw1] at HB ⊢
  clear hw1 hQ
  have HCK := Lib.hid (rCheck_any d gl gs _ w1 (Rs.ext (Rs.ext RI.ext) _ _ _ _ HB.out.ext HG.out.1) HG.out.2)
  have b0 : w1.cell? ⟨Q, 0, none⟩ = some (.int .i64 d) := HB.out.cell 0 rfl 0 rfl
  have b1 : w1.cell? ⟨Q, 1, none⟩ = some (.slice GA ng Gc) := HB.out.cell 0 rfl 1 rfl
  have b2 : w1.cell? ⟨Q, 2, none⟩ = some (.int .i64 gl) := HB.out.cell 0 rfl 2 rfl
  go_wp2_with fail
  refine HCK.out.mono ?_
  clear HCK
  rintro e w2 ⟨rfl, hx2⟩
  have HB2 := Lib.hid (HB.out.next hx2)
  clear hx2 b0 b1 b2
  obtain ⟨ck, hck⟩ : ∃ ck, Cd.check d gs gl = ck := ⟨_, rfl⟩
  rw [hck]
  have HC := Lib.hid hck
  clear hck
  by_cases h0 : ck = 0
  case neg =>
    have hne : (ck == 0) = false := by rw [beq_eq_false_iff_ne]; exact h0
    have hne2 : (ck != 0) = true := by rw [bne_iff_ne]; exact h0
    have he : er = ck := by rw [← HER.out, Rb.err1_bad (by rw [Rb.err0_bad (by rw [HC.out]; exact h0), HC.out]; exact h0), Rb.err0_bad (by rw [HC.out]; exact h0), HC.out]
    have HE := Lib.hid he
    clear h0 he
    go_wp2_with fail
    go_ret
    exact ⟨by rw [HE.out]; rfl, HB2.out.ext⟩
  case pos =>
    subst h0
    have hpn := HPN.out.1 HC.out
    have hn24 := HPN.out.2 HC.out
    obtain ⟨n, hn⟩ : ∃ n, (Cd.rowsOf d gs gl).length = n := ⟨_, rfl⟩
    rw [hn] at hpn hn24
    have HP := Lib.hid (rPieces_any d gl gs _ w2 (Rs.ext (Rs.ext RI.ext) _ _ _ _ HB2.out.ext HG.out.1) HG.out.2)
    have hp := HP.out
    rw [hpn] at hp
    have HP2 := Lib.hid hp
    have HN := Lib.hid hn
    have b0 : w2.cell? ⟨Q, 0, none⟩ = some (.int .i64 d) := HB2.out.cell 0 rfl 0 rfl
    have b1 : w2.cell? ⟨Q, 1, none⟩ = some (.slice GA ng Gc) := HB2.out.cell 0 rfl 1 rfl
    have b2 : w2.cell? ⟨Q, 2, none⟩ = some (.int .i64 gl) := HB2.out.cell 0 rfl 2 rfl
    clear hp HP hn hpn
    go_wp2_with fail
    refine HP2.out.mono ?_
    clear HP2
    rintro e w3 ⟨rfl, hx3⟩
    have HX3 := Lib.hid (HB2.out.next hx3).ext
    clear hx3 b0 b1 b2
    by_cases h16 : 16 < n
    case pos =>
      have h16' : (16 : Int) < (n : Int) := by omega
      have he : er = 2 := by
        have h1 := Rb.err0_many (lost := lost) HC.out (by rw [HN.out]; exact h16)
        rw [← HER.out, Rb.err1_bad (by rw [h1]; decide), h1]
      have HE := Lib.hid he
      clear he
      go_wp2_with fail
      go_ret
      exact ⟨by rw [HE.out]; rfl, HX3.out⟩
    case neg =>
      have h16' : ¬ (16 : Int) < (n : Int) := by omega
      obtain ⟨wo, rfl⟩ : ∃ wo, wo = w3 := ⟨_, rfl⟩
      go_wp2_with fail
      go_loopw [9, 10] (fun v9 v10 wr => ∃ k y : Nat, k ≤ n ∧ v10 = .int .i64 (k : Nat) ∧ v9 = .int .i64 (y : Nat) ∧ wr = wo ∧ Hid (y = 2 ^ k)) (fun _ v10 _ => n - (intOf v10).toNat)
      case atStart => exact ⟨0, 1, Nat.zero_le _, rfl, rfl, rfl, Lib.hid (by simp)⟩
      case round =>
        obtain ⟨k, y, hk, rfl, rfl, hwr, HI⟩ := hrel
        subst hwr
        have hy : y ≤ 65536 := by
          rw [HI.out]
          exact Nat.le_trans (Nat.pow_le_pow_right (by decide) (show k ≤ 16 by omega)) (by decide)
        by_cases hlt : k < n
        · go_wp2_with fail
          go_roundw
          case rel => exact ⟨k + 1, 2 * y, by omega, by go_num, by go_num, (by first | trivial | rfl), Lib.hid (by rw [HI.out, Nat.pow_succ]; omega)⟩
          case measure => simp [intOf]; omega
        · obtain rfl : n = k := by omega
          have hy2 := HI.out
          have hend : ∀ (b : Bool), ((lost < 0 ∨ (y : Int) ≤ lost ∨ piece < 0 ∨ (n : Int) ≤ piece) ↔ b = true) → er = if b then 1 else 0 := fun b hb => by
            rw [← HER.out]
            by_cases hl : lost < 0 ∨ ((2 ^ (Cd.rowsOf d gs gl).length : Nat) : Int) ≤ lost
            · have h1 := Rb.err0_lost HC.out (by rw [HN.out]; exact h16) hl
              rw [HN.out, ← hy2] at hl
              have hbt : b = true := hb.1 (by omega)
              rw [Rb.err1_bad (by rw [h1]; decide), h1, hbt]; rfl
            · have h1 := Rb.err0_ok HC.out (by rw [HN.out]; exact h16) hl
              rw [HN.out, ← hy2] at hl
              by_cases hp : piece < 0 ∨ ((Cd.rowsOf d gs gl).length : Int) ≤ piece
              · rw [Rb.err1_piece h1 hp]
                rw [HN.out] at hp
                have hbt : b = true := hb.1 (by omega)
                rw [hbt]; rfl
              · rw [Rb.err1_ok h1 hp]
                rw [HN.out] at hp
                have hbt : b = false := Bool.eq_false_iff.2 fun e => by have := hb.2 e; omega
                rw [hbt]; rfl
          have HEND := Lib.hid hend
          clear hend hy2
          by_cases c1 : lost < 0
          · have he := HEND.out true ⟨fun _ => rfl, fun _ => .inl c1⟩
            have HE := Lib.hid he
            clear he
            go_wp2_with fail
            go_ret
            exact ⟨by rw [HE.out]; rfl, HX3.out⟩
          by_cases c2 : (y : Int) ≤ lost
          · have he := HEND.out true ⟨fun _ => rfl, fun _ => .inr (.inl c2)⟩
            have HE := Lib.hid he
            clear he
            go_wp2_with fail
            go_ret
            exact ⟨by rw [HE.out]; rfl, HX3.out⟩
          by_cases c3 : piece < 0
          · have he := HEND.out true ⟨fun _ => rfl, fun _ => .inr (.inr (.inl c3))⟩
            have HE := Lib.hid he
            clear he
            go_wp2_with fail
            go_ret
            exact ⟨by rw [HE.out]; rfl, HX3.out⟩
          by_cases c4 : (n : Int) ≤ piece
          · have he := HEND.out true ⟨fun _ => rfl, fun _ => .inr (.inr (.inr c4))⟩
            have HE := Lib.hid he
            clear he
            go_wp2_with fail
            go_ret
            exact ⟨by rw [HE.out]; rfl, HX3.out⟩
          · have he := HEND.out false ⟨fun h => by omega, fun h => by cases h⟩
            have HE := Lib.hid he
            clear he
            go_wp2_with fail
            go_ret
            exact ⟨by rw [HE.out]; rfl, HX3.out⟩
end Go.Proofs.YtdmljilcbndmfaaDoor

/- An append of some elements, or of none, to a row of the call's own. -/
namespace Go.Proofs.YtdmljilcbndmfaaDoor
open Go.RowKit
theorem run_append_zero2 {P : Program} {t ty e : TypeId} {z : Value} {bytes : Nat} (ht : P.underlying t = some (.slice e)) (hi : (P.info? e).map (fun i => (i.zero, i.size, i.bytes)) = some (some z, 1, bytes)) (w : World) (b n c0 : Nat) (hnc : n ≤ c0) (B : Option Addr) (c : Nat) :
    (Builtin.append_ #[t, t] ty #[.slice (some ⟨b, 0, none⟩) n c0, .slice B 0 c]).run P w = .ok (.slice (some ⟨b, 0, none⟩) n c0) w := by
  obtain ⟨i0, hi0, hiz, hi1, hi2⟩ := info_parts hi
  cases B <;> simp [Builtin.append_, run_underlying ht, sizeOf, typeInfo, hi0, hi1, Builtin.lenOf, Builtin.firstCells, loadCells, loadCellsFrom, storeCells, Result.andThen, hnc]
/-- An append of any number of elements. -/
theorem run_append_more {P : Program} {w0 w : World} {L : List LRow} (t ty e : TypeId) {z : Value} {bytes : Nat} (ht : P.underlying t = some (.slice e)) (hi : (P.info? e).map (fun i => (i.zero, i.size, i.bytes)) = some (some z, 1, bytes)) (hzs : z.cells.size = 1)
    (h : Owns w0 w L) (i : Nat) {b n c0 : Nat} {xs : List Value} (hL : L[i]? = some ⟨.slice (some ⟨b, 0, none⟩) n c0, e, 1, n, xs⟩) (hnc : n ≤ c0) {B : Option Addr} {m c : Nat} {news : List Value}
    (hl : news.length = m) (hrd : Rd w B news) (h1 : ∀ u ∈ news, u.oneCell' = true) (hm : m + n < 100000000000) (hb : bytes ≤ 100) :
    ∃ g cap w', (Builtin.append_ #[t, t] ty #[.slice (some ⟨b, 0, none⟩) n c0, .slice B m c]).run P w = .ok (.slice (some ⟨g, 0, none⟩) (n + m) cap) w' ∧ Owns w0 w' (L.set i ⟨.slice (some ⟨g, 0, none⟩) (n + m) cap, e, 1, n + m, xs ++ news⟩) := by
  by_cases h0 : m = 0
  · subst h0
    have hn : news = [] := List.length_eq_zero_iff.1 hl
    subst hn
    refine ⟨b, c0, w, run_append_zero2 (P := P) (ty := ty) ht hi w b n c0 hnc B c, ?_⟩
    rw [List.append_nil, Nat.add_zero]
    have e : L.set i ⟨.slice (some ⟨b, 0, none⟩) n c0, e, 1, n, xs⟩ = L := by
      apply List.ext_getElem?
      intro j
      rw [List.getElem?_set]
      split
      · rename_i hij
        subst hij
        split
        · rw [hL]
        · rename_i hlt; rw [List.getElem?_eq_none (by omega)]
      · rfl
    rw [e]
    exact h
  · obtain ⟨ad, rfl, _, _⟩ := hrd.at (k := 0) (by omega)
    have hbb : (n + m) * bytes ≤ (n + m) * 100 := Nat.mul_le_mul_left _ hb
    obtain ⟨g, cap, w', hr, h2, _, _⟩ := run_append_owns (P := P) t ty e ht hi hzs (by decide) h i hL ad m c news (by omega) (fun j u hj => (hrd.all (List.getElem?_eq_some_iff.1 hj).1).trans (by rw [(List.getElem?_eq_some_iff.1 hj).2])) h1 (by omega) (by unfold maxLen; omega) (by omega)
    exact ⟨g, cap, w', hr, h2⟩
theorem wpOp_append_more {P : Program} {w0 w : World} {L : List LRow} {ops : Array Oper} {o : Oper} {a : Act} {Q : Exit → Act → World → Prop} {K : Act → World → Prop} {i0 : Nat} (hi0 : ops[i0]? = some o) (hg : o.guard = none) (t e : TypeId) {s x : Operand}
    (ho : o.op = .call { callee := .builtin .append, args := #[s, x], argTypes := #[t, t] })
    {z : Value} {bytes : Nat} (ht : P.underlying t = some (.slice e)) (hi : (P.info? e).map (fun i => (i.zero, i.size, i.bytes)) = some (some z, 1, bytes)) (hzs : z.cells.size = 1)
    (h : Owns w0 w L) (i : Nat) {b n c0 : Nat} {xs : List Value} (hL : L[i]? = some ⟨.slice (some ⟨b, 0, none⟩) n c0, e, 1, n, xs⟩) (hnc : n ≤ c0) (hs : a.eval s = .slice (some ⟨b, 0, none⟩) n c0) {B : Option Addr} {m c : Nat} {news : List Value}
    (hx : a.eval x = .slice B m c) (hl : news.length = m) (hrd : Rd w B news) (h1 : ∀ u ∈ news, u.oneCell' = true) (hm : m + n < 100000000000) (hb : bytes ≤ 100)
    (hK : ∀ g cap w', Owns w0 w' (L.set i ⟨.slice (some ⟨g, 0, none⟩) (n + m) cap, e, 1, n + m, xs ++ news⟩) → K (a.put o.dst (.slice (some ⟨g, 0, none⟩) (n + m) cap)) w') : wpOp P ops Q i0 K a w := by
  obtain ⟨g, cap, w', hr, h2⟩ := run_append_more (P := P) t o.type e ht hi hzs h i hL hnc (c := c) hl hrd h1 hm hb
  refine wpOp_value hi0 hg ?_ (hK g cap w' h2)
  unfold execOp
  simp only [ho, resolve, invoke, builtin, Sem.run_bind, Sem.run_pure, Result.andThen_ok, List.map_toArray, List.map_cons, List.map_nil, hs, hx, hr]
end Go.Proofs.YtdmljilcbndmfaaDoor

/- THE DRAWN REGION of Choices of the specification of rebuilds. -/
namespace Go.Proofs.YtdmljilcbndmfaaDoor
open Go.RowKit
theorem info_si8 : (Tryd.prog.info? 27).map (fun i => (i.zero, i.size, i.bytes)) = some (some (.slice none 0 0), 1, 24) := by kernel_rfl
theorem one_ints8 {l : List Int} : ∀ u ∈ l.map (Value.int .i64), u.oneCell' = true := fun u hu => by
  obtain ⟨x, _, rfl⟩ := List.mem_map.1 hu
  rfl
theorem Owns.drew2 {w0 w : World} {r : LRow} {L : List LRow} (h : Owns w0 w (r :: L)) : Owns w0 w.drew (r :: no :: no :: L) := by
  have h3 := h.drew.wider.wider
  refine h3.perm ?_
  have e : ((r :: L) ++ [no]) ++ [no] = r :: (L ++ [no, no]) := by simp
  rw [e]
  exact List.Perm.cons _ (List.perm_append_comm (l₁ := L) (l₂ := [no, no]))
/-- What a call owns, behind what was owned ahead of it. -/
theorem Owns.merge {w0 w1 w2 : World} {L M : List LRow} (h : Owns w0 w1 L) (h2 : Owns w1 w2 M) : Owns w0 w2 (L ++ M) := by
  have hn := h.next h2.ext
  refine Owns.of_pairwise hn.ext (fun r hr => ?_) (List.pairwise_append.mpr ⟨hn.pairwise, h2.pairwise, fun a ha b hb => ?_⟩)
  · rcases List.mem_append.1 hr with h3 | h3
    · exact hn.all r h3
    · have ho := h2.all r h3
      exact ⟨ho.1, ho.2.imp id fun ⟨g, cap, cur, e1, e2, e3⟩ => ⟨g, cap, cur, e1, Nat.le_trans h.ext.size e2, e3⟩⟩
  · unfold LRow.far
    cases hv : a.v.ownBlock with
    | none => exact .inl rfl
    | some g =>
      refine .inr fun hh => ?_
      have h3 := (World.ownsRow.lt (h.all a ha) g hv).2
      have h4 := (World.ownsRow.lt (h2.all b hb) g hh.symm).1
      omega
/-- Lists of numbers, all in blocks of the call's own. -/
def ChO (w0 W : World) (q oc : Nat) (oA : Option Addr) (LL : List LRow) (ys : List (List Int)) : Prop := ∃ vs : List Value, Owns w0 W (⟨.slice oA q oc, 27, 1, q, vs⟩ :: LL) ∧ vs.length = q ∧ ys.length = q ∧ ∀ i, i < q → ∃ g c m, m = (ys.getD i []).length ∧ vs[i]? = some (.slice (some ⟨g, 0, none⟩) m c) ∧ (⟨.slice (some ⟨g, 0, none⟩) m c, 3, 1, m, (ys.getD i []).map (.int .i64)⟩ : LRow) ∈ LL
theorem ChO.push {w0 W' : World} {q g10 k10 g12 k12 m : Nat} {LL : List LRow} {ys : List (List Int)} {x : List Int} {vs : List Value} (hvl : vs.length = q) (hyl : ys.length = q)
    (hin : ∀ i, i < q → ∃ g c m, m = (ys.getD i []).length ∧ vs[i]? = some (.slice (some ⟨g, 0, none⟩) m c) ∧ (⟨.slice (some ⟨g, 0, none⟩) m c, 3, 1, m, (ys.getD i []).map (.int .i64)⟩ : LRow) ∈ LL) (hm : m = x.length)
    (hO : Owns w0 W' (⟨.slice (some ⟨g12, 0, none⟩) (q + 1) k12, 27, 1, q + 1, vs ++ [.slice (some ⟨g10, 0, none⟩) m k10]⟩ :: ⟨.slice (some ⟨g10, 0, none⟩) m k10, 3, 1, m, x.map (.int .i64)⟩ :: LL)) :
    ChO w0 W' (q + 1) k12 (some ⟨g12, 0, none⟩) (⟨.slice (some ⟨g10, 0, none⟩) m k10, 3, 1, m, x.map (.int .i64)⟩ :: LL) (ys ++ [x]) := by
  refine ⟨_, hO, by rw [List.length_append, hvl]; rfl, by rw [List.length_append, hyl]; rfl, fun i hi => ?_⟩
  by_cases he : i = q
  · have e : (ys ++ [x]).getD i [] = x := by rw [he, List.getD_eq_getElem?_getD, List.getElem?_append_right (by omega), hyl, Nat.sub_self]; rfl
    rw [e]
    exact ⟨g10, k10, m, hm, by rw [he, List.getElem?_append_right (by omega), hvl, Nat.sub_self]; rfl, List.mem_cons_self⟩
  · have e : (ys ++ [x]).getD i [] = ys.getD i [] := by rw [List.getD_eq_getElem?_getD, List.getElem?_append_left (by omega), ← List.getD_eq_getElem?_getD]
    rw [e]
    obtain ⟨g, c, m', e1, e2, e3⟩ := hin i (by omega)
    exact ⟨g, c, m', e1, by rw [List.getElem?_append_left (by omega)]; exact e2, List.mem_cons_of_mem _ e3⟩
noncomputable def ch11_code : Code := ((Tryd.f46.body.bind (regionOf 11)).getD .skip)
def ch11_dsts : List (Option Nat) := [some 32, some 33, some 34, some 35, some 36, some 37, some 38, some 39, some 40, some 41, some 42, some 43, some 44, some 5]
theorem ch11_apart : apartD ch11_dsts = true := by decide +kernel
set_option maxRecDepth 1000000 in
set_option maxHeartbeats 16000000 in
theorem ch11 (w0 wr : World) (k i N cl nr cr m cx q oc : Nat) (oA XA : Option Addr) (la ra : Addr) (y : Int) (xs : List Int) (vs : List Value) (LL : List LRow) (hkN : k < N) (hin : i < nr) (hq : q < 1000000000) (hxl : xs.length = m) (hm : m ≤ 1000) (hy : w0.cell? (la.add k) = some (.int .i64 y)) (HR : Hid (∀ (W : World) (R0 R1 R2 : LRow), Owns w0 W (R0 :: R1 :: R2 :: LL) → W.cell? (ra.add i) = some (.slice XA m cx))) (HRD : Hid (∀ (W : World) (R0 R1 R2 : LRow), Owns w0 W (R0 :: R1 :: R2 :: LL) → Rd W XA (xs.map (Value.int .i64)))) (HOO : Hid (Owns w0 wr (⟨.slice oA q oc, 27, 1, q, vs⟩ :: LL))) (c1 c2 c3 c4 c9 c10 c11 c12 c13 c14 c15 c16 c17 c18 c19 c20 c21 c22 c23 c24 c25 c26 c27 c28 c29 c30 c31 c32 c33 c34 c35 c36 c37 c38 c39 c40 c41 c42 c43 c44 c45 : Value) (df : List Deferred) (K : Act → World → Prop)
    (hK : ∀ (g10 k10 g12 k12 : Nat) (u32 u33 u34 u35 u36 u37 u38 u39 u40 u41 u42 u43 u44 : Value) (wx : World), Owns w0 wx (⟨.slice (some ⟨g12, 0, none⟩) (q + 1) k12, 27, 1, q + 1, vs ++ [.slice (some ⟨g10, 0, none⟩) (1 + m) k10]⟩ :: ⟨.slice (some ⟨g10, 0, none⟩) (1 + m) k10, 3, 1, 1 + m, [.int .i64 y] ++ xs.map (Value.int .i64)⟩ :: LL) → K ⟨#[.slice (some la) N cl, c1, c2, c3, c4, .slice (some ⟨g12, 0, none⟩) (q + 1) k12, .int .i64 (k : Nat), .slice (some ra) nr cr, .int .i64 (i : Nat), c9, c10, c11, c12, c13, c14, c15, c16, c17, c18, c19, c20, c21, c22, c23, c24, c25, c26, c27, c28, c29, c30, c31, u32, u33, u34, u35, u36, u37, u38, u39, u40, u41, u42, u43, u44, c45], df⟩ wx) :
    Code.wp Tryd.prog ch11_code (AtEnd K) ⟨#[.slice (some la) N cl, c1, c2, c3, c4, .slice oA q oc, .int .i64 (k : Nat), .slice (some ra) nr cr, .int .i64 (i : Nat), c9, c10, c11, c12, c13, c14, c15, c16, c17, c18, c19, c20, c21, c22, c23, c24, c25, c26, c27, c28, c29, c30, c31, c32, c33, c34, c35, c36, c37, c38, c39, c40, c41, c42, c43, c44, c45], df⟩ wr := by
  conv => arg 2; whnf
  refine region_inv (by kernel_rfl) [[], [], [], [1, 2], [3], [4], [], [], [6, 7], [8], [5, 9], [10], [0, 11, 10], [12, 12, 0, 1, 2, 3, 4, 5, 6, 7, 8, 9, 10, 11, 12]] (by kernel_rfl) [0, 1, 2, 3, 4, 5, 6, 7, 8, 9, 10, 11, 12, 13] (by decide +kernel) (by decide +kernel) (by decide +kernel) (fun L a wc => ∃ (g5 : Nat) (g10 : Nat) (k10 : Nat) (g11 : Nat) (g12 : Nat) (k12 : Nat), InvO ch11_dsts [.slice oA q oc, .slice (some la) N cl, .int .i64 (k : Nat), .pointer (some (la.add k)), .int .i64 y, .slice (some ⟨g5, 0, none⟩) 1 1, .slice (some ra) nr cr, .int .i64 (i : Nat), .pointer (some (ra.add i)), .slice XA m cx, .slice (some ⟨g10, 0, none⟩) (1 + m) k10, .slice (some ⟨g11, 0, none⟩) 1 1, .slice (some ⟨g12, 0, none⟩) (q + 1) k12, .slice (some ⟨g12, 0, none⟩) (q + 1) k12] ⟨#[.slice (some la) N cl, c1, c2, c3, c4, .slice oA q oc, .int .i64 (k : Nat), .slice (some ra) nr cr, .int .i64 (i : Nat), c9, c10, c11, c12, c13, c14, c15, c16, c17, c18, c19, c20, c21, c22, c23, c24, c25, c26, c27, c28, c29, c30, c31, c32, c33, c34, c35, c36, c37, c38, c39, c40, c41, c42, c43, c44, c45], df⟩ L a ∧ Hid (Owns w0 wc ((if L 12 = true then ⟨.slice (some ⟨g12, 0, none⟩) (q + 1) k12, 27, 1, q + 1, vs ++ [.slice (some ⟨g10, 0, none⟩) (1 + m) k10]⟩ else ⟨.slice oA q oc, 27, 1, q, vs⟩) :: (if L 10 = true then ⟨.slice (some ⟨g10, 0, none⟩) (1 + m) k10, 3, 1, 1 + m, [.int .i64 y] ++ xs.map (Value.int .i64)⟩ else if L 5 = true then ⟨.slice (some ⟨g5, 0, none⟩) 1 1, 3, 1, 1, [.int .i64 y]⟩ else no) :: (if L 11 = true then ⟨.slice (some ⟨g11, 0, none⟩) 1 1, 27, 1, 1, [.slice (some ⟨g10, 0, none⟩) (1 + m) k10]⟩ else no) :: LL))) ⟨0, 0, 0, 0, 0, 0, InvO.start, Lib.hid (HOO.out.drew2)⟩ ?_ ?_
  · refine ⟨?_, ?_, ?_, ?_, ?_, ?_, ?_, ?_, ?_, ?_, ?_, ?_, ?_, ?_, trivial⟩
    ·
      rintro L a wc ⟨g5, g10, k10, g11, g12, k12, hv, HO⟩ hL hc hd
      exact wpOp_val rfl rfl (ex_move rfl ((hv.old 13 5 rfl (Bool.eq_false_iff.2 fun h => Bool.false_ne_true (hL.symm.trans (hc 13 h 0 (by decide))))).trans rfl)) ⟨g5, g10, k10, g11, g12, k12, hv.put ch11_apart 0 rfl (lb rfl) (lb rfl) rfl, HO⟩
    ·
      rintro L a wc ⟨g5, g10, k10, g11, g12, k12, hv, HO⟩ hL hc hd
      exact wpOp_val rfl rfl (ex_move rfl ((hv.fixed 0 (by decide)).trans rfl)) ⟨g5, g10, k10, g11, g12, k12, hv.put ch11_apart 1 rfl (lb rfl) (lb rfl) rfl, HO⟩
    ·
      rintro L a wc ⟨g5, g10, k10, g11, g12, k12, hv, HO⟩ hL hc hd
      exact wpOp_val rfl rfl (ex_move rfl ((hv.fixed 6 (by decide)).trans rfl)) ⟨g5, g10, k10, g11, g12, k12, hv.put ch11_apart 2 rfl (lb rfl) (lb rfl) rfl, HO⟩
    ·
      rintro L a wc ⟨g5, g10, k10, g11, g12, k12, hv, HO⟩ hL hc hd
      have u1 : (0 : Int) ≤ (k : Int) := by omega
      have u2 : (k : Int) < (N : Int) := by omega
      exact wpOp_val rfl rfl (ex_index rfl (hv.get 1 rfl rfl (hd 1 (by decide))) (hv.get 2 rfl rfl (hd 2 (by decide))) (by go_simp)) ⟨g5, g10, k10, g11, g12, k12, hv.put ch11_apart 3 rfl (lb rfl) (lb rfl) rfl, HO⟩
    ·
      rintro L a wc ⟨g5, g10, k10, g11, g12, k12, hv, HO⟩ hL hc hd
      have h0 : wc.cell? (la.add k) = some (.int .i64 y) := HO.out.ext.cell hy
      exact wpOp_val rfl rfl (ex_load rfl (hv.get 3 rfl rfl (hd 3 (by decide))) (by go_simp)) ⟨g5, g10, k10, g11, g12, k12, hv.put ch11_apart 4 rfl (lb rfl) (lb rfl) rfl, HO⟩
    ·
      rintro L a wc ⟨g5, g10, k10, g11, g12, k12, hv, HO⟩ hL hc hd
      have n10 : L 10 = false := Bool.eq_false_iff.2 fun h => Bool.false_ne_true (hL.symm.trans (hc 10 h 5 (by decide)))
      have h := HO.out
      rw [if_neg (show ¬ (L 10 = true) from by simp [n10]), if_neg (show ¬ (L 5 = true) from by simp [hL])] at h
      have hn := h.new 1 #[.int .i64 y] 3 (by simp [maxLen])
      exact wpOp_value rfl rfl (ex_build rfl Tryd.underlying27 info_int (hv.get 4 rfl rfl (hd 4 (by decide))) rfl) ⟨wc.heap.size, g10, k10, g11, g12, k12, hv.put ch11_apart 5 rfl (lb rfl) (lb rfl) rfl, Lib.hid (by rw [if_neg (show ¬ (upd L 5 10 = true) from by simp [upd, n10]), if_pos (show upd L 5 5 = true from by simp [upd])]; exact hn)⟩
    ·
      rintro L a wc ⟨g5, g10, k10, g11, g12, k12, hv, HO⟩ hL hc hd
      exact wpOp_val rfl rfl (ex_move rfl ((hv.fixed 7 (by decide)).trans rfl)) ⟨g5, g10, k10, g11, g12, k12, hv.put ch11_apart 6 rfl (lb rfl) (lb rfl) rfl, HO⟩
    ·
      rintro L a wc ⟨g5, g10, k10, g11, g12, k12, hv, HO⟩ hL hc hd
      exact wpOp_val rfl rfl (ex_move rfl ((hv.fixed 8 (by decide)).trans rfl)) ⟨g5, g10, k10, g11, g12, k12, hv.put ch11_apart 7 rfl (lb rfl) (lb rfl) rfl, HO⟩
    ·
      rintro L a wc ⟨g5, g10, k10, g11, g12, k12, hv, HO⟩ hL hc hd
      have u1 : (0 : Int) ≤ (i : Int) := by omega
      have u2 : (i : Int) < (nr : Int) := by omega
      exact wpOp_val rfl rfl (ex_index rfl (hv.get 6 rfl rfl (hd 6 (by decide))) (hv.get 7 rfl rfl (hd 7 (by decide))) (by go_simp)) ⟨g5, g10, k10, g11, g12, k12, hv.put ch11_apart 8 rfl (lb rfl) (lb rfl) rfl, HO⟩
    ·
      rintro L a wc ⟨g5, g10, k10, g11, g12, k12, hv, HO⟩ hL hc hd
      have h0 : wc.cell? (ra.add i) = some (.slice XA m cx) := HR.out _ _ _ _ HO.out
      exact wpOp_val rfl rfl (ex_load rfl (hv.get 8 rfl rfl (hd 8 (by decide))) (by go_simp)) ⟨g5, g10, k10, g11, g12, k12, hv.put ch11_apart 9 rfl (lb rfl) (lb rfl) rfl, HO⟩
    ·
      rintro L a wc ⟨g5, g10, k10, g11, g12, k12, hv, HO⟩ hL hc hd
      have n11 : L 11 = false := Bool.eq_false_iff.2 fun h => Bool.false_ne_true (hL.symm.trans (hc 11 h 10 (by decide)))
      have n12 : L 12 = false := Bool.eq_false_iff.2 fun h => Bool.false_ne_true (hL.symm.trans (hc 11 (hc 12 h 11 (by decide)) 10 (by decide)))
      have h5 : L 5 = true := hd 5 (by decide)
      have h := HO.out
      rw [if_neg (show ¬ (L 12 = true) from by simp [n12]), if_neg (show ¬ (L 10 = true) from by simp [hL]), if_pos h5, if_neg (show ¬ (L 11 = true) from by simp [n11])] at h
      refine wpOp_append_more rfl rfl 27 3 rfl Tryd.underlying27 info_int rfl h 1 rfl (Nat.le_refl _) (hv.get 5 rfl rfl h5) (hv.get 9 rfl rfl (hd 9 (by decide))) (by rw [List.length_map]; exact hxl) (HRD.out _ _ _ _ h) one_ints8 (by omega) (by decide) ?_
      intro gg cc w2 hO2
      have hv := hv.reset 10 hL (.slice (some ⟨gg, 0, none⟩) (1 + m) cc)
      exact ⟨g5, gg, cc, g11, g12, k12, hv.put ch11_apart 10 rfl (lb rfl) (lb rfl) rfl, Lib.hid (by rw [if_neg (show ¬ (upd L 10 12 = true) from by simp [upd, n12]), if_pos (show upd L 10 10 = true from by simp [upd]), if_neg (show ¬ (upd L 10 11 = true) from by simp [upd, n11])]; exact hO2)⟩
    ·
      rintro L a wc ⟨g5, g10, k10, g11, g12, k12, hv, HO⟩ hL hc hd
      have h := HO.out
      rw [if_neg (show ¬ (L 11 = true) from by simp [hL])] at h
      have hn := h.new 2 #[.slice (some ⟨g10, 0, none⟩) (1 + m) k10] 27 (by simp [maxLen])
      exact wpOp_value rfl rfl (ex_build rfl Tryd.underlying22 info_si8 (hv.get 10 rfl rfl (hd 10 (by decide))) rfl) ⟨g5, g10, k10, wc.heap.size, g12, k12, hv.put ch11_apart 11 rfl (lb rfl) (lb rfl) rfl, Lib.hid (by rw [if_pos (show upd L 11 11 = true from by simp [upd])]; exact hn)⟩
    ·
      rintro L a wc ⟨g5, g10, k10, g11, g12, k12, hv, HO⟩ hL hc hd
      have h11 : L 11 = true := hd 11 (by decide)
      have h := HO.out
      rw [if_neg (show ¬ (L 12 = true) from by simp [hL]), if_pos h11] at h
      refine wpOp_append rfl rfl 22 27 rfl Tryd.underlying22 info_si8 rfl h 0 rfl (hv.get 0 rfl rfl (hd 0 (by decide))) (hv.get 11 rfl rfl h11) (h.cell 2 rfl 0 rfl) rfl (by omega) (by decide) ?_
      intro gg cc w2 hO2
      have hv := hv.reset 12 hL (.slice (some ⟨gg, 0, none⟩) (q + 1) cc)
      have n13 : L 13 = false := Bool.eq_false_iff.2 fun h => Bool.false_ne_true (hL.symm.trans (hc 13 h 12 (by decide)))
      have hv := hv.reset 13 n13 (.slice (some ⟨gg, 0, none⟩) (q + 1) cc)
      exact ⟨g5, g10, k10, g11, gg, cc, hv.put ch11_apart 12 rfl (lb rfl) (lb rfl) rfl, Lib.hid (by rw [if_pos (show upd L 12 12 = true from by simp [upd]), if_pos (show upd L 12 11 = true from by simp [upd, h11])]; exact hO2)⟩
    ·
      rintro L a wc ⟨g5, g10, k10, g11, g12, k12, hv, HO⟩ hL hc hd
      exact wpOp_val rfl rfl (ex_assign rfl (hv.get 12 rfl rfl (hd 12 (by decide)))) ⟨g5, g10, k10, g11, g12, k12, hv.put ch11_apart 13 rfl (lb rfl) (lb rfl) rfl, HO⟩
  · rintro L a wc ⟨g5, g10, k10, g11, g12, k12, hv, HO⟩ hall
    show K a wc
    have ha := act_lit a
    rw [hv.size, hv.defers] at ha
    have hl : ∀ f : Nat → Value, ((List.range (⟨#[.slice (some la) N cl, c1, c2, c3, c4, .slice oA q oc, .int .i64 (k : Nat), .slice (some ra) nr cr, .int .i64 (i : Nat), c9, c10, c11, c12, c13, c14, c15, c16, c17, c18, c19, c20, c21, c22, c23, c24, c25, c26, c27, c28, c29, c30, c31, c32, c33, c34, c35, c36, c37, c38, c39, c40, c41, c42, c43, c44, c45], df⟩ : Act).tmps.size).map f).toArray = #[f 0, f 1, f 2, f 3, f 4, f 5, f 6, f 7, f 8, f 9, f 10, f 11, f 12, f 13, f 14, f 15, f 16, f 17, f 18, f 19, f 20, f 21, f 22, f 23, f 24, f 25, f 26, f 27, f 28, f 29, f 30, f 31, f 32, f 33, f 34, f 35, f 36, f 37, f 38, f 39, f 40, f 41, f 42, f 43, f 44, f 45] := fun _ => rfl
    rw [hl] at ha
    simp only [hv.fixed 0 (by decide), hv.fixed 1 (by decide), hv.fixed 2 (by decide), hv.fixed 3 (by decide), hv.fixed 4 (by decide), hv.fixed 6 (by decide), hv.fixed 7 (by decide), hv.fixed 8 (by decide), hv.fixed 9 (by decide), hv.fixed 10 (by decide), hv.fixed 11 (by decide), hv.fixed 12 (by decide), hv.fixed 13 (by decide), hv.fixed 14 (by decide), hv.fixed 15 (by decide), hv.fixed 16 (by decide), hv.fixed 17 (by decide), hv.fixed 18 (by decide), hv.fixed 19 (by decide), hv.fixed 20 (by decide), hv.fixed 21 (by decide), hv.fixed 22 (by decide), hv.fixed 23 (by decide), hv.fixed 24 (by decide), hv.fixed 25 (by decide), hv.fixed 26 (by decide), hv.fixed 27 (by decide), hv.fixed 28 (by decide), hv.fixed 29 (by decide), hv.fixed 30 (by decide), hv.fixed 31 (by decide), hv.fixed 45 (by decide), hv.get 13 (d := 5) rfl rfl (hall 13 (by decide))] at ha
    rw [ha]
    have hO := HO.out
    rw [if_pos (hall 12 (by decide)), if_pos (hall 10 (by decide))] at hO
    exact hK g10 k10 g12 k12 _ _ _ _ _ _ _ _ _ _ _ _ _ wc (hO.sublist (by simp))
end Go.Proofs.YtdmljilcbndmfaaDoor

/- THE WALK over Choices of the specification of rebuilds. -/
namespace Go.Proofs.YtdmljilcbndmfaaDoor
open Go.RowKit
/-- The address of a tail. -/
def tailA (A : Option Addr) (c l : Nat) : Option Addr := if c = l then A else A.map (·.add l)
section
variable {P : Program} {w : World}
theorem run_tail (t e : TypeId) (hu : P.underlying t = some (.slice e)) (hsz : (P.info? e).map (·.size) = some 1) (A : Option Addr) (n c l : Nat) (h1 : l ≤ n) :
    (Instr.sliceAt t (.slice A n c) (some (.int .i64 (l : Int))) none none).run P w = .ok (.slice (if c = l then A else A.map (·.add l)) (n - l) (c - l)) w := by
  have e2 : (0 : Int) ≤ (l : Int) ∧ (l : Int) ≤ (n : Int) := by omega
  cases hq : P.info? e with
  | none => simp [hq] at hsz
  | some i =>
    have hi : i.size = 1 := by simpa [hq] using hsz
    simp [Instr.sliceAt, Instr.slice, Instr.sliceBounds, Instr.sliceBound, asIntOf, run_underlying hu, sizeOf, typeInfo, hq, hi, h1]
theorem wpl_tail {ops : Array Oper} {rest : List Oper} {o : Oper} {a : Act} {Q : Exit → Act → World → Prop} (hw : Region.wanted o (yielded ops a.tmps) = true) (t e : TypeId) (x lo : Operand) (ho : o.op = .slice t x (some lo) none none)
    (hu : P.underlying t = some (.slice e)) (hsz : (P.info? e).map (·.size) = some 1) {A : Option Addr} {n c l : Nat} (hx : a.eval x = .slice A n c) (hlo : a.eval lo = .int .i64 (l : Int)) (h1 : l ≤ n)
    (hK : ∀ A', A' = tailA A c l → wpList P ops Q rest (a.put o.dst (.slice A' (n - l) (c - l))) w) : wpList P ops Q (o :: rest) a w := by
  refine wpList_step fun K hK' => ?_
  rw [if_pos hw]
  have hr := run_tail (P := P) (w := w) t e hu hsz A n c l h1
  unfold Oper.wp execOp
  simp only [ho, Option.map_some, Option.map_none, hx, hlo, hr, Sem.run_bind, Sem.run_pure, Result.andThen_ok]
  exact hK' _ _ (hK _ rfl)
end
theorem size_int8 : (Tryd.prog.info? 3).map (·.size) = some 1 := by kernel_rfl
theorem rs_tail {w : World} {A : Option Addr} {n c l : Nat} {xs : List Int} (h : Rs RI w (.slice A n c) xs) (hnc : n ≤ c) (hl : l ≤ n) : Rs RI w (.slice (tailA A c l) (n - l) (c - l)) (xs.drop l) := by
  have hn := h.len
  obtain ⟨A0, c0, e, h63, hh⟩ := h
  injection e with e1 e2 e3
  subst e1
  refine ⟨_, c - l, by rw [List.length_drop, ← e2], by rw [List.length_drop]; omega, fun i x hi => ?_⟩
  rw [List.getElem?_drop] at hi
  have hin := (List.getElem?_eq_some_iff.1 hi).1
  obtain ⟨ad, u, hA, hc, hu⟩ := hh (l + i) x hi
  subst hA
  refine ⟨ad.add l, u, by rw [tailA, if_neg (by omega)]; rfl, ?_, hu⟩
  rw [Addr.add_add]; exact hc
set_option maxHeartbeats 8000000 in
set_option maxRecDepth 100000 in
theorem sChoices_any : ∀ (many : Nat) (l : List Int) (A : Option Addr) (n c : Nat) (w : World), many ≤ 30 → n ≤ 24 → n ≤ c → Rs RI w (.slice A n c) l →
    Calls Tryd.prog 46 #[.slice A n c, .int .i64 (many : Nat)] w fun e w' => ∃ A' q c' LL, e = .returned (.slice A' q c') ∧ ChO w w' q c' A' LL (Rb.choose l many)
  | 0, l, A, n, c, w, hm, hn, hnc, hl => by
    rw [Rb.choose_zero]
    have h0 := ((Owns.start w (L := [no, no]) (by intro r hr; simp at hr; subst hr; exact ⟨rfl, rfl, rfl⟩)).new 1 #[] 3 (by simp [maxLen])).new 0 #[.slice (some ⟨w.heap.size, 0, none⟩) 0 0] 27 (by simp [maxLen])
    rw [World.size_alloc] at h0
    have H0 := Lib.hid h0
    clear h0 hl
    go_enter Tryd.func46, Tryd.ntmps46
    go_wp2_with fail
    go_ret
    refine ⟨_, _, _, rfl, _, _, H0.out, rfl, rfl, fun i hi => ?_⟩
    obtain rfl : i = 0 := by omega
    exact ⟨w.heap.size, 0, 0, rfl, rfl, List.mem_cons_self⟩
  | n' + 1, l, A, n, c, w, hm, hn, hnc, hl => by
    have IH := Lib.hid (sChoices_any n')
    have HL := Lib.hid hl
    have hlen := hl.len
    have HLN := Lib.hid hlen
    obtain ⟨M, hM⟩ : ∃ M, n' + 1 = M := ⟨_, rfl⟩
    have e0 : ((M : Int) == 0) = false := by rw [beq_eq_false_iff_ne]; omega
    have hm1 : (M : Int) - 1 = (n' : Int) := by omega
    have HMM := Lib.hid hM
    rw [hM]
    have hn30 : n' ≤ 30 := by omega
    clear hl hlen hM hm
    go_enter Tryd.func46, Tryd.ntmps46
    go_wp2_with fail
    go_loopw [5, 6] (fun v5 v6 wr => ∃ (k q oc : Nat) (oA : Option Addr), k ≤ n ∧ v6 = .int .i64 (k : Nat) ∧ v5 = .slice oA q oc ∧ Hid (∃ LL ys, ChO w wr q oc oA LL ys ∧ ys ++ Rb.choose (l.drop k) M = Rb.choose l M)) (fun _ v6 _ => n - (intOf v6).toNat)
    case atStart => exact ⟨0, 0, 0, none, Nat.zero_le _, rfl, rfl, Lib.hid ⟨[], [], ⟨[], Owns.start w (L := [nilRow 27]) (by intro r hr; simp at hr; subst hr; exact ⟨rfl, rfl, rfl⟩), rfl, rfl, fun i h => absurd h (by omega)⟩, rfl⟩⟩
    case round =>
      obtain ⟨k, q, oc, oA, hk, rfl, rfl, HI⟩ := hrel
      by_cases hlt : k < n
      · have hk1 : k + 1 ≤ n := hlt
        go_wp2_with (refine wpl_tail rfl 27 3 (.tmp 19) (.tmp 21) rfl Tryd.underlying27 size_int8 rfl rfl hk1 ?_; intro TA' hTA; have HTA := Lib.hid hTA; clear hTA)
        obtain ⟨LL, ys, hch, hy⟩ := HI.out
        obtain ⟨vs, hO, hvl, hyl, hin⟩ := hch
        have htl := rs_tail (Rs.ext RI.ext _ _ _ _ hO.ext HL.out) hnc hk1
        rw [← HTA.out] at htl
        have hkl : k < l.length := by have := HLN.out; omega
        have hlk : l.drop k = l[k] :: l.drop (k + 1) := List.drop_eq_getElem_cons hkl
        obtain ⟨al, ul, hal, hcl, hul⟩ := HL.out.at hkl
        subst hal
        have hue := hul.1
        subst hue
        obtain ⟨y, hye⟩ : ∃ y, l[k] = y := ⟨_, rfl⟩
        rw [hye] at hcl hlk
        have hys : ys ++ ((Rb.choose (l.drop (k + 1)) n').map (y :: ·) ++ Rb.choose (l.drop (k + 1)) M) = Rb.choose l M := by
          rw [← hy, hlk, ← HMM.out]; rfl
        have HYS := Lib.hid hys
        have HCL := Lib.hid hcl
        have HO := Lib.hid (And.intro hO (And.intro hvl (And.intro hyl hin)))
        have ih := IH.out (l.drop (k + 1)) TA' (n - (k + 1)) (c - (k + 1)) wr (by omega) (by omega) (by omega) htl
        clear hul hye hlk hys hcl hO hvl hyl hin htl hy HI
        refine ih.mono ?_
        clear ih
        rintro e w5 ⟨A2, nr, cr, LR, rfl, hch5⟩
        obtain ⟨RS, hRS⟩ : ∃ RS, Rb.choose (l.drop (k + 1)) n' = RS := ⟨_, rfl⟩
        have hcl2 := Rb.choose_len (l.drop (k + 1)) n'
        have h24 : 2 ^ (l.drop (k + 1)).length ≤ 2 ^ 24 := Nat.pow_le_pow_right (by decide) (by rw [List.length_drop]; have := HLN.out; omega)
        rw [hRS] at hcl2
        have hRL : ∀ s ∈ RS, s.length = n' := fun s hs => by rw [← hRS] at hs; exact ((Rb.mem_choose _ _ s).mp hs).2
        have HRL := Lib.hid hRL
        rw [hRS] at hch5 HYS
        clear hRL
        obtain ⟨vsr, hO5, hvrl, hrl, hinr⟩ := hch5
        have hnr : nr ≤ 16777216 := by omega
        clear hcl2 h24
        have hM : Owns w w5 (⟨.slice oA q oc, 27, 1, q, vs⟩ :: (LL ++ ⟨.slice A2 nr cr, 27, 1, nr, vsr⟩ :: LR)) := HO.out.1.merge hO5
        have HM := Lib.hid hM
        have HR5 := Lib.hid (And.intro hvrl (And.intro hrl hinr))
        clear hM hO5 hvrl hrl hinr hRS
        obtain ⟨wo, rfl⟩ : ∃ wo, wo = wr := ⟨_, rfl⟩
        go_wp2_with fail
        go_loopw [5, 8] (fun v5 v8 wr => ∃ (i q oc : Nat) (oA : Option Addr), i ≤ nr ∧ v8 = .int .i64 (i : Nat) ∧ v5 = .slice oA q oc ∧ Hid (∃ LL2 ys2, ChO w wr q oc oA LL2 ys2 ∧ (∀ r ∈ (⟨.slice A2 nr cr, 27, 1, nr, vsr⟩ :: LR : List LRow), r ∈ LL2) ∧ ys2 = ys ++ (RS.take i).map (y :: ·))) (fun _ v8 _ => nr - (intOf v8).toNat)
        case atStart => exact ⟨0, q, oc, oA, Nat.zero_le _, rfl, rfl, Lib.hid ⟨_, ys, ⟨vs, HM.out, HO.out.2.1, HO.out.2.2.1, fun i hi => by
          obtain ⟨g, c, m, e1, e2, e3⟩ := HO.out.2.2.2 i hi
          exact ⟨g, c, m, e1, e2, List.mem_append_left _ e3⟩⟩, fun r hr => List.mem_append_right _ hr, by simp⟩⟩
        case round =>
          obtain ⟨i, q2, oc2, oA2, hi, rfl, rfl, HJ⟩ := hrel
          by_cases hil : i < nr
          · obtain ⟨LL2, ys2, hch2, hsub, hy2⟩ := HJ.out
            obtain ⟨vs2, hO2, hvl2, hyl2, hin2⟩ := hch2
            obtain ⟨g, cx, m, e1, e2, e3⟩ := HR5.out.2.2 i hil
            obtain ⟨ra, hra, _, _⟩ := (own_rd (hO2.all _ (List.mem_cons_of_mem _ (hsub _ List.mem_cons_self)))) i _ e2
            subst hra
            have HRc : Hid (∀ (W : World) (R0 R1 R2 : LRow), Owns w W (R0 :: R1 :: R2 :: LL2) → W.cell? (ra.add i) = some (.slice (some ⟨g, 0, none⟩) m cx)) := Lib.hid fun W R0 R1 R2 h => by
              obtain ⟨ad, h1, _, h2⟩ := (own_rd (h.all _ (List.mem_cons_of_mem _ (List.mem_cons_of_mem _ (List.mem_cons_of_mem _ (hsub _ List.mem_cons_self)))))) i _ e2
              injection h1 with h1
              rw [h1]; exact h2
            have HRDc : Hid (∀ (W : World) (R0 R1 R2 : LRow), Owns w W (R0 :: R1 :: R2 :: LL2) → Rd W (some ⟨g, 0, none⟩) ((RS.getD i []).map (Value.int .i64))) := Lib.hid fun W R0 R1 R2 h => own_rd (h.all _ (List.mem_cons_of_mem _ (List.mem_cons_of_mem _ (List.mem_cons_of_mem _ (hsub _ (List.mem_cons_of_mem _ e3))))))
            have hir : i < RS.length := by have := HR5.out.2.1; omega
            have hm3 : m ≤ 1000 := by
              rw [e1, List.getD_eq_getElem?_getD, List.getElem?_eq_getElem hir, Option.getD_some, HRL.out _ (List.getElem_mem hir)]; omega
            have hq2 : q2 < 1000000000 := by
              have h1 := congrArg List.length HYS.out
              simp only [List.length_append, List.length_map] at h1
              have h2 := Rb.choose_len l M
              have h3 : 2 ^ l.length ≤ 2 ^ 24 := Nat.pow_le_pow_right (by decide) (by have := HLN.out; omega)
              have h4 : ys2.length = ys.length + min i RS.length := by rw [hy2, List.length_append, List.length_map, List.length_take]
              omega
            have HC2 := Lib.hid (And.intro hvl2 (And.intro hyl2 (And.intro hin2 (And.intro hsub (And.intro hy2 e1)))))
            have HO2 := Lib.hid hO2
            have HIR := Lib.hid hir
            clear hO2 hvl2 hyl2 hin2 hsub hy2 e2 e3 hir
            go_wp2_with fail
            refine wp_atEnd' (ch11 w wr k i n c nr cr m cx q2 oc2 oA2 (some ⟨g, 0, none⟩) al ra y (RS.getD i []) vs2 LL2 hlt hil hq2 e1.symm hm3 HCL.out HRc HRDc HO2 _ _ _ _ _ _ _ _ _ _ _ _ _ _ _ _ _ _ _ _ _ _ _ _ _ _ _ _ _ _ _ _ _ _ _ _ _ _ _ _ _ _ _ ?_)
            rintro g10 k10 g12 k12 u32 u33 u34 u35 u36 u37 u38 u39 u40 u41 u42 u43 u44 wx hOx
            have hpush := ChO.push (x := y :: RS.getD i []) HC2.out.1 HC2.out.2.1 HC2.out.2.2.1 (show 1 + m = (y :: RS.getD i []).length by rw [List.length_cons, ← e1]; omega) hOx
            have HPU := Lib.hid hpush
            clear hpush hOx e1
            go_wp2_with fail
            go_roundw
            case rel =>
              refine ⟨i + 1, q2 + 1, k12, some ⟨g12, 0, none⟩, by omega, by go_num, (by first | trivial | rfl), Lib.hid ⟨_, _, HPU.out, fun r hr => List.mem_cons_of_mem _ (HC2.out.2.2.2.1 r hr), ?_⟩⟩
              rw [HC2.out.2.2.2.2.1, List.take_add_one, List.map_append, ← List.append_assoc, List.getElem?_eq_getElem HIR.out, List.getD_eq_getElem?_getD, List.getElem?_eq_getElem HIR.out]
              rfl
            case measure => simp [intOf]; omega
          · obtain rfl : nr = i := by omega
            obtain ⟨LL2, ys2, h1, _, h3⟩ := HJ.out
            have h4 : ys2 ++ Rb.choose (l.drop (k + 1)) M = Rb.choose l M := by
              rw [h3, List.take_of_length_le (by rw [HR5.out.2.1]; exact Nat.le_refl _), List.append_assoc]
              exact HYS.out
            have HN := Lib.hid (And.intro h1 h4)
            clear h1 h3 h4
            go_wp2_with fail
            go_roundw
            case rel =>
              exact ⟨k + 1, q2, oc2, oA2, by omega, by go_num, (by first | trivial | rfl), Lib.hid ⟨LL2, ys2, HN.out.1, HN.out.2⟩⟩
            case measure => simp [intOf]; omega
      · obtain rfl : n = k := by omega
        obtain ⟨LL, ys, hch, hy⟩ := HI.out
        have hd : l.drop n = [] := List.drop_eq_nil_of_le (by rw [HLN.out]; exact Nat.le_refl _)
        rw [hd, show Rb.choose [] M = [] from by rw [← HMM.out]; rfl, List.append_nil] at hy
        rw [hy] at hch
        have HC := Lib.hid hch
        clear hch hd hy
        go_wp2_with fail
        go_ret
        first
          | exact ⟨_, _, _, LL, rfl, HC.out⟩
          | exact ⟨_, _, _, rfl, LL, HC.out⟩
end Go.Proofs.YtdmljilcbndmfaaDoor

/- THE DRAWN REGIONS of Recipe of the specification of rebuilds. -/
namespace Go.Proofs.YtdmljilcbndmfaaDoor
open Go.RowKit
theorem InvO.skip {dsts : List (Option Nat)} {vals : List Value} {a0 a : Act} {L : Nat → Bool} (h : InvO dsts vals a0 L a) (i : Nat) (hd : dsts[i]? = some none) : InvO dsts vals a0 (upd L i) a := by
  refine ⟨h.inv.skip i hd, ?_⟩
  intro j t hj hL
  unfold upd at hL
  split at hL
  · cases hL
  · exact h.old j t hj hL
theorem Owns.two3 {w0 w : World} {r s : LRow} {L : List LRow} (h : Owns w0 w (r :: s :: L)) : Owns w0 w.drew (r :: s :: no :: L) := by
  have h3 := h.drew.wider
  refine h3.perm ?_
  have e : (r :: s :: L) ++ [no] = r :: s :: (L ++ [no]) := by simp
  rw [e]
  exact List.Perm.cons _ (List.Perm.cons _ (List.perm_append_comm (l₁ := L) (l₂ := [no])))
noncomputable def rc10_code : Code := ((Tryd.f47.body.bind (regionOf 10)).getD .skip)
def rc10_dsts : List (Option Nat) := [some 40, some 41, some 42, some 43, some 44, some 45, some 46, some 47, some 48, none]
theorem rc10_apart : apartD rc10_dsts = true := by decide +kernel
set_option maxRecDepth 1000000 in
set_option maxHeartbeats 16000000 in
theorem rc10 (w0 wr : World) (B k N na cN cF : Nat) (FA : Option Addr) (fd : Addr) (v0 v2 : Value) (fs : List Value) (LL : List LRow) (fk : Int) (hfk : w0.cell? (fd.add k) = some (.int .i64 fk)) (hkN : k < N) (ha0 : na ≤ 1000) (HOO : Hid (Owns w0 wr (⟨.slice (some ⟨B, 0, none⟩) 3 3, 30, 1, 3, [v0, .slice FA na cF, v2]⟩ :: ⟨.slice FA na cF, 3, 1, na, fs⟩ :: LL))) (c0 c1 c3 c4 c5 c6 c7 c8 c11 c12 c13 c14 c15 c16 c17 c18 c19 c20 c21 c22 c23 c24 c25 c26 c27 c28 c29 c30 c31 c32 c33 c34 c35 c36 c37 c38 c39 c40 c41 c42 c43 c44 c45 c46 c47 c48 c49 c50 c51 c52 c53 c54 c55 c56 c57 c58 c59 c60 : Value) (df : List Deferred) (K : Act → World → Prop)
    (hK : ∀ (g7 k7 : Nat) (u40 u41 u42 u43 u44 u45 u46 u47 u48 : Value) (wx : World), Owns w0 wx (⟨.slice (some ⟨B, 0, none⟩) 3 3, 30, 1, 3, [v0, .slice (some ⟨g7, 0, none⟩) (na + 1) k7, v2]⟩ :: ⟨.slice (some ⟨g7, 0, none⟩) (na + 1) k7, 3, 1, na + 1, fs ++ [.int .i64 fk]⟩ :: LL) → K ⟨#[c0, c1, .slice (some fd) N cN, c3, c4, c5, c6, c7, c8, .pointer (some ⟨B, 0, none⟩), .int .i64 (k : Nat), c11, c12, c13, c14, c15, c16, c17, c18, c19, c20, c21, c22, c23, c24, c25, c26, c27, c28, c29, c30, c31, c32, c33, c34, c35, c36, c37, c38, c39, u40, u41, u42, u43, u44, u45, u46, u47, u48, c49, c50, c51, c52, c53, c54, c55, c56, c57, c58, c59, c60], df⟩ wx) :
    Code.wp Tryd.prog rc10_code (AtEnd K) ⟨#[c0, c1, .slice (some fd) N cN, c3, c4, c5, c6, c7, c8, .pointer (some ⟨B, 0, none⟩), .int .i64 (k : Nat), c11, c12, c13, c14, c15, c16, c17, c18, c19, c20, c21, c22, c23, c24, c25, c26, c27, c28, c29, c30, c31, c32, c33, c34, c35, c36, c37, c38, c39, c40, c41, c42, c43, c44, c45, c46, c47, c48, c49, c50, c51, c52, c53, c54, c55, c56, c57, c58, c59, c60], df⟩ wr := by
  conv => arg 2; whnf
  refine region_inv (by kernel_rfl) [[], [0], [], [], [2, 3], [4], [5], [1, 6], [0, 1, 2, 3, 4, 5, 6, 7], [8, 7, 7, 0, 1, 2, 3, 4, 5, 6, 7]] (by kernel_rfl) [0, 1, 2, 3, 4, 5, 6, 7, 8, 9] (by decide +kernel) (by decide +kernel) (by decide +kernel) (fun L a wc => ∃ (g6 : Nat) (g7 : Nat) (k7 : Nat), InvO rc10_dsts [.pointer (some ⟨B, 1, none⟩), .slice FA na cF, .slice (some fd) N cN, .int .i64 (k : Nat), .pointer (some (fd.add k)), .int .i64 fk, .slice (some ⟨g6, 0, none⟩) 1 1, .slice (some ⟨g7, 0, none⟩) (na + 1) k7, .pointer (some ⟨B, 1, none⟩), undef] ⟨#[c0, c1, .slice (some fd) N cN, c3, c4, c5, c6, c7, c8, .pointer (some ⟨B, 0, none⟩), .int .i64 (k : Nat), c11, c12, c13, c14, c15, c16, c17, c18, c19, c20, c21, c22, c23, c24, c25, c26, c27, c28, c29, c30, c31, c32, c33, c34, c35, c36, c37, c38, c39, c40, c41, c42, c43, c44, c45, c46, c47, c48, c49, c50, c51, c52, c53, c54, c55, c56, c57, c58, c59, c60], df⟩ L a ∧ Hid (Owns w0 wc ((if L 9 = true then ⟨.slice (some ⟨B, 0, none⟩) 3 3, 30, 1, 3, [v0, .slice (some ⟨g7, 0, none⟩) (na + 1) k7, v2]⟩ else ⟨.slice (some ⟨B, 0, none⟩) 3 3, 30, 1, 3, [v0, .slice FA na cF, v2]⟩) :: (if L 7 = true then ⟨.slice (some ⟨g7, 0, none⟩) (na + 1) k7, 3, 1, na + 1, fs ++ [.int .i64 fk]⟩ else ⟨.slice FA na cF, 3, 1, na, fs⟩) :: (if L 6 = true then ⟨.slice (some ⟨g6, 0, none⟩) 1 1, 3, 1, 1, [.int .i64 fk]⟩ else no) :: LL))) ⟨0, 0, 0, InvO.start, Lib.hid (HOO.out.two3)⟩ ?_ ?_
  · refine ⟨?_, ?_, ?_, ?_, ?_, ?_, ?_, ?_, ?_, ?_, trivial⟩
    ·
      rintro L a wc ⟨g6, g7, k7, hv, HO⟩ hL hc hd
      exact wpOp_val rfl rfl (ex_field rfl ((hv.fixed 9 (by decide)).trans rfl) (by go_simp)) ⟨g6, g7, k7, hv.put rc10_apart 0 rfl (lb rfl) (lb rfl) rfl, HO⟩
    ·
      rintro L a wc ⟨g6, g7, k7, hv, HO⟩ hL hc hd
      have n9 : L 9 = false := Bool.eq_false_iff.2 fun h => Bool.false_ne_true (hL.symm.trans (hc 7 (hc 9 h 7 (by decide)) 1 (by decide)))
      have h := HO.out
      rw [if_neg (show ¬ (L 9 = true) from by simp [n9])] at h
      have e1 : wc.cell? ⟨B, 1, none⟩ = some (.slice FA na cF) := h.cell 0 rfl 1 rfl
      exact wpOp_val rfl rfl (ex_load rfl (hv.get 0 rfl rfl (hd 0 (by decide))) (by go_simp)) ⟨g6, g7, k7, hv.put rc10_apart 1 rfl (lb rfl) (lb rfl) rfl, HO⟩
    ·
      rintro L a wc ⟨g6, g7, k7, hv, HO⟩ hL hc hd
      exact wpOp_val rfl rfl (ex_move rfl ((hv.fixed 2 (by decide)).trans rfl)) ⟨g6, g7, k7, hv.put rc10_apart 2 rfl (lb rfl) (lb rfl) rfl, HO⟩
    ·
      rintro L a wc ⟨g6, g7, k7, hv, HO⟩ hL hc hd
      exact wpOp_val rfl rfl (ex_move rfl ((hv.fixed 10 (by decide)).trans rfl)) ⟨g6, g7, k7, hv.put rc10_apart 3 rfl (lb rfl) (lb rfl) rfl, HO⟩
    ·
      rintro L a wc ⟨g6, g7, k7, hv, HO⟩ hL hc hd
      have u1 : (0 : Int) ≤ (k : Int) := by omega
      have u2 : (k : Int) < (N : Int) := by omega
      exact wpOp_val rfl rfl (ex_index rfl (hv.get 2 rfl rfl (hd 2 (by decide))) (hv.get 3 rfl rfl (hd 3 (by decide))) (by go_simp)) ⟨g6, g7, k7, hv.put rc10_apart 4 rfl (lb rfl) (lb rfl) rfl, HO⟩
    ·
      rintro L a wc ⟨g6, g7, k7, hv, HO⟩ hL hc hd
      have h0 : wc.cell? (fd.add k) = some (.int .i64 fk) := HO.out.ext.cell hfk
      exact wpOp_val rfl rfl (ex_load rfl (hv.get 4 rfl rfl (hd 4 (by decide))) (by go_simp)) ⟨g6, g7, k7, hv.put rc10_apart 5 rfl (lb rfl) (lb rfl) rfl, HO⟩
    ·
      rintro L a wc ⟨g6, g7, k7, hv, HO⟩ hL hc hd
      have h := HO.out
      rw [if_neg (show ¬ (L 6 = true) from by simp [hL])] at h
      have hn := h.new 2 #[.int .i64 fk] 3 (by simp [maxLen])
      exact wpOp_value rfl rfl (ex_build rfl Tryd.underlying27 info_int (hv.get 5 rfl rfl (hd 5 (by decide))) rfl) ⟨wc.heap.size, g7, k7, hv.put rc10_apart 6 rfl (lb rfl) (lb rfl) rfl, Lib.hid (by rw [if_pos (show upd L 6 6 = true from by simp [upd])]; exact hn)⟩
    ·
      rintro L a wc ⟨g6, g7, k7, hv, HO⟩ hL hc hd
      have n9 : L 9 = false := Bool.eq_false_iff.2 fun h => Bool.false_ne_true (hL.symm.trans (hc 9 h 7 (by decide)))
      have h6 : L 6 = true := hd 6 (by decide)
      have h := HO.out
      rw [if_neg (show ¬ (L 9 = true) from by simp [n9]), if_neg (show ¬ (L 7 = true) from by simp [hL]), if_pos h6] at h
      refine wpOp_append rfl rfl 27 3 rfl Tryd.underlying27 info_int rfl h 1 rfl (hv.get 1 rfl rfl (hd 1 (by decide))) (hv.get 6 rfl rfl h6) (h.cell 2 rfl 0 rfl) rfl (by omega) (by decide) ?_
      intro gg cc w2 hO2
      have hv := hv.reset 7 hL (.slice (some ⟨gg, 0, none⟩) (na + 1) cc)
      exact ⟨g6, gg, cc, hv.put rc10_apart 7 rfl (lb rfl) (lb rfl) rfl, Lib.hid (by rw [if_neg (show ¬ (upd L 7 9 = true) from by simp [upd, n9]), if_pos (show upd L 7 7 = true from by simp [upd]), if_pos (show upd L 7 6 = true from by simp [upd, h6])]; exact hO2)⟩
    ·
      rintro L a wc ⟨g6, g7, k7, hv, HO⟩ hL hc hd
      exact wpOp_val rfl rfl (ex_field rfl ((hv.fixed 9 (by decide)).trans rfl) (by go_simp)) ⟨g6, g7, k7, hv.put rc10_apart 8 rfl (lb rfl) (lb rfl) rfl, HO⟩
    ·
      rintro L a wc ⟨g6, g7, k7, hv, HO⟩ hL hc hd
      have h7 : L 7 = true := hd 7 (by decide)
      have h := HO.out
      rw [if_neg (show ¬ (L 9 = true) from by simp [hL]), if_pos h7] at h
      have k1 := h.cell 0 rfl 1 rfl
      have q1 := h.frozen 0 rfl 1
      have hs := h.store 0 rfl 1 (.slice (some ⟨g7, 0, none⟩) (na + 1) k7)
      exact wpOp_skip rfl rfl rfl (ex_store (w' := wc.setCell ⟨B, 1, none⟩ (.slice (some ⟨g7, 0, none⟩) (na + 1) k7)) rfl (hv.get 8 rfl rfl (hd 8 (by decide))) (hv.get 7 rfl rfl h7) (by go_simp)) ⟨g6, g7, k7, hv.skip 9 rfl, Lib.hid (by rw [if_pos (show upd L 9 9 = true from by simp [upd]), if_pos (show upd L 9 7 = true from by simp [upd, h7])]; exact hs)⟩
  · rintro L a wc ⟨g6, g7, k7, hv, HO⟩ hall
    show K a wc
    have ha := act_lit a
    rw [hv.size, hv.defers] at ha
    have hl : ∀ f : Nat → Value, ((List.range (⟨#[c0, c1, .slice (some fd) N cN, c3, c4, c5, c6, c7, c8, .pointer (some ⟨B, 0, none⟩), .int .i64 (k : Nat), c11, c12, c13, c14, c15, c16, c17, c18, c19, c20, c21, c22, c23, c24, c25, c26, c27, c28, c29, c30, c31, c32, c33, c34, c35, c36, c37, c38, c39, c40, c41, c42, c43, c44, c45, c46, c47, c48, c49, c50, c51, c52, c53, c54, c55, c56, c57, c58, c59, c60], df⟩ : Act).tmps.size).map f).toArray = #[f 0, f 1, f 2, f 3, f 4, f 5, f 6, f 7, f 8, f 9, f 10, f 11, f 12, f 13, f 14, f 15, f 16, f 17, f 18, f 19, f 20, f 21, f 22, f 23, f 24, f 25, f 26, f 27, f 28, f 29, f 30, f 31, f 32, f 33, f 34, f 35, f 36, f 37, f 38, f 39, f 40, f 41, f 42, f 43, f 44, f 45, f 46, f 47, f 48, f 49, f 50, f 51, f 52, f 53, f 54, f 55, f 56, f 57, f 58, f 59, f 60] := fun _ => rfl
    rw [hl] at ha
    simp only [hv.fixed 0 (by decide), hv.fixed 1 (by decide), hv.fixed 2 (by decide), hv.fixed 3 (by decide), hv.fixed 4 (by decide), hv.fixed 5 (by decide), hv.fixed 6 (by decide), hv.fixed 7 (by decide), hv.fixed 8 (by decide), hv.fixed 9 (by decide), hv.fixed 10 (by decide), hv.fixed 11 (by decide), hv.fixed 12 (by decide), hv.fixed 13 (by decide), hv.fixed 14 (by decide), hv.fixed 15 (by decide), hv.fixed 16 (by decide), hv.fixed 17 (by decide), hv.fixed 18 (by decide), hv.fixed 19 (by decide), hv.fixed 20 (by decide), hv.fixed 21 (by decide), hv.fixed 22 (by decide), hv.fixed 23 (by decide), hv.fixed 24 (by decide), hv.fixed 25 (by decide), hv.fixed 26 (by decide), hv.fixed 27 (by decide), hv.fixed 28 (by decide), hv.fixed 29 (by decide), hv.fixed 30 (by decide), hv.fixed 31 (by decide), hv.fixed 32 (by decide), hv.fixed 33 (by decide), hv.fixed 34 (by decide), hv.fixed 35 (by decide), hv.fixed 36 (by decide), hv.fixed 37 (by decide), hv.fixed 38 (by decide), hv.fixed 39 (by decide), hv.fixed 49 (by decide), hv.fixed 50 (by decide), hv.fixed 51 (by decide), hv.fixed 52 (by decide), hv.fixed 53 (by decide), hv.fixed 54 (by decide), hv.fixed 55 (by decide), hv.fixed 56 (by decide), hv.fixed 57 (by decide), hv.fixed 58 (by decide), hv.fixed 59 (by decide), hv.fixed 60 (by decide)] at ha
    rw [ha]
    have hO := HO.out
    rw [if_pos (hall 9 (by decide)), if_pos (hall 7 (by decide))] at hO
    exact hK g7 k7 _ _ _ _ _ _ _ _ _ wc (hO.sublist (by simp))
noncomputable def rc11_code : Code := ((Tryd.f47.body.bind (regionOf 11)).getD .skip)
def rc11_dsts : List (Option Nat) := [some 49, some 50, some 51, some 52, some 53, some 54, some 55, some 56, some 57, some 58, none]
theorem rc11_apart : apartD rc11_dsts = true := by decide +kernel
set_option maxRecDepth 1000000 in
set_option maxHeartbeats 16000000 in
theorem rc11 (w0 wr : World) (B k N na cN cF : Nat) (FA : Option Addr) (fd : Addr) (v0 v1 : Value) (fs : List Value) (LL : List LRow) (E : Nat) (x : UInt8) (HE : Hid (∀ (W : World) (R0 R1 R2 : LRow), Owns w0 W (R0 :: R1 :: R2 :: LL) → W.cell? ⟨E, 0, none⟩ = some (.slice (some fd) N cN) ∧ W.cell? (fd.add k) = some (bv x))) (hkN : k < N) (ha0 : na ≤ 1000) (HOO : Hid (Owns w0 wr (⟨.slice (some ⟨B, 0, none⟩) 3 3, 30, 1, 3, [v0, v1, .slice FA na cF]⟩ :: ⟨.slice FA na cF, 5, 1, na, fs⟩ :: LL))) (c0 c1 c2 c3 c4 c5 c6 c7 c11 c12 c13 c14 c15 c16 c17 c18 c19 c20 c21 c22 c23 c24 c25 c26 c27 c28 c29 c30 c31 c32 c33 c34 c35 c36 c37 c38 c39 c40 c41 c42 c43 c44 c45 c46 c47 c48 c49 c50 c51 c52 c53 c54 c55 c56 c57 c58 c59 c60 : Value) (df : List Deferred) (K : Act → World → Prop)
    (hK : ∀ (g7 k7 : Nat) (u49 u50 u51 u52 u53 u54 u55 u56 u57 u58 : Value) (wx : World), Owns w0 wx (⟨.slice (some ⟨B, 0, none⟩) 3 3, 30, 1, 3, [v0, v1, .slice (some ⟨g7, 0, none⟩) (na + 1) k7]⟩ :: ⟨.slice (some ⟨g7, 0, none⟩) (na + 1) k7, 5, 1, na + 1, fs ++ [bv x]⟩ :: LL) → K ⟨#[c0, c1, c2, c3, c4, c5, c6, c7, .pointer (some ⟨E, 0, none⟩), .pointer (some ⟨B, 0, none⟩), .int .i64 (k : Nat), c11, c12, c13, c14, c15, c16, c17, c18, c19, c20, c21, c22, c23, c24, c25, c26, c27, c28, c29, c30, c31, c32, c33, c34, c35, c36, c37, c38, c39, c40, c41, c42, c43, c44, c45, c46, c47, c48, u49, u50, u51, u52, u53, u54, u55, u56, u57, u58, c59, c60], df⟩ wx) :
    Code.wp Tryd.prog rc11_code (AtEnd K) ⟨#[c0, c1, c2, c3, c4, c5, c6, c7, .pointer (some ⟨E, 0, none⟩), .pointer (some ⟨B, 0, none⟩), .int .i64 (k : Nat), c11, c12, c13, c14, c15, c16, c17, c18, c19, c20, c21, c22, c23, c24, c25, c26, c27, c28, c29, c30, c31, c32, c33, c34, c35, c36, c37, c38, c39, c40, c41, c42, c43, c44, c45, c46, c47, c48, c49, c50, c51, c52, c53, c54, c55, c56, c57, c58, c59, c60], df⟩ wr := by
  conv => arg 2; whnf
  refine region_inv (by kernel_rfl) [[], [0], [], [2], [], [3, 4], [5], [6], [1, 7], [0, 1, 2, 3, 4, 5, 6, 7, 8], [9, 8, 8, 0, 1, 2, 3, 4, 5, 6, 7, 8]] (by kernel_rfl) [0, 1, 2, 3, 4, 5, 6, 7, 8, 9, 10] (by decide +kernel) (by decide +kernel) (by decide +kernel) (fun L a wc => ∃ (g6 : Nat) (g7 : Nat) (k7 : Nat), InvO rc11_dsts [.pointer (some ⟨B, 2, none⟩), .slice FA na cF, .pointer (some ⟨E, 0, none⟩), .slice (some fd) N cN, .int .i64 (k : Nat), .pointer (some (fd.add k)), bv x, .slice (some ⟨g6, 0, none⟩) 1 1, .slice (some ⟨g7, 0, none⟩) (na + 1) k7, .pointer (some ⟨B, 2, none⟩), undef] ⟨#[c0, c1, c2, c3, c4, c5, c6, c7, .pointer (some ⟨E, 0, none⟩), .pointer (some ⟨B, 0, none⟩), .int .i64 (k : Nat), c11, c12, c13, c14, c15, c16, c17, c18, c19, c20, c21, c22, c23, c24, c25, c26, c27, c28, c29, c30, c31, c32, c33, c34, c35, c36, c37, c38, c39, c40, c41, c42, c43, c44, c45, c46, c47, c48, c49, c50, c51, c52, c53, c54, c55, c56, c57, c58, c59, c60], df⟩ L a ∧ Hid (Owns w0 wc ((if L 10 = true then ⟨.slice (some ⟨B, 0, none⟩) 3 3, 30, 1, 3, [v0, v1, .slice (some ⟨g7, 0, none⟩) (na + 1) k7]⟩ else ⟨.slice (some ⟨B, 0, none⟩) 3 3, 30, 1, 3, [v0, v1, .slice FA na cF]⟩) :: (if L 8 = true then ⟨.slice (some ⟨g7, 0, none⟩) (na + 1) k7, 5, 1, na + 1, fs ++ [bv x]⟩ else ⟨.slice FA na cF, 5, 1, na, fs⟩) :: (if L 7 = true then ⟨.slice (some ⟨g6, 0, none⟩) 1 1, 5, 1, 1, [bv x]⟩ else no) :: LL))) ⟨0, 0, 0, InvO.start, Lib.hid (HOO.out.two3)⟩ ?_ ?_
  · refine ⟨?_, ?_, ?_, ?_, ?_, ?_, ?_, ?_, ?_, ?_, ?_, trivial⟩
    ·
      rintro L a wc ⟨g6, g7, k7, hv, HO⟩ hL hc hd
      exact wpOp_val rfl rfl (ex_field rfl ((hv.fixed 9 (by decide)).trans rfl) (by go_simp)) ⟨g6, g7, k7, hv.put rc11_apart 0 rfl (lb rfl) (lb rfl) rfl, HO⟩
    ·
      rintro L a wc ⟨g6, g7, k7, hv, HO⟩ hL hc hd
      have n10 : L 10 = false := Bool.eq_false_iff.2 fun h => Bool.false_ne_true (hL.symm.trans (hc 8 (hc 10 h 8 (by decide)) 1 (by decide)))
      have h := HO.out
      rw [if_neg (show ¬ (L 10 = true) from by simp [n10])] at h
      have e1 : wc.cell? ⟨B, 2, none⟩ = some (.slice FA na cF) := h.cell 0 rfl 2 rfl
      exact wpOp_val rfl rfl (ex_load rfl (hv.get 0 rfl rfl (hd 0 (by decide))) (by go_simp)) ⟨g6, g7, k7, hv.put rc11_apart 1 rfl (lb rfl) (lb rfl) rfl, HO⟩
    ·
      rintro L a wc ⟨g6, g7, k7, hv, HO⟩ hL hc hd
      exact wpOp_val rfl rfl (ex_field rfl ((hv.fixed 8 (by decide)).trans rfl) (by go_simp)) ⟨g6, g7, k7, hv.put rc11_apart 2 rfl (lb rfl) (lb rfl) rfl, HO⟩
    ·
      rintro L a wc ⟨g6, g7, k7, hv, HO⟩ hL hc hd
      have h0 : wc.cell? ⟨E, 0, none⟩ = some (.slice (some fd) N cN) := (HE.out _ _ _ _ HO.out).1
      exact wpOp_val rfl rfl (ex_load rfl (hv.get 2 rfl rfl (hd 2 (by decide))) (by go_simp)) ⟨g6, g7, k7, hv.put rc11_apart 3 rfl (lb rfl) (lb rfl) rfl, HO⟩
    ·
      rintro L a wc ⟨g6, g7, k7, hv, HO⟩ hL hc hd
      exact wpOp_val rfl rfl (ex_move rfl ((hv.fixed 10 (by decide)).trans rfl)) ⟨g6, g7, k7, hv.put rc11_apart 4 rfl (lb rfl) (lb rfl) rfl, HO⟩
    ·
      rintro L a wc ⟨g6, g7, k7, hv, HO⟩ hL hc hd
      have u1 : (0 : Int) ≤ (k : Int) := by omega
      have u2 : (k : Int) < (N : Int) := by omega
      exact wpOp_val rfl rfl (ex_index rfl (hv.get 3 rfl rfl (hd 3 (by decide))) (hv.get 4 rfl rfl (hd 4 (by decide))) (by go_simp)) ⟨g6, g7, k7, hv.put rc11_apart 5 rfl (lb rfl) (lb rfl) rfl, HO⟩
    ·
      rintro L a wc ⟨g6, g7, k7, hv, HO⟩ hL hc hd
      have h0 : wc.cell? (fd.add k) = some (bv x) := (HE.out _ _ _ _ HO.out).2
      exact wpOp_val rfl rfl (ex_load rfl (hv.get 5 rfl rfl (hd 5 (by decide))) (by go_simp)) ⟨g6, g7, k7, hv.put rc11_apart 6 rfl (lb rfl) (lb rfl) rfl, HO⟩
    ·
      rintro L a wc ⟨g6, g7, k7, hv, HO⟩ hL hc hd
      have h := HO.out
      rw [if_neg (show ¬ (L 7 = true) from by simp [hL])] at h
      have hn := h.new 2 #[bv x] 5 (by simp [maxLen])
      exact wpOp_value rfl rfl (ex_build rfl Tryd.underlying28 info_u8 (hv.get 6 rfl rfl (hd 6 (by decide))) rfl) ⟨wc.heap.size, g7, k7, hv.put rc11_apart 7 rfl (lb rfl) (lb rfl) rfl, Lib.hid (by rw [if_pos (show upd L 7 7 = true from by simp [upd])]; exact hn)⟩
    ·
      rintro L a wc ⟨g6, g7, k7, hv, HO⟩ hL hc hd
      have n10 : L 10 = false := Bool.eq_false_iff.2 fun h => Bool.false_ne_true (hL.symm.trans (hc 10 h 8 (by decide)))
      have h7 : L 7 = true := hd 7 (by decide)
      have h := HO.out
      rw [if_neg (show ¬ (L 10 = true) from by simp [n10]), if_neg (show ¬ (L 8 = true) from by simp [hL]), if_pos h7] at h
      refine wpOp_append rfl rfl 28 5 rfl Tryd.underlying28 info_u8 rfl h 1 rfl (hv.get 1 rfl rfl (hd 1 (by decide))) (hv.get 7 rfl rfl h7) (h.cell 2 rfl 0 rfl) rfl (by omega) (by decide) ?_
      intro gg cc w2 hO2
      have hv := hv.reset 8 hL (.slice (some ⟨gg, 0, none⟩) (na + 1) cc)
      exact ⟨g6, gg, cc, hv.put rc11_apart 8 rfl (lb rfl) (lb rfl) rfl, Lib.hid (by rw [if_neg (show ¬ (upd L 8 10 = true) from by simp [upd, n10]), if_pos (show upd L 8 8 = true from by simp [upd]), if_pos (show upd L 8 7 = true from by simp [upd, h7])]; exact hO2)⟩
    ·
      rintro L a wc ⟨g6, g7, k7, hv, HO⟩ hL hc hd
      exact wpOp_val rfl rfl (ex_field rfl ((hv.fixed 9 (by decide)).trans rfl) (by go_simp)) ⟨g6, g7, k7, hv.put rc11_apart 9 rfl (lb rfl) (lb rfl) rfl, HO⟩
    ·
      rintro L a wc ⟨g6, g7, k7, hv, HO⟩ hL hc hd
      have h8 : L 8 = true := hd 8 (by decide)
      have h := HO.out
      rw [if_neg (show ¬ (L 10 = true) from by simp [hL]), if_pos h8] at h
      have k1 := h.cell 0 rfl 2 rfl
      have q1 := h.frozen 0 rfl 2
      have hs := h.store 0 rfl 2 (.slice (some ⟨g7, 0, none⟩) (na + 1) k7)
      exact wpOp_skip rfl rfl rfl (ex_store (w' := wc.setCell ⟨B, 2, none⟩ (.slice (some ⟨g7, 0, none⟩) (na + 1) k7)) rfl (hv.get 9 rfl rfl (hd 9 (by decide))) (hv.get 8 rfl rfl h8) (by go_simp)) ⟨g6, g7, k7, hv.skip 10 rfl, Lib.hid (by rw [if_pos (show upd L 10 10 = true from by simp [upd]), if_pos (show upd L 10 8 = true from by simp [upd, h8])]; exact hs)⟩
  · rintro L a wc ⟨g6, g7, k7, hv, HO⟩ hall
    show K a wc
    have ha := act_lit a
    rw [hv.size, hv.defers] at ha
    have hl : ∀ f : Nat → Value, ((List.range (⟨#[c0, c1, c2, c3, c4, c5, c6, c7, .pointer (some ⟨E, 0, none⟩), .pointer (some ⟨B, 0, none⟩), .int .i64 (k : Nat), c11, c12, c13, c14, c15, c16, c17, c18, c19, c20, c21, c22, c23, c24, c25, c26, c27, c28, c29, c30, c31, c32, c33, c34, c35, c36, c37, c38, c39, c40, c41, c42, c43, c44, c45, c46, c47, c48, c49, c50, c51, c52, c53, c54, c55, c56, c57, c58, c59, c60], df⟩ : Act).tmps.size).map f).toArray = #[f 0, f 1, f 2, f 3, f 4, f 5, f 6, f 7, f 8, f 9, f 10, f 11, f 12, f 13, f 14, f 15, f 16, f 17, f 18, f 19, f 20, f 21, f 22, f 23, f 24, f 25, f 26, f 27, f 28, f 29, f 30, f 31, f 32, f 33, f 34, f 35, f 36, f 37, f 38, f 39, f 40, f 41, f 42, f 43, f 44, f 45, f 46, f 47, f 48, f 49, f 50, f 51, f 52, f 53, f 54, f 55, f 56, f 57, f 58, f 59, f 60] := fun _ => rfl
    rw [hl] at ha
    simp only [hv.fixed 0 (by decide), hv.fixed 1 (by decide), hv.fixed 2 (by decide), hv.fixed 3 (by decide), hv.fixed 4 (by decide), hv.fixed 5 (by decide), hv.fixed 6 (by decide), hv.fixed 7 (by decide), hv.fixed 8 (by decide), hv.fixed 9 (by decide), hv.fixed 10 (by decide), hv.fixed 11 (by decide), hv.fixed 12 (by decide), hv.fixed 13 (by decide), hv.fixed 14 (by decide), hv.fixed 15 (by decide), hv.fixed 16 (by decide), hv.fixed 17 (by decide), hv.fixed 18 (by decide), hv.fixed 19 (by decide), hv.fixed 20 (by decide), hv.fixed 21 (by decide), hv.fixed 22 (by decide), hv.fixed 23 (by decide), hv.fixed 24 (by decide), hv.fixed 25 (by decide), hv.fixed 26 (by decide), hv.fixed 27 (by decide), hv.fixed 28 (by decide), hv.fixed 29 (by decide), hv.fixed 30 (by decide), hv.fixed 31 (by decide), hv.fixed 32 (by decide), hv.fixed 33 (by decide), hv.fixed 34 (by decide), hv.fixed 35 (by decide), hv.fixed 36 (by decide), hv.fixed 37 (by decide), hv.fixed 38 (by decide), hv.fixed 39 (by decide), hv.fixed 40 (by decide), hv.fixed 41 (by decide), hv.fixed 42 (by decide), hv.fixed 43 (by decide), hv.fixed 44 (by decide), hv.fixed 45 (by decide), hv.fixed 46 (by decide), hv.fixed 47 (by decide), hv.fixed 48 (by decide), hv.fixed 59 (by decide), hv.fixed 60 (by decide)] at ha
    rw [ha]
    have hO := HO.out
    rw [if_pos (hall 10 (by decide)), if_pos (hall 8 (by decide))] at hO
    exact hK g7 k7 _ _ _ _ _ _ _ _ _ _ wc (hO.sublist (by simp))
end Go.Proofs.YtdmljilcbndmfaaDoor

/- THE DRAWN REGION 2 of Recipe of the specification of rebuilds. -/
namespace Go.Proofs.YtdmljilcbndmfaaDoor
open Go.RowKit
theorem ex_alloc {P : Program} {w w' : World} {a : Act} {o : Oper} {t : TypeId} {v : Value} (ho : o.op = .alloc t) (hr : (Instr.alloc t true (.tuple #[])).run P w = .ok v w') : (execOp a.eval o).run P w = .ok (.value v) w' := by
  unfold execOp
  simp only [ho, hr, Sem.run_bind, Sem.run_pure, Result.andThen_ok]
/-- Bytes stay while a cell turns that holds none. -/
theorem Rs.farT {w : World} {v u u' : Value} {ad : Addr} {x : List UInt8} (h : Rs RB w v x) (h0 : w.cell? ad = some u) (hu : ∀ b : UInt8, u ≠ bv b) : Rs RB (w.setCell ad u') v x := by
  obtain ⟨A, c, rfl, hl, h⟩ := h
  refine ⟨A, c, rfl, hl, fun i y hi => ?_⟩
  obtain ⟨bd, z, h1, h2, h3⟩ := h i y hi
  refine ⟨bd, z, h1, ?_, h3⟩
  rw [World.cell?_setCell_other]
  · exact h2
  · intro e
    rw [← e, h0] at h2
    injection h2 with h2
    exact hu y (h2.trans h3)
theorem Owns.start1 (w : World) : Owns w w.drew [no] := (Owns.start w (L := [no]) (by intro r hr; simp at hr; subst hr; exact ⟨rfl, rfl, rfl⟩)).drew
/-- What the solving of a row answers, by letters. -/
def ExpAt (m : Mx.Mat) (b : List UInt8) (er : Int) (nx : Nat) (xx : List UInt8) : Prop :=
  (if (Mx.expr m b).isSome then (0 : Int) else 8) = er ∧ (Mx.expr m b).getD [] = xx ∧ xx.length = nx ∧ (∀ r ∈ m, r.length = b.length) ∧ 0 < b.length ∧ b.length ≤ 48 ∧ m.length ≤ 48
theorem s5Express_as (m : Mx.Mat) (b : List UInt8) (er : Int) (nx : Nat) (xx : List UInt8) (vm vb : Value) (w : World) (hM : Rs (Rs RB) w vm m) (hB : Rs RB w vb b) (he : ExpAt m b er nx xx) :
    Calls Tryd.prog 76 #[vm, vb] w fun e w' => ∃ A c, e = .returned (.agg #[.slice A nx c, .int .i64 er]) ∧ Ext w w' ∧ Rs RB w' (.slice A nx c) xx := by
  obtain ⟨h1, h2, h3, h4, h5, h6, h7⟩ := he
  refine (s5Express_any m b vm vb w hM hB h4 h5 h6 h7).mono ?_
  rintro e w' ⟨X, rfl, hX, hx⟩
  rw [h2] at hX
  obtain ⟨A, c, rfl, _⟩ := hX.form
  rw [h1]
  rw [h3] at hX ⊢
  exact ⟨A, c, rfl, hx, hX⟩
theorem sRows_as (d gl : Int) (gs : List (List Int)) (l : List Int) (N : Nat) (G v : Value) (w : World) (hG : Rs (Rs RI) w G gs) (hn : gs.length ≤ 4611686018427387904) (hl : Rs RI w v l) (hN : l.length = N) (hl48 : l.length ≤ 48) (hfm : ∀ i ∈ l, 0 ≤ i ∧ i < ((Cd.rowsOf d gs gl).length : Int)) :
    Calls Tryd.prog 75 #[.agg #[.int .i64 d, G, .int .i64 gl], v] w fun e w' => ∃ A c, e = .returned (.slice A N c) ∧ Ext w w' ∧ Rs (Rs RB) w' (.slice A N c) (Rb.rowsAt (Cd.rowsOf d gs gl) l) := by
  refine (sRows_any d gl gs l G v w hG hn hl hl48 hfm).mono ?_
  rintro e w' ⟨v', rfl, h1, h2⟩
  obtain ⟨A, c, rfl, _⟩ := h1.form
  have e : (Rb.rowsAt (Cd.rowsOf d gs gl) l).length = N := by rw [Rb.rowsAt, List.length_map, hN]
  rw [e] at h1 ⊢
  exact ⟨A, c, rfl, h2, h1⟩
noncomputable def rc2_code : Code := ((Tryd.f47.body.bind (regionOf 2)).getD .skip)
def rc2_dsts : List (Option Nat) := [some 15, some 16, some 17, some 18, some 19, some 20, some 21, some 8, none]
theorem rc2_apart : apartD rc2_dsts = true := by decide +kernel
set_option maxRecDepth 1000000 in
set_option maxHeartbeats 16000000 in
theorem rc2 (wr : World) (C : Nat) (GA FA BA : Option Addr) (ra : Addr) (ng Gc N cN cr D cb nx : Nat) (d gl er : Int) (gs : List (List Int)) (f : List Int) (b xx : List UInt8) (k0 : wr.cell? ⟨C, 0, none⟩ = some (.int .i64 d)) (k1 : wr.cell? ⟨C, 1, none⟩ = some (.slice GA ng Gc)) (k2 : wr.cell? ⟨C, 2, none⟩ = some (.int .i64 gl)) (kr : wr.cell? ra = some (.slice BA D cb))
  (HG : Hid (Rs (Rs RI) wr (.slice GA ng Gc) gs ∧ gs.length ≤ 4611686018427387904)) (HF : Hid (Rs RI wr (.slice FA N cN) f ∧ f.length = N ∧ f.length ≤ 48 ∧ ∀ i ∈ f, 0 ≤ i ∧ i < ((Cd.rowsOf d gs gl).length : Int))) (HB : Hid (Rs RB wr (.slice BA D cb) b)) (HE : Hid (ExpAt (Rb.rowsAt (Cd.rowsOf d gs gl) f) b er nx xx)) (c0 c1 c4 c5 c6 c8 c9 c10 c11 c12 c13 c14 c15 c16 c17 c18 c19 c20 c21 c22 c23 c24 c25 c26 c27 c28 c29 c30 c31 c32 c33 c34 c35 c36 c37 c38 c39 c40 c41 c42 c43 c44 c45 c46 c47 c48 c49 c50 c51 c52 c53 c54 c55 c56 c57 c58 c59 c60 : Value) (df : List Deferred) (K : Act → World → Prop)
    (hK : ∀ (XA : Option Addr) (cX gE : Nat) (u15 u16 u17 u18 u19 u20 u21 : Value) (wx : World), (Owns wr wx [⟨.slice (some ⟨gE, 0, none⟩) 2 2, 117, 1, 2, [.slice XA nx cX, .int .i64 er]⟩] ∧ Rs RB wx (.slice XA nx cX) xx) → K ⟨#[c0, c1, .slice FA N cN, .pointer (some ⟨C, 0, none⟩), c4, c5, c6, .slice (some ra) 1 cr, .pointer (some ⟨gE, 0, none⟩), c9, c10, c11, c12, c13, c14, u15, u16, u17, u18, u19, u20, u21, c22, c23, c24, c25, c26, c27, c28, c29, c30, c31, c32, c33, c34, c35, c36, c37, c38, c39, c40, c41, c42, c43, c44, c45, c46, c47, c48, c49, c50, c51, c52, c53, c54, c55, c56, c57, c58, c59, c60], df⟩ wx) :
    Code.wp Tryd.prog rc2_code (AtEnd K) ⟨#[c0, c1, .slice FA N cN, .pointer (some ⟨C, 0, none⟩), c4, c5, c6, .slice (some ra) 1 cr, c8, c9, c10, c11, c12, c13, c14, c15, c16, c17, c18, c19, c20, c21, c22, c23, c24, c25, c26, c27, c28, c29, c30, c31, c32, c33, c34, c35, c36, c37, c38, c39, c40, c41, c42, c43, c44, c45, c46, c47, c48, c49, c50, c51, c52, c53, c54, c55, c56, c57, c58, c59, c60], df⟩ wr := by
  conv => arg 2; whnf
  refine region_inv (by kernel_rfl) [[], [], [0, 1], [], [3], [4], [2, 5, 2], [], [7, 6, 6, 0, 1, 2, 3, 4, 5, 6, 7]] (by kernel_rfl) [0, 1, 2, 3, 4, 5, 6, 7, 8] (by decide +kernel) (by decide +kernel) (by decide +kernel) (fun L a wc => ∃ (RA : Option Addr) (rc : Nat) (XA : Option Addr) (cX : Nat) (gE : Nat), InvO rc2_dsts [.agg #[.int .i64 d, .slice GA ng Gc, .int .i64 gl], .slice FA N cN, .slice RA N rc, .slice (some ra) 1 cr, .pointer (some ra), .slice BA D cb, .agg #[.slice XA nx cX, .int .i64 er], .pointer (some ⟨gE, 0, none⟩), undef] ⟨#[c0, c1, .slice FA N cN, .pointer (some ⟨C, 0, none⟩), c4, c5, c6, .slice (some ra) 1 cr, c8, c9, c10, c11, c12, c13, c14, c15, c16, c17, c18, c19, c20, c21, c22, c23, c24, c25, c26, c27, c28, c29, c30, c31, c32, c33, c34, c35, c36, c37, c38, c39, c40, c41, c42, c43, c44, c45, c46, c47, c48, c49, c50, c51, c52, c53, c54, c55, c56, c57, c58, c59, c60], df⟩ L a ∧ Hid (Owns wr wc [(if L 7 = true then (if L 8 = true then ⟨.slice (some ⟨gE, 0, none⟩) 2 2, 117, 1, 2, [.slice XA nx cX, .int .i64 er]⟩ else ⟨.slice (some ⟨gE, 0, none⟩) 2 2, 117, 1, 2, [.slice none 0 0, .int .i64 0]⟩) else no)] ∧ (L 2 = true → L 8 = false → Rs (Rs RB) wc (.slice RA N rc) (Rb.rowsAt (Cd.rowsOf d gs gl) f)) ∧ (L 6 = true → Rs RB wc (.slice XA nx cX) xx))) ⟨none, 0, none, 0, 0, InvO.start, Lib.hid (And.intro (Owns.start1 wr) (And.intro (fun h => by cases h) fun h => by cases h))⟩ ?_ ?_
  · refine ⟨?_, ?_, ?_, ?_, ?_, ?_, ?_, ?_, ?_, trivial⟩
    ·
      rintro L a wc ⟨RA, rc, XA, cX, gE, hv, HO⟩ hL hc hd
      have h0 : wc.cell? ⟨C, 0, none⟩ = some (.int .i64 d) := HO.out.1.ext.cell k0
      have h1 : wc.cell? ⟨C, 1, none⟩ = some (.slice GA ng Gc) := HO.out.1.ext.cell k1
      have h2 : wc.cell? ⟨C, 2, none⟩ = some (.int .i64 gl) := HO.out.1.ext.cell k2
      exact wpOp_val rfl rfl (ex_load rfl ((hv.fixed 3 (by decide)).trans rfl) (by go_simp)) ⟨RA, rc, XA, cX, gE, hv.put rc2_apart 0 rfl (lb rfl) (lb rfl) rfl, HO⟩
    ·
      rintro L a wc ⟨RA, rc, XA, cX, gE, hv, HO⟩ hL hc hd
      exact wpOp_val rfl rfl (ex_move rfl ((hv.fixed 2 (by decide)).trans rfl)) ⟨RA, rc, XA, cX, gE, hv.put rc2_apart 1 rfl (lb rfl) (lb rfl) rfl, HO⟩
    ·
      rintro L a wc ⟨RA, rc, XA, cX, gE, hv, HO⟩ hL hc hd
      refine wpOp_call (R := fun v w1 => ∃ A c, v = .slice A N c ∧ Ext wc w1 ∧ Rs (Rs RB) w1 (.slice A N c) (Rb.rowsAt (Cd.rowsOf d gs gl) f)) rfl rfl (ex_call rfl rfl (map2c (hv.get 0 rfl rfl (hd 0 (by decide))) (hv.get 1 rfl rfl (hd 1 (by decide)))) (enters_of Tryd.func75 (by kernel_rfl) rfl _ _)) ((sRows_as d gl gs f N (.slice GA ng Gc) (.slice FA N cN) wc (Rs.ext (Rs.ext RI.ext) _ _ _ _ HO.out.1.ext HG.out.1) HG.out.2 (Rs.ext RI.ext _ _ _ _ HO.out.1.ext HF.out.1) HF.out.2.1 HF.out.2.2.1 HF.out.2.2.2).mono (fun e w' h => by obtain ⟨A, c, rfl, hx, hz⟩ := h; exact ⟨_, rfl, A, c, rfl, hx, hz⟩)) ?_
      rintro v w' ⟨RA2, rc2, rfl, hx, hz⟩
      exact ⟨RA2, rc2, XA, cX, gE, hv.put rc2_apart 2 rfl (lb rfl) (lb rfl) rfl, Lib.hid (And.intro (HO.out.1.next hx) (And.intro (fun _ _ => hz) fun h6 => Rs.ext RB.ext _ _ _ _ hx (HO.out.2.2 h6)))⟩
    ·
      rintro L a wc ⟨RA, rc, XA, cX, gE, hv, HO⟩ hL hc hd
      exact wpOp_val rfl rfl (ex_move rfl ((hv.fixed 7 (by decide)).trans rfl)) ⟨RA, rc, XA, cX, gE, hv.put rc2_apart 3 rfl (lb rfl) (lb rfl) rfl, HO⟩
    ·
      rintro L a wc ⟨RA, rc, XA, cX, gE, hv, HO⟩ hL hc hd
      have u1 : (0 : Int) ≤ ((0 : Nat) : Int) := by omega
      have u2 : ((0 : Nat) : Int) < ((1 : Nat) : Int) := by omega
      exact wpOp_val rfl rfl (ex_index rfl (hv.get 3 rfl rfl (hd 3 (by decide))) rfl (by go_simp)) ⟨RA, rc, XA, cX, gE, hv.put rc2_apart 4 rfl (lb rfl) (lb rfl) rfl, HO⟩
    ·
      rintro L a wc ⟨RA, rc, XA, cX, gE, hv, HO⟩ hL hc hd
      have h0 : wc.cell? (ra) = some (.slice BA D cb) := HO.out.1.ext.cell kr
      exact wpOp_val rfl rfl (ex_load rfl (hv.get 4 rfl rfl (hd 4 (by decide))) (by go_simp)) ⟨RA, rc, XA, cX, gE, hv.put rc2_apart 5 rfl (lb rfl) (lb rfl) rfl, HO⟩
    ·
      rintro L a wc ⟨RA, rc, XA, cX, gE, hv, HO⟩ hL hc hd
      have n8 : L 8 = false := Bool.eq_false_iff.2 fun h => Bool.false_ne_true (hL.symm.trans (hc 8 h 6 (by decide)))
      refine wpOp_call (R := fun v w1 => ∃ A c, v = .agg #[.slice A nx c, .int .i64 er] ∧ Ext wc w1 ∧ Rs RB w1 (.slice A nx c) xx) rfl rfl (ex_call rfl rfl (map2c (hv.get 2 rfl rfl (hd 2 (by decide))) (hv.get 5 rfl rfl (hd 5 (by decide)))) (enters_of Tryd.func76 (by kernel_rfl) rfl _ _)) ((s5Express_as (Rb.rowsAt (Cd.rowsOf d gs gl) f) b er nx xx (.slice RA N rc) (.slice BA D cb) wc (HO.out.2.1 (hd 2 (by decide)) n8) (Rs.ext RB.ext _ _ _ _ HO.out.1.ext HB.out) HE.out).mono (fun e w' h => by obtain ⟨A, c, rfl, hx, hz⟩ := h; exact ⟨_, rfl, A, c, rfl, hx, hz⟩)) ?_
      rintro v w' ⟨XA2, cX2, rfl, hx, hz⟩
      have h := HO.out.1.next hx
      rw [if_neg (show ¬ (L 8 = true) from by simp [n8])] at h
      have h2 : Owns wr w' [(if upd L 6 7 = true then (if upd L 6 8 = true then ⟨.slice (some ⟨gE, 0, none⟩) 2 2, 117, 1, 2, [.slice XA2 nx cX2, .int .i64 er]⟩ else ⟨.slice (some ⟨gE, 0, none⟩) 2 2, 117, 1, 2, [.slice none 0 0, .int .i64 0]⟩) else no)] := by rw [if_neg (show ¬ (upd L 6 8 = true) from by simp [upd, n8])]; exact h
      exact ⟨RA, rc, XA2, cX2, gE, hv.put rc2_apart 6 rfl (lb rfl) (lb rfl) rfl, Lib.hid (And.intro h2 (And.intro (fun h2 h8 => Rs.ext (Rs.ext RB.ext) _ _ _ _ hx (HO.out.2.1 h2 h8)) fun _ => hz))⟩
    ·
      rintro L a wc ⟨RA, rc, XA, cX, gE, hv, HO⟩ hL hc hd
      have n8 : L 8 = false := Bool.eq_false_iff.2 fun h => Bool.false_ne_true (hL.symm.trans (hc 8 h 7 (by decide)))
      have h := HO.out.1
      rw [if_neg (show ¬ (L 7 = true) from by simp [hL])] at h
      have h2 := h.new 0 #[.slice none 0 0, .int .i64 0] 117 (by simp [maxLen])
      have hA : (Instr.alloc 117 true (.tuple #[])).run Tryd.prog wc = .ok (.pointer (some ⟨wc.heap.size, 0, none⟩)) (wc.alloc (.cells #[.slice none 0 0, .int .i64 0] 117)) := by go_simp
      have h3 : Owns wr (wc.alloc (.cells #[.slice none 0 0, .int .i64 0] 117)) [(if upd L 7 7 = true then (if upd L 7 8 = true then ⟨.slice (some ⟨wc.heap.size, 0, none⟩) 2 2, 117, 1, 2, [.slice XA nx cX, .int .i64 er]⟩ else ⟨.slice (some ⟨wc.heap.size, 0, none⟩) 2 2, 117, 1, 2, [.slice none 0 0, .int .i64 0]⟩) else no)] := by rw [if_pos (show upd L 7 7 = true from by simp [upd]), if_neg (show ¬ (upd L 7 8 = true) from by simp [upd, n8])]; exact h2
      exact wpOp_value rfl rfl (ex_alloc rfl hA) ⟨RA, rc, XA, cX, wc.heap.size, hv.put rc2_apart 7 rfl (lb rfl) (lb rfl) rfl, Lib.hid (And.intro h3 (And.intro (fun h2 h8 => Rs.ext (Rs.ext RB.ext) _ _ _ _ ((Ext.refl wc).alloc _) (HO.out.2.1 h2 h8)) fun h6 => Rs.ext RB.ext _ _ _ _ ((Ext.refl wc).alloc _) (HO.out.2.2 h6)))⟩
    ·
      rintro L a wc ⟨RA, rc, XA, cX, gE, hv, HO⟩ hL hc hd
      have h7 : L 7 = true := hd 7 (by decide)
      have h6 : L 6 = true := hd 6 (by decide)
      have h := HO.out.1
      rw [if_pos h7, if_neg (show ¬ (L 8 = true) from by simp [hL])] at h
      have eA : wc.cell? ⟨gE, 0, none⟩ = some (.slice none 0 0) := h.cell 0 rfl 0 rfl
      have eB : wc.cell? ⟨gE, 1, none⟩ = some (.int .i64 0) := h.cell 0 rfl 1 rfl
      have fA : wc.frozen? ⟨gE, 0, none⟩ = false := h.frozen 0 rfl 0
      have fB : wc.frozen? ⟨gE, 1, none⟩ = false := h.frozen 0 rfl 1
      have hS := (h.store 0 rfl 0 (.slice XA nx cX)).store 0 rfl 1 (.int .i64 er)
      have hV : Rs RB ((wc.setCell ⟨gE, 0, none⟩ (.slice XA nx cX)).setCell ⟨gE, 1, none⟩ (.int .i64 er)) (.slice XA nx cX) xx := Rs.farT (Rs.farT (HO.out.2.2 h6) eA (fun b => by simp [bv])) (by rw [World.cell?_setCell_other _ _ _ _ (by simp)]; exact eB) (fun b => by simp [bv])
      have h3 : Owns wr ((wc.setCell ⟨gE, 0, none⟩ (.slice XA nx cX)).setCell ⟨gE, 1, none⟩ (.int .i64 er)) [(if upd L 8 7 = true then (if upd L 8 8 = true then ⟨.slice (some ⟨gE, 0, none⟩) 2 2, 117, 1, 2, [.slice XA nx cX, .int .i64 er]⟩ else ⟨.slice (some ⟨gE, 0, none⟩) 2 2, 117, 1, 2, [.slice none 0 0, .int .i64 0]⟩) else no)] := by rw [if_pos (show upd L 8 7 = true from by simp [upd, h7]), if_pos (show upd L 8 8 = true from by simp [upd])]; exact hS
      exact wpOp_skip rfl rfl rfl (ex_store (w' := (wc.setCell ⟨gE, 0, none⟩ (.slice XA nx cX)).setCell ⟨gE, 1, none⟩ (.int .i64 er)) rfl (hv.get 7 rfl rfl h7) (hv.get 6 rfl rfl h6) (by go_simp)) ⟨RA, rc, XA, cX, gE, hv.skip 8 rfl, Lib.hid (And.intro h3 (And.intro (fun _ h8 => absurd h8 (by simp [upd])) fun _ => hV))⟩
  · rintro L a wc ⟨RA, rc, XA, cX, gE, hv, HO⟩ hall
    show K a wc
    have ha := act_lit a
    rw [hv.size, hv.defers] at ha
    have hl : ∀ f : Nat → Value, ((List.range (⟨#[c0, c1, .slice FA N cN, .pointer (some ⟨C, 0, none⟩), c4, c5, c6, .slice (some ra) 1 cr, c8, c9, c10, c11, c12, c13, c14, c15, c16, c17, c18, c19, c20, c21, c22, c23, c24, c25, c26, c27, c28, c29, c30, c31, c32, c33, c34, c35, c36, c37, c38, c39, c40, c41, c42, c43, c44, c45, c46, c47, c48, c49, c50, c51, c52, c53, c54, c55, c56, c57, c58, c59, c60], df⟩ : Act).tmps.size).map f).toArray = #[f 0, f 1, f 2, f 3, f 4, f 5, f 6, f 7, f 8, f 9, f 10, f 11, f 12, f 13, f 14, f 15, f 16, f 17, f 18, f 19, f 20, f 21, f 22, f 23, f 24, f 25, f 26, f 27, f 28, f 29, f 30, f 31, f 32, f 33, f 34, f 35, f 36, f 37, f 38, f 39, f 40, f 41, f 42, f 43, f 44, f 45, f 46, f 47, f 48, f 49, f 50, f 51, f 52, f 53, f 54, f 55, f 56, f 57, f 58, f 59, f 60] := fun _ => rfl
    rw [hl] at ha
    simp only [hv.fixed 0 (by decide), hv.fixed 1 (by decide), hv.fixed 2 (by decide), hv.fixed 3 (by decide), hv.fixed 4 (by decide), hv.fixed 5 (by decide), hv.fixed 6 (by decide), hv.fixed 7 (by decide), hv.fixed 9 (by decide), hv.fixed 10 (by decide), hv.fixed 11 (by decide), hv.fixed 12 (by decide), hv.fixed 13 (by decide), hv.fixed 14 (by decide), hv.fixed 22 (by decide), hv.fixed 23 (by decide), hv.fixed 24 (by decide), hv.fixed 25 (by decide), hv.fixed 26 (by decide), hv.fixed 27 (by decide), hv.fixed 28 (by decide), hv.fixed 29 (by decide), hv.fixed 30 (by decide), hv.fixed 31 (by decide), hv.fixed 32 (by decide), hv.fixed 33 (by decide), hv.fixed 34 (by decide), hv.fixed 35 (by decide), hv.fixed 36 (by decide), hv.fixed 37 (by decide), hv.fixed 38 (by decide), hv.fixed 39 (by decide), hv.fixed 40 (by decide), hv.fixed 41 (by decide), hv.fixed 42 (by decide), hv.fixed 43 (by decide), hv.fixed 44 (by decide), hv.fixed 45 (by decide), hv.fixed 46 (by decide), hv.fixed 47 (by decide), hv.fixed 48 (by decide), hv.fixed 49 (by decide), hv.fixed 50 (by decide), hv.fixed 51 (by decide), hv.fixed 52 (by decide), hv.fixed 53 (by decide), hv.fixed 54 (by decide), hv.fixed 55 (by decide), hv.fixed 56 (by decide), hv.fixed 57 (by decide), hv.fixed 58 (by decide), hv.fixed 59 (by decide), hv.fixed 60 (by decide), hv.get 7 (d := 8) rfl rfl (hall 7 (by decide))] at ha
    rw [ha]
    have hO := HO.out
    rw [if_pos (hall 7 (by decide)), if_pos (hall 8 (by decide))] at hO
    exact hK XA cX gE _ _ _ _ _ _ _ wc ⟨hO.1, hO.2.2 (hall 6 (by decide))⟩
end Go.Proofs.YtdmljilcbndmfaaDoor

/- THE WALK over Recipe of the specification of rebuilds. -/
namespace Rb
/-- The recipe that the specification returns, and its error. -/
def recD (m : Mx.Mat) (p : Nat) (f : List Int) : Rec := (recipe m p f).getD ⟨0, [], []⟩
def recF (m : Mx.Mat) (p : Nat) (f : List Int) : Int := if (recipe m p f).isSome then 0 else 17
theorem recD_none {m : Mx.Mat} {p : Nat} {f : List Int} (h : (Mx.expr (rowsAt m f) (m.getD p [])).isSome = false) : recD m p f = ⟨0, [], []⟩ ∧ recF m p f = 17 := by
  have h2 := recipe_some m p f
  rw [h] at h2
  unfold recD recF
  cases hr : recipe m p f with
  | none => exact ⟨rfl, rfl⟩
  | some r => rw [hr] at h2; cases h2
theorem recD_some {m : Mx.Mat} {p : Nat} {f : List Int} (h : (Mx.expr (rowsAt m f) (m.getD p [])).isSome = true) : recD m p f = made p f ((Mx.expr (rowsAt m f) (m.getD p [])).getD []) ∧ recF m p f = 0 := by
  have h2 := recipe_some m p f
  have h3 := recipe_made m p f
  rw [h] at h2
  unfold recD recF
  cases hr : recipe m p f with
  | none => rw [hr] at h2; cases h2
  | some r => rw [hr] at h3; exact ⟨h3, rfl⟩
end Rb
namespace Go.Proofs.YtdmljilcbndmfaaDoor
open Go.RowKit
/-- A recipe of the specification, or an error. -/
def MadeOut (w w' : World) (r : Rb.Rec) (E : Int) (e : Ending) : Prop := ∃ F C, e = .returned (.agg #[.int .i64 r.piece, F, C, .int .i64 E]) ∧ Rs RI w' F r.src ∧ Rs RB w' C r.coef ∧ Fresh w w' F ∧ Fresh w w' C ∧ Ext w w'
theorem rs_set1 {α : Type} {R : World → Value → α → Prop} (hR : ∀ W W' v x, R W v x → R W' v x) {w : World} {Q k : Nat} {u v : Value} {xs : List α} (h : Rs R w v xs) (hf : ∀ b, v.ownBlock = some b → b ≠ Q) : Rs R (w.setCell ⟨Q, k, none⟩ u) v xs := by
  obtain ⟨A, c, rfl, hl, h⟩ := h
  refine ⟨A, c, rfl, hl, fun i x hi => ?_⟩
  obtain ⟨ad, u, h1, h2, h3⟩ := h i x hi
  have hne : (ad.add i).block ≠ Q := by rw [block_add]; exact hf ad.block (by rw [h1]; rfl)
  exact ⟨ad, u, h1, by rw [cell_far _ hne]; exact h2, hR _ _ _ _ h3⟩
set_option maxHeartbeats 16000000 in
set_option maxRecDepth 100000 in
theorem sRecipe_any (d gl : Int) (gs : List (List Int)) (p D : Nat) (f : List Int) (G vf : Value) (w : World) (hG : Rs (Rs RI) w G gs) (hgn : gs.length ≤ 4611686018427387904) (hF : Rs RI w vf f) (hw : ∀ r ∈ Cd.rowsOf d gs gl, r.length = D) (h0 : 0 < D) (hD : D ≤ 48) (hf : f.length ≤ 48) (hp : p < (Cd.rowsOf d gs gl).length) (hm : (Cd.rowsOf d gs gl).length ≤ 48) (hfm : ∀ i ∈ f, 0 ≤ i ∧ i < ((Cd.rowsOf d gs gl).length : Int)) :
    Calls Tryd.prog 47 #[.agg #[.int .i64 d, G, .int .i64 gl], .int .i64 (p : Nat), vf] w fun e w' => MadeOut w w' (Rb.recD (Cd.rowsOf d gs gl) p f) (Rb.recF (Cd.rowsOf d gs gl) p f) e := by
  obtain ⟨GA, Gc, rfl, _⟩ := hG.form
  obtain ⟨FA0, cN, rfl, _⟩ := hF.form
  obtain ⟨N, hN⟩ : ∃ N, f.length = N := ⟨_, rfl⟩
  obtain ⟨ng, hng⟩ : ∃ ng, gs.length = ng := ⟨_, rfl⟩
  rw [hN] at hF ⊢
  rw [hng] at hG ⊢
  have hB : Owns w ((w.alloc (.cells #[.int .i64 d, .slice GA ng Gc, .int .i64 gl] 24)).alloc (.cells #[.int .i64 0, .slice none 0 0, .slice none 0 0, .int .i64 0] 39)) [⟨.slice (some ⟨w.heap.size, 0, none⟩) 3 3, 24, 1, 3, [.int .i64 d, .slice GA ng Gc, .int .i64 gl]⟩, ⟨.slice (some ⟨(w.alloc (.cells #[.int .i64 d, .slice GA ng Gc, .int .i64 gl] 24)).heap.size, 0, none⟩) 4 4, 39, 1, 4, [.int .i64 0, .slice none 0 0, .slice none 0 0, .int .i64 0]⟩] :=
    ((Owns.start w (L := [no, no]) (by intro r hr; simp at hr; subst hr; exact ⟨rfl, rfl, rfl⟩)).new 0 #[.int .i64 d, .slice GA ng Gc, .int .i64 gl] 24 (by simp [maxLen])).new 1 #[.int .i64 0, .slice none 0 0, .slice none 0 0, .int .i64 0] 39 (by simp [maxLen])
  have hsz : (w.alloc (.cells #[.int .i64 d, .slice GA ng Gc, .int .i64 gl] 24)).heap.size = w.heap.size + 1 := by simp
  rw [hsz] at hB
  clear hsz
  have hrl : ∀ i : Nat, i < (Cd.rowsOf d gs gl).length → ((Cd.rowsOf d gs gl).getD i []).length = D := fun i hi => hw _ (by rw [List.getD_eq_getElem?_getD, List.getElem?_eq_getElem hi]; exact List.getElem_mem _)
  have HG := Lib.hid (And.intro hG hgn)
  have HF := Lib.hid (And.intro hF (And.intro hN (And.intro hf hfm)))
  have HB := Lib.hid hB
  have HP := Lib.hid (And.intro hrl (And.intro h0 (And.intro hD (And.intro hp hm))))
  have hN48 : N ≤ 48 := by omega
  clear hG hF hw h0 hD hf hp hm hfm hB hrl hgn hN hng
  go_enter Tryd.func47, Tryd.ntmps47
  go_upto_region 1 with fail
  obtain ⟨C, hC⟩ : ∃ C, w.heap.size = C := ⟨_, rfl⟩
  obtain ⟨Q, hQ⟩ : ∃ Q, C + 1 = Q := ⟨_, rfl⟩
  rw [hC, hQ] at HB
  rw [hC]
  try rw [hQ]
  obtain ⟨w1, hw1⟩ : ∃ x, (w.alloc (.cells #[.int .i64 d, .slice GA ng Gc, .int .i64 gl] 24)).alloc (.cells #[.int .i64 0, .slice none 0 0, .slice none 0 0, .int .i64 0] 39) = x := ⟨_, rfl⟩
  rw [hw1] at HB ⊢
  clear hw1 hQ hC
  have b0 : w1.cell? ⟨C, 0, none⟩ = some (.int .i64 d) := HB.out.cell 0 rfl 0 rfl
  have b1 : w1.cell? ⟨C, 1, none⟩ = some (.slice GA ng Gc) := HB.out.cell 0 rfl 1 rfl
  have b2 : w1.cell? ⟨C, 2, none⟩ = some (.int .i64 gl) := HB.out.cell 0 rfl 2 rfl
  have hxa : Ext w1 (w1.alloc (.cells #[.int .i64 (p : Nat)] 3)) := (Ext.refl w1).alloc _
  have hlp : Rs RI (w1.alloc (.cells #[.int .i64 (p : Nat)] 3)) (.slice (some ⟨w1.heap.size, 0, none⟩) 1 1) [(p : Int)] := by
    refine ⟨_, _, rfl, by simp, fun i x hi => ?_⟩
    match i, hi with
    | 0, hi =>
      simp at hi
      subst hi
      refine ⟨_, _, rfl, cell_of_row _ _ 0 _ _ (0, 0) (heap_new _ _), rfl, ?_⟩
      have := HP.out.2.2.2
      omega
  have hrp := sRows_as d gl gs [(p : Int)] 1 (.slice GA ng Gc) _ _ (Rs.ext (Rs.ext RI.ext) _ _ _ _ (HB.out.ext.trans hxa) HG.out.1) HG.out.2 hlp rfl (by simp) (fun i hi => by rw [List.mem_singleton.1 hi]; have := HP.out.2.2.2.1; omega)
  have HRP := Lib.hid hrp
  clear hxa hlp hrp
  go_wp2_with fail
  refine HRP.out.mono ?_
  clear HRP
  rintro e w2 ⟨RA1, rc1, rfl, hx2, hz2⟩
  have HO2 := Lib.hid ((HB.out.alloc (.cells #[.int .i64 (p : Nat)] 3)).next hx2)
  obtain ⟨ra, u, hra, hcr, hur⟩ := hz2.at (i := 0) (by simp [Rb.rowsAt])
  subst hra
  rw [addr_zero] at hcr
  have hrow : (Rb.rowsAt (Cd.rowsOf d gs gl) [(p : Int)])[0]'(by simp [Rb.rowsAt]) = (Cd.rowsOf d gs gl).getD p [] := by simp [Rb.rowsAt]
  rw [hrow] at hur
  obtain ⟨BA, cb, rfl, _⟩ := hur.form
  obtain ⟨DD, hDD⟩ : ∃ DD, ((Cd.rowsOf d gs gl).getD p []).length = DD := ⟨_, rfl⟩
  rw [hDD] at hcr hur
  have HUR := Lib.hid hur
  obtain ⟨xx, hxx⟩ : ∃ xx, (Mx.expr (Rb.rowsAt (Cd.rowsOf d gs gl) f) ((Cd.rowsOf d gs gl).getD p [])).getD [] = xx := ⟨_, rfl⟩
  obtain ⟨er, her⟩ : ∃ er, (if (Mx.expr (Rb.rowsAt (Cd.rowsOf d gs gl) f) ((Cd.rowsOf d gs gl).getD p [])).isSome then (0 : Int) else 8) = er := ⟨_, rfl⟩
  obtain ⟨nx, hnx⟩ : ∃ nx, xx.length = nx := ⟨_, rfl⟩
  have hat : ExpAt (Rb.rowsAt (Cd.rowsOf d gs gl) f) ((Cd.rowsOf d gs gl).getD p []) er nx xx := by
    have hpl := HP.out.1 p HP.out.2.2.2.1
    refine ⟨her, hxx, hnx, fun r hr => ?_, by rw [hpl]; exact HP.out.2.1, by rw [hpl]; exact HP.out.2.2.1, by rw [Rb.rowsAt, List.length_map]; exact HF.out.2.2.1⟩
    obtain ⟨i, hi, rfl⟩ := List.mem_map.1 hr
    rw [hpl]
    have := HF.out.2.2.2 i hi
    exact HP.out.1 i.toNat (by omega)
  have HAT := Lib.hid hat
  have HEE := Lib.hid (And.intro her (And.intro hxx hnx))
  have k0 : w2.cell? ⟨C, 0, none⟩ = some (.int .i64 d) := HO2.out.cell 0 rfl 0 rfl
  have k1 : w2.cell? ⟨C, 1, none⟩ = some (.slice GA ng Gc) := HO2.out.cell 0 rfl 1 rfl
  have k2 : w2.cell? ⟨C, 2, none⟩ = some (.int .i64 gl) := HO2.out.cell 0 rfl 2 rfl
  have HGF := Lib.hid (And.intro (Lib.hid (And.intro (Rs.ext (Rs.ext RI.ext) _ _ _ _ HO2.out.ext HG.out.1) HG.out.2)) (Lib.hid (And.intro (Rs.ext RI.ext _ _ _ _ HO2.out.ext HF.out.1) HF.out.2)))
  clear hx2 hz2 hrow hur hDD hat her hxx hnx b0 b1 b2 HB
  go_upto_region 2 with fail
  refine wp_atEnd' (rc2 w2 C GA FA0 BA ra ng Gc N cN rc1 DD cb nx d gl er gs f ((Cd.rowsOf d gs gl).getD p []) xx k0 k1 k2 hcr HGF.out.1 HGF.out.2 HUR HAT _ _ _ _ _ _ _ _ _ _ _ _ _ _ _ _ _ _ _ _ _ _ _ _ _ _ _ _ _ _ _ _ _ _ _ _ _ _ _ _ _ _ _ _ _ _ _ _ _ _ _ _ _ _ _ _ _ _ _ _ ?_)
  rintro XA cX E u15 u16 u17 u18 u19 u20 u21 w3 ⟨hE3, hX3⟩
  have HO3 := Lib.hid (HO2.out.next hE3.ext)
  have HE3 := Lib.hid hE3
  have HX3 := Lib.hid hX3
  have HF3 := Lib.hid (And.intro (Rs.ext RI.ext _ _ _ _ hE3.ext HGF.out.2.out.1) HF.out.2)
  clear hE3 hX3 k0 k1 k2 hcr HUR HGF HO2 HAT
  have e1 : w3.cell? ⟨E, 1, none⟩ = some (.int .i64 er) := HE3.out.cell 0 rfl 1 rfl
  obtain ⟨her, hxx, hnx⟩ := HEE.out
  clear HEE
  obtain ⟨bs, hs⟩ : ∃ bs, (Mx.expr (Rb.rowsAt (Cd.rowsOf d gs gl) f) ((Cd.rowsOf d gs gl).getD p [])).isSome = bs := ⟨_, rfl⟩
  rw [hs] at her
  cases bs with
  | false =>
    have hrd := Rb.recD_none hs
    obtain rfl : (8 : Int) = er := her
    have HRD := Lib.hid hrd
    clear hrd hs hxx
    have q0 := HO3.out.cell 1 rfl 0 rfl
    have q1 := HO3.out.cell 1 rfl 1 rfl
    have q2 := HO3.out.cell 1 rfl 2 rfl
    have q3 := HO3.out.cell 1 rfl 3 rfl
    have f0 := HO3.out.frozen 1 rfl 0
    have f1 := HO3.out.frozen 1 rfl 1
    have f2 := HO3.out.frozen 1 rfl 2
    have f3 := HO3.out.frozen 1 rfl 3
    have HS1 := Lib.hid ((((HO3.out.store 1 rfl 0 (.int .i64 0)).store 1 rfl 1 (.slice none 0 0)).store 1 rfl 2 (.slice none 0 0)).store 1 rfl 3 (.int .i64 17))
    go_wp2_with fail
    refine bodyPost_ret (results_cell1 (v := .agg #[.int .i64 0, .slice none 0 0, .slice none 0 0, .int .i64 17]) rfl rfl ?_) rfl ?_
    · go_simp
    rw [HRD.out.1, HRD.out.2]
    exact ⟨_, _, rfl, Rs.nil _, Rs.nil _, (fun b h => by cases h), (fun b h => by cases h), HS1.out.ext⟩
  | true =>
    have hrd := Rb.recD_some hs
    obtain rfl : (0 : Int) = er := her
    have hxl : nx = N := by
      cases hE : Mx.expr (Rb.rowsAt (Cd.rowsOf d gs gl) f) ((Cd.rowsOf d gs gl).getD p []) with
      | none => rw [hE] at hs; cases hs
      | some y =>
        have h1 := (Mx.expr_some hE).1
        rw [hE] at hxx
        have h2 : y = xx := hxx
        rw [← hnx, ← h2, h1, Rb.rowsAt, List.length_map, HF.out.2.1]
    subst hxl
    rw [hxx] at hrd
    have HRD := Lib.hid hrd
    have HNX := Lib.hid hnx
    clear hrd hs hxx hnx
    have hO5 := (Owns.start w3 (L := [nilRow 3, nilRow 5, no]) (by intro r hr; simp only [List.mem_cons, List.not_mem_nil, or_false] at hr; rcases hr with rfl | rfl | rfl <;> exact ⟨rfl, rfl, rfl⟩)).new 2 #[.int .i64 (p : Nat), .slice none 0 0, .slice none 0 0] 30 (by simp [maxLen])
    have HO5 := Lib.hid (hO5.sublist (L' := [nilRow 3, nilRow 5, ⟨.slice (some ⟨w3.heap.size, 0, none⟩) 3 3, 30, 1, 3, [.int .i64 (p : Nat), .slice none 0 0, .slice none 0 0]⟩]) (List.Sublist.refl _))
    clear hO5
    go_upto_region 6 with fail
    obtain ⟨w5, hw5⟩ : ∃ w5, w3.alloc (.cells #[.int .i64 (p : Nat), .slice none 0 0, .slice none 0 0] 30) = w5 := ⟨_, rfl⟩
    obtain ⟨B, hB⟩ : ∃ B, w3.heap.size = B := ⟨_, rfl⟩
    rw [hw5, hB] at HO5
    rw [hw5, hB]
    clear hw5 hB
    go_wp2_with fail
    go_loopw [10] (fun vi wr => ∃ (k na cF cC : Nat) (FA CA : Option Addr), k ≤ nx ∧ vi = .int .i64 (k : Nat) ∧ na ≤ k ∧ Hid (na = (Rb.keep (f.take k) (xx.take k)).length ∧ Owns w3 wr [⟨.slice (some ⟨B, 0, none⟩) 3 3, 30, 1, 3, [.int .i64 (p : Nat), .slice FA na cF, .slice CA na cC]⟩, ⟨.slice FA na cF, 3, 1, na, ((Rb.keep (f.take k) (xx.take k)).map Prod.fst).map (.int .i64)⟩, ⟨.slice CA na cC, 5, 1, na, ((Rb.keep (f.take k) (xx.take k)).map Prod.snd).map bv⟩])) (fun vi _ => nx - (intOf vi).toNat)
    case atStart => exact ⟨0, 0, 0, 0, none, none, Nat.zero_le _, rfl, Nat.le_refl _, Lib.hid ⟨rfl, HO5.out.perm (List.perm_append_comm (l₁ := [nilRow 3, nilRow 5]) (l₂ := [_]))⟩⟩
    case round =>
      obtain ⟨k, na, cF, cC, FA, CA, hk, rfl, hna, HI⟩ := hrel
      by_cases hlt : k < nx
      · have hkf : k < f.length := by rw [HF.out.2.1]; exact hlt
        have hkx : k < xx.length := by rw [HNX.out]; exact hlt
        obtain ⟨xa, u1, hxa, hc1, hu1⟩ := (HX3.out).at hkx
        subst hxa
        obtain rfl := hu1
        obtain ⟨fd, u2, hfd, hc2, hu2⟩ := (HF3.out.1).at hkf
        subst hfd
        have hue := hu2.1
        subst hue
        have hs := Rb.keep_succ hkf hkx
        obtain ⟨y, hy⟩ : ∃ y, xx[k] = y := ⟨_, rfl⟩
        obtain ⟨fk, hfk⟩ : ∃ fk, f[k] = fk := ⟨_, rfl⟩
        rw [hy] at hc1 hs
        rw [hfk] at hc2 hs
        have HS := Lib.hid hs
        have hcy : wr.cell? (xa.add k) = some (bv y) := HI.out.2.ext.cell hc1
        have g0 : wr.cell? ⟨E, 0, none⟩ = some (.slice (some xa) nx cX) := HI.out.2.ext.cell (HE3.out.cell 0 rfl 0 rfl)
        clear hs hy hfk hu2 hkf hkx
        by_cases hy0 : y = 0
        · subst hy0
          have HS2 := Lib.hid (HS.out.trans (by rw [if_pos rfl, List.append_nil]))
          clear HS
          go_wp2_with fail
          go_roundw
          case rel => exact ⟨k + 1, na, cF, cC, FA, CA, by omega, by go_num, by omega, Lib.hid (by rw [HS2.out]; exact HI.out)⟩
          case measure => simp [intOf]; omega
        · have HS2 := Lib.hid (HS.out.trans (by rw [if_neg hy0]))
          have hb0 : (((y.toNat : Nat) : Int) != 0) = true := by
            rw [bne_iff_ne]
            intro h
            exact hy0 (UInt8.toNat_inj.1 (by have : y.toNat = 0 := by omega
                                             exact this))
          have hb1 : (((y.toNat : Nat) : Int) == 0) = false := by
            rw [beq_eq_false_iff_ne]
            intro h
            exact hy0 (UInt8.toNat_inj.1 (by have : y.toNat = 0 := by omega
                                             exact this))
          clear hy0 HS
          have HOA := Lib.hid HI.out.2
          have HNA := Lib.hid HI.out.1
          clear HI
          go_upto_region 10 with fail
          refine wp_atEnd' (rc10 w3 wr B k nx na cN cF FA fd _ _ _ _ fk hc2 hlt (by omega) HOA _ _ _ _ _ _ _ _ _ _ _ _ _ _ _ _ _ _ _ _ _ _ _ _ _ _ _ _ _ _ _ _ _ _ _ _ _ _ _ _ _ _ _ _ _ _ _ _ _ _ _ _ _ _ _ _ _ _ _ _ ?_)
          rintro g7 k7 u40 u41 u42 u43 u44 u45 u46 u47 u48 wy hOy
          have HE4 : Hid (∀ (W : World) (R0 R1 R2 : LRow), Owns w3 W (R0 :: R1 :: R2 :: [⟨.slice (some ⟨g7, 0, none⟩) (na + 1) k7, 3, 1, na + 1, ((Rb.keep (f.take k) (xx.take k)).map Prod.fst).map (.int .i64) ++ [.int .i64 fk]⟩]) → W.cell? ⟨E, 0, none⟩ = some (.slice (some xa) nx cX) ∧ W.cell? (xa.add k) = some (bv y)) := Lib.hid fun W R0 R1 R2 h => ⟨h.ext.cell (HE3.out.cell 0 rfl 0 rfl), h.ext.cell hc1⟩
          have HOY := Lib.hid (hOy.perm (List.Perm.cons _ (List.Perm.swap _ _ _)))
          clear hOy hcy g0 HOA hb0 hb1
          go_upto_region 11 with fail
          refine wp_atEnd' (rc11 w3 wy B k nx na cX cC CA xa _ _ _ _ E y HE4 hlt (by omega) HOY _ _ _ _ _ _ _ _ _ _ _ _ _ _ _ _ _ _ _ _ _ _ _ _ _ _ _ _ _ _ _ _ _ _ _ _ _ _ _ _ _ _ _ _ _ _ _ _ _ _ _ _ _ _ _ _ _ _ _ _ ?_)
          rintro g8 k8 u49 u50 u51 u52 u53 u54 u55 u56 u57 u58 wx hOx
          have HOX := Lib.hid (hOx.perm (List.Perm.cons _ (List.Perm.swap _ _ _)))
          clear hOx HOY HE4 hc1 hc2
          go_wp2_with fail
          go_roundw
          case rel => exact ⟨k + 1, na + 1, k7, k8, some ⟨g7, 0, none⟩, some ⟨g8, 0, none⟩, by omega, by go_num, by omega, Lib.hid ⟨by rw [HS2.out, List.length_append, ← HNA.out]; rfl, by rw [HS2.out, List.map_append, List.map_append, List.map_append, List.map_append]; exact HOX.out⟩⟩
          case measure => simp [intOf]; omega
      · obtain rfl : k = nx := by omega
        have hk2 : Rb.keep (f.take k) (xx.take k) = Rb.keep f xx := by
          have h := Rb.keep_all f xx
          rw [HNX.out] at h
          exact h
        have hnl := HI.out.1
        have hO6 := HI.out.2
        rw [hk2] at hnl hO6
        have hO7 := HO3.out.next hO6.ext
        have b0 : wr.cell? ⟨B, 0, none⟩ = some (.int .i64 (p : Nat)) := hO6.cell 0 rfl 0 rfl
        have b1 : wr.cell? ⟨B, 1, none⟩ = some (.slice FA na cF) := hO6.cell 0 rfl 1 rfl
        have b2 : wr.cell? ⟨B, 2, none⟩ = some (.slice CA na cC) := hO6.cell 0 rfl 2 rfl
        have q0 : wr.cell? ⟨Q, 0, none⟩ = some (.int .i64 0) := hO7.cell 1 rfl 0 rfl
        have q1 : wr.cell? ⟨Q, 1, none⟩ = some (.slice none 0 0) := hO7.cell 1 rfl 1 rfl
        have q2 : wr.cell? ⟨Q, 2, none⟩ = some (.slice none 0 0) := hO7.cell 1 rfl 2 rfl
        have q3 : wr.cell? ⟨Q, 3, none⟩ = some (.int .i64 0) := hO7.cell 1 rfl 3 rfl
        have f0 : wr.frozen? ⟨Q, 0, none⟩ = false := hO7.frozen 1 rfl 0
        have f1 : wr.frozen? ⟨Q, 1, none⟩ = false := hO7.frozen 1 rfl 1
        have f2 : wr.frozen? ⟨Q, 2, none⟩ = false := hO7.frozen 1 rfl 2
        have f3 : wr.frozen? ⟨Q, 3, none⟩ = false := hO7.frozen 1 rfl 3
        have hO8 := (((hO7.store 1 rfl 0 (.int .i64 (p : Nat))).store 1 rfl 1 (.slice FA na cF)).store 1 rfl 2 (.slice CA na cC)).store 1 rfl 3 (.int .i64 0)
        have hQ3 : Q < w3.heap.size := ((HO3.out.row 1 rfl).lt Q rfl).2
        have hfa : ∀ b, (Value.slice FA na cF).ownBlock = some b → b ≠ Q := fun b e => by
          have := (hO6.row 1 rfl).lt b e
          omega
        have hca : ∀ b, (Value.slice CA na cC).ownBlock = some b → b ≠ Q := fun b e => by
          have := (hO6.row 2 rfl).lt b e
          omega
        have hle := Rb.keep_few f xx
        have hsrc : Rs RI wr (.slice FA na cF) (Rb.made p f xx).src := by
          refine Rs.of_ints (hO6.rd 1 rfl) (by simp [Rb.made, hnl]) (by simp [Rb.made]; have := HF.out.2.1; omega) (fun z hz => ?_)
          obtain ⟨q, hq, rfl⟩ := List.mem_map.1 hz
          have h1 := (List.mem_filter.1 hq).1
          have h2 := HF.out.2.2.2 q.1 (List.of_mem_zip (a := q.1) (b := q.2) h1).1
          have := HP.out.2.2.2.2
          omega
        have hcoef : Rs RB wr (.slice CA na cC) (Rb.made p f xx).coef := by
          have h1 := Rs.of_rd (c := cC) (hO6.rd 2 rfl) (by simp; have := HF.out.2.1; omega)
          rw [List.length_map, ← hnl] at h1
          exact h1
        have hsrc2 := rs_set1 (Q := Q) (k := 3) (u := .int .i64 0) (fun _ _ _ _ h => h) (rs_set1 (Q := Q) (k := 2) (u := .slice CA na cC) (fun _ _ _ _ h => h) (rs_set1 (Q := Q) (k := 1) (u := .slice FA na cF) (fun _ _ _ _ h => h) (rs_set1 (Q := Q) (k := 0) (u := .int .i64 (p : Nat)) (fun _ _ _ _ h => h) hsrc hfa) hfa) hfa) hfa
        have hcoef2 := rs_set1 (Q := Q) (k := 3) (u := .int .i64 0) (fun _ _ _ _ h => h) (rs_set1 (Q := Q) (k := 2) (u := .slice CA na cC) (fun _ _ _ _ h => h) (rs_set1 (Q := Q) (k := 1) (u := .slice FA na cF) (fun _ _ _ _ h => h) (rs_set1 (Q := Q) (k := 0) (u := .int .i64 (p : Nat)) (fun _ _ _ _ h => h) hcoef hca) hca) hca) hca
        have hfrF : Fresh w ((((wr.setCell ⟨Q, 0, none⟩ (.int .i64 (p : Nat))).setCell ⟨Q, 1, none⟩ (.slice FA na cF)).setCell ⟨Q, 2, none⟩ (.slice CA na cC)).setCell ⟨Q, 3, none⟩ (.int .i64 0)) (.slice FA na cF) := fun b hb => by
          have := (hO6.row 1 rfl).lt b hb
          have h4 := HO3.out.ext.size
          refine ⟨by omega, by simpa using this.2⟩
        have hfrC : Fresh w ((((wr.setCell ⟨Q, 0, none⟩ (.int .i64 (p : Nat))).setCell ⟨Q, 1, none⟩ (.slice FA na cF)).setCell ⟨Q, 2, none⟩ (.slice CA na cC)).setCell ⟨Q, 3, none⟩ (.int .i64 0)) (.slice CA na cC) := fun b hb => by
          have := (hO6.row 2 rfl).lt b hb
          have h4 := HO3.out.ext.size
          refine ⟨by omega, by simpa using this.2⟩
        have HRES := Lib.hid (And.intro hsrc2 (And.intro hcoef2 (And.intro hfrF (And.intro hfrC hO8.ext))))
        clear hk2 hnl hO6 hO7 hO8 hQ3 hfa hca hle hsrc hcoef hsrc2 hcoef2 hfrF hfrC HI e1
        go_wp2_with fail
        refine bodyPost_ret (results_cell1 (v := .agg #[.int .i64 (p : Nat), .slice FA na cF, .slice CA na cC, .int .i64 0]) rfl rfl ?_) rfl ?_
        · go_simp
        rw [HRD.out.1, HRD.out.2]
        exact ⟨_, _, rfl, HRES.out.1, HRES.out.2.1, HRES.out.2.2.1, HRES.out.2.2.2.1, HRES.out.2.2.2.2⟩
end Go.Proofs.YtdmljilcbndmfaaDoor

/- WHAT All OF THE SPECIFICATION of rebuilds wants: its drawn region 13; lists of recipes in a variable; the sets that Choices returns. -/
namespace Go.Proofs.YtdmljilcbndmfaaDoor
open Go.RowKit
/-- A recipe whose slices were made since w0. -/
structure RecAt (w0 w : World) (r : Rb.Rec) (F C : Value) : Prop where
  f : Rs RI w F r.src
  c : Rs RB w C r.coef
  nf : Fresh w0 w F
  nc : Fresh w0 w C
theorem RecAt.new {w0 w : World} {r : Rb.Rec} {F C : Value} (h : RecAt w0 w r F C) (b : Nat) (hb : F.ownBlock = some b ∨ C.ownBlock = some b) : w0.heap.size ≤ b := by
  rcases hb with hb | hb
  · exact (h.nf b hb).1
  · exact (h.nc b hb).1
theorem RecAt.old {w0 w : World} {r : Rb.Rec} {F C : Value} (h : RecAt w0 w r F C) (b : Nat) (hb : F.ownBlock = some b ∨ C.ownBlock = some b) : b < w.heap.size := by
  rcases hb with hb | hb
  · exact (h.nf b hb).2
  · exact (h.nc b hb).2
theorem RecAt.next {w0 w w' : World} {r : Rb.Rec} {F C : Value} (h : RecAt w0 w r F C) (hx : Ext w w') : RecAt w0 w' r F C :=
  ⟨Rs.ext RI.ext _ _ _ _ hx h.f, Rs.ext RB.ext _ _ _ _ hx h.c, fun b hb => ⟨(h.nf b hb).1, Nat.lt_of_lt_of_le (h.nf b hb).2 hx.size⟩, fun b hb => ⟨(h.nc b hb).1, Nat.lt_of_lt_of_le (h.nc b hb).2 hx.size⟩⟩
theorem RecAt.low {w0 w1 w : World} {r : Rb.Rec} {F C : Value} (h : RecAt w1 w r F C) (hl : w0.heap.size ≤ w1.heap.size) : RecAt w0 w r F C :=
  ⟨h.f, h.c, fun b hb => ⟨Nat.le_trans hl (h.nf b hb).1, (h.nf b hb).2⟩, fun b hb => ⟨Nat.le_trans hl (h.nc b hb).1, (h.nc b hb).2⟩⟩
theorem RecAt.store4 {w0 w : World} {r : Rb.Rec} {F C u0 u1 u2 u3 : Value} {g : Nat} (h : RecAt w0 w r F C) (hf : ∀ b, F.ownBlock = some b ∨ C.ownBlock = some b → b ≠ g) : RecAt w0 ((((w.setCell ⟨g, 0, none⟩ u0).setCell ⟨g, 1, none⟩ u1).setCell ⟨g, 2, none⟩ u2).setCell ⟨g, 3, none⟩ u3) r F C :=
  ⟨rs_set1 (fun _ _ _ _ h => h) (rs_set1 (fun _ _ _ _ h => h) (rs_set1 (fun _ _ _ _ h => h) (rs_set1 (fun _ _ _ _ h => h) h.f fun b hb => hf b (.inl hb)) fun b hb => hf b (.inl hb)) fun b hb => hf b (.inl hb)) fun b hb => hf b (.inl hb),
   rs_set1 (fun _ _ _ _ h => h) (rs_set1 (fun _ _ _ _ h => h) (rs_set1 (fun _ _ _ _ h => h) (rs_set1 (fun _ _ _ _ h => h) h.c fun b hb => hf b (.inr hb)) fun b hb => hf b (.inr hb)) fun b hb => hf b (.inr hb)) fun b hb => hf b (.inr hb),
   fun b hb => ⟨(h.nf b hb).1, by simpa using (h.nf b hb).2⟩, fun b hb => ⟨(h.nc b hb).1, by simpa using (h.nc b hb).2⟩⟩
theorem ChO.rs {w0 W : World} {q oc : Nat} {oA : Option Addr} {LL : List LRow} {ys : List (List Int)} (h : ChO w0 W q oc oA LL ys) (hq : q ≤ 1000000000) (hb : ∀ f ∈ ys, f.length ≤ 1000 ∧ ∀ x ∈ f, 0 ≤ x ∧ x < 1000) : Rs (Rs RI) W (.slice oA q oc) ys := by
  obtain ⟨vs, hO, hvl, hyl, hin⟩ := h
  refine ⟨oA, oc, by rw [hyl], by omega, fun i y hi => ?_⟩
  have hiq := (List.getElem?_eq_some_iff.1 hi).1
  rw [hyl] at hiq
  have hy : ys.getD i [] = y := by rw [List.getD_eq_getElem?_getD, hi]; rfl
  obtain ⟨g, c, m, hm, hv, hmem⟩ := hin i hiq
  obtain ⟨ad, hA, _, hc⟩ := hO.rd 0 rfl i _ hv
  refine ⟨ad, _, hA, hc, ?_⟩
  obtain ⟨j, hj⟩ := List.getElem?_of_mem (List.mem_cons_of_mem _ hmem)
  have hrd := hO.rd j hj
  rw [hy] at hrd hm
  have hbb := hb y (List.mem_of_getElem? hi)
  exact Rs.of_ints hrd hm (by have := hbb.1; omega) fun x hx => by have := hbb.2 x hx; omega
set_option maxRecDepth 100000 in
/-- 'l = append(l, r)' the variable no box. -/
theorem wpl_append_tmp {w0 w : World} {A : Option Addr} {c : Nat} {x : List RV} {y : RV} {ops : Array Oper} {rest : List Oper} {o : Oper} {a : Act} {Q : Exit → Act → World → Prop} (hgd : o.guard = none) (s z : Operand)
    (ho : o.op = .call { callee := .builtin .append, args := #[s, z], argTypes := #[34, 34] })
    (h : TAt w0 w A c x) (hs : a.eval s = .slice A x.length c) {g0 : Nat} (hx : a.eval z = .slice (some ⟨g0, 0, none⟩) 1 1) (h0 : w.cell? ⟨g0, 0, none⟩ = some (.int .i64 y.1.piece)) (h1 : w.cell? ⟨g0, 1, none⟩ = some y.2.1) (h2 : w.cell? ⟨g0, 2, none⟩ = some y.2.2)
    (hf : Rs RI w y.2.1 y.1.src) (hc : Rs RB w y.2.2 y.1.coef) (hfar : ∀ b, y.2.1.ownBlock = some b ∨ y.2.2.ownBlock = some b → b < w.heap.size ∧ (Value.slice A x.length c).ownBlock ≠ some b) (hnew : ∀ b, y.2.1.ownBlock = some b ∨ y.2.2.ownBlock = some b → w0.heap.size ≤ b) (hm : x.length < 1000000)
    (hK : ∀ g cap w', Hid (TAt w0 w' (some ⟨g, 0, none⟩) cap (x ++ [y])) → wpList Tryd.prog ops Q rest (a.put o.dst (.slice (some ⟨g, 0, none⟩) (x.length + 1) cap)) w') :
    wpList Tryd.prog ops Q (o :: rest) a w := by
  refine wpList_plain hgd fun K hK' => ?_
  obtain ⟨FA, fc, hFv, _⟩ := hf.form
  obtain ⟨CA, cc, hCv, _⟩ := hc.form
  have hnews : ∀ j u, [Value.int .i64 y.1.piece, y.2.1, y.2.2][j]? = some u → w.cell? ((⟨g0, 0, none⟩ : Addr).add j) = some u := fun j u hj => by
    match j, hj with
    | 0, hj => simp at hj; subst hj; exact h0
    | 1, hj => simp at hj; subst hj; exact h1
    | 2, hj => simp at hj; subst hj; exact h2
  have hone : ∀ u ∈ [Value.int .i64 y.1.piece, y.2.1, y.2.2], u.oneCell' = true := fun u hu => by
    simp at hu
    rcases hu with rfl | rfl | rfl
    · rfl
    · rw [hFv]; rfl
    · rw [hCv]; rfl
  obtain ⟨i, hi0, hiz, hi1, hi2⟩ := info_parts info_rec
  have hown := h.owns.row 0 rfl
  obtain ⟨g, cap, w', hr, r1, r2, r3, r4⟩ := run_append_lies (P := Tryd.prog) w 34 o.type w0.heap.size 30 i _ 3 56 Tryd.underlying34 hi0 hiz hi1 hi2 rfl (by decide) _ _ _ hown ⟨g0, 0, none⟩ 1 1 [.int .i64 y.1.piece, y.2.1, y.2.2] rfl hnews hone (by decide) (by unfold maxLen; omega) (by omega) h.owns.ext.size _ rfl
  rw [← rcells_snoc] at r1
  have hx1 : Ext w0 w' := h.owns.ext.grown r2 (fun k hk => own_ge hown k hk)
  have hlen : (x ++ [y]).length = x.length + 1 := by simp
  have hO2 : Owns w0 w' [⟨.slice (some ⟨g, 0, none⟩) (x.length + 1) cap, 30, 3, x.length + 1, rcells (x ++ [y])⟩] :=
    h.owns.put 0 ⟨.slice (some ⟨g, 0, none⟩) (x.length + 1) cap, 30, 3, x.length + 1, rcells (x ++ [y])⟩ hx1 r1 (fun j r hj hrr g' hg' => by
      match j, hj, hrr with
      | j + 1, _, hrr => simp at hrr) (fun j r hj hrr => by
      match j, hj, hrr with
      | j + 1, _, hrr => simp at hrr)
  have hcell : ∀ (ad : Addr) (u : Value), ad.block < w.heap.size → (Value.slice A x.length c).ownBlock ≠ some ad.block → w.cell? ad = some u → w'.cell? ad = some u := fun ad u hb hne hv => by
    unfold World.cell? at hv ⊢
    rw [r2.block ad.block hb (fun e => hne e.symm)]
    exact hv
  have hsz := r2.size
  have hgne : ∀ b, b < w.heap.size → (Value.slice A x.length c).ownBlock ≠ some b → (Value.slice (some ⟨g, 0, none⟩) (x ++ [y]).length cap).ownBlock ≠ some b := fun b hb hne e => by
    injection e with e
    have e : g = b := e
    subst e
    rcases r3 with r3 | r3
    · exact hne r3
    · omega
  have hT : TAt w0 w' (some ⟨g, 0, none⟩) cap (x ++ [y]) := by
    refine ⟨by rw [hlen]; exact hO2, fun q hq => ?_, fun q hq => ?_⟩
    rotate_left
    · rcases List.mem_append.1 hq with hq | hq
      · exact h.new q hq
      · rw [List.mem_singleton.1 hq]; exact hnew
    have hq3 : Rs RI w q.2.1 q.1.src ∧ Rs RB w q.2.2 q.1.coef ∧ ∀ b, q.2.1.ownBlock = some b ∨ q.2.2.ownBlock = some b → b < w.heap.size ∧ (Value.slice A x.length c).ownBlock ≠ some b := by
      rcases List.mem_append.1 hq with hq | hq
      · exact h.ok q hq
      · rw [List.mem_singleton.1 hq]; exact ⟨hf, hc, hfar⟩
    refine ⟨Rs.far (fun _ _ _ _ h => h) hq3.1 fun ad u e hv => hcell ad u (hq3.2.2 _ (.inl e)).1 (hq3.2.2 _ (.inl e)).2 hv, Rs.far (fun _ _ _ _ h => h) hq3.2.1 fun ad u e hv => hcell ad u (hq3.2.2 _ (.inr e)).1 (hq3.2.2 _ (.inr e)).2 hv, fun b hb => ?_⟩
    have hb2 := hq3.2.2 b hb
    exact ⟨by omega, hgne b hb2.1 hb2.2⟩
  unfold Oper.wp execOp
  simp only [ho, resolve, invoke, builtin, Sem.run_bind, Sem.run_pure, Result.andThen_ok, List.map_toArray, List.map_cons, List.map_nil, hs, hx, hr]
  exact hK' _ _ (hK g cap w' (Lib.hid hT))
noncomputable def al13_code : Code := ((Tryd.f16.body.bind (regionOf 13)).getD .skip)
def al13_dsts : List (Option Nat) := [some 41, some 42, some 43, some 44, some 45, some 46, some 47, some 13, none]
theorem al13_apart : apartD al13_dsts = true := by decide +kernel
set_option maxRecDepth 1000000 in
set_option maxHeartbeats 16000000 in
theorem al13 (wr : World) (C : Nat) (GA SA : Option Addr) (sd : Addr) (ng Gc q cq k p nf cf : Nat) (d gl er : Int) (r : Rb.Rec) (k0 : wr.cell? ⟨C, 0, none⟩ = some (.int .i64 d)) (k1 : wr.cell? ⟨C, 1, none⟩ = some (.slice GA ng Gc)) (k2 : wr.cell? ⟨C, 2, none⟩ = some (.int .i64 gl)) (ks : wr.cell? (sd.add k) = some (.slice SA nf cf)) (hkq : k < q)
  (HC : Hid (∀ w1 : World, Ext wr w1 → Calls Tryd.prog 47 #[.agg #[.int .i64 d, .slice GA ng Gc, .int .i64 gl], .int .i64 (p : Nat), .slice SA nf cf] w1 fun e w' => MadeOut w1 w' r er e)) (c0 c1 c4 c5 c6 c7 c8 c9 c11 c13 c14 c15 c16 c17 c18 c19 c20 c21 c22 c23 c24 c25 c26 c27 c28 c29 c30 c31 c32 c33 c34 c35 c36 c37 c38 c39 c40 c41 c42 c43 c44 c45 c46 c47 c48 c49 c50 c51 c52 c53 c54 c55 c56 c57 c58 c59 c60 c61 : Value) (df : List Deferred) (K : Act → World → Prop)
    (hK : ∀ (FV CV : Value) (gM : Nat) (u41 u42 u43 u44 u45 u46 u47 : Value) (wx : World), (Owns wr wx [⟨.slice (some ⟨gM, 0, none⟩) 4 4, 39, 1, 4, [.int .i64 r.piece, FV, CV, .int .i64 er]⟩] ∧ RecAt wr wx r FV CV) → K ⟨#[c0, c1, .int .i64 (p : Nat), .pointer (some ⟨C, 0, none⟩), c4, c5, c6, c7, c8, c9, .slice (some sd) q cq, c11, .int .i64 (k : Nat), .pointer (some ⟨gM, 0, none⟩), c14, c15, c16, c17, c18, c19, c20, c21, c22, c23, c24, c25, c26, c27, c28, c29, c30, c31, c32, c33, c34, c35, c36, c37, c38, c39, c40, u41, u42, u43, u44, u45, u46, u47, c48, c49, c50, c51, c52, c53, c54, c55, c56, c57, c58, c59, c60, c61], df⟩ wx) :
    Code.wp Tryd.prog al13_code (AtEnd K) ⟨#[c0, c1, .int .i64 (p : Nat), .pointer (some ⟨C, 0, none⟩), c4, c5, c6, c7, c8, c9, .slice (some sd) q cq, c11, .int .i64 (k : Nat), c13, c14, c15, c16, c17, c18, c19, c20, c21, c22, c23, c24, c25, c26, c27, c28, c29, c30, c31, c32, c33, c34, c35, c36, c37, c38, c39, c40, c41, c42, c43, c44, c45, c46, c47, c48, c49, c50, c51, c52, c53, c54, c55, c56, c57, c58, c59, c60, c61], df⟩ wr := by
  conv => arg 2; whnf
  refine region_inv (by kernel_rfl) [[], [], [], [], [2, 3], [4], [0, 1, 5], [], [7, 6, 6, 0, 1, 2, 3, 4, 5, 6, 7]] (by kernel_rfl) [0, 1, 2, 3, 4, 5, 6, 7, 8] (by decide +kernel) (by decide +kernel) (by decide +kernel) (fun L a wc => ∃ (FV : Value) (CV : Value) (gM : Nat), InvO al13_dsts [.agg #[.int .i64 d, .slice GA ng Gc, .int .i64 gl], .int .i64 (p : Nat), .slice (some sd) q cq, .int .i64 (k : Nat), .pointer (some (sd.add k)), .slice SA nf cf, .agg #[.int .i64 r.piece, FV, CV, .int .i64 er], .pointer (some ⟨gM, 0, none⟩), undef] ⟨#[c0, c1, .int .i64 (p : Nat), .pointer (some ⟨C, 0, none⟩), c4, c5, c6, c7, c8, c9, .slice (some sd) q cq, c11, .int .i64 (k : Nat), c13, c14, c15, c16, c17, c18, c19, c20, c21, c22, c23, c24, c25, c26, c27, c28, c29, c30, c31, c32, c33, c34, c35, c36, c37, c38, c39, c40, c41, c42, c43, c44, c45, c46, c47, c48, c49, c50, c51, c52, c53, c54, c55, c56, c57, c58, c59, c60, c61], df⟩ L a ∧ Hid (Owns wr wc [(if L 7 = true then (if L 8 = true then ⟨.slice (some ⟨gM, 0, none⟩) 4 4, 39, 1, 4, [.int .i64 r.piece, FV, CV, .int .i64 er]⟩ else ⟨.slice (some ⟨gM, 0, none⟩) 4 4, 39, 1, 4, [.int .i64 0, .slice none 0 0, .slice none 0 0, .int .i64 0]⟩) else no)] ∧ (L 6 = true → RecAt wr wc r FV CV ∧ (L 7 = true → ∀ b, FV.ownBlock = some b ∨ CV.ownBlock = some b → b ≠ gM)))) ⟨undef, undef, 0, InvO.start, Lib.hid (And.intro (Owns.start1 wr) fun h => by cases h)⟩ ?_ ?_
  · refine ⟨?_, ?_, ?_, ?_, ?_, ?_, ?_, ?_, ?_, trivial⟩
    ·
      rintro L a wc ⟨FV, CV, gM, hv, HO⟩ hL hc hd
      have h0 : wc.cell? ⟨C, 0, none⟩ = some (.int .i64 d) := HO.out.1.ext.cell k0
      have h1 : wc.cell? ⟨C, 1, none⟩ = some (.slice GA ng Gc) := HO.out.1.ext.cell k1
      have h2 : wc.cell? ⟨C, 2, none⟩ = some (.int .i64 gl) := HO.out.1.ext.cell k2
      exact wpOp_val rfl rfl (ex_load rfl ((hv.fixed 3 (by decide)).trans rfl) (by go_simp)) ⟨FV, CV, gM, hv.put al13_apart 0 rfl (lb rfl) (lb rfl) rfl, HO⟩
    ·
      rintro L a wc ⟨FV, CV, gM, hv, HO⟩ hL hc hd
      exact wpOp_val rfl rfl (ex_move rfl ((hv.fixed 2 (by decide)).trans rfl)) ⟨FV, CV, gM, hv.put al13_apart 1 rfl (lb rfl) (lb rfl) rfl, HO⟩
    ·
      rintro L a wc ⟨FV, CV, gM, hv, HO⟩ hL hc hd
      exact wpOp_val rfl rfl (ex_move rfl ((hv.fixed 10 (by decide)).trans rfl)) ⟨FV, CV, gM, hv.put al13_apart 2 rfl (lb rfl) (lb rfl) rfl, HO⟩
    ·
      rintro L a wc ⟨FV, CV, gM, hv, HO⟩ hL hc hd
      exact wpOp_val rfl rfl (ex_move rfl ((hv.fixed 12 (by decide)).trans rfl)) ⟨FV, CV, gM, hv.put al13_apart 3 rfl (lb rfl) (lb rfl) rfl, HO⟩
    ·
      rintro L a wc ⟨FV, CV, gM, hv, HO⟩ hL hc hd
      have u1 : (0 : Int) ≤ (k : Int) := by omega
      have u2 : (k : Int) < (q : Int) := by omega
      exact wpOp_val rfl rfl (ex_index rfl (hv.get 2 rfl rfl (hd 2 (by decide))) (hv.get 3 rfl rfl (hd 3 (by decide))) (by go_simp)) ⟨FV, CV, gM, hv.put al13_apart 4 rfl (lb rfl) (lb rfl) rfl, HO⟩
    ·
      rintro L a wc ⟨FV, CV, gM, hv, HO⟩ hL hc hd
      have h0 : wc.cell? (sd.add k) = some (.slice SA nf cf) := HO.out.1.ext.cell ks
      exact wpOp_val rfl rfl (ex_load rfl (hv.get 4 rfl rfl (hd 4 (by decide))) (by go_simp)) ⟨FV, CV, gM, hv.put al13_apart 5 rfl (lb rfl) (lb rfl) rfl, HO⟩
    ·
      rintro L a wc ⟨FV, CV, gM, hv, HO⟩ hL hc hd
      have n8 : L 8 = false := Bool.eq_false_iff.2 fun h => Bool.false_ne_true (hL.symm.trans (hc 8 h 6 (by decide)))
      refine wpOp_call (R := fun v w1 => ∃ F C, v = .agg #[.int .i64 r.piece, F, C, .int .i64 er] ∧ RecAt wc w1 r F C ∧ Ext wc w1) rfl rfl (ex_call rfl rfl (map3c (hv.get 0 rfl rfl (hd 0 (by decide))) (hv.get 1 rfl rfl (hd 1 (by decide))) (hv.get 5 rfl rfl (hd 5 (by decide)))) (enters_of Tryd.func47 (by kernel_rfl) rfl _ _)) ((HC.out wc HO.out.1.ext).mono (fun e w' h => by obtain ⟨F, C, rfl, h1, h2, h3, h4, h5⟩ := h; exact ⟨_, rfl, F, C, rfl, ⟨h1, h2, h3, h4⟩, h5⟩)) ?_
      rintro v w' ⟨F2, C2, rfl, hr, hx⟩
      have h0 := HO.out.1
      rw [if_neg (show ¬ (L 8 = true) from by simp [n8])] at h0
      have h := h0.next hx
      have hlt : L 7 = true → gM < wc.heap.size := fun h7 => by rw [if_pos h7] at h0; exact ((h0.row 0 rfl).lt gM rfl).2
      have h2 : Owns wr w' [(if upd L 6 7 = true then (if upd L 6 8 = true then ⟨.slice (some ⟨gM, 0, none⟩) 4 4, 39, 1, 4, [.int .i64 r.piece, F2, C2, .int .i64 er]⟩ else ⟨.slice (some ⟨gM, 0, none⟩) 4 4, 39, 1, 4, [.int .i64 0, .slice none 0 0, .slice none 0 0, .int .i64 0]⟩) else no)] := by rw [if_neg (show ¬ (upd L 6 8 = true) from by simp [upd, n8])]; exact h
      have h3 := hr.low HO.out.1.ext.size
      exact ⟨F2, C2, gM, hv.put al13_apart 6 rfl (lb rfl) (lb rfl) rfl, Lib.hid (And.intro h2 fun _ => And.intro h3 fun h7 b hb => by have h8 := hlt h7; have h9 := hr.new b hb; omega)⟩
    ·
      rintro L a wc ⟨FV, CV, gM, hv, HO⟩ hL hc hd
      have n8 : L 8 = false := Bool.eq_false_iff.2 fun h => Bool.false_ne_true (hL.symm.trans (hc 8 h 7 (by decide)))
      have h := HO.out.1
      rw [if_neg (show ¬ (L 7 = true) from by simp [hL])] at h
      have h2 := h.new 0 #[.int .i64 0, .slice none 0 0, .slice none 0 0, .int .i64 0] 39 (by simp [maxLen])
      have hA : (Instr.alloc 39 true (.tuple #[])).run Tryd.prog wc = .ok (.pointer (some ⟨wc.heap.size, 0, none⟩)) (wc.alloc (.cells #[.int .i64 0, .slice none 0 0, .slice none 0 0, .int .i64 0] 39)) := by go_simp
      have h3 : Owns wr (wc.alloc (.cells #[.int .i64 0, .slice none 0 0, .slice none 0 0, .int .i64 0] 39)) [(if upd L 7 7 = true then (if upd L 7 8 = true then ⟨.slice (some ⟨wc.heap.size, 0, none⟩) 4 4, 39, 1, 4, [.int .i64 r.piece, FV, CV, .int .i64 er]⟩ else ⟨.slice (some ⟨wc.heap.size, 0, none⟩) 4 4, 39, 1, 4, [.int .i64 0, .slice none 0 0, .slice none 0 0, .int .i64 0]⟩) else no)] := by rw [if_pos (show upd L 7 7 = true from by simp [upd]), if_neg (show ¬ (upd L 7 8 = true) from by simp [upd, n8])]; exact h2
      exact wpOp_value rfl rfl (ex_alloc rfl hA) ⟨FV, CV, wc.heap.size, hv.put al13_apart 7 rfl (lb rfl) (lb rfl) rfl, Lib.hid (And.intro h3 fun h6 => And.intro ((HO.out.2 h6).1.next ((Ext.refl wc).alloc _)) fun _ b hb => by have := (HO.out.2 h6).1.old b hb; omega)⟩
    ·
      rintro L a wc ⟨FV, CV, gM, hv, HO⟩ hL hc hd
      have h7 : L 7 = true := hd 7 (by decide)
      have h6 : L 6 = true := hd 6 (by decide)
      have h := HO.out.1
      rw [if_pos h7, if_neg (show ¬ (L 8 = true) from by simp [hL])] at h
      have e0 := h.cell 0 rfl 0 rfl
      have e1 := h.cell 0 rfl 1 rfl
      have e2 := h.cell 0 rfl 2 rfl
      have e3 := h.cell 0 rfl 3 rfl
      have f0 : wc.frozen? ⟨gM, 0, none⟩ = false := h.frozen 0 rfl 0
      have f1 : wc.frozen? ⟨gM, 1, none⟩ = false := h.frozen 0 rfl 1
      have f2 : wc.frozen? ⟨gM, 2, none⟩ = false := h.frozen 0 rfl 2
      have f3 : wc.frozen? ⟨gM, 3, none⟩ = false := h.frozen 0 rfl 3
      have hS := (((h.store 0 rfl 0 (.int .i64 r.piece)).store 0 rfl 1 FV).store 0 rfl 2 CV).store 0 rfl 3 (.int .i64 er)
      have hV := (HO.out.2 h6).1.store4 (u0 := .int .i64 r.piece) (u1 := FV) (u2 := CV) (u3 := .int .i64 er) ((HO.out.2 h6).2 h7)
      have h3 : Owns wr ((((wc.setCell ⟨gM, 0, none⟩ (.int .i64 r.piece)).setCell ⟨gM, 1, none⟩ FV).setCell ⟨gM, 2, none⟩ CV).setCell ⟨gM, 3, none⟩ (.int .i64 er)) [(if upd L 8 7 = true then (if upd L 8 8 = true then ⟨.slice (some ⟨gM, 0, none⟩) 4 4, 39, 1, 4, [.int .i64 r.piece, FV, CV, .int .i64 er]⟩ else ⟨.slice (some ⟨gM, 0, none⟩) 4 4, 39, 1, 4, [.int .i64 0, .slice none 0 0, .slice none 0 0, .int .i64 0]⟩) else no)] := by rw [if_pos (show upd L 8 7 = true from by simp [upd, h7]), if_pos (show upd L 8 8 = true from by simp [upd])]; exact hS
      obtain ⟨FA, fc, hFv, _⟩ := (HO.out.2 h6).1.f.form
      obtain ⟨CA, cc, hCv, _⟩ := (HO.out.2 h6).1.c.form
      exact wpOp_skip rfl rfl rfl (ex_store (w' := (((wc.setCell ⟨gM, 0, none⟩ (.int .i64 r.piece)).setCell ⟨gM, 1, none⟩ FV).setCell ⟨gM, 2, none⟩ CV).setCell ⟨gM, 3, none⟩ (.int .i64 er)) rfl (hv.get 7 rfl rfl h7) (hv.get 6 rfl rfl h6) (by rw [hFv, hCv]; go_simp)) ⟨FV, CV, gM, hv.skip 8 rfl, Lib.hid (And.intro h3 fun _ => And.intro hV fun _ => (HO.out.2 h6).2 h7)⟩
  · rintro L a wc ⟨FV, CV, gM, hv, HO⟩ hall
    show K a wc
    have ha := act_lit a
    rw [hv.size, hv.defers] at ha
    have hl : ∀ f : Nat → Value, ((List.range (⟨#[c0, c1, .int .i64 (p : Nat), .pointer (some ⟨C, 0, none⟩), c4, c5, c6, c7, c8, c9, .slice (some sd) q cq, c11, .int .i64 (k : Nat), c13, c14, c15, c16, c17, c18, c19, c20, c21, c22, c23, c24, c25, c26, c27, c28, c29, c30, c31, c32, c33, c34, c35, c36, c37, c38, c39, c40, c41, c42, c43, c44, c45, c46, c47, c48, c49, c50, c51, c52, c53, c54, c55, c56, c57, c58, c59, c60, c61], df⟩ : Act).tmps.size).map f).toArray = #[f 0, f 1, f 2, f 3, f 4, f 5, f 6, f 7, f 8, f 9, f 10, f 11, f 12, f 13, f 14, f 15, f 16, f 17, f 18, f 19, f 20, f 21, f 22, f 23, f 24, f 25, f 26, f 27, f 28, f 29, f 30, f 31, f 32, f 33, f 34, f 35, f 36, f 37, f 38, f 39, f 40, f 41, f 42, f 43, f 44, f 45, f 46, f 47, f 48, f 49, f 50, f 51, f 52, f 53, f 54, f 55, f 56, f 57, f 58, f 59, f 60, f 61] := fun _ => rfl
    rw [hl] at ha
    simp only [hv.fixed 0 (by decide), hv.fixed 1 (by decide), hv.fixed 2 (by decide), hv.fixed 3 (by decide), hv.fixed 4 (by decide), hv.fixed 5 (by decide), hv.fixed 6 (by decide), hv.fixed 7 (by decide), hv.fixed 8 (by decide), hv.fixed 9 (by decide), hv.fixed 10 (by decide), hv.fixed 11 (by decide), hv.fixed 12 (by decide), hv.fixed 14 (by decide), hv.fixed 15 (by decide), hv.fixed 16 (by decide), hv.fixed 17 (by decide), hv.fixed 18 (by decide), hv.fixed 19 (by decide), hv.fixed 20 (by decide), hv.fixed 21 (by decide), hv.fixed 22 (by decide), hv.fixed 23 (by decide), hv.fixed 24 (by decide), hv.fixed 25 (by decide), hv.fixed 26 (by decide), hv.fixed 27 (by decide), hv.fixed 28 (by decide), hv.fixed 29 (by decide), hv.fixed 30 (by decide), hv.fixed 31 (by decide), hv.fixed 32 (by decide), hv.fixed 33 (by decide), hv.fixed 34 (by decide), hv.fixed 35 (by decide), hv.fixed 36 (by decide), hv.fixed 37 (by decide), hv.fixed 38 (by decide), hv.fixed 39 (by decide), hv.fixed 40 (by decide), hv.fixed 48 (by decide), hv.fixed 49 (by decide), hv.fixed 50 (by decide), hv.fixed 51 (by decide), hv.fixed 52 (by decide), hv.fixed 53 (by decide), hv.fixed 54 (by decide), hv.fixed 55 (by decide), hv.fixed 56 (by decide), hv.fixed 57 (by decide), hv.fixed 58 (by decide), hv.fixed 59 (by decide), hv.fixed 60 (by decide), hv.fixed 61 (by decide), hv.get 7 (d := 13) rfl rfl (hall 7 (by decide))] at ha
    rw [ha]
    have hO := HO.out
    rw [if_pos (hall 7 (by decide)), if_pos (hall 8 (by decide))] at hO
    exact hK FV CV gM _ _ _ _ _ _ _ wc ⟨hO.1, (hO.2 (hall 6 (by decide))).1⟩
end Go.Proofs.YtdmljilcbndmfaaDoor

/- THE WALK over All of the specification of rebuilds. -/
namespace Rb
theorem choose_range {n lost : Nat} {p : Int} {many : Nat} (f : List Int) (hf : f ∈ choose (avail n lost p) many) : f.length = many ∧ ∀ x ∈ f, 0 ≤ x ∧ x < (n : Int) := by
  obtain ⟨h1, h2⟩ := (mem_choose _ _ _).mp hf
  refine ⟨h2, fun x hx => ?_⟩
  obtain ⟨k, hk, rfl, _⟩ := mem_avail.mp (h1.subset hx)
  omega
theorem take_map {α β : Type} {f : α → Option β} {Y : List α} {k : Nat} (h : k < Y.length) : (Y.take (k + 1)).filterMap f = (Y.take k).filterMap f ++ (f Y[k]).toList := by
  rw [List.take_succ_eq_append_getElem h, List.filterMap_append]
  congr 1
theorem leastFrom_go {m : Mx.Mat} {p : Nat} {l : List Int} {k many : Nat} (h : found m p l many = []) : leastFrom m p l (k + 1) many = leastFrom m p l k (many + 1) := by rw [leastFrom, if_pos h]
theorem leastFrom_hit {m : Mx.Mat} {p : Nat} {l : List Int} {k many : Nat} (h : found m p l many ≠ []) : leastFrom m p l (k + 1) many = found m p l many := by rw [leastFrom, if_neg h]
theorem rec_is {m : Mx.Mat} {p : Nat} {f : List Int} (h : recF m p f = 0) : recipe m p f = some (recD m p f) := by
  unfold recF at h
  unfold recD
  cases hr : recipe m p f with
  | none => rw [hr] at h; cases h
  | some r => rfl
theorem rec_not {m : Mx.Mat} {p : Nat} {f : List Int} (h : recF m p f ≠ 0) : recipe m p f = none ∧ recF m p f = 17 := by
  unfold recF at h ⊢
  cases hr : recipe m p f with
  | none => exact ⟨rfl, rfl⟩
  | some r => rw [hr] at h; exact absurd rfl h
end Rb
namespace Go.Proofs.YtdmljilcbndmfaaDoor
open Go.RowKit
/-- Recipes of the specification, or an error. -/
def ListedOut (w w' : World) (l : List Rb.Rec) (E : Int) (e : Ending) : Prop := ∃ v, e = .returned (.agg #[v, .int .i64 E]) ∧ RRs w' v l ∧ NewRs w.heap.size w' v ∧ Ext w w'
theorem TAt.news2 {w0 W W' : World} {A : Option Addr} {c : Nat} {x : List RV} (h : TAt w0 W A c x) (hk : ∀ (a : Addr) (u : Value), w0.heap.size ≤ a.block → W.cell? a = some u → W'.cell? a = some u) : NewRs w0.heap.size W' (.slice A x.length c) := by
  intro ad n c' e
  injection e with e1 e2 e3
  subst e1 e2
  have hr := h.owns.row 0 rfl
  refine ⟨(hr.lt ad.block rfl).1, fun i hi F C h1 h2 b hb => ?_⟩
  rcases hr.2 with ⟨e, _⟩ | ⟨g, cap, cur, hv, _⟩
  · cases e
  · injection hv with e1 e2 e3
    injection e1 with e1
    subst e1
    obtain ⟨_, c1, c2⟩ := rcells_at x i x[i] (List.getElem?_eq_getElem hi)
    have k1 := hr.cellAt (g := g) (i * 3 + 1) (by omega)
    have k2 := hr.cellAt (g := g) (i * 3 + 2) (by omega)
    have hg : w0.heap.size ≤ g := (hr.lt g rfl).1
    rw [c1] at k1
    rw [c2] at k2
    rw [Addr.add_lit] at h1 h2
    have e1 : W'.cell? ⟨g, i * 3 + 1, none⟩ = some F := by
      have : W'.cell? ⟨g, 0 + i * 3 + 1, none⟩ = some F := h1
      rwa [Nat.zero_add] at this
    have e2 : W'.cell? ⟨g, i * 3 + 2, none⟩ = some C := by
      have : W'.cell? ⟨g, 0 + i * 3 + 2, none⟩ = some C := h2
      rwa [Nat.zero_add] at this
    rw [hk _ _ hg k1] at e1
    rw [hk _ _ hg k2] at e2
    injection e1 with e1
    injection e2 with e2
    rw [← e1, ← e2] at hb
    exact h.new x[i] (List.getElem_mem _) b hb
set_option maxHeartbeats 16000000 in
set_option maxRecDepth 100000 in
theorem sAll_any (d gl : Int) (gs : List (List Int)) (lost piece : Int) (G : Value) (w : World) (hG : Rs (Rs RI) w G gs) (hgn : gs.length ≤ 4611686018427387904) :
    Calls Tryd.prog 16 #[.agg #[.int .i64 d, G, .int .i64 gl], .int .i64 lost, .int .i64 piece] w fun e w' => ListedOut w w' (Rb.leastL d gl gs lost piece true) (Rb.leastE d gl gs lost piece) e := by
  obtain ⟨GA, Gc, rfl, _⟩ := hG.form
  obtain ⟨ng, hng⟩ : ∃ ng, gs.length = ng := ⟨_, rfl⟩
  rw [hng] at hG ⊢
  have hB : Owns w ((w.alloc (.cells #[.int .i64 d, .slice GA ng Gc, .int .i64 gl] 24)).alloc (.cells #[.slice none 0 0, .int .i64 0] 42)) [⟨.slice (some ⟨w.heap.size, 0, none⟩) 3 3, 24, 1, 3, [.int .i64 d, .slice GA ng Gc, .int .i64 gl]⟩, ⟨.slice (some ⟨(w.alloc (.cells #[.int .i64 d, .slice GA ng Gc, .int .i64 gl] 24)).heap.size, 0, none⟩) 2 2, 42, 1, 2, [.slice none 0 0, .int .i64 0]⟩] :=
    ((Owns.start w (L := [no, no]) (by intro r hr; simp at hr; subst hr; exact ⟨rfl, rfl, rfl⟩)).new 0 #[.int .i64 d, .slice GA ng Gc, .int .i64 gl] 24 (by simp [maxLen])).new 1 #[.slice none 0 0, .int .i64 0] 42 (by simp [maxLen])
  have hsz : (w.alloc (.cells #[.int .i64 d, .slice GA ng Gc, .int .i64 gl] 24)).heap.size = w.heap.size + 1 := by simp
  rw [hsz] at hB
  clear hsz
  have HG := Lib.hid (And.intro hG hgn)
  have HB := Lib.hid hB
  clear hG hB hgn hng
  go_enter Tryd.func16, Tryd.ntmps16
  go_upto_region 1 with fail
  obtain ⟨C, hC⟩ : ∃ C, w.heap.size = C := ⟨_, rfl⟩
  obtain ⟨Q, hQ⟩ : ∃ Q, C + 1 = Q := ⟨_, rfl⟩
  rw [hC, hQ] at HB
  rw [hC]
  try rw [hQ]
  obtain ⟨w1, hw1⟩ : ∃ x, (w.alloc (.cells #[.int .i64 d, .slice GA ng Gc, .int .i64 gl] 24)).alloc (.cells #[.slice none 0 0, .int .i64 0] 42) = x := ⟨_, rfl⟩
  rw [hw1] at HB ⊢
  have HC0 := Lib.hid hC
  clear hw1 hQ hC
  have b0 : w1.cell? ⟨C, 0, none⟩ = some (.int .i64 d) := HB.out.cell 0 rfl 0 rfl
  have b1 : w1.cell? ⟨C, 1, none⟩ = some (.slice GA ng Gc) := HB.out.cell 0 rfl 1 rfl
  have b2 : w1.cell? ⟨C, 2, none⟩ = some (.int .i64 gl) := HB.out.cell 0 rfl 2 rfl
  have HW := Lib.hid (sWrong_any d gl gs lost piece _ w1 (Rs.ext (Rs.ext RI.ext) _ _ _ _ HB.out.ext HG.out.1) HG.out.2)
  go_wp2_with fail
  refine HW.out.mono ?_
  clear HW
  rintro e w2 ⟨rfl, hx2⟩
  have HO2 := Lib.hid (HB.out.next hx2)
  clear hx2 b0 b1 b2 HB
  obtain ⟨er, her⟩ : ∃ er, Rb.err1 d gl gs lost piece = er := ⟨_, rfl⟩
  rw [her]
  have HER := Lib.hid her
  clear her
  by_cases h0 : er = 0
  case neg =>
    have hne : (er == 0) = false := by rw [beq_eq_false_iff_ne]; exact h0
    have hne2 : (er != 0) = true := by rw [bne_iff_ne]; exact h0
    have hl := Rb.leastL_no (all := true) (show Rb.err1 d gl gs lost piece ≠ 0 by rw [HER.out]; exact h0)
    have he := Rb.leastE_no (show Rb.err1 d gl gs lost piece ≠ 0 by rw [HER.out]; exact h0)
    rw [HER.out] at he
    have HLE := Lib.hid (And.intro hl he)
    have q0 := HO2.out.cell 1 rfl 0 rfl
    have q1 := HO2.out.cell 1 rfl 1 rfl
    have f0 : w2.frozen? ⟨Q, 0, none⟩ = false := HO2.out.frozen 1 rfl 0
    have f1 : w2.frozen? ⟨Q, 1, none⟩ = false := HO2.out.frozen 1 rfl 1
    have HS1 := Lib.hid ((HO2.out.store 1 rfl 0 (.slice none 0 0)).store 1 rfl 1 (.int .i64 er))
    clear hl he h0
    go_wp2_with fail
    refine bodyPost_ret (results_cell1 (v := .agg #[.slice none 0 0, .int .i64 er]) rfl rfl ?_) rfl ?_
    · go_simp
    rw [HLE.out.1, HLE.out.2]
    exact ⟨_, rfl, RRs.nil _, NewRs.nil _ _, HS1.out.ext⟩
  case pos =>
    subst h0
    obtain ⟨he0, hp0, hp1⟩ := Rb.err1_zero HER.out
    obtain ⟨hck, hn16, hl0, hl1⟩ := Rb.err0_zero he0
    have hlL := Rb.leastL_yes (all := true) HER.out
    have hlE := Rb.leastE_yes HER.out
    obtain ⟨n, hn⟩ : ∃ n, (Cd.rowsOf d gs gl).length = n := ⟨_, rfl⟩
    obtain ⟨L, rfl⟩ : ∃ L : Nat, lost = L := ⟨lost.toNat, by omega⟩
    obtain ⟨p, rfl⟩ : ∃ p : Nat, piece = p := ⟨piece.toNat, by omega⟩
    rw [hn] at hn16 hl1 hp1
    have hL40 : L < 2 ^ 40 := by
      have h1 : (2 : Nat) ^ n ≤ 2 ^ 16 := Nat.pow_le_pow_right (by decide) hn16
      have h2 : L < 2 ^ n := by omega
      have h3 : (2 : Nat) ^ 16 ≤ 2 ^ 40 := by decide
      omega
    have hpn : Cd.pieces d gs gl = (n : Int) := by rw [Cd.pieces_ok hck, ← Cd.rowsOf_len hck, hn]
    rw [hn, Int.toNat_natCast, Int.toNat_natCast] at hlE hlL
    obtain ⟨l, hl⟩ : ∃ l, Rb.avail n L p = l := ⟨_, rfl⟩
    rw [hl] at hlE hlL
    have HLE := Lib.hid (And.intro hlE hlL)
    have HCK := Lib.hid (And.intro hck (And.intro hn (And.intro hl hp1)))
    have HAV := Lib.hid (sAvail_any d gl gs n L p _ w2 (Rs.ext (Rs.ext RI.ext) _ _ _ _ HO2.out.ext HG.out.1) HG.out.2 hpn (by omega) hL40 (by omega) (by omega))
    have b0 : w2.cell? ⟨C, 0, none⟩ = some (.int .i64 d) := HO2.out.cell 0 rfl 0 rfl
    have b1 : w2.cell? ⟨C, 1, none⟩ = some (.slice GA ng Gc) := HO2.out.cell 0 rfl 1 rfl
    have b2 : w2.cell? ⟨C, 2, none⟩ = some (.int .i64 gl) := HO2.out.cell 0 rfl 2 rfl
    clear he0 hp0 hp1 hck hl0 hl1 hlL hlE hn hL40 hpn hl
    go_wp2_with fail
    refine HAV.out.mono ?_
    clear HAV
    rintro e w4 ⟨LA, ll, cL, rfl, hv, hx4, hmc, hm24⟩
    rw [HCK.out.2.2.1] at hv
    have hll : l.length = ll := (hv.len).symm
    have hll16 : ll ≤ 16 := by rw [← hll, ← HCK.out.2.2.1]; have := Rb.avail_length n L p; omega
    have HV4 := Lib.hid (And.intro hv (And.intro hll hmc))
    have HO4 := Lib.hid (HO2.out.next hx4)
    clear hv hx4 hmc hm24 hll b0 b1 b2
    go_wp2_with fail
    go_loopw [9] (fun v9 wr => ∃ many : Nat, 1 ≤ many ∧ many ≤ ll + 1 ∧ v9 = .int .i64 (many : Nat) ∧ Hid (Ext w4 wr ∧ Owns w wr [⟨.slice (some ⟨C, 0, none⟩) 3 3, 24, 1, 3, [.int .i64 d, .slice GA ng Gc, .int .i64 gl]⟩, ⟨.slice (some ⟨Q, 0, none⟩) 2 2, 42, 1, 2, [.slice none 0 0, .int .i64 0]⟩] ∧ Rb.least (Cd.rowsOf d gs gl) p l = Rb.leastFrom (Cd.rowsOf d gs gl) p l (ll + 1 - many) many)) (fun v9 _ => ll + 1 - (intOf v9).toNat)
    case atStart => exact ⟨1, Nat.le_refl _, by omega, rfl, Lib.hid ⟨Ext.refl _, HO4.out, by unfold Rb.least; rw [HV4.out.2.1]; rfl⟩⟩
    case round =>
      obtain ⟨many, hm1, hm2, rfl, HI⟩ := hrel
      by_cases hgo : many ≤ ll
      · have hgo2 : (many : Int) ≤ (ll : Int) := by omega
        have HCH := Lib.hid (sChoices_any many l LA ll cL wr (by omega) (by omega) HV4.out.2.2 (Rs.ext RI.ext _ _ _ _ HI.out.1 HV4.out.1))
        go_wp2_with fail
        refine HCH.out.mono ?_
        clear HCH
        rintro e w5 ⟨SS, q, cq, LL, rfl, hch⟩
        obtain ⟨Y, hY⟩ : ∃ Y, Rb.choose l many = Y := ⟨_, rfl⟩
        have hYr : ∀ f ∈ Y, f.length ≤ 16 ∧ ∀ x ∈ f, 0 ≤ x ∧ x < (n : Int) := fun f hf => by
          rw [← hY, ← HCK.out.2.2.1] at hf
          have := Rb.choose_range f hf
          exact ⟨by omega, this.2⟩
        have hq16 : Y.length ≤ 65536 := by
          rw [← hY]
          have h1 := Rb.choose_len l many
          have h2 : 2 ^ l.length ≤ 2 ^ 16 := Nat.pow_le_pow_right (by decide) (by rw [HV4.out.2.1]; exact hll16)
          omega
        rw [hY] at hch
        have hYl : Y.length = q := by obtain ⟨vs, _, _, h, _⟩ := hch; exact h
        have hx5 : Ext wr w5 := by obtain ⟨vs, h, _⟩ := hch; exact h.ext
        have hrs := hch.rs (by omega) (fun f hf => ⟨by have := (hYr f hf).1; omega, fun x hx => by have := (hYr f hf).2 x hx; omega⟩)
        rw [hYl] at hq16
        have HY := Lib.hid (And.intro hrs (And.intro hYl (And.intro hYr hY)))
        have HO5 := Lib.hid (And.intro (HI.out.1.trans hx5) (And.intro (HI.out.2.1.next hx5) HI.out.2.2))
        clear hch hYl hYr hx5 hrs HI hgo2 hY
        go_wp2_with fail
        go_loopw [11, 12] (fun v11 v12 wr => ∃ (k m c : Nat) (A : Option Addr), k ≤ q ∧ m ≤ k ∧ v12 = .int .i64 (k : Nat) ∧ v11 = .slice A m c ∧ Hid (∃ xs : List RV, xs.length = m ∧ TAt w5 wr A c xs ∧ xs.map (·.1) = (Y.take k).filterMap (Rb.recipe (Cd.rowsOf d gs gl) p))) (fun _ v12 _ => q - (intOf v12).toNat)
        case atStart => exact ⟨0, 0, 0, none, Nat.zero_le _, Nat.le_refl _, rfl, rfl, Lib.hid ⟨[], rfl, ⟨Owns.start w5 (by intro r hr; simp at hr; subst hr; exact ⟨rfl, rfl, rfl⟩), (fun y hy => by cases hy), (fun y hy => by cases hy)⟩, rfl⟩⟩
        case round =>
          obtain ⟨k, m, c, A, hk, hmk, rfl, rfl, HI⟩ := hrel
          obtain ⟨xs, hxm, hT, hmap⟩ := HI.out
          by_cases hlt : k < q
          · have hkY : k < Y.length := by rw [HY.out.2.1]; exact hlt
            obtain ⟨sd, u, hsd, hcs, hus⟩ := HY.out.1.at hkY
            subst hsd
            obtain ⟨SA, cf, rfl, hjunk⟩ := hus.form
            clear hjunk
            obtain ⟨f, hf⟩ : ∃ f, Y[k] = f := ⟨_, rfl⟩
            have htk := Rb.take_map (f := Rb.recipe (Cd.rowsOf d gs gl) p) hkY
            rw [← hmap, hf] at htk
            rw [hf] at hcs hus
            obtain ⟨nf, hnf⟩ : ∃ nf, f.length = nf := ⟨_, rfl⟩
            rw [hnf] at hcs hus
            have hfY := HY.out.2.2.1 f (by rw [← hf]; exact List.getElem_mem _)
            obtain ⟨r, hr⟩ : ∃ r, Rb.recD (Cd.rowsOf d gs gl) p f = r := ⟨_, rfl⟩
            obtain ⟨ee, hee⟩ : ∃ ee, Rb.recF (Cd.rowsOf d gs gl) p f = ee := ⟨_, rfl⟩
            have hxw : Ext w wr := HO5.out.2.1.ext.trans hT.owns.ext
            have hcks := Cd.check_ok HCK.out.1
            have HCALL : Hid (∀ w1 : World, Ext wr w1 → Calls Tryd.prog 47 #[.agg #[.int .i64 d, .slice GA ng Gc, .int .i64 gl], .int .i64 (p : Nat), .slice SA nf cf] w1 fun e w' => MadeOut w1 w' r ee e) := Lib.hid fun w1 hx1 => by
              have h := sRecipe_any d gl gs p d.toNat f (.slice GA ng Gc) (.slice SA nf cf) w1 (Rs.ext (Rs.ext RI.ext) _ _ _ _ (hxw.trans hx1) HG.out.1) HG.out.2 (Rs.ext RI.ext _ _ _ _ (hT.owns.ext.trans hx1) hus) (fun r hr => rows_wide HCK.out.1 hr) (by omega) (by omega) (by omega) (by rw [HCK.out.2.1]; have := HCK.out.2.2.2; omega) (by rw [HCK.out.2.1]; omega) (fun i hi => by rw [HCK.out.2.1]; exact hfY.2 i hi)
              rw [hr, hee] at h
              exact h
            have k0 : wr.cell? ⟨C, 0, none⟩ = some (.int .i64 d) := hT.owns.ext.cell (HO5.out.2.1.cell 0 rfl 0 rfl)
            have k1 : wr.cell? ⟨C, 1, none⟩ = some (.slice GA ng Gc) := hT.owns.ext.cell (HO5.out.2.1.cell 0 rfl 1 rfl)
            have k2 : wr.cell? ⟨C, 2, none⟩ = some (.int .i64 gl) := hT.owns.ext.cell (HO5.out.2.1.cell 0 rfl 2 rfl)
            have ks := hT.owns.ext.cell hcs
            have HRE := Lib.hid (And.intro hr (And.intro hee htk))
            have HT := Lib.hid (And.intro hxm hT)
            clear hkY hcs hus hf htk hnf hfY hr hee hxw hcks hxm hT hmap HI
            go_upto_region 13 with fail
            refine wp_atEnd' (al13 wr C GA SA sd ng Gc q cq k p nf cf d gl ee r k0 k1 k2 ks hlt HCALL _ _ _ _ _ _ _ _ _ _ _ _ _ _ _ _ _ _ _ _ _ _ _ _ _ _ _ _ _ _ _ _ _ _ _ _ _ _ _ _ _ _ _ _ _ _ _ _ _ _ _ _ _ _ _ _ _ _ _ _ ?_)
            rintro FV CV gM u41 u42 u43 u44 u45 u46 u47 wx ⟨hOx, hRx⟩
            clear k0 k1 k2 ks HCALL
            obtain ⟨FA, fc, rfl, _⟩ := hRx.f.form
            obtain ⟨CA, cc, rfl, _⟩ := hRx.c.form
            obtain ⟨n1, hn1⟩ : ∃ n1, r.src.length = n1 := ⟨_, rfl⟩
            obtain ⟨n2, hn2⟩ : ∃ n2, r.coef.length = n2 := ⟨_, rfl⟩
            rw [hn1, hn2] at hOx hRx
            have e3 := hOx.cell 0 rfl 3 rfl
            have hTx := HT.out.2.next hOx.ext
            have hxm := HT.out.1
            by_cases hz : ee = 0
            · subst hz
              have hrec := Rb.rec_is HRE.out.2.1
              rw [HRE.out.1] at hrec
              have hnx := HRE.out.2.2
              rw [hrec] at hnx
              have e0 := hOx.cell 0 rfl 0 rfl
              have e1 := hOx.cell 0 rfl 1 rfl
              have e2 := hOx.cell 0 rfl 2 rfl
              have hxa : Ext wx (wx.alloc (.cells #[.int .i64 r.piece, .slice FA n1 fc, .slice CA n2 cc] 30)) := (Ext.refl wx).alloc _
              have HTA := Lib.hid (hTx.next hxa)
              have HRA := Lib.hid (hRx.next hxa)
              have HNX := Lib.hid hnx
              have hob : ∀ b, (Value.slice A xs.length c).ownBlock = some b → b < wr.heap.size := fun b hb => ((HT.out.2.owns.row 0 rfl).lt b hb).2
              have HFAR : Hid (∀ b, (Value.slice FA n1 fc).ownBlock = some b ∨ (Value.slice CA n2 cc).ownBlock = some b → b < (wx.alloc (.cells #[.int .i64 r.piece, .slice FA n1 fc, .slice CA n2 cc] 30)).heap.size ∧ (Value.slice A xs.length c).ownBlock ≠ some b) := Lib.hid fun b hb => ⟨HRA.out.old b hb, fun h => by have h1 := hob b h; have h2 := hRx.new b hb; omega⟩
              have HNEW : Hid (∀ b, (Value.slice FA n1 fc).ownBlock = some b ∨ (Value.slice CA n2 cc).ownBlock = some b → w5.heap.size ≤ b) := Lib.hid fun b hb => by have h1 := hRx.new b hb; have h2 := HT.out.2.owns.ext.size; omega
              have hml : m < 1000000 := by omega
              have c0 : (wx.alloc (.cells #[.int .i64 r.piece, .slice FA n1 fc, .slice CA n2 cc] 30)).cell? ⟨wx.heap.size, 0, none⟩ = some (.int .i64 r.piece) := cell_of_row _ _ 0 _ _ (0, 0) (heap_new _ _)
              have c1 : (wx.alloc (.cells #[.int .i64 r.piece, .slice FA n1 fc, .slice CA n2 cc] 30)).cell? ⟨wx.heap.size, 1, none⟩ = some (.slice FA n1 fc) := cell_of_row _ _ 1 _ _ (0, 0) (heap_new _ _)
              have c2 : (wx.alloc (.cells #[.int .i64 r.piece, .slice FA n1 fc, .slice CA n2 cc] 30)).cell? ⟨wx.heap.size, 2, none⟩ = some (.slice CA n2 cc) := cell_of_row _ _ 2 _ _ (0, 0) (heap_new _ _)
              have HCC := Lib.hid (And.intro c0 (And.intro c1 c2))
              clear hrec hnx hxa hob hTx hRx hOx c0 c1 c2 hn1 hn2
              subst hxm
              go_wp2_with (refine wpl_append_tmp (y := (r, .slice FA n1 fc, .slice CA n2 cc)) rfl (.tmp 51) (.tmp 54) rfl HTA.out rfl rfl HCC.out.1 HCC.out.2.1 HCC.out.2.2 HRA.out.f HRA.out.c HFAR.out HNEW.out hml ?_; intro g9 c9 w9 HT9)
              go_roundw
              case rel => exact ⟨k + 1, xs.length + 1, c9, some ⟨g9, 0, none⟩, by omega, by omega, by go_num, (by first | trivial | rfl), Lib.hid ⟨xs ++ [(r, .slice FA n1 fc, .slice CA n2 cc)], by rw [List.length_append]; rfl, HT9.out, by rw [HNX.out, List.map_append]; rfl⟩⟩
              case measure => simp [intOf]; omega
            · have hrec := Rb.rec_not (show Rb.recF (Cd.rowsOf d gs gl) p f ≠ 0 by rw [HRE.out.2.1]; exact hz)
              have hnx := HRE.out.2.2
              rw [hrec.1] at hnx
              have hee : ee = 17 := by rw [← HRE.out.2.1]; exact hrec.2
              subst hee
              have HNX := Lib.hid hnx
              have HTX := Lib.hid hTx
              clear hrec hnx hz hTx hRx hOx hn1 hn2
              subst hxm
              go_wp2_with fail
              go_roundw
              case rel => exact ⟨k + 1, xs.length, c, A, by omega, by omega, by go_num, (by first | trivial | rfl), Lib.hid ⟨xs, rfl, HTX.out, by rw [HNX.out]; simp⟩⟩
              case measure => simp [intOf]; omega
          · obtain rfl : k = q := by omega
            have hfound : xs.map (·.1) = Rb.found (Cd.rowsOf d gs gl) p l many := by
              rw [hmap]
              unfold Rb.found
              rw [HY.out.2.2.2, List.take_of_length_le (by rw [HY.out.2.1]; exact Nat.le_refl _)]
            have hO := HO5.out.2.1.next hT.owns.ext
            have hx4 := HO5.out.1.trans hT.owns.ext
            have hle := HO5.out.2.2
            obtain ⟨fu, hfu⟩ : ∃ fu, ll + 1 - many = fu + 1 := ⟨ll - many, by omega⟩
            rw [hfu] at hle
            by_cases hmz : m = 0
            · subst hmz
              have hx0 : xs = [] := List.eq_nil_of_length_eq_zero hxm
              subst hx0
              have hf0 : Rb.found (Cd.rowsOf d gs gl) p l many = [] := hfound.symm
              rw [Rb.leastFrom_go hf0] at hle
              have hfe : fu = ll + 1 - (many + 1) := by omega
              rw [hfe] at hle
              have HNXT := Lib.hid (And.intro hx4 (And.intro hO hle))
              clear hfound hO hx4 hle hfu hf0 hfe hT hmap hxm HI
              go_wp2_with fail
              go_roundw
              case rel => exact ⟨many + 1, by omega, by omega, by go_num, HNXT⟩
              case measure => simp [intOf]; omega
            · have hmp : (0 : Int) < (m : Int) := by omega
              have hfn : Rb.found (Cd.rowsOf d gs gl) p l many ≠ [] := fun h => by
                rw [h] at hfound
                have h2 := List.map_eq_nil_iff.1 hfound
                rw [h2] at hxm
                exact hmz hxm.symm
              rw [Rb.leastFrom_hit hfn] at hle
              have hlL : Rb.leastL d gl gs (L : Int) (p : Int) true = xs.map (·.1) := by
                rw [HLE.out.2, hle, ← hfound]; rfl
              have hlE : Rb.leastE d gl gs (L : Int) (p : Int) = 0 := by rw [HLE.out.1, hle, if_neg hfn]
              have hQ5 : Q < w5.heap.size := ((HO5.out.2.1.row 1 rfl).lt Q rfl).2
              have hml : m ≤ 1000000 := by omega
              subst hxm
              have hrr : RRs ((wr.setCell ⟨Q, 0, none⟩ (.slice A xs.length c)).setCell ⟨Q, 1, none⟩ (.int .i64 0)) (.slice A xs.length c) (xs.map (·.1)) := hT.rs hml fun a u ha hv => by
                have hne : a.block ≠ Q := by omega
                rw [cell_far _ hne, cell_far _ hne]; exact hv
              have hnew : NewRs w.heap.size ((wr.setCell ⟨Q, 0, none⟩ (.slice A xs.length c)).setCell ⟨Q, 1, none⟩ (.int .i64 0)) (.slice A xs.length c) := (hT.news2 (W' := (wr.setCell ⟨Q, 0, none⟩ (.slice A xs.length c)).setCell ⟨Q, 1, none⟩ (.int .i64 0)) fun a u ha hv => by
                have hne : a.block ≠ Q := by omega
                rw [cell_far _ hne, cell_far _ hne]; exact hv).low HO5.out.2.1.ext.size
              have q0 := hO.cell 1 rfl 0 rfl
              have q1 := hO.cell 1 rfl 1 rfl
              have f0 : wr.frozen? ⟨Q, 0, none⟩ = false := hO.frozen 1 rfl 0
              have f1 : wr.frozen? ⟨Q, 1, none⟩ = false := hO.frozen 1 rfl 1
              have HS1 := Lib.hid (And.intro hrr (And.intro hnew (And.intro ((hO.store 1 rfl 0 (.slice A xs.length c)).store 1 rfl 1 (.int .i64 0)).ext (And.intro hlL hlE))))
              clear hfound hO hx4 hle hfu hfn hT hmap HI hlL hlE hQ5 hml hrr hnew hmz
              obtain ⟨xl, hxl⟩ : ∃ xl, xs.length = xl := ⟨_, rfl⟩
              rw [hxl] at hmp HS1 ⊢
              clear hxl
              go_wp2_with fail
              refine bodyPost_ret (results_cell1 (v := .agg #[.slice A xl c, .int .i64 0]) rfl rfl ?_) rfl ?_
              · go_simp
              rw [HS1.out.2.2.2.1, HS1.out.2.2.2.2]
              exact ⟨_, rfl, HS1.out.1, HS1.out.2.1, HS1.out.2.2.1⟩
      · obtain rfl : many = ll + 1 := by omega
        have hle := HI.out.2.2
        rw [Nat.sub_self] at hle
        have hlL : Rb.leastL d gl gs (L : Int) (p : Int) true = [] := by rw [HLE.out.2, hle]; rfl
        have hlE : Rb.leastE d gl gs (L : Int) (p : Int) = 17 := by rw [HLE.out.1, hle]; rfl
        have hO := HI.out.2.1
        have q0 := hO.cell 1 rfl 0 rfl
        have q1 := hO.cell 1 rfl 1 rfl
        have f0 : wr.frozen? ⟨Q, 0, none⟩ = false := hO.frozen 1 rfl 0
        have f1 : wr.frozen? ⟨Q, 1, none⟩ = false := hO.frozen 1 rfl 1
        have HS1 := Lib.hid (And.intro ((hO.store 1 rfl 0 (.slice none 0 0)).store 1 rfl 1 (.int .i64 17)).ext (And.intro hlL hlE))
        obtain ⟨M, hM⟩ : ∃ M, ll + 1 = M := ⟨_, rfl⟩
        have hgo2 : ¬ (M : Int) ≤ (ll : Int) := by omega
        rw [hM]
        clear hle hlL hlE hO HI hgo hM hm1 hm2
        go_wp2_with fail
        refine bodyPost_ret (results_cell1 (v := .agg #[.slice none 0 0, .int .i64 17]) rfl rfl ?_) rfl ?_
        · go_simp
        rw [HS1.out.2.1, HS1.out.2.2]
        exact ⟨_, rfl, RRs.nil _, NewRs.nil _ _, HS1.out.1⟩
end Go.Proofs.YtdmljilcbndmfaaDoor

/- THE WALK over Best of the specification of rebuilds. -/
namespace Rb
theorem best_all {d gl : Int} {gs : List (List Int)} {lost piece : Int} : bestR d gl gs lost piece = (leastL d gl gs lost piece true).headD noRec := by
  unfold bestR
  by_cases h : err1 d gl gs lost piece = 0
  · rw [leastL_yes h, leastL_yes h]
    cases least (Cd.rowsOf d gs gl) piece.toNat (avail (Cd.rowsOf d gs gl).length lost.toNat piece) <;> rfl
  · rw [leastL_no h, leastL_no h]
end Rb
namespace Go.Proofs.YtdmljilcbndmfaaDoor
open Go.RowKit
/-- A recipe of the specification, read, or an error. -/
def MadeSays (w w' : World) (r : Rb.Rec) (E : Int) (e : Ending) : Prop := ∃ F C, e = .returned (.agg #[.int .i64 r.piece, F, C, .int .i64 E]) ∧ Rs RI w' F r.src ∧ Rs RB w' C r.coef ∧ (∀ b, F.ownBlock = some b ∨ C.ownBlock = some b → w.heap.size ≤ b) ∧ Ext w w'
set_option maxHeartbeats 16000000 in
set_option maxRecDepth 100000 in
theorem sBest_any (d gl : Int) (gs : List (List Int)) (lost piece : Int) (G : Value) (w : World) (hG : Rs (Rs RI) w G gs) (hgn : gs.length ≤ 4611686018427387904) :
    Calls Tryd.prog 15 #[.agg #[.int .i64 d, G, .int .i64 gl], .int .i64 lost, .int .i64 piece] w fun e w' => MadeSays w w' (Rb.bestR d gl gs lost piece) (Rb.leastE d gl gs lost piece) e := by
  obtain ⟨GA, Gc, rfl, _⟩ := hG.form
  obtain ⟨ng, hng⟩ : ∃ ng, gs.length = ng := ⟨_, rfl⟩
  rw [hng] at hG ⊢
  have hB : Owns w ((w.alloc (.cells #[.int .i64 d, .slice GA ng Gc, .int .i64 gl] 24)).alloc (.cells #[.int .i64 0, .slice none 0 0, .slice none 0 0, .int .i64 0] 39)) [⟨.slice (some ⟨w.heap.size, 0, none⟩) 3 3, 24, 1, 3, [.int .i64 d, .slice GA ng Gc, .int .i64 gl]⟩, ⟨.slice (some ⟨(w.alloc (.cells #[.int .i64 d, .slice GA ng Gc, .int .i64 gl] 24)).heap.size, 0, none⟩) 4 4, 39, 1, 4, [.int .i64 0, .slice none 0 0, .slice none 0 0, .int .i64 0]⟩] :=
    ((Owns.start w (L := [no, no]) (by intro r hr; simp at hr; subst hr; exact ⟨rfl, rfl, rfl⟩)).new 0 #[.int .i64 d, .slice GA ng Gc, .int .i64 gl] 24 (by simp [maxLen])).new 1 #[.int .i64 0, .slice none 0 0, .slice none 0 0, .int .i64 0] 39 (by simp [maxLen])
  have hsz : (w.alloc (.cells #[.int .i64 d, .slice GA ng Gc, .int .i64 gl] 24)).heap.size = w.heap.size + 1 := by simp
  rw [hsz] at hB
  clear hsz
  have HG := Lib.hid (And.intro hG hgn)
  have HB := Lib.hid hB
  clear hG hB hgn hng
  go_enter Tryd.func15, Tryd.ntmps15
  go_upto_region 1 with fail
  obtain ⟨C, hC⟩ : ∃ C, w.heap.size = C := ⟨_, rfl⟩
  obtain ⟨Q, hQ⟩ : ∃ Q, C + 1 = Q := ⟨_, rfl⟩
  rw [hC, hQ] at HB
  rw [hC]
  try rw [hQ]
  obtain ⟨w1, hw1⟩ : ∃ x, (w.alloc (.cells #[.int .i64 d, .slice GA ng Gc, .int .i64 gl] 24)).alloc (.cells #[.int .i64 0, .slice none 0 0, .slice none 0 0, .int .i64 0] 39) = x := ⟨_, rfl⟩
  rw [hw1] at HB ⊢
  have HC0 := Lib.hid hC
  clear hw1 hQ hC
  have b0 : w1.cell? ⟨C, 0, none⟩ = some (.int .i64 d) := HB.out.cell 0 rfl 0 rfl
  have b1 : w1.cell? ⟨C, 1, none⟩ = some (.slice GA ng Gc) := HB.out.cell 0 rfl 1 rfl
  have b2 : w1.cell? ⟨C, 2, none⟩ = some (.int .i64 gl) := HB.out.cell 0 rfl 2 rfl
  have HW := Lib.hid (sAll_any d gl gs lost piece _ w1 (Rs.ext (Rs.ext RI.ext) _ _ _ _ HB.out.ext HG.out.1) HG.out.2)
  obtain ⟨er, her⟩ : ∃ er, Rb.leastE d gl gs lost piece = er := ⟨_, rfl⟩
  have hw1 := HW.out
  rw [her] at hw1
  have HW2 := Lib.hid hw1
  have HER := Lib.hid her
  clear HW hw1 her
  go_wp2_with fail
  refine HW2.out.mono ?_
  clear HW2
  rintro e w2 ⟨v, rfl, hv, hnw, hx2⟩
  obtain ⟨VA, cv, rfl, _⟩ := hv.form
  obtain ⟨ys, hys⟩ : ∃ ys, Rb.leastL d gl gs lost piece true = ys := ⟨_, rfl⟩
  obtain ⟨nv, hnv⟩ : ∃ nv, ys.length = nv := ⟨_, rfl⟩
  rw [hys] at hv hnw ⊢
  rw [hnv] at hv hnw ⊢
  have hO2 := (HB.out.next hx2).wider.new 2 #[.slice VA nv cv, .int .i64 er] 42 (by simp [maxLen])
  have hxa : Ext w2 (w2.alloc (.cells #[.slice VA nv cv, .int .i64 er] 42)) := (Ext.refl w2).alloc _
  have HLOW := Lib.hid HB.out.ext.size
  have hQ1 : Q < w1.heap.size := ((HB.out.row 1 rfl).lt Q rfl).2
  have HV := Lib.hid (And.intro (RRs.ext _ _ _ _ hxa hv) (And.intro hnw (And.intro hys (And.intro hnv hQ1))))
  have HV2 := Lib.hid hv
  have HXA := Lib.hid hxa
  have HO2 := Lib.hid hO2
  clear hx2 b0 b1 b2 HB hO2 hv hnw hys hnv hxa hQ1
  obtain ⟨w3, hw3⟩ : ∃ x, w2.alloc (.cells #[.slice VA nv cv, .int .i64 er] 42) = x := ⟨_, rfl⟩
  obtain ⟨E, hE⟩ : ∃ x, w2.heap.size = x := ⟨_, rfl⟩
  go_upto_region 2 with fail
  rw [hw3] at HO2 HV HXA
  rw [hE] at HO2
  have hxa' : ∀ {a : Addr} {u : Value}, w2.cell? a = some u → w3.cell? a = some u := fun h => HXA.out.cell h
  clear hw3 hE
  have g0 := HO2.out.cell 2 rfl 0 rfl
  have g1 := HO2.out.cell 2 rfl 1 rfl
  have q0 := HO2.out.cell 1 rfl 0 rfl
  have q1 := HO2.out.cell 1 rfl 1 rfl
  have q2 := HO2.out.cell 1 rfl 2 rfl
  have q3 := HO2.out.cell 1 rfl 3 rfl
  have f0 : w3.frozen? ⟨Q, 0, none⟩ = false := HO2.out.frozen 1 rfl 0
  have f1 : w3.frozen? ⟨Q, 1, none⟩ = false := HO2.out.frozen 1 rfl 1
  have f2 : w3.frozen? ⟨Q, 2, none⟩ = false := HO2.out.frozen 1 rfl 2
  have f3 : w3.frozen? ⟨Q, 3, none⟩ = false := HO2.out.frozen 1 rfl 3
  by_cases h0 : er = 0
  · subst h0
    have hne := Rb.leastL_good (all := true) HER.out
    have hpos : 0 < ys.length := List.length_pos_iff.2 (by rw [← HV.out.2.2.1]; exact hne)
    obtain ⟨ad, F, C2, hA2, r0, r1, r2, hF, hC⟩ := HV.out.1.at hpos
    subst hA2
    obtain ⟨ad', F', C', hA', r0', r1', r2', hj3, hj4⟩ := HV2.out.at hpos
    injection hA' with hA'
    subst hA'
    have hfr := (HV.out.2.1 ad _ _ rfl).2 0 (by rw [← HV.out.2.2.2.1]; exact hpos) F' C' r1' r2'
    have hFF : F = F' := by
      have h1 := (hxa' r1').symm.trans r1
      injection h1 with h1
      exact h1.symm
    have hCC : C2 = C' := by
      have h1 := (hxa' r2').symm.trans r2
      injection h1 with h1
      exact h1.symm
    subst hFF hCC
    rw [Nat.zero_mul, addr_zero] at r0 r1 r2
    obtain ⟨FA, fc, rfl, hj1⟩ := hF.form
    obtain ⟨CA, cc, rfl, hj2⟩ := hC.form
    clear hj1 hj2 hj3 hj4
    have hbest : Rb.bestR d gl gs lost piece = ys[0] := by
      rw [Rb.best_all, HV.out.2.2.1]
      exact Rb.headD_at _ _ hpos
    obtain ⟨r, hr⟩ : ∃ r, ys[0] = r := ⟨_, rfl⟩
    rw [hr] at hF hC r0 r1 r2 hbest
    rw [hr] at hfr
    obtain ⟨n1, hn1⟩ : ∃ n1, r.src.length = n1 := ⟨_, rfl⟩
    obtain ⟨n2, hn2⟩ : ∃ n2, r.coef.length = n2 := ⟨_, rfl⟩
    rw [hn1] at r1 hF hfr
    rw [hn2] at r2 hC hfr
    have hfa : ∀ b, (Value.slice FA n1 fc).ownBlock = some b → b ≠ Q := fun b hb => by have h1 := hfr b (.inl hb); have h2 := HV.out.2.2.2.2; omega
    have hca : ∀ b, (Value.slice CA n2 cc).ownBlock = some b → b ≠ Q := fun b hb => by have h1 := hfr b (.inr hb); have h2 := HV.out.2.2.2.2; omega
    have hsrc2 := rs_set1 (Q := Q) (k := 3) (u := .int .i64 0) (fun _ _ _ _ h => h) (rs_set1 (Q := Q) (k := 2) (u := .slice CA n2 cc) (fun _ _ _ _ h => h) (rs_set1 (Q := Q) (k := 1) (u := .slice FA n1 fc) (fun _ _ _ _ h => h) (rs_set1 (Q := Q) (k := 0) (u := .int .i64 r.piece) (fun _ _ _ _ h => h) hF hfa) hfa) hfa) hfa
    have hcoef2 := rs_set1 (Q := Q) (k := 3) (u := .int .i64 0) (fun _ _ _ _ h => h) (rs_set1 (Q := Q) (k := 2) (u := .slice CA n2 cc) (fun _ _ _ _ h => h) (rs_set1 (Q := Q) (k := 1) (u := .slice FA n1 fc) (fun _ _ _ _ h => h) (rs_set1 (Q := Q) (k := 0) (u := .int .i64 r.piece) (fun _ _ _ _ h => h) hC hca) hca) hca) hca
    have HS1 := Lib.hid ((((HO2.out.store 1 rfl 0 (.int .i64 r.piece)).store 1 rfl 1 (.slice FA n1 fc)).store 1 rfl 2 (.slice CA n2 cc)).store 1 rfl 3 (.int .i64 0))
    have hlow : ∀ b, (Value.slice FA n1 fc).ownBlock = some b ∨ (Value.slice CA n2 cc).ownBlock = some b → w.heap.size ≤ b := fun b hb => by have h1 := hfr b hb; have h2 := HLOW.out; omega
    have HFIN := Lib.hid (And.intro hbest (And.intro hsrc2 (And.intro hcoef2 hlow)))
    have hnv1 : 0 < nv := by rw [← HV.out.2.2.2.1]; exact hpos
    clear hne hpos hF hC r0' r1' r2' hfr hbest hr hn1 hn2 hfa hca hsrc2 hcoef2 hlow hxa'
    go_wp2_with fail
    refine bodyPost_ret (results_cell1 (v := .agg #[.int .i64 r.piece, .slice FA n1 fc, .slice CA n2 cc, .int .i64 0]) rfl rfl ?_) rfl ?_
    · go_simp
    rw [HFIN.out.1, HER.out]
    exact ⟨_, _, rfl, HFIN.out.2.1, HFIN.out.2.2.1, HFIN.out.2.2.2, HS1.out.ext⟩
  · have hbad := Rb.leastL_bad (all := true) (show Rb.leastE d gl gs lost piece ≠ 0 by rw [HER.out]; exact h0)
    have hbest : Rb.bestR d gl gs lost piece = Rb.noRec := by rw [Rb.best_all, hbad]; rfl
    have HS1 := Lib.hid (And.intro hbest ((((HO2.out.store 1 rfl 0 (.int .i64 0)).store 1 rfl 1 (.slice none 0 0)).store 1 rfl 2 (.slice none 0 0)).store 1 rfl 3 (.int .i64 er)))
    have hb : (er != 0) = true := by rw [bne_iff_ne]; exact h0
    clear hbad hbest h0 hxa'
    go_wp2_with fail
    refine bodyPost_ret (results_cell1 (v := .agg #[.int .i64 0, .slice none 0 0, .slice none 0 0, .int .i64 er]) rfl rfl ?_) rfl ?_
    · go_simp
    rw [HS1.out.1, HER.out]
    exact ⟨_, _, rfl, Rs.nil _, Rs.nil _, (fun b hb => by rcases hb with hb | hb <;> cases hb), HS1.out.2.ext⟩
end Go.Proofs.YtdmljilcbndmfaaDoor

/- THE DRAWN REGIONS of Local of the specification of rebuilds. -/
namespace Go.Proofs.YtdmljilcbndmfaaDoor
open Go.RowKit
theorem Owns.start2 (w : World) : Owns w w.drew [no, no] := (Owns.start w (L := [no, no]) (by intro r hr; simp at hr; subst hr; exact ⟨rfl, rfl, rfl⟩)).drew
noncomputable def lo7_code : Code := ((Tryd.f17.body.bind (regionOf 7)).getD .skip)
def lo7_dsts : List (Option Nat) := [some 25, some 26, some 27, some 28, some 29, some 30, some 31, some 32, some 33, some 34, some 35, some 36, some 37, some 7]
theorem lo7_apart : apartD lo7_dsts = true := by decide +kernel
set_option maxRecDepth 1000000 in
set_option maxHeartbeats 16000000 in
theorem lo7 (wr : World) (C ng Gc i m cx : Nat) (XA : Option Addr) (ga : Addr) (d dd : Int) (x : List Int) (hi : i < ng) (hd0 : 0 ≤ d) (hd1 : d ≤ 1000) (hin : i ≤ 1000) (hdd : d + (i : Int) = dd) (k0 : wr.cell? ⟨C, 0, none⟩ = some (.int .i64 d)) (k1 : wr.cell? ⟨C, 1, none⟩ = some (.slice (some ga) ng Gc)) (kx : wr.cell? (ga.add i) = some (.slice XA m cx)) (hxl : x.length = m) (hm : m ≤ 1000000) (HRD : Hid (Rd wr XA (x.map (.int .i64)))) (c0 c1 c3 c4 c5 c7 c8 c9 c10 c11 c12 c13 c14 c15 c16 c17 c18 c19 c20 c21 c22 c23 c24 c25 c26 c27 c28 c29 c30 c31 c32 c33 c34 c35 c36 c37 c38 c39 c40 c41 c42 c43 c44 c45 c46 c47 c48 c49 c50 c51 c52 c53 c54 c55 c56 c57 c58 c59 c60 c61 c62 c63 c64 c65 c66 c67 c68 c69 : Value) (df : List Deferred) (K : Act → World → Prop)
    (hK : ∀ (g12 k12 : Nat) (u25 u26 u27 u28 u29 u30 u31 u32 u33 u34 u35 u36 u37 : Value) (wx : World), Owns wr wx [⟨.slice (some ⟨g12, 0, none⟩) (0 + m + 1) k12, 3, 1, 0 + m + 1, x.map (.int .i64) ++ [.int .i64 dd]⟩] → K ⟨#[c0, c1, .pointer (some ⟨C, 0, none⟩), c3, c4, c5, .int .i64 (i : Nat), .slice (some ⟨g12, 0, none⟩) (0 + m + 1) k12, c8, c9, c10, c11, c12, c13, c14, c15, c16, c17, c18, c19, c20, c21, c22, c23, c24, u25, u26, u27, u28, u29, u30, u31, u32, u33, u34, u35, u36, u37, c38, c39, c40, c41, c42, c43, c44, c45, c46, c47, c48, c49, c50, c51, c52, c53, c54, c55, c56, c57, c58, c59, c60, c61, c62, c63, c64, c65, c66, c67, c68, c69], df⟩ wx) :
    Code.wp Tryd.prog lo7_code (AtEnd K) ⟨#[c0, c1, .pointer (some ⟨C, 0, none⟩), c3, c4, c5, .int .i64 (i : Nat), c7, c8, c9, c10, c11, c12, c13, c14, c15, c16, c17, c18, c19, c20, c21, c22, c23, c24, c25, c26, c27, c28, c29, c30, c31, c32, c33, c34, c35, c36, c37, c38, c39, c40, c41, c42, c43, c44, c45, c46, c47, c48, c49, c50, c51, c52, c53, c54, c55, c56, c57, c58, c59, c60, c61, c62, c63, c64, c65, c66, c67, c68, c69], df⟩ wr := by
  conv => arg 2; whnf
  refine region_inv (by kernel_rfl) [[], [], [1], [], [2, 3], [4], [0, 5], [], [7], [], [8, 9], [10], [6, 11, 6], [12, 12, 0, 1, 2, 3, 4, 5, 6, 7, 8, 9, 10, 11, 12]] (by kernel_rfl) [0, 1, 2, 3, 4, 5, 6, 7, 8, 9, 10, 11, 12, 13] (by decide +kernel) (by decide +kernel) (by decide +kernel) (fun L a wc => ∃ (g0 : Nat) (g6 : Nat) (k6 : Nat) (g11 : Nat) (g12 : Nat) (k12 : Nat), InvO lo7_dsts [.slice (some ⟨g0, 0, none⟩) 0 0, .pointer (some ⟨C, 1, none⟩), .slice (some ga) ng Gc, .int .i64 (i : Nat), .pointer (some (ga.add i)), .slice XA m cx, .slice (some ⟨g6, 0, none⟩) (0 + m) k6, .pointer (some ⟨C, 0, none⟩), .int .i64 d, .int .i64 (i : Nat), .int .i64 dd, .slice (some ⟨g11, 0, none⟩) 1 1, .slice (some ⟨g12, 0, none⟩) (0 + m + 1) k12, .slice (some ⟨g12, 0, none⟩) (0 + m + 1) k12] ⟨#[c0, c1, .pointer (some ⟨C, 0, none⟩), c3, c4, c5, .int .i64 (i : Nat), c7, c8, c9, c10, c11, c12, c13, c14, c15, c16, c17, c18, c19, c20, c21, c22, c23, c24, c25, c26, c27, c28, c29, c30, c31, c32, c33, c34, c35, c36, c37, c38, c39, c40, c41, c42, c43, c44, c45, c46, c47, c48, c49, c50, c51, c52, c53, c54, c55, c56, c57, c58, c59, c60, c61, c62, c63, c64, c65, c66, c67, c68, c69], df⟩ L a ∧ Hid (Owns wr wc [(if L 12 = true then ⟨.slice (some ⟨g12, 0, none⟩) (0 + m + 1) k12, 3, 1, 0 + m + 1, x.map (.int .i64) ++ [.int .i64 dd]⟩ else if L 6 = true then ⟨.slice (some ⟨g6, 0, none⟩) (0 + m) k6, 3, 1, 0 + m, x.map (.int .i64)⟩ else if L 0 = true then ⟨.slice (some ⟨g0, 0, none⟩) 0 0, 3, 1, 0, []⟩ else no), (if L 11 = true then ⟨.slice (some ⟨g11, 0, none⟩) 1 1, 3, 1, 1, [.int .i64 dd]⟩ else no)])) ⟨0, 0, 0, 0, 0, 0, InvO.start, Lib.hid (Owns.start2 wr)⟩ ?_ ?_
  · refine ⟨?_, ?_, ?_, ?_, ?_, ?_, ?_, ?_, ?_, ?_, ?_, ?_, ?_, ?_, trivial⟩
    ·
      rintro L a wc ⟨g0, g6, k6, g11, g12, k12, hv, HO⟩ hL hc hd
      have n6 : L 6 = false := Bool.eq_false_iff.2 fun h => Bool.false_ne_true (hL.symm.trans (hc 6 h 0 (by decide)))
      have n12 : L 12 = false := Bool.eq_false_iff.2 fun h => Bool.false_ne_true (hL.symm.trans (hc 6 (hc 12 h 6 (by decide)) 0 (by decide)))
      have h := HO.out
      rw [if_neg (show ¬ (L 12 = true) from by simp [n12]), if_neg (show ¬ (L 6 = true) from by simp [n6]), if_neg (show ¬ (L 0 = true) from by simp [hL])] at h
      have hn := h.new 0 #[] 3 (by simp [maxLen])
      exact wpOp_value rfl rfl (ex_build0 rfl Tryd.underlying27 info_int) ⟨wc.heap.size, g6, k6, g11, g12, k12, hv.put lo7_apart 0 rfl (lb rfl) (lb rfl) rfl, Lib.hid (by rw [if_neg (show ¬ (upd L 0 12 = true) from by simp [upd, n12]), if_neg (show ¬ (upd L 0 6 = true) from by simp [upd, n6]), if_pos (show upd L 0 0 = true from by simp [upd])]; exact hn)⟩
    ·
      rintro L a wc ⟨g0, g6, k6, g11, g12, k12, hv, HO⟩ hL hc hd
      exact wpOp_val rfl rfl (ex_field rfl ((hv.fixed 2 (by decide)).trans rfl) (by go_simp)) ⟨g0, g6, k6, g11, g12, k12, hv.put lo7_apart 1 rfl (lb rfl) (lb rfl) rfl, HO⟩
    ·
      rintro L a wc ⟨g0, g6, k6, g11, g12, k12, hv, HO⟩ hL hc hd
      have h0 : wc.cell? ⟨C, 1, none⟩ = some (.slice (some ga) ng Gc) := HO.out.ext.cell k1
      exact wpOp_val rfl rfl (ex_load rfl (hv.get 1 rfl rfl (hd 1 (by decide))) (by go_simp)) ⟨g0, g6, k6, g11, g12, k12, hv.put lo7_apart 2 rfl (lb rfl) (lb rfl) rfl, HO⟩
    ·
      rintro L a wc ⟨g0, g6, k6, g11, g12, k12, hv, HO⟩ hL hc hd
      exact wpOp_val rfl rfl (ex_move rfl ((hv.fixed 6 (by decide)).trans rfl)) ⟨g0, g6, k6, g11, g12, k12, hv.put lo7_apart 3 rfl (lb rfl) (lb rfl) rfl, HO⟩
    ·
      rintro L a wc ⟨g0, g6, k6, g11, g12, k12, hv, HO⟩ hL hc hd
      have u1 : (0 : Int) ≤ (i : Int) := by omega
      have u2 : (i : Int) < (ng : Int) := by omega
      exact wpOp_val rfl rfl (ex_index rfl (hv.get 2 rfl rfl (hd 2 (by decide))) (hv.get 3 rfl rfl (hd 3 (by decide))) (by go_simp)) ⟨g0, g6, k6, g11, g12, k12, hv.put lo7_apart 4 rfl (lb rfl) (lb rfl) rfl, HO⟩
    ·
      rintro L a wc ⟨g0, g6, k6, g11, g12, k12, hv, HO⟩ hL hc hd
      have h0 : wc.cell? (ga.add i) = some (.slice XA m cx) := HO.out.ext.cell kx
      exact wpOp_val rfl rfl (ex_load rfl (hv.get 4 rfl rfl (hd 4 (by decide))) (by go_simp)) ⟨g0, g6, k6, g11, g12, k12, hv.put lo7_apart 5 rfl (lb rfl) (lb rfl) rfl, HO⟩
    ·
      rintro L a wc ⟨g0, g6, k6, g11, g12, k12, hv, HO⟩ hL hc hd
      have n12 : L 12 = false := Bool.eq_false_iff.2 fun h => Bool.false_ne_true (hL.symm.trans (hc 12 h 6 (by decide)))
      have h0 : L 0 = true := hd 0 (by decide)
      have h := HO.out
      rw [if_neg (show ¬ (L 12 = true) from by simp [n12]), if_neg (show ¬ (L 6 = true) from by simp [hL]), if_pos h0] at h
      refine wpOp_append_more rfl rfl 27 3 rfl Tryd.underlying27 info_int rfl h 0 rfl (Nat.le_refl _) (hv.get 0 rfl rfl h0) (hv.get 5 rfl rfl (hd 5 (by decide))) (by rw [List.length_map]; exact hxl) (HRD.out.ext h.ext) one_ints8 (by omega) (by decide) ?_
      intro gg cc w2 hO2
      have hv := hv.reset 6 hL (.slice (some ⟨gg, 0, none⟩) (0 + m) cc)
      exact ⟨g0, gg, cc, g11, g12, k12, hv.put lo7_apart 6 rfl (lb rfl) (lb rfl) rfl, Lib.hid (by rw [if_neg (show ¬ (upd L 6 12 = true) from by simp [upd, n12]), if_pos (show upd L 6 6 = true from by simp [upd])]; exact hO2)⟩
    ·
      rintro L a wc ⟨g0, g6, k6, g11, g12, k12, hv, HO⟩ hL hc hd
      exact wpOp_val rfl rfl (ex_field rfl ((hv.fixed 2 (by decide)).trans rfl) (by go_simp)) ⟨g0, g6, k6, g11, g12, k12, hv.put lo7_apart 7 rfl (lb rfl) (lb rfl) rfl, HO⟩
    ·
      rintro L a wc ⟨g0, g6, k6, g11, g12, k12, hv, HO⟩ hL hc hd
      have h0 : wc.cell? ⟨C, 0, none⟩ = some (.int .i64 d) := HO.out.ext.cell k0
      exact wpOp_val rfl rfl (ex_load rfl (hv.get 7 rfl rfl (hd 7 (by decide))) (by go_simp)) ⟨g0, g6, k6, g11, g12, k12, hv.put lo7_apart 8 rfl (lb rfl) (lb rfl) rfl, HO⟩
    ·
      rintro L a wc ⟨g0, g6, k6, g11, g12, k12, hv, HO⟩ hL hc hd
      exact wpOp_val rfl rfl (ex_move rfl ((hv.fixed 6 (by decide)).trans rfl)) ⟨g0, g6, k6, g11, g12, k12, hv.put lo7_apart 9 rfl (lb rfl) (lb rfl) rfl, HO⟩
    ·
      rintro L a wc ⟨g0, g6, k6, g11, g12, k12, hv, HO⟩ hL hc hd
      have h1 := hdd
      have h2 : (0 : Int) ≤ dd := by omega
      have h3 : IntKind.i64.wrap dd = dd := by rw [IntKind.wrap_i64]; omega
      exact wpOp_val rfl rfl (ex_bin rfl (hv.get 8 rfl rfl (hd 8 (by decide))) (hv.get 9 rfl rfl (hd 9 (by decide))) (by go_simp)) ⟨g0, g6, k6, g11, g12, k12, hv.put lo7_apart 10 rfl (lb rfl) (lb rfl) rfl, HO⟩
    ·
      rintro L a wc ⟨g0, g6, k6, g11, g12, k12, hv, HO⟩ hL hc hd
      have h := HO.out
      rw [if_neg (show ¬ (L 11 = true) from by simp [hL])] at h
      have hn := h.new 1 #[.int .i64 dd] 3 (by simp [maxLen])
      exact wpOp_value rfl rfl (ex_build rfl Tryd.underlying27 info_int (hv.get 10 rfl rfl (hd 10 (by decide))) rfl) ⟨g0, g6, k6, wc.heap.size, g12, k12, hv.put lo7_apart 11 rfl (lb rfl) (lb rfl) rfl, Lib.hid (by rw [if_pos (show upd L 11 11 = true from by simp [upd])]; exact hn)⟩
    ·
      rintro L a wc ⟨g0, g6, k6, g11, g12, k12, hv, HO⟩ hL hc hd
      have h6 : L 6 = true := hd 6 (by decide)
      have h11 : L 11 = true := hd 11 (by decide)
      have h := HO.out
      rw [if_neg (show ¬ (L 12 = true) from by simp [hL]), if_pos h6, if_pos h11] at h
      refine wpOp_append rfl rfl 27 3 rfl Tryd.underlying27 info_int rfl h 0 rfl (hv.get 6 rfl rfl h6) (hv.get 11 rfl rfl h11) (h.cell 1 rfl 0 rfl) rfl (by omega) (by decide) ?_
      intro gg cc w2 hO2
      have hv := hv.reset 12 hL (.slice (some ⟨gg, 0, none⟩) (0 + m + 1) cc)
      have n13 : L 13 = false := Bool.eq_false_iff.2 fun h => Bool.false_ne_true (hL.symm.trans (hc 13 h 12 (by decide)))
      have hv := hv.reset 13 n13 (.slice (some ⟨gg, 0, none⟩) (0 + m + 1) cc)
      exact ⟨g0, g6, k6, g11, gg, cc, hv.put lo7_apart 12 rfl (lb rfl) (lb rfl) rfl, Lib.hid (by rw [if_pos (show upd L 12 12 = true from by simp [upd]), if_pos (show upd L 12 11 = true from by simp [upd, h11])]; exact hO2)⟩
    ·
      rintro L a wc ⟨g0, g6, k6, g11, g12, k12, hv, HO⟩ hL hc hd
      exact wpOp_val rfl rfl (ex_assign rfl (hv.get 12 rfl rfl (hd 12 (by decide)))) ⟨g0, g6, k6, g11, g12, k12, hv.put lo7_apart 13 rfl (lb rfl) (lb rfl) rfl, HO⟩
  · rintro L a wc ⟨g0, g6, k6, g11, g12, k12, hv, HO⟩ hall
    show K a wc
    have ha := act_lit a
    rw [hv.size, hv.defers] at ha
    have hl : ∀ f : Nat → Value, ((List.range (⟨#[c0, c1, .pointer (some ⟨C, 0, none⟩), c3, c4, c5, .int .i64 (i : Nat), c7, c8, c9, c10, c11, c12, c13, c14, c15, c16, c17, c18, c19, c20, c21, c22, c23, c24, c25, c26, c27, c28, c29, c30, c31, c32, c33, c34, c35, c36, c37, c38, c39, c40, c41, c42, c43, c44, c45, c46, c47, c48, c49, c50, c51, c52, c53, c54, c55, c56, c57, c58, c59, c60, c61, c62, c63, c64, c65, c66, c67, c68, c69], df⟩ : Act).tmps.size).map f).toArray = #[f 0, f 1, f 2, f 3, f 4, f 5, f 6, f 7, f 8, f 9, f 10, f 11, f 12, f 13, f 14, f 15, f 16, f 17, f 18, f 19, f 20, f 21, f 22, f 23, f 24, f 25, f 26, f 27, f 28, f 29, f 30, f 31, f 32, f 33, f 34, f 35, f 36, f 37, f 38, f 39, f 40, f 41, f 42, f 43, f 44, f 45, f 46, f 47, f 48, f 49, f 50, f 51, f 52, f 53, f 54, f 55, f 56, f 57, f 58, f 59, f 60, f 61, f 62, f 63, f 64, f 65, f 66, f 67, f 68, f 69] := fun _ => rfl
    rw [hl] at ha
    simp only [hv.fixed 0 (by decide), hv.fixed 1 (by decide), hv.fixed 2 (by decide), hv.fixed 3 (by decide), hv.fixed 4 (by decide), hv.fixed 5 (by decide), hv.fixed 6 (by decide), hv.fixed 8 (by decide), hv.fixed 9 (by decide), hv.fixed 10 (by decide), hv.fixed 11 (by decide), hv.fixed 12 (by decide), hv.fixed 13 (by decide), hv.fixed 14 (by decide), hv.fixed 15 (by decide), hv.fixed 16 (by decide), hv.fixed 17 (by decide), hv.fixed 18 (by decide), hv.fixed 19 (by decide), hv.fixed 20 (by decide), hv.fixed 21 (by decide), hv.fixed 22 (by decide), hv.fixed 23 (by decide), hv.fixed 24 (by decide), hv.fixed 38 (by decide), hv.fixed 39 (by decide), hv.fixed 40 (by decide), hv.fixed 41 (by decide), hv.fixed 42 (by decide), hv.fixed 43 (by decide), hv.fixed 44 (by decide), hv.fixed 45 (by decide), hv.fixed 46 (by decide), hv.fixed 47 (by decide), hv.fixed 48 (by decide), hv.fixed 49 (by decide), hv.fixed 50 (by decide), hv.fixed 51 (by decide), hv.fixed 52 (by decide), hv.fixed 53 (by decide), hv.fixed 54 (by decide), hv.fixed 55 (by decide), hv.fixed 56 (by decide), hv.fixed 57 (by decide), hv.fixed 58 (by decide), hv.fixed 59 (by decide), hv.fixed 60 (by decide), hv.fixed 61 (by decide), hv.fixed 62 (by decide), hv.fixed 63 (by decide), hv.fixed 64 (by decide), hv.fixed 65 (by decide), hv.fixed 66 (by decide), hv.fixed 67 (by decide), hv.fixed 68 (by decide), hv.fixed 69 (by decide), hv.get 13 (d := 7) rfl rfl (hall 13 (by decide))] at ha
    rw [ha]
    have hO := HO.out
    rw [if_pos (hall 12 (by decide))] at hO
    exact hK g12 k12 _ _ _ _ _ _ _ _ _ _ _ _ _ wc (hO.sublist (by simp))
noncomputable def lo15_code : Code := ((Tryd.f17.body.bind (regionOf 15)).getD .skip)
def lo15_dsts : List (Option Nat) := [some 52, some 53, some 54, some 55, some 56, some 57, some 58, some 59, some 60, none]
theorem lo15_apart : apartD lo15_dsts = true := by decide +kernel
set_option maxRecDepth 1000000 in
set_option maxHeartbeats 16000000 in
theorem lo15 (w0 wr : World) (B k N na cN cF : Nat) (FA : Option Addr) (fd : Addr) (v0 v2 : Value) (fs : List Value) (LL : List LRow) (fk : Int) (hfk : w0.cell? (fd.add k) = some (.int .i64 fk)) (hkN : k < N) (ha0 : na ≤ 1000) (HOO : Hid (Owns w0 wr (⟨.slice (some ⟨B, 0, none⟩) 3 3, 30, 1, 3, [v0, .slice FA na cF, v2]⟩ :: ⟨.slice FA na cF, 3, 1, na, fs⟩ :: LL))) (c0 c1 c2 c3 c4 c5 c6 c8 c11 c12 c13 c14 c15 c16 c17 c18 c19 c20 c21 c22 c23 c24 c25 c26 c27 c28 c29 c30 c31 c32 c33 c34 c35 c36 c37 c38 c39 c40 c41 c42 c43 c44 c45 c46 c47 c48 c49 c50 c51 c52 c53 c54 c55 c56 c57 c58 c59 c60 c61 c62 c63 c64 c65 c66 c67 c68 c69 : Value) (df : List Deferred) (K : Act → World → Prop)
    (hK : ∀ (g7 k7 : Nat) (u52 u53 u54 u55 u56 u57 u58 u59 u60 : Value) (wx : World), Owns w0 wx (⟨.slice (some ⟨B, 0, none⟩) 3 3, 30, 1, 3, [v0, .slice (some ⟨g7, 0, none⟩) (na + 1) k7, v2]⟩ :: ⟨.slice (some ⟨g7, 0, none⟩) (na + 1) k7, 3, 1, na + 1, fs ++ [.int .i64 fk]⟩ :: LL) → K ⟨#[c0, c1, c2, c3, c4, c5, c6, .slice (some fd) N cN, c8, .pointer (some ⟨B, 0, none⟩), .int .i64 (k : Nat), c11, c12, c13, c14, c15, c16, c17, c18, c19, c20, c21, c22, c23, c24, c25, c26, c27, c28, c29, c30, c31, c32, c33, c34, c35, c36, c37, c38, c39, c40, c41, c42, c43, c44, c45, c46, c47, c48, c49, c50, c51, u52, u53, u54, u55, u56, u57, u58, u59, u60, c61, c62, c63, c64, c65, c66, c67, c68, c69], df⟩ wx) :
    Code.wp Tryd.prog lo15_code (AtEnd K) ⟨#[c0, c1, c2, c3, c4, c5, c6, .slice (some fd) N cN, c8, .pointer (some ⟨B, 0, none⟩), .int .i64 (k : Nat), c11, c12, c13, c14, c15, c16, c17, c18, c19, c20, c21, c22, c23, c24, c25, c26, c27, c28, c29, c30, c31, c32, c33, c34, c35, c36, c37, c38, c39, c40, c41, c42, c43, c44, c45, c46, c47, c48, c49, c50, c51, c52, c53, c54, c55, c56, c57, c58, c59, c60, c61, c62, c63, c64, c65, c66, c67, c68, c69], df⟩ wr := by
  conv => arg 2; whnf
  refine region_inv (by kernel_rfl) [[], [0], [], [], [2, 3], [4], [5], [1, 6], [0, 1, 2, 3, 4, 5, 6, 7], [8, 7, 7, 0, 1, 2, 3, 4, 5, 6, 7]] (by kernel_rfl) [0, 1, 2, 3, 4, 5, 6, 7, 8, 9] (by decide +kernel) (by decide +kernel) (by decide +kernel) (fun L a wc => ∃ (g6 : Nat) (g7 : Nat) (k7 : Nat), InvO lo15_dsts [.pointer (some ⟨B, 1, none⟩), .slice FA na cF, .slice (some fd) N cN, .int .i64 (k : Nat), .pointer (some (fd.add k)), .int .i64 fk, .slice (some ⟨g6, 0, none⟩) 1 1, .slice (some ⟨g7, 0, none⟩) (na + 1) k7, .pointer (some ⟨B, 1, none⟩), undef] ⟨#[c0, c1, c2, c3, c4, c5, c6, .slice (some fd) N cN, c8, .pointer (some ⟨B, 0, none⟩), .int .i64 (k : Nat), c11, c12, c13, c14, c15, c16, c17, c18, c19, c20, c21, c22, c23, c24, c25, c26, c27, c28, c29, c30, c31, c32, c33, c34, c35, c36, c37, c38, c39, c40, c41, c42, c43, c44, c45, c46, c47, c48, c49, c50, c51, c52, c53, c54, c55, c56, c57, c58, c59, c60, c61, c62, c63, c64, c65, c66, c67, c68, c69], df⟩ L a ∧ Hid (Owns w0 wc ((if L 9 = true then ⟨.slice (some ⟨B, 0, none⟩) 3 3, 30, 1, 3, [v0, .slice (some ⟨g7, 0, none⟩) (na + 1) k7, v2]⟩ else ⟨.slice (some ⟨B, 0, none⟩) 3 3, 30, 1, 3, [v0, .slice FA na cF, v2]⟩) :: (if L 7 = true then ⟨.slice (some ⟨g7, 0, none⟩) (na + 1) k7, 3, 1, na + 1, fs ++ [.int .i64 fk]⟩ else ⟨.slice FA na cF, 3, 1, na, fs⟩) :: (if L 6 = true then ⟨.slice (some ⟨g6, 0, none⟩) 1 1, 3, 1, 1, [.int .i64 fk]⟩ else no) :: LL))) ⟨0, 0, 0, InvO.start, Lib.hid (HOO.out.two3)⟩ ?_ ?_
  · refine ⟨?_, ?_, ?_, ?_, ?_, ?_, ?_, ?_, ?_, ?_, trivial⟩
    ·
      rintro L a wc ⟨g6, g7, k7, hv, HO⟩ hL hc hd
      exact wpOp_val rfl rfl (ex_field rfl ((hv.fixed 9 (by decide)).trans rfl) (by go_simp)) ⟨g6, g7, k7, hv.put lo15_apart 0 rfl (lb rfl) (lb rfl) rfl, HO⟩
    ·
      rintro L a wc ⟨g6, g7, k7, hv, HO⟩ hL hc hd
      have n9 : L 9 = false := Bool.eq_false_iff.2 fun h => Bool.false_ne_true (hL.symm.trans (hc 7 (hc 9 h 7 (by decide)) 1 (by decide)))
      have h := HO.out
      rw [if_neg (show ¬ (L 9 = true) from by simp [n9])] at h
      have e1 : wc.cell? ⟨B, 1, none⟩ = some (.slice FA na cF) := h.cell 0 rfl 1 rfl
      exact wpOp_val rfl rfl (ex_load rfl (hv.get 0 rfl rfl (hd 0 (by decide))) (by go_simp)) ⟨g6, g7, k7, hv.put lo15_apart 1 rfl (lb rfl) (lb rfl) rfl, HO⟩
    ·
      rintro L a wc ⟨g6, g7, k7, hv, HO⟩ hL hc hd
      exact wpOp_val rfl rfl (ex_move rfl ((hv.fixed 7 (by decide)).trans rfl)) ⟨g6, g7, k7, hv.put lo15_apart 2 rfl (lb rfl) (lb rfl) rfl, HO⟩
    ·
      rintro L a wc ⟨g6, g7, k7, hv, HO⟩ hL hc hd
      exact wpOp_val rfl rfl (ex_move rfl ((hv.fixed 10 (by decide)).trans rfl)) ⟨g6, g7, k7, hv.put lo15_apart 3 rfl (lb rfl) (lb rfl) rfl, HO⟩
    ·
      rintro L a wc ⟨g6, g7, k7, hv, HO⟩ hL hc hd
      have u1 : (0 : Int) ≤ (k : Int) := by omega
      have u2 : (k : Int) < (N : Int) := by omega
      exact wpOp_val rfl rfl (ex_index rfl (hv.get 2 rfl rfl (hd 2 (by decide))) (hv.get 3 rfl rfl (hd 3 (by decide))) (by go_simp)) ⟨g6, g7, k7, hv.put lo15_apart 4 rfl (lb rfl) (lb rfl) rfl, HO⟩
    ·
      rintro L a wc ⟨g6, g7, k7, hv, HO⟩ hL hc hd
      have h0 : wc.cell? (fd.add k) = some (.int .i64 fk) := HO.out.ext.cell hfk
      exact wpOp_val rfl rfl (ex_load rfl (hv.get 4 rfl rfl (hd 4 (by decide))) (by go_simp)) ⟨g6, g7, k7, hv.put lo15_apart 5 rfl (lb rfl) (lb rfl) rfl, HO⟩
    ·
      rintro L a wc ⟨g6, g7, k7, hv, HO⟩ hL hc hd
      have h := HO.out
      rw [if_neg (show ¬ (L 6 = true) from by simp [hL])] at h
      have hn := h.new 2 #[.int .i64 fk] 3 (by simp [maxLen])
      exact wpOp_value rfl rfl (ex_build rfl Tryd.underlying27 info_int (hv.get 5 rfl rfl (hd 5 (by decide))) rfl) ⟨wc.heap.size, g7, k7, hv.put lo15_apart 6 rfl (lb rfl) (lb rfl) rfl, Lib.hid (by rw [if_pos (show upd L 6 6 = true from by simp [upd])]; exact hn)⟩
    ·
      rintro L a wc ⟨g6, g7, k7, hv, HO⟩ hL hc hd
      have n9 : L 9 = false := Bool.eq_false_iff.2 fun h => Bool.false_ne_true (hL.symm.trans (hc 9 h 7 (by decide)))
      have h6 : L 6 = true := hd 6 (by decide)
      have h := HO.out
      rw [if_neg (show ¬ (L 9 = true) from by simp [n9]), if_neg (show ¬ (L 7 = true) from by simp [hL]), if_pos h6] at h
      refine wpOp_append rfl rfl 27 3 rfl Tryd.underlying27 info_int rfl h 1 rfl (hv.get 1 rfl rfl (hd 1 (by decide))) (hv.get 6 rfl rfl h6) (h.cell 2 rfl 0 rfl) rfl (by omega) (by decide) ?_
      intro gg cc w2 hO2
      have hv := hv.reset 7 hL (.slice (some ⟨gg, 0, none⟩) (na + 1) cc)
      exact ⟨g6, gg, cc, hv.put lo15_apart 7 rfl (lb rfl) (lb rfl) rfl, Lib.hid (by rw [if_neg (show ¬ (upd L 7 9 = true) from by simp [upd, n9]), if_pos (show upd L 7 7 = true from by simp [upd]), if_pos (show upd L 7 6 = true from by simp [upd, h6])]; exact hO2)⟩
    ·
      rintro L a wc ⟨g6, g7, k7, hv, HO⟩ hL hc hd
      exact wpOp_val rfl rfl (ex_field rfl ((hv.fixed 9 (by decide)).trans rfl) (by go_simp)) ⟨g6, g7, k7, hv.put lo15_apart 8 rfl (lb rfl) (lb rfl) rfl, HO⟩
    ·
      rintro L a wc ⟨g6, g7, k7, hv, HO⟩ hL hc hd
      have h7 : L 7 = true := hd 7 (by decide)
      have h := HO.out
      rw [if_neg (show ¬ (L 9 = true) from by simp [hL]), if_pos h7] at h
      have k1 := h.cell 0 rfl 1 rfl
      have q1 := h.frozen 0 rfl 1
      have hs := h.store 0 rfl 1 (.slice (some ⟨g7, 0, none⟩) (na + 1) k7)
      exact wpOp_skip rfl rfl rfl (ex_store (w' := wc.setCell ⟨B, 1, none⟩ (.slice (some ⟨g7, 0, none⟩) (na + 1) k7)) rfl (hv.get 8 rfl rfl (hd 8 (by decide))) (hv.get 7 rfl rfl h7) (by go_simp)) ⟨g6, g7, k7, hv.skip 9 rfl, Lib.hid (by rw [if_pos (show upd L 9 9 = true from by simp [upd]), if_pos (show upd L 9 7 = true from by simp [upd, h7])]; exact hs)⟩
  · rintro L a wc ⟨g6, g7, k7, hv, HO⟩ hall
    show K a wc
    have ha := act_lit a
    rw [hv.size, hv.defers] at ha
    have hl : ∀ f : Nat → Value, ((List.range (⟨#[c0, c1, c2, c3, c4, c5, c6, .slice (some fd) N cN, c8, .pointer (some ⟨B, 0, none⟩), .int .i64 (k : Nat), c11, c12, c13, c14, c15, c16, c17, c18, c19, c20, c21, c22, c23, c24, c25, c26, c27, c28, c29, c30, c31, c32, c33, c34, c35, c36, c37, c38, c39, c40, c41, c42, c43, c44, c45, c46, c47, c48, c49, c50, c51, c52, c53, c54, c55, c56, c57, c58, c59, c60, c61, c62, c63, c64, c65, c66, c67, c68, c69], df⟩ : Act).tmps.size).map f).toArray = #[f 0, f 1, f 2, f 3, f 4, f 5, f 6, f 7, f 8, f 9, f 10, f 11, f 12, f 13, f 14, f 15, f 16, f 17, f 18, f 19, f 20, f 21, f 22, f 23, f 24, f 25, f 26, f 27, f 28, f 29, f 30, f 31, f 32, f 33, f 34, f 35, f 36, f 37, f 38, f 39, f 40, f 41, f 42, f 43, f 44, f 45, f 46, f 47, f 48, f 49, f 50, f 51, f 52, f 53, f 54, f 55, f 56, f 57, f 58, f 59, f 60, f 61, f 62, f 63, f 64, f 65, f 66, f 67, f 68, f 69] := fun _ => rfl
    rw [hl] at ha
    simp only [hv.fixed 0 (by decide), hv.fixed 1 (by decide), hv.fixed 2 (by decide), hv.fixed 3 (by decide), hv.fixed 4 (by decide), hv.fixed 5 (by decide), hv.fixed 6 (by decide), hv.fixed 7 (by decide), hv.fixed 8 (by decide), hv.fixed 9 (by decide), hv.fixed 10 (by decide), hv.fixed 11 (by decide), hv.fixed 12 (by decide), hv.fixed 13 (by decide), hv.fixed 14 (by decide), hv.fixed 15 (by decide), hv.fixed 16 (by decide), hv.fixed 17 (by decide), hv.fixed 18 (by decide), hv.fixed 19 (by decide), hv.fixed 20 (by decide), hv.fixed 21 (by decide), hv.fixed 22 (by decide), hv.fixed 23 (by decide), hv.fixed 24 (by decide), hv.fixed 25 (by decide), hv.fixed 26 (by decide), hv.fixed 27 (by decide), hv.fixed 28 (by decide), hv.fixed 29 (by decide), hv.fixed 30 (by decide), hv.fixed 31 (by decide), hv.fixed 32 (by decide), hv.fixed 33 (by decide), hv.fixed 34 (by decide), hv.fixed 35 (by decide), hv.fixed 36 (by decide), hv.fixed 37 (by decide), hv.fixed 38 (by decide), hv.fixed 39 (by decide), hv.fixed 40 (by decide), hv.fixed 41 (by decide), hv.fixed 42 (by decide), hv.fixed 43 (by decide), hv.fixed 44 (by decide), hv.fixed 45 (by decide), hv.fixed 46 (by decide), hv.fixed 47 (by decide), hv.fixed 48 (by decide), hv.fixed 49 (by decide), hv.fixed 50 (by decide), hv.fixed 51 (by decide), hv.fixed 61 (by decide), hv.fixed 62 (by decide), hv.fixed 63 (by decide), hv.fixed 64 (by decide), hv.fixed 65 (by decide), hv.fixed 66 (by decide), hv.fixed 67 (by decide), hv.fixed 68 (by decide), hv.fixed 69 (by decide)] at ha
    rw [ha]
    have hO := HO.out
    rw [if_pos (hall 9 (by decide)), if_pos (hall 7 (by decide))] at hO
    exact hK g7 k7 _ _ _ _ _ _ _ _ _ wc (hO.sublist (by simp))
end Go.Proofs.YtdmljilcbndmfaaDoor

/- THE WALK over Local of the specification of rebuilds. -/
namespace Rb
open Gf Mx Cd
variable {d gl : Int} {gs : List (List Int)}
/-- The other ones. -/
def oth (p : Int) (l : List Int) : List Int := l.filter (· != p)
theorem oth_sub {p : Int} {l : List Int} {z : Int} (h : z ∈ oth p l) : z ∈ l := (List.mem_filter.mp h).1
theorem oth_snoc {l : List Int} {k : Nat} (h : k < l.length) (p : Int) : oth p (l.take (k + 1)) = oth p (l.take k) ++ (if l[k] = p then [] else [l[k]]) := by
  unfold oth
  rw [List.take_succ_eq_append_getElem h, List.filter_append]
  congr 1
  by_cases e : l[k] = p
  · simp [e]
  · simp [e]
theorem any_snoc {l : List Int} {k : Nat} (h : k < l.length) (p : Int) : (l.take (k + 1)).any (· == p) = ((l.take k).any (· == p) || (l[k] == p)) := by
  rw [List.take_succ_eq_append_getElem h, List.any_append]
  simp
theorem asc_few {l : List Int} (h : l.Pairwise (· < ·)) (hb : ∀ z ∈ l, 0 ≤ z ∧ z < 16) : l.length ≤ 16 := by
  have h1 : l.Sublist ((List.range 16).map fun k : Nat => (k : Int)) := asc_sublist h (by decide) fun x hx => by
    have := hb x hx
    exact List.mem_map.mpr ⟨x.toNat, List.mem_range.mpr (by omega), by omega⟩
  have := h1.length_le
  simpa using this
theorem local_rec1 (h : check d gs gl = 0) {p : Int} {i : Nat} (hi : i < gs.length) (hp : p ∈ group d gs i) :
    ∃ n, recipe (rowsOf d gs gl) p.toNat ((group d gs i).erase p) = some ⟨p, (group d gs i).erase p, List.replicate n 1⟩ := by
  have hk := check_ok h
  have e : ((d.toNat + i : Nat) : Int) = d + (i : Int) := by omega
  have hb := group_bounds h hi hp
  have hpp : ((p.toNat : Nat) : Int) = p := by omega
  by_cases hm : p ∈ gs.getD i []
  · obtain ⟨a, ha, ea⟩ := List.getElem_of_mem hm
    have eg : (gs.getD i []).getD a 0 = p := by rw [List.getD_eq_getElem?_getD, List.getElem?_eq_getElem ha]; exact ea
    have hl := local_member h hi ha
    rw [eg, e] at hl
    obtain ⟨hac, _⟩ := check_asc (check_g h)
    have hasc := (hac _ (mem_group hi)).2.2
    have he : (group d gs i).erase p = (gs.getD i []).eraseIdx a ++ [d + (i : Int)] := by
      unfold group
      rw [List.erase_append_left _ hm]
      congr 1
      refine List.erase_eq_eraseIdx_of_idxOf ?_
      rw [← ea]
      exact asc_idx hasc ha
    rw [he]
    rw [hpp] at hl
    exact ⟨_, hl⟩
  · have he : (group d gs i).erase p = gs.getD i [] := by
      unfold group at hp ⊢
      rcases List.mem_append.mp hp with h1 | h1
      · exact absurd h1 hm
      · rw [List.erase_append_right _ hm, List.mem_singleton.mp h1]
        simp
    have h2 : p = d + (i : Int) := by
      unfold group at hp
      rcases List.mem_append.mp hp with h1 | h1
      · exact absurd h1 hm
      · exact List.mem_singleton.mp h1
    rw [he]
    have hl := local_parity h hi
    have h3 : p.toNat = d.toNat + i := by omega
    rw [h3]
    rw [e, ← h2] at hl
    exact ⟨_, hl⟩
theorem recipe_even {m : Mat} {p : Nat} {f : List Int} {r : Rec} (h : recipe m p f = some r) : r.coef.length = r.src.length := by
  unfold recipe at h
  cases he : expr (rowsAt m f) (m.getD p []) with
  | none => rw [he] at h; cases h
  | some x =>
    rw [he] at h
    injection h with h
    rw [← h]
    simp [made]
theorem local_ones (h : check d gs gl = 0) {p : Int} {i : Nat} (hi : i < gs.length) (hp : p ∈ group d gs i) :
    localOf d gl gs p i = ⟨p, oth p (group d gs i), List.replicate (oth p (group d gs i)).length 1⟩ := by
  obtain ⟨n, hr⟩ := local_rec1 h hi hp
  have he := recipe_even hr
  have hn : n = ((group d gs i).erase p).length := by simpa using he
  have ho : (group d gs i).erase p = oth p (group d gs i) := by
    unfold oth
    rw [(asc_nodup (group_up h hi)).erase_eq_filter]
  unfold localOf
  rw [hr, hn, ho]
  rfl
end Rb
namespace Go.Proofs.YtdmljilcbndmfaaDoor
open Go.RowKit
theorem Rs.rdI {w : World} {A : Option Addr} {n c : Nat} {l : List Int} (h : Rs RI w (.slice A n c) l) : Rd w A (l.map (.int .i64)) := fun i v hi => by
  rw [List.getElem?_map] at hi
  obtain ⟨x, hx, rfl⟩ := Option.map_eq_some_iff.1 hi
  obtain ⟨A', c', e, _, hh⟩ := h
  injection e with e1 e2 e3
  subst e1
  obtain ⟨ad, u, hA, hc, hu⟩ := hh i x hx
  have hue := hu.1
  subst hue
  exact ⟨ad, hA, by have h := lt_of_cell hc; rw [block_add] at h; exact h, hc⟩
set_option maxHeartbeats 16000000 in
set_option maxRecDepth 100000 in
theorem sLocal_any (d gl : Int) (gs : List (List Int)) (piece : Int) (G : Value) (w : World) (hG : Rs (Rs RI) w G gs) (hgn : gs.length ≤ 4611686018427387904) :
    Calls Tryd.prog 17 #[.agg #[.int .i64 d, G, .int .i64 gl], .int .i64 piece] w fun e w' => MadeSays w w' (Rb.localR d gl gs piece) (Rb.localE d gl gs piece) e := by
  obtain ⟨GA, Gc, rfl, _⟩ := hG.form
  obtain ⟨ng, hng⟩ : ∃ ng, gs.length = ng := ⟨_, rfl⟩
  rw [hng] at hG ⊢
  have hB : Owns w ((w.alloc (.cells #[.int .i64 d, .slice GA ng Gc, .int .i64 gl] 24)).alloc (.cells #[.int .i64 0, .slice none 0 0, .slice none 0 0, .int .i64 0] 39)) [⟨.slice (some ⟨w.heap.size, 0, none⟩) 3 3, 24, 1, 3, [.int .i64 d, .slice GA ng Gc, .int .i64 gl]⟩, ⟨.slice (some ⟨(w.alloc (.cells #[.int .i64 d, .slice GA ng Gc, .int .i64 gl] 24)).heap.size, 0, none⟩) 4 4, 39, 1, 4, [.int .i64 0, .slice none 0 0, .slice none 0 0, .int .i64 0]⟩] :=
    ((Owns.start w (L := [no, no]) (by intro r hr; simp at hr; subst hr; exact ⟨rfl, rfl, rfl⟩)).new 0 #[.int .i64 d, .slice GA ng Gc, .int .i64 gl] 24 (by simp [maxLen])).new 1 #[.int .i64 0, .slice none 0 0, .slice none 0 0, .int .i64 0] 39 (by simp [maxLen])
  have hsz : (w.alloc (.cells #[.int .i64 d, .slice GA ng Gc, .int .i64 gl] 24)).heap.size = w.heap.size + 1 := by simp
  rw [hsz] at hB
  clear hsz
  have HG := Lib.hid (And.intro hG hgn)
  have HB := Lib.hid hB
  clear hG hB hgn hng
  go_enter Tryd.func17, Tryd.ntmps17
  go_upto_region 1 with fail
  obtain ⟨C, hC⟩ : ∃ C, w.heap.size = C := ⟨_, rfl⟩
  obtain ⟨Q, hQ⟩ : ∃ Q, C + 1 = Q := ⟨_, rfl⟩
  rw [hC, hQ] at HB
  rw [hC]
  try rw [hQ]
  obtain ⟨w1, hw1⟩ : ∃ x, (w.alloc (.cells #[.int .i64 d, .slice GA ng Gc, .int .i64 gl] 24)).alloc (.cells #[.int .i64 0, .slice none 0 0, .slice none 0 0, .int .i64 0] 39) = x := ⟨_, rfl⟩
  rw [hw1] at HB ⊢
  have HC0 := Lib.hid hC
  clear hw1 hQ hC
  have b0 : w1.cell? ⟨C, 0, none⟩ = some (.int .i64 d) := HB.out.cell 0 rfl 0 rfl
  have b1 : w1.cell? ⟨C, 1, none⟩ = some (.slice GA ng Gc) := HB.out.cell 0 rfl 1 rfl
  have b2 : w1.cell? ⟨C, 2, none⟩ = some (.int .i64 gl) := HB.out.cell 0 rfl 2 rfl
  have HW := Lib.hid (sWrong_any d gl gs 0 piece _ w1 (Rs.ext (Rs.ext RI.ext) _ _ _ _ HB.out.ext HG.out.1) HG.out.2)
  go_wp2_with fail
  refine HW.out.mono ?_
  clear HW
  rintro e w2 ⟨rfl, hx2⟩
  have HO2 := Lib.hid (HB.out.next hx2)
  clear hx2 b0 b1 b2 HB
  obtain ⟨er, her⟩ : ∃ er, Rb.err1 d gl gs 0 piece = er := ⟨_, rfl⟩
  rw [her]
  have HER := Lib.hid her
  clear her
  by_cases h0 : er = 0
  case neg =>
    have hne : (er == 0) = false := by rw [beq_eq_false_iff_ne]; exact h0
    have hne2 : (er != 0) = true := by rw [bne_iff_ne]; exact h0
    have hb := Rb.localE_bad (d := d) (gl := gl) (gs := gs) (piece := piece) (by rw [HER.out]; exact h0)
    rw [HER.out] at hb
    have q0 := HO2.out.cell 1 rfl 0 rfl
    have q1 := HO2.out.cell 1 rfl 1 rfl
    have q2 := HO2.out.cell 1 rfl 2 rfl
    have q3 := HO2.out.cell 1 rfl 3 rfl
    have f0 : w2.frozen? ⟨Q, 0, none⟩ = false := HO2.out.frozen 1 rfl 0
    have f1 : w2.frozen? ⟨Q, 1, none⟩ = false := HO2.out.frozen 1 rfl 1
    have f2 : w2.frozen? ⟨Q, 2, none⟩ = false := HO2.out.frozen 1 rfl 2
    have f3 : w2.frozen? ⟨Q, 3, none⟩ = false := HO2.out.frozen 1 rfl 3
    have HS1 := Lib.hid (And.intro hb ((((HO2.out.store 1 rfl 0 (.int .i64 0)).store 1 rfl 1 (.slice none 0 0)).store 1 rfl 2 (.slice none 0 0)).store 1 rfl 3 (.int .i64 er)))
    clear hb h0
    go_wp2_with fail
    refine bodyPost_ret (results_cell1 (v := .agg #[.int .i64 0, .slice none 0 0, .slice none 0 0, .int .i64 er]) rfl rfl ?_) rfl ?_
    · go_simp
    rw [HS1.out.1.1, HS1.out.1.2]
    exact ⟨_, _, rfl, Rs.nil _, Rs.nil _, (fun b hb => by rcases hb with hb | hb <;> cases hb), HS1.out.2.ext⟩
  case pos =>
    subst h0
    obtain ⟨he0, hp0, hp1⟩ := Rb.err1_zero HER.out
    obtain ⟨hck, hn16, _, _⟩ := Rb.err0_zero he0
    obtain ⟨p, rfl⟩ : ∃ p : Nat, piece = p := ⟨piece.toNat, by omega⟩
    have hk := Cd.check_ok hck
    have hd0 : 0 ≤ d := by omega
    have hd1 : d ≤ 1000 := by omega
    have HCK := Lib.hid (And.intro hck hn16)
    have hG2 := Rs.ext (Rs.ext RI.ext) _ _ _ _ HO2.out.ext HG.out.1
    have hng : gs.length = ng := hG2.len.symm
    have hng24 : ng ≤ 24 := by omega
    have HG2 := Lib.hid (And.intro hG2 hng)
    clear he0 hp0 hp1 hck hn16 hk hG2 hng
    go_wp2_with fail
    go_loopw [6] (fun v6 wr => ∃ i : Nat, i ≤ ng ∧ v6 = .int .i64 (i : Nat) ∧ Hid (Ext w2 wr ∧ Owns w wr [⟨.slice (some ⟨C, 0, none⟩) 3 3, 24, 1, 3, [.int .i64 d, .slice GA ng Gc, .int .i64 gl]⟩, ⟨.slice (some ⟨Q, 0, none⟩) 4 4, 39, 1, 4, [.int .i64 0, .slice none 0 0, .slice none 0 0, .int .i64 0]⟩] ∧ ∀ j, j < i → (p : Int) ∉ Rb.group d gs j)) (fun v6 _ => ng - (intOf v6).toNat)
    case atStart => exact ⟨0, Nat.zero_le _, rfl, Lib.hid ⟨Ext.refl _, HO2.out, fun j h => absurd h (by omega)⟩⟩
    case round =>
      obtain ⟨i, hi, rfl, HI⟩ := hrel
      have b0 : wr.cell? ⟨C, 0, none⟩ = some (.int .i64 d) := HI.out.2.1.cell 0 rfl 0 rfl
      have b1 : wr.cell? ⟨C, 1, none⟩ = some (.slice GA ng Gc) := HI.out.2.1.cell 0 rfl 1 rfl
      have b2 : wr.cell? ⟨C, 2, none⟩ = some (.int .i64 gl) := HI.out.2.1.cell 0 rfl 2 rfl
      by_cases hlt : i < ng
      · obtain ⟨ga, u, hga, hcx, hux⟩ := (Rs.ext (Rs.ext RI.ext) _ _ _ _ HI.out.1 HG2.out.1).at (i := i) (by rw [HG2.out.2]; exact hlt)
        subst hga
        obtain ⟨XA, cx, rfl, hj1⟩ := hux.form
        clear hj1
        have hgi : gs[i]'(by rw [HG2.out.2]; exact hlt) = gs.getD i [] := by rw [List.getD_eq_getElem?_getD, List.getElem?_eq_getElem (by rw [HG2.out.2]; exact hlt)]; rfl
        rw [hgi] at hcx hux
        obtain ⟨m, hm⟩ : ∃ m, (gs.getD i []).length = m := ⟨_, rfl⟩
        rw [hm] at hcx hux
        have hup := Rb.group_up HCK.out.1 (i := i) (by rw [HG2.out.2]; exact hlt)
        have hbd : ∀ z ∈ Rb.group d gs i, 0 ≤ z ∧ z < 16 := fun z hz => by
          have h1 := Rb.group_bounds HCK.out.1 (i := i) (by rw [HG2.out.2]; exact hlt) hz
          have h2 := HCK.out.2
          omega
        have hal : Rb.group d gs i = gs.getD i [] ++ [d + (i : Int)] := rfl
        have hm16 : m + 1 ≤ 16 := by
          have h1 := Rb.asc_few hup hbd
          rw [hal, List.length_append, hm] at h1
          exact h1
        have hrd : Rd wr XA ((gs.getD i []).map (.int .i64)) := Rs.rdI hux
        have HRD := Lib.hid hrd
        obtain ⟨dd, hdd⟩ : ∃ dd, d + (i : Int) = dd := ⟨_, rfl⟩
        have HAL := Lib.hid (And.intro hup (And.intro hbd (And.intro hal hdd)))
        clear hgi hux hup hbd hal hrd
        go_upto_region 7 with fail
        refine wp_atEnd' (lo7 wr C ng Gc i m cx XA ga d dd (gs.getD i []) hlt hd0 hd1 (by omega) hdd b0 b1 hcx hm (by omega) HRD _ _ _ _ _ _ _ _ _ _ _ _ _ _ _ _ _ _ _ _ _ _ _ _ _ _ _ _ _ _ _ _ _ _ _ _ _ _ _ _ _ _ _ _ _ _ _ _ _ _ _ _ _ _ _ _ _ _ _ _ _ _ _ _ _ _ _ _ _ _ ?_)
        rintro g12 k12 u25 u26 u27 u28 u29 u30 u31 u32 u33 u34 u35 u36 u37 w5 hO5
        obtain ⟨al, hal⟩ : ∃ al, Rb.group d gs i = al := ⟨_, rfl⟩
        obtain ⟨N, hN⟩ : ∃ N, m + 1 = N := ⟨_, rfl⟩
        have e0m : 0 + m + 1 = N := by omega
        have hxs : (gs.getD i []).map (Value.int .i64) ++ [.int .i64 dd] = al.map (.int .i64) := by
          rw [← hal, HAL.out.2.2.1, HAL.out.2.2.2, List.map_append]; rfl
        have hlN : al.length = N := by rw [← hal, HAL.out.2.2.1, List.length_append, hm, ← hN]; rfl
        rw [e0m, hxs] at hO5
        rw [e0m]
        have hrs : Rs RI w5 (.slice (some ⟨g12, 0, none⟩) N k12) al := Rs.of_ints (hO5.rd 0 rfl) hlN.symm (by omega) fun z hz => by
          rw [← hal] at hz
          have := HAL.out.2.1 z hz
          omega
        have HR5 := Lib.hid (And.intro hrs (And.intro hlN (And.intro (HI.out.1.trans hO5.ext) (And.intro (HI.out.2.1.next hO5.ext) (And.intro HI.out.2.2 hal)))))
        have hN16 : N ≤ 16 := by omega
        clear hO5 hal hN e0m hxs hlN hrs hm hdd hcx hm16 b0 b1 b2 HRD HI
        have hO6 := (Owns.start w5 (L := [nilRow 3, nilRow 5, no]) (by intro r hr; simp only [List.mem_cons, List.not_mem_nil, or_false] at hr; rcases hr with rfl | rfl | rfl <;> exact ⟨rfl, rfl, rfl⟩)).new 2 #[.int .i64 (p : Nat), .slice none 0 0, .slice none 0 0] 30 (by simp [maxLen])
        have HO6 := Lib.hid (hO6.sublist (L' := [nilRow 3, nilRow 5, ⟨.slice (some ⟨w5.heap.size, 0, none⟩) 3 3, 30, 1, 3, [.int .i64 (p : Nat), .slice none 0 0, .slice none 0 0]⟩]) (List.Sublist.refl _))
        clear hO6
        go_upto_region 10 with fail
        obtain ⟨w6, hw6⟩ : ∃ w6, w5.alloc (.cells #[.int .i64 (p : Nat), .slice none 0 0, .slice none 0 0] 30) = w6 := ⟨_, rfl⟩
        obtain ⟨B, hB⟩ : ∃ B, w5.heap.size = B := ⟨_, rfl⟩
        rw [hw6, hB] at HO6
        rw [hw6, hB]
        clear hw6 hB
        go_wp2_with fail
        go_loopw [8, 10] (fun v8 vi wr => ∃ (k na cF cC : Nat) (FA CA : Option Addr) (bb : Bool), k ≤ N ∧ vi = .int .i64 (k : Nat) ∧ v8 = .bool bb ∧ na ≤ k ∧ Hid (bb = (al.take k).any (· == (p : Int)) ∧ na = (Rb.oth (p : Nat) (al.take k)).length ∧ Owns w5 wr [⟨.slice (some ⟨B, 0, none⟩) 3 3, 30, 1, 3, [.int .i64 (p : Nat), .slice FA na cF, .slice CA na cC]⟩, ⟨.slice FA na cF, 3, 1, na, (Rb.oth (p : Nat) (al.take k)).map (.int .i64)⟩, ⟨.slice CA na cC, 5, 1, na, List.replicate na (bv 1)⟩])) (fun _ vi _ => N - (intOf vi).toNat)
        case atStart => exact ⟨0, 0, 0, 0, none, none, false, Nat.zero_le _, rfl, rfl, Nat.le_refl _, Lib.hid ⟨rfl, rfl, HO6.out.perm (List.perm_append_comm (l₁ := [nilRow 3, nilRow 5]) (l₂ := [_]))⟩⟩
        case round =>
          obtain ⟨k, na, cF, cC, FA, CA, bb, hk, rfl, rfl, hna, HI⟩ := hrel
          by_cases hltk : k < N
          · have hkl : k < al.length := by rw [HR5.out.2.1]; exact hltk
            obtain ⟨fd, u2, hfd, hc2, hu2⟩ := HR5.out.1.at hkl
            injection hfd with hfd
            subst hfd
            have hue := hu2.1
            subst hue
            obtain ⟨fk, hfk⟩ : ∃ fk, al[k] = fk := ⟨_, rfl⟩
            have hany := Rb.any_snoc hkl (p : Int)
            have hoth := Rb.oth_snoc hkl (p : Int)
            rw [hfk] at hc2 hany hoth
            have hcw := HI.out.2.2.ext.cell hc2
            rw [Addr.add_lit, Nat.zero_add] at hcw
            have HS := Lib.hid (And.intro hany hoth)
            clear hu2 hkl hfk hany hoth
            by_cases hpe : fk = (p : Int)
            · subst hpe
              have g1 : (al.take (k + 1)).any (· == (p : Int)) = true := HS.out.1.trans (by simp)
              have g2 : Rb.oth (p : Int) (al.take (k + 1)) = Rb.oth (p : Int) (al.take k) := HS.out.2.trans (by rw [if_pos rfl, List.append_nil])
              have HS2 := Lib.hid (And.intro g1 g2)
              clear HS hc2 g1 g2
              go_wp2_with fail
              go_roundw
              case rel => exact ⟨k + 1, na, cF, cC, FA, CA, true, by omega, by go_num, (by first | trivial | rfl), by omega, Lib.hid ⟨HS2.out.1.symm, by rw [HS2.out.2]; exact HI.out.2.1, by rw [HS2.out.2]; exact HI.out.2.2⟩⟩
              case measure => simp [intOf]; omega
            · have hpb : (fk == (p : Int)) = false := by rw [beq_eq_false_iff_ne]; exact hpe
              have g1 : (al.take (k + 1)).any (· == (p : Int)) = (al.take k).any (· == (p : Int)) := HS.out.1.trans (by rw [hpb, Bool.or_false])
              have g2 : Rb.oth (p : Int) (al.take (k + 1)) = Rb.oth (p : Int) (al.take k) ++ [fk] := HS.out.2.trans (by rw [if_neg hpe])
              have HS2 := Lib.hid (And.intro g1 g2)
              clear g1 g2
              have HOA := Lib.hid HI.out.2.2
              have HNA := Lib.hid (And.intro HI.out.1 HI.out.2.1)
              clear HS HI
              go_upto_region 15 with fail
              refine wp_atEnd' (lo15 w5 wr B k N na k12 cF FA ⟨g12, 0, none⟩ _ _ _ _ fk hc2 hltk (by omega) HOA _ _ _ _ _ _ _ _ _ _ _ _ _ _ _ _ _ _ _ _ _ _ _ _ _ _ _ _ _ _ _ _ _ _ _ _ _ _ _ _ _ _ _ _ _ _ _ _ _ _ _ _ _ _ _ _ _ _ _ _ _ _ _ _ _ _ _ _ _ ?_)
              rintro g7 k7 u52 u53 u54 u55 u56 u57 u58 u59 u60 wy hOy
              have HOY := Lib.hid hOy
              have e2 : wy.cell? ⟨B, 2, none⟩ = some (.slice CA na cC) := hOy.cell 0 rfl 2 rfl
              clear hOy hcw HOA hpb
              go_wp2_with (refine wpl_append_owns (u := bv 1) 28 5 rfl (.tmp 62) (.tmp 63) rfl Tryd.underlying28 info_u8 rfl HOY.out.push1 2 rfl rfl rfl (cell_of_row _ _ 0 _ _ (0, 0) (heap_new _ _)) rfl (by omega) (by decide) ?_; intro g9 c9 w9 hO9 hg9; have s2 : w9.cell? ⟨B, 2, none⟩ = some (.slice CA na cC) := hO9.cell 0 rfl 2 rfl; have t2 : w9.frozen? ⟨B, 2, none⟩ = false := hO9.frozen 0 rfl 2; have HST := Lib.hid ((hO9.store 0 rfl 2 (.slice (some ⟨g9, 0, none⟩) (na + 1) c9)).front (L := [⟨.slice (some ⟨B, 0, none⟩) 3 3, 30, 1, 3, [.int .i64 (p : Nat), .slice (some ⟨g7, 0, none⟩) (na + 1) k7, .slice (some ⟨g9, 0, none⟩) (na + 1) c9]⟩, ⟨.slice (some ⟨g7, 0, none⟩) (na + 1) k7, 3, 1, na + 1, (Rb.oth (p : Nat) (al.take k)).map (.int .i64) ++ [.int .i64 fk]⟩, ⟨.slice (some ⟨g9, 0, none⟩) (na + 1) c9, 5, 1, na + 1, List.replicate na (bv 1) ++ [bv 1]⟩]) (M := [_])); clear hO9 hg9)
              go_roundw
              case rel => exact ⟨k + 1, na + 1, k7, c9, some ⟨g7, 0, none⟩, some ⟨g9, 0, none⟩, bb, by omega, by go_num, (by first | trivial | rfl), by omega, Lib.hid ⟨HNA.out.1.trans HS2.out.1.symm, by rw [HS2.out.2, List.length_append, ← HNA.out.2]; rfl, by rw [HS2.out.2, List.map_append, List.replicate_succ']; exact HST.out⟩⟩
              case measure => simp [intOf]; omega
          · obtain rfl : k = N := by omega
            have htk : al.take k = al := List.take_of_length_le (by rw [HR5.out.2.1]; exact Nat.le_refl _)
            obtain ⟨hbb, hnl, hO7⟩ := HI.out
            rw [htk] at hbb hnl hO7
            have hO8 := HR5.out.2.2.2.1.next hO7.ext
            have hx8 := HR5.out.2.2.1.trans hO7.ext
            cases bb with
            | false =>
              have hno : (p : Int) ∉ Rb.group d gs i := by
                rw [HR5.out.2.2.2.2.2]
                exact fun h => by
                  have h1 := List.any_eq_false.1 hbb.symm _ h
                  simp at h1
              have HNXT := Lib.hid (And.intro hx8 (And.intro hO8 (show ∀ j, j < i + 1 → (p : Int) ∉ Rb.group d gs j from fun j hj => by
                by_cases e : j = i
                · rw [e]; exact hno
                · exact HR5.out.2.2.2.2.1 j (by omega))))
              clear htk hbb hnl hO7 hO8 hx8 hno HI
              go_wp2_with fail
              go_roundw
              case rel => exact ⟨i + 1, by omega, by go_num, HNXT⟩
              case measure => simp [intOf]; omega
            | true =>
              have hyes : (p : Int) ∈ Rb.group d gs i := by
                rw [HR5.out.2.2.2.2.2]
                obtain ⟨x, hx, hxp⟩ := List.any_eq_true.1 hbb.symm
                rw [← eq_of_beq hxp]; exact hx
              have hho := Rb.homeOf_at (d := d) (gs := gs) (piece := (p : Int)) (by rw [HG2.out.2]; exact hlt) hyes HR5.out.2.2.2.2.1
              have hle := Rb.localE_some HER.out hho
              have hlo := Rb.local_ones HCK.out.1 (by rw [HG2.out.2]; exact hlt) hyes
              rw [HR5.out.2.2.2.2.2] at hlo
              rw [hlo] at hle
              rw [← hnl] at hle
              have hu := HAL.out.1
              rw [HR5.out.2.2.2.2.2] at hu
              have b0 : wr.cell? ⟨B, 0, none⟩ = some (.int .i64 (p : Nat)) := hO7.cell 0 rfl 0 rfl
              have b1 : wr.cell? ⟨B, 1, none⟩ = some (.slice FA na cF) := hO7.cell 0 rfl 1 rfl
              have b2 : wr.cell? ⟨B, 2, none⟩ = some (.slice CA na cC) := hO7.cell 0 rfl 2 rfl
              have q0 := hO8.cell 1 rfl 0 rfl
              have q1 := hO8.cell 1 rfl 1 rfl
              have q2 := hO8.cell 1 rfl 2 rfl
              have q3 := hO8.cell 1 rfl 3 rfl
              have f0 : wr.frozen? ⟨Q, 0, none⟩ = false := hO8.frozen 1 rfl 0
              have f1 : wr.frozen? ⟨Q, 1, none⟩ = false := hO8.frozen 1 rfl 1
              have f2 : wr.frozen? ⟨Q, 2, none⟩ = false := hO8.frozen 1 rfl 2
              have f3 : wr.frozen? ⟨Q, 3, none⟩ = false := hO8.frozen 1 rfl 3
              have hQ5 : Q < w5.heap.size := ((HR5.out.2.2.2.1.row 1 rfl).lt Q rfl).2
              have hfa : ∀ b, (Value.slice FA na cF).ownBlock = some b → b ≠ Q := fun b e => by
                have := (hO7.row 1 rfl).lt b e
                omega
              have hca : ∀ b, (Value.slice CA na cC).ownBlock = some b → b ≠ Q := fun b e => by
                have := (hO7.row 2 rfl).lt b e
                omega
              have hsrc : Rs RI wr (.slice FA na cF) (Rb.oth (p : Int) al) := by
                refine Rs.of_ints (hO7.rd 1 rfl) hnl (by omega) (fun z hz => ?_)
                have h1 := Rb.oth_sub hz
                rw [← HR5.out.2.2.2.2.2] at h1
                have := HAL.out.2.1 z h1
                omega
              have hcoef : Rs RB wr (.slice CA na cC) (List.replicate na (1 : UInt8)) := by
                have h1 := Rs.of_rd (w := wr) (A := CA) (c := cC) (xs := List.replicate na (1 : UInt8)) (by rw [List.map_replicate]; exact hO7.rd 2 rfl) (by simp; omega)
                rw [List.length_replicate] at h1
                exact h1
              have hsrc2 := rs_set1 (Q := Q) (k := 3) (u := .int .i64 0) (fun _ _ _ _ h => h) (rs_set1 (Q := Q) (k := 2) (u := .slice CA na cC) (fun _ _ _ _ h => h) (rs_set1 (Q := Q) (k := 1) (u := .slice FA na cF) (fun _ _ _ _ h => h) (rs_set1 (Q := Q) (k := 0) (u := .int .i64 (p : Nat)) (fun _ _ _ _ h => h) hsrc hfa) hfa) hfa) hfa
              have hcoef2 := rs_set1 (Q := Q) (k := 3) (u := .int .i64 0) (fun _ _ _ _ h => h) (rs_set1 (Q := Q) (k := 2) (u := .slice CA na cC) (fun _ _ _ _ h => h) (rs_set1 (Q := Q) (k := 1) (u := .slice FA na cF) (fun _ _ _ _ h => h) (rs_set1 (Q := Q) (k := 0) (u := .int .i64 (p : Nat)) (fun _ _ _ _ h => h) hcoef hca) hca) hca) hca
              have hlow : ∀ b, (Value.slice FA na cF).ownBlock = some b ∨ (Value.slice CA na cC).ownBlock = some b → w.heap.size ≤ b := fun b hb => by
                have h2 := HR5.out.2.2.2.1.ext.size
                rcases hb with hb | hb
                · have := (hO7.row 1 rfl).lt b hb; omega
                · have := (hO7.row 2 rfl).lt b hb; omega
              have HRES := Lib.hid (And.intro hle (And.intro hsrc2 (And.intro hcoef2 (And.intro hlow ((((hO8.store 1 rfl 0 (.int .i64 (p : Nat))).store 1 rfl 1 (.slice FA na cF)).store 1 rfl 2 (.slice CA na cC)).store 1 rfl 3 (.int .i64 0))))))
              clear htk hbb hnl hO7 hO8 hx8 hyes hho hle hlo hu hQ5 hfa hca hsrc hcoef hsrc2 hcoef2 hlow HI
              go_wp2_with fail
              refine bodyPost_ret (results_cell1 (v := .agg #[.int .i64 (p : Nat), .slice FA na cF, .slice CA na cC, .int .i64 0]) rfl rfl ?_) rfl ?_
              · go_simp
              rw [HRES.out.1.1, HRES.out.1.2]
              exact ⟨_, _, rfl, HRES.out.2.1, HRES.out.2.2.1, HRES.out.2.2.2.1, HRES.out.2.2.2.2.ext⟩
      · obtain rfl : i = ng := by omega
        have hho := Rb.homeOf_no (d := d) (gs := gs) (piece := (p : Int)) (fun j hj => HI.out.2.2 j (by rw [HG2.out.2] at hj; exact hj))
        have hb := Rb.localE_none HER.out hho
        have hO8 := HI.out.2.1
        have q0 := hO8.cell 1 rfl 0 rfl
        have q1 := hO8.cell 1 rfl 1 rfl
        have q2 := hO8.cell 1 rfl 2 rfl
        have q3 := hO8.cell 1 rfl 3 rfl
        have f0 : wr.frozen? ⟨Q, 0, none⟩ = false := hO8.frozen 1 rfl 0
        have f1 : wr.frozen? ⟨Q, 1, none⟩ = false := hO8.frozen 1 rfl 1
        have f2 : wr.frozen? ⟨Q, 2, none⟩ = false := hO8.frozen 1 rfl 2
        have f3 : wr.frozen? ⟨Q, 3, none⟩ = false := hO8.frozen 1 rfl 3
        have HS1 := Lib.hid (And.intro hb ((((hO8.store 1 rfl 0 (.int .i64 0)).store 1 rfl 1 (.slice none 0 0)).store 1 rfl 2 (.slice none 0 0)).store 1 rfl 3 (.int .i64 8)))
        clear hho hb hO8
        go_wp2_with fail
        refine bodyPost_ret (results_cell1 (v := .agg #[.int .i64 0, .slice none 0 0, .slice none 0 0, .int .i64 8]) rfl rfl ?_) rfl ?_
        · go_simp
        rw [HS1.out.1.1, HS1.out.1.2]
        exact ⟨_, _, rfl, Rs.nil _, Rs.nil _, (fun b hb => by rcases hb with hb | hb <;> cases hb), HS1.out.2.ext⟩
end Go.Proofs.YtdmljilcbndmfaaDoor
