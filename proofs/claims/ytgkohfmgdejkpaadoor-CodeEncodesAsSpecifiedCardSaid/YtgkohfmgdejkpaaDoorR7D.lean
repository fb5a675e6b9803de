/- THE WALKS over the specification of codes: Rows, part, Encode, SameRows, SameTexts, Few. -/
import Derived.Test.YtgkohfmgdejkpaaDoorR7C
namespace Cd
/-- A data piece of a chunk, as the specification cuts it. -/
def partR (data : List UInt8) (i sz : Nat) : List UInt8 := (List.range sz).map fun j => data.getD (i * sz + j) 0
theorem partR_cut {d i : Nat} {data : List UInt8} (hd : 0 < d) (hi : i < d) : partR data i (sizeN d data.length) = (cuts d data).getD i [] := by
  have hl := cuts_even hd data hi
  apply List.ext_getElem
  · rw [hl]; simp [partR]
  · intro x h1 h2
    have hx : x < sizeN d data.length := by simpa [partR] using h1
    have h3 : ((cuts d data).getD i []).getD x 0 = ((cuts d data).getD i [])[x] := Go.Proofs.YtgkohfmgdejkpaaDoor.getD_get h2
    rw [← h3, cuts_get hi, cutAt_get hx]
    have h4 : (partR data i (sizeN d data.length))[x] = data.getD (i * sizeN d data.length + x) 0 := by simp [partR]
    rw [h4]
    unfold fill
    rw [List.getD_eq_getElem?_getD, List.getD_eq_getElem?_getD, List.getElem?_append]
    split
    · rfl
    · rename_i hge
      rw [List.getElem?_eq_none (by omega), List.getElem?_replicate]
      split <;> rfl
end Cd
namespace Go.Proofs.YtgkohfmgdejkpaaDoor
open Go.RowKit
/-- A row of bytes that a call has made. -/
def byteRow (A : Option Addr) (c : Nat) (r : List UInt8) : LRow := ⟨.slice A r.length c, 5, 1, r.length, r.map bv⟩
/-- Rows of bytes that a call has made, and the list of them. -/
def RowsOwn (w0 w : World) (A : Option Addr) (n c : Nat) (rs : List (List UInt8)) : Prop :=
  ∃ L : List LRow, n = rs.length ∧ L.length = rs.length ∧ (∀ (j : Nat) (r : List UInt8), rs[j]? = some r → ∃ A2 c2, L[j]? = some (byteRow A2 c2 r)) ∧ Owns w0 w (⟨.slice A n c, 57, 1, n, L.map (·.v)⟩ :: L)
/-- The same with one row more, that is not in the list yet. -/
def RowsMore (w0 w : World) (A : Option Addr) (n c : Nat) (rs : List (List UInt8)) (A2 : Option Addr) (c2 : Nat) (r : List UInt8) : Prop :=
  ∃ L : List LRow, n = rs.length ∧ L.length = rs.length ∧ (∀ (j : Nat) (r : List UInt8), rs[j]? = some r → ∃ A2 c2, L[j]? = some (byteRow A2 c2 r)) ∧ Owns w0 w ((⟨.slice A n c, 57, 1, n, L.map (·.v)⟩ :: L) ++ [byteRow A2 c2 r])
theorem RowsOwn.nil (w : World) : RowsOwn w w none 0 0 [] := ⟨[], rfl, rfl, fun j r h => by simp at h, Owns.start w (by intro r hr; simp at hr; subst hr; exact ⟨rfl, rfl, rfl⟩)⟩
theorem RowsOwn.next {w0 w w' : World} {A : Option Addr} {n c : Nat} {rs : List (List UInt8)} (h : RowsOwn w0 w A n c rs) (hx : Ext w w') : RowsOwn w0 w' A n c rs := by
  obtain ⟨L, h1, h2, h3, h4⟩ := h
  exact ⟨L, h1, h2, h3, h4.next hx⟩
theorem RowsOwn.ext {w0 w : World} {A : Option Addr} {n c : Nat} {rs : List (List UInt8)} (h : RowsOwn w0 w A n c rs) : Ext w0 w := by
  obtain ⟨L, h1, h2, h3, h4⟩ := h
  exact h4.ext
theorem RowsOwn.older {w wb wr : World} {A : Option Addr} {n c : Nat} {rs : List (List UInt8)} (h : RowsOwn wb wr A n c rs) (hx : Ext w wb) : RowsOwn w wr A n c rs := by
  obtain ⟨L, h1, h2, h3, h4⟩ := h
  exact ⟨L, h1, h2, h3, h4.older hx⟩
theorem RowsOwn.more {w0 w w2 : World} {A A2 : Option Addr} {n c c2 : Nat} {rs : List (List UInt8)} {r : List UInt8} (h : RowsOwn w0 w A n c rs) (hx : Ext w w2) (ho : w2.ownsRow w.heap.size 5 1 (.slice A2 r.length c2) r.length (r.map bv)) : RowsMore w0 w2 A n c rs A2 c2 r := by
  obtain ⟨L, h1, h2, h3, h4⟩ := h
  exact ⟨L, h1, h2, h3, h4.behind hx ho⟩
theorem RowsOwn.rs {w0 w : World} {A : Option Addr} {n c : Nat} {rs : List (List UInt8)} (h : RowsOwn w0 w A n c rs) (hl : rs.length ≤ 9223372036854775807) (hw : ∀ r ∈ rs, r.length ≤ 9223372036854775807) : Rs (Rs RB) w (.slice A n c) rs := by
  obtain ⟨L, rfl, h2, h3, h4⟩ := h
  refine ⟨A, c, rfl, hl, fun i r hi => ?_⟩
  obtain ⟨A2, c2, hL⟩ := h3 i r hi
  have hv : (L.map (·.v))[i]? = some (.slice A2 r.length c2) := by rw [List.getElem?_map, hL]; rfl
  obtain ⟨ad, e1, _, e3⟩ := h4.rd 0 rfl i _ hv
  exact ⟨ad, _, e1, e3, Rs.of_rd (h4.rd (i + 1) (n := r.length) hL) (hw r (List.mem_of_getElem? hi))⟩
/-- 'out = append(out, r)': a row of bytes that is the call's own. -/
theorem wpl_append_row {P : Program} {w0 w : World} {e' : TypeId} {ops : Array Oper} {rest : List Oper} {o : Oper} {a : Act} {Q : Exit → Act → World → Prop} (t : TypeId) (hgd : o.guard = none) (s x : Operand)
    (ho : o.op = .call { callee := .builtin .append, args := #[s, x], argTypes := #[t, t] })
    {z : Value} (ht : P.underlying t = some (.slice 57)) (hi : (P.info? 57).map (fun i => (i.zero, i.size, i.bytes)) = some (some z, 1, 24)) (hz1 : z.cells.size = 1)
    {A A2 : Option Addr} {n c c2 m : Nat} {rs : List (List UInt8)} {r : List UInt8} (h : RowsMore w0 w A n c rs A2 c2 r) (hm : m = r.length) (hs : a.eval s = .slice A n c)
    (hx : a.eval x = .slice (some ⟨w.heap.size, 0, none⟩) 1 1) (hn : n < 1000000000000)
    (hK : ∀ A' c' w', RowsOwn w0 w' A' (n + 1) c' (rs ++ [r]) → wpList P ops Q rest (a.put o.dst (.slice A' (n + 1) c')) w') :
    wpList P ops Q (o :: rest) a (w.alloc (.cells #[.slice A2 m c2] e')) := by
  subst hm
  obtain ⟨L, h1, h2, h3, h4⟩ := h
  refine wpl_append_owns (u := .slice A2 r.length c2) t 57 hgd s x ho ht hi hz1 (h4.push1 (e := e')) 0 rfl hs hx (cell_of_row _ _ 0 #[_] e' (0, 0) (heap_new w _)) rfl hn (by decide) ?_
  intro g cap w' hO _
  refine hK _ _ _ ⟨L ++ [byteRow A2 c2 r], by simp [h1], by simp [h2], fun j q hj => ?_, ?_⟩
  · rw [List.getElem?_append] at hj ⊢
    rw [h2]
    split
    · rename_i hlt
      rw [if_pos hlt] at hj
      exact h3 j q hj
    · rename_i hlt
      rw [if_neg hlt] at hj
      cases hk : j - rs.length with
      | zero =>
        rw [hk] at hj
        simp at hj
        subst hj
        exact ⟨A2, c2, rfl⟩
      | succ k => rw [hk] at hj; simp at hj
  · have h5 := hO.sublist (L' := ⟨.slice (some ⟨g, 0, none⟩) (n + 1) cap, 57, 1, n + 1, L.map (·.v) ++ [.slice A2 r.length c2]⟩ :: (L ++ [byteRow A2 c2 r])) (by simp)
    simpa [byteRow] using h5
theorem rs_nil {α : Type} (R : World → Value → α → Prop) (w : World) : Rs R w (.slice none 0 0) [] := ⟨none, 0, rfl, by simp, fun i x h => by simp at h⟩
def rowsR (d : Nat) (gs : List (List Int)) (k : Nat) : List (List UInt8) := (List.range k).map fun j => (List.range d).map (Cd.rowAt d gs j)
theorem rowsR_succ (d : Nat) (gs : List (List Int)) (k : Nat) : rowsR d gs (k + 1) = rowsR d gs k ++ [(List.range d).map (Cd.rowAt d gs k)] := by simp [rowsR, List.range_succ]
theorem rowsR_all (d gl : Nat) (gs : List (List Int)) : rowsR d gs (d + gs.length + gl) = Cd.rows d gs gl := by
  apply List.ext_getElem
  · rw [Cd.rows_len]; simp [rowsR]
  · intro k h1 h2
    have := Cd.rows_get (d := d) (gl := gl) (gs := gs) (k := k) (by rw [← Cd.rows_len]; exact h2)
    rw [getD_get h2] at this
    rw [this]
    simp [rowsR]
theorem rowsR_len (d : Nat) (gs : List (List Int)) (k : Nat) : (rowsR d gs k).length = k := by simp [rowsR]
set_option maxHeartbeats 4000000 in
theorem rRows_any (d gl : Int) (gs : List (List Int)) (G : Value) (w : World) (hG : Rs (Rs RI) w G gs) (hn : gs.length ≤ 1000000) :
    Calls Tryd.prog 19 #[.agg #[.int .i64 d, G, .int .i64 gl]] w fun e w' => ∃ v, e = .returned v ∧ Rs (Rs RB) w' v (Cd.rowsOf d gs gl) ∧ Ext w w' := by
  have hx0 := (Ext.refl w).alloc (.cells #[.int .i64 d, G, .int .i64 gl] 24)
  have HX := Lib.hid (And.intro hx0 (Rs.ext (Rs.ext RI.ext) _ _ _ _ hx0 hG))
  obtain ⟨GA, Gc, rfl, hgl⟩ := hG.form
  by_cases h0 : Cd.check d gs gl = 0
  · have hck := Cd.check_ok h0
    obtain ⟨dn, rfl⟩ : ∃ n : Nat, d = n := ⟨d.toNat, by omega⟩
    obtain ⟨gn, rfl⟩ : ∃ n : Nat, gl = n := ⟨gl.toNat, by omega⟩
    obtain ⟨p, hp⟩ : ∃ p, dn + gs.length + gn = p := ⟨_, rfl⟩
    have hpc : Cd.pieces dn gs gn = (p : Int) := by rw [Cd.pieces_ok h0]; omega
    have hfin : rowsR dn gs p = Cd.rowsOf dn gs gn := by rw [Cd.rowsOf_ok h0, ← hp, rowsR_all]; rfl
    have hp24 : p ≤ 24 := by omega
    have hd16 : dn ≤ 16 := by omega
    have HP := Lib.hid (And.intro h0 (And.intro hp (And.intro hpc hfin)))
    clear hG hx0 h0 hck hp hpc hfin
    go_enter Tryd.func19, Tryd.ntmps19
    go_wp2_with fail
    go_loopw [3, 4] (fun vo vi wr => ∃ (i : Nat) (A : Option Addr) (cp : Nat), i ≤ p ∧ vi = .int .i64 i ∧ vo = .slice A i cp ∧ Hid (RowsOwn (w.alloc (.cells #[.int .i64 dn, .slice GA gs.length Gc, .int .i64 gn] 24)) wr A i cp (rowsR dn gs i))) (fun _ vi _ => p - (intOf vi).toNat)
    case atStart => exact ⟨0, none, 0, Nat.zero_le _, rfl, rfl, Lib.hid (RowsOwn.nil _)⟩
    case round =>
      obtain ⟨i, A, cp, hi, rfl, rfl, HR0⟩ := hrel
      have HR := Lib.hid (And.intro HR0.out.ext HR0.out)
      clear HR0
      have hc0 : wr.cell? ⟨w.heap.size, 0, none⟩ = some (.int .i64 dn) := HR.out.1.cell (by go_simp)
      have hc1 : wr.cell? ⟨w.heap.size, 1, none⟩ = some (.slice GA gs.length Gc) := HR.out.1.cell (by go_simp)
      have hc2 : wr.cell? ⟨w.heap.size, 2, none⟩ = some (.int .i64 gn) := HR.out.1.cell (by go_simp)
      have HC := Lib.hid (And.intro hc0 (And.intro hc1 hc2))
      go_wp2_with fail
      refine (rPieces_any dn gn gs _ _ (Rs.ext (Rs.ext RI.ext) _ _ _ _ HR.out.1 HX.out.2) hn).mono ?_
      rintro e w1 ⟨rfl, hx1⟩
      rw [HP.out.2.2.1]
      have hd0 : w1.cell? ⟨w.heap.size, 0, none⟩ = some (.int .i64 dn) := hx1.cell HC.out.1
      have hd1 : w1.cell? ⟨w.heap.size, 1, none⟩ = some (.slice GA gs.length Gc) := hx1.cell HC.out.2.1
      have hd2 : w1.cell? ⟨w.heap.size, 2, none⟩ = some (.int .i64 gn) := hx1.cell HC.out.2.2
      have HX1 := Lib.hid hx1
      clear hx1 hc0 hc1 hc2
      by_cases hlt : i < p
      · go_wp2_with fail
        refine (rRow_ok dn gn i gs _ _ (Rs.ext (Rs.ext RI.ext) _ _ _ _ (HR.out.1.trans HX1.out) HX.out.2) HP.out.1 (by rw [HP.out.2.1]; exact hlt)).mono ?_
        rintro e w2 ⟨A2, c2, rfl, hx2, ho2⟩
        have hmo : RowsMore (w.alloc (.cells #[.int .i64 dn, .slice GA gs.length Gc, .int .i64 gn] 24)) w2 A i cp (rowsR dn gs i) A2 c2 ((List.range dn).map (Cd.rowAt dn gs i)) := (HR.out.2.next HX1.out).more hx2 (by simpa using ho2)
        have HMO := Lib.hid hmo
        clear hx2 ho2 hmo hd0 hd1 hd2
        go_wp2_with (at_builtin; refine wpl_append_row 29 rfl _ _ rfl Tryd.underlying29 info_bytes rfl HMO.out (by simp) rfl rfl (by omega) ?_; intro A' c' w3 hO)
        have HO := Lib.hid hO
        clear hO
        go_wp2_with fail
        go_roundw
        case rel => exact ⟨i + 1, A', c', by omega, by go_num, rfl, by rw [rowsR_succ]; exact HO.out⟩
        case measure => simp [intOf]; omega
      · obtain rfl : i = p := by omega
        have HF := Lib.hid ((HR.out.2.next HX1.out).rs (by rw [rowsR_len]; omega) (fun r hr => by
          obtain ⟨j, _, rfl⟩ := List.mem_map.1 hr
          simp; omega))
        clear hd0 hd1 hd2
        go_wp2_with fail
        go_ret
        refine ⟨_, rfl, ?_, HX.out.1.trans (HR.out.1.trans HX1.out)⟩
        rw [← HP.out.2.2.2]
        exact HF.out
  · have hp := Cd.pieces_no h0
    have hr := Cd.rowsOf_no h0
    have HP := Lib.hid (And.intro hp hr)
    clear hG hx0 h0 hp hr
    go_enter Tryd.func19, Tryd.ntmps19
    go_wp2_with fail
    go_loopw [3, 4] (fun vo vi wr => vi = .int .i64 0 ∧ vo = .slice none 0 0 ∧ Hid (Ext (w.alloc (.cells #[.int .i64 d, .slice GA gs.length Gc, .int .i64 gl] 24)) wr)) (fun _ _ _ => 0)
    case atStart => exact ⟨rfl, rfl, Lib.hid (Ext.refl _)⟩
    case round =>
      obtain ⟨rfl, rfl, HR⟩ := hrel
      have hc0 : wr.cell? ⟨w.heap.size, 0, none⟩ = some (.int .i64 d) := HR.out.cell (by go_simp)
      have hc1 : wr.cell? ⟨w.heap.size, 1, none⟩ = some (.slice GA gs.length Gc) := HR.out.cell (by go_simp)
      have hc2 : wr.cell? ⟨w.heap.size, 2, none⟩ = some (.int .i64 gl) := HR.out.cell (by go_simp)
      go_wp2_with fail
      refine (rPieces_any d gl gs _ _ (Rs.ext (Rs.ext RI.ext) _ _ _ _ HR.out HX.out.2) hn).mono ?_
      rintro e w1 ⟨rfl, hx1⟩
      rw [HP.out.1]
      have HX1 := Lib.hid hx1
      clear hx1 hc0 hc1 hc2
      go_wp2_with fail
      go_ret
      refine ⟨_, rfl, ?_, HX.out.1.trans (HR.out.trans HX1.out)⟩
      rw [HP.out.2]
      exact rs_nil _ _
set_option maxRecDepth 100000 in
set_option maxHeartbeats 1000000 in
theorem rPart_any (data : List UInt8) (i sz : Nat) (w : World) (hi : i ≤ 16) (hs : sz ≤ 4096) (hl : data.length ≤ 1000000) :
    Calls Tryd.prog 36 #[.string (sb data), .int .i64 i, .int .i64 sz] w fun e w' => e = .returned (.string (sb (Cd.partR data i sz))) ∧ Ext w w' := by
  obtain ⟨lo, hlo⟩ : ∃ lo, i * sz = lo := ⟨_, rfl⟩
  obtain ⟨hh, hhi⟩ : ∃ hh, (i + 1) * sz = hh := ⟨_, rfl⟩
  have q1 : (i : Int) * (sz : Int) = (lo : Int) := by rw [← hlo, Int.natCast_mul]
  have q2 : ((i : Int) + 1) * (sz : Int) = (hh : Int) := by rw [← hhi, Int.natCast_mul]; rfl
  have q3 : hh = lo + sz := by rw [← hhi, ← hlo, Nat.succ_mul]
  have q4 : lo ≤ 65536 := by
    have := Nat.mul_le_mul hi hs
    rw [hlo] at this
    omega
  have q5 : hh ≤ 69632 := by omega
  have hd : Cd.partR data i sz = (List.range sz).map fun j => data.getD (lo + j) 0 := by unfold Cd.partR; rw [hlo]
  have HD := Lib.hid hd
  have Q3 := Lib.hid q3
  clear hd hlo hhi
  go_enter Tryd.func36, Tryd.ntmps36
  go_wp2_with fail
  go_loopw [7, 8] (fun vo vk wr => ∃ (j k : Nat) (A : Option Addr) (cp : Nat), j ≤ sz ∧ k = lo + j ∧ vk = .int .i64 k ∧ vo = .slice A j cp ∧ Hid (Ext w wr ∧ wr.ownsRow w.heap.size 5 1 (.slice A j cp) j (((List.range j).map fun j => data.getD (lo + j) 0).map bv))) (fun _ vk _ => hh - (intOf vk).toNat)
  case atStart => exact ⟨0, lo, none, 0, Nat.zero_le _, rfl, rfl, rfl, Lib.hid (And.intro (Ext.refl _) (World.ownsRow_nil _ _ _ _))⟩
  case round =>
    obtain ⟨j, k, A, cp, hj, hk, rfl, rfl, HR⟩ := hrel
    by_cases hlt : k < hh
    · by_cases hkl : k < data.length
      · have hkl2 : k < (sb data).size := by rw [size_sb]; exact hkl
        have hv : Value.int .u8 ((sb data)[k].toNat : Int) = bv (data.getD (lo + j) 0) := by
          rw [get_bl (sb data) k hkl2, ← hk, getD_get hkl]; rfl
        have HV := Lib.hid (And.intro hv hk)
        have hj2 : j < sz := by omega
        clear hv hk q3
        go_wp2_with (at_builtin; refine wpl_append_new w 57 5 rfl _ _ rfl Tryd.underlying57 info_u8 rfl rfl HR.out.2 HR.out.1 rfl rfl (by omega) (by omega) ?_; intro A' c' w2 ho hx _)
        have ho' : w2.ownsRow w.heap.size 5 1 (.slice A' (j + 1) c') (j + 1) (((List.range (j + 1)).map fun j => data.getD (lo + j) 0).map bv) := by
          rw [← map_range_succ (fun j => data.getD (lo + j) 0), ← HV.out.1]
          exact ho
        have HO := Lib.hid (And.intro hx ho')
        clear hx ho ho'
        go_wp2_with fail
        go_roundw
        case rel => exact ⟨j + 1, k + 1, A', c', by omega, by have := HV.out.2; omega, by go_num, rfl, HO.out⟩
        case measure => simp [intOf]; omega
      · have hkl2 : ¬ k < (sb data).size := by rw [size_sb]; exact hkl
        have hv : Value.int .u8 0 = bv (data.getD (lo + j) 0) := by
          rw [← hk, List.getD_eq_getElem?_getD, List.getElem?_eq_none (by omega)]; rfl
        have HV := Lib.hid (And.intro hv hk)
        have hj2 : j < sz := by omega
        clear hv hk q3
        go_wp2_with (at_builtin; refine wpl_append_new w 57 5 rfl _ _ rfl Tryd.underlying57 info_u8 rfl rfl HR.out.2 HR.out.1 rfl rfl (by omega) (by omega) ?_; intro A' c' w2 ho hx _)
        have ho' : w2.ownsRow w.heap.size 5 1 (.slice A' (j + 1) c') (j + 1) (((List.range (j + 1)).map fun j => data.getD (lo + j) 0).map bv) := by
          rw [← map_range_succ (fun j => data.getD (lo + j) 0), ← HV.out.1]
          exact ho
        have HO := Lib.hid (And.intro hx ho')
        clear hx ho ho'
        go_wp2_with fail
        go_roundw
        case rel => exact ⟨j + 1, k + 1, A', c', by omega, by have := HV.out.2; omega, by go_num, rfl, HO.out⟩
        case measure => simp [intOf]; omega
    · obtain rfl : j = sz := by omega
      have hrun := str_u8 (n := j) (c := cp) (A := A) (w := wr) (l := (List.range j).map fun j => data.getD (lo + j) 0) (by simp) (own_rd HR.out.2)
      obtain ⟨res, hres⟩ : ∃ res, (List.range j).map (fun j => data.getD (lo + j) 0) = res := ⟨_, rfl⟩
      rw [hres] at hrun
      have HRES := Lib.hid hres
      clear hk hres
      go_wp2_with fail
      go_ret
      exact ⟨by rw [HD.out, HRES.out]; rfl, HR.out.1⟩
end Go.Proofs.YtgkohfmgdejkpaaDoor
