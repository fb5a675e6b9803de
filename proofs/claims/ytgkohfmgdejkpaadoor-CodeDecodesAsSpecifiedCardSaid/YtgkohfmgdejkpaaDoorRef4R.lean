/- THE WALKS over the strings of the field's specification. -/
import Derived.Test.YtgkohfmgdejkpaaDoorGfS
import Derived.Test.YtgkohfmgdejkpaaDoorFieldR
import Derived.Deep.RegionHeld3
namespace Go.Proofs.YtgkohfmgdejkpaaDoor
open Go.RowKit

theorem rat_any (s : ByteArray) (k : Nat) (w : World) :
    Calls Tryd.prog 65 #[.string s, .int .i64 k] w fun e w' => e = .returned (bv ((bl s).getD k 0)) ∧ w = w' := by
  by_cases hlt : k < s.size
  · rw [getD_bl s k hlt]
    go_enter Tryd.func65, Tryd.ntmps65
    go_wp2_with fail
    go_ret
    exact ⟨rfl, rfl⟩
  · rw [getD_bl_out s k (by omega)]
    go_enter Tryd.func65, Tryd.ntmps65
    go_wp2_with fail
    go_ret
    exact ⟨rfl, rfl⟩

theorem rmul_u8 (a b : UInt8) (w : World) : Calls Tryd.prog 66 #[bv a, bv b] w fun e w' => e = .returned (bv (Gf.mul a b)) ∧ w = w' := by
  refine (rmul_any _ _ w (by omega) (by have := Gf.lt8 a; omega) (by omega) (by have := Gf.lt8 b; omega)).mono ?_
  rintro e w' ⟨rfl, rfl⟩
  exact ⟨by rw [Gf.mulI_toNat], rfl⟩

theorem map_range_succ (g : Nat → UInt8) (k : Nat) : ((List.range k).map g).map bv ++ [bv (g k)] = ((List.range (k + 1)).map g).map bv := by
  rw [List.range_succ]; simp

theorem rscale_any (c : UInt8) (s : ByteArray) (w : World) (hs : s.size ≤ 1000000) :
    Calls Tryd.prog 53 #[bv c, .string s] w fun e w' => e = .returned (.string (sb (Gf.scale c (bl s)))) ∧ Ext w w' := by
  have hr : (List.range s.size).map (fun k => Gf.mul c ((bl s).getD k 0)) = Gf.scale c (bl s) := by
    unfold Gf.scale
    apply List.ext_getElem
    · simp [size_bl]
    · intro k h1 h2
      simp
      congr 1
      simp at h2
      rw [List.getElem?_eq_getElem h2]; rfl
  have HR := Lib.hid hr
  clear hr
  go_enter Tryd.func53, Tryd.ntmps53
  go_wp2_with fail
  go_loopw [5, 6] (fun vo vk wr => ∃ (k : Nat) (A : Option Addr) (cp : Nat), k ≤ s.size ∧ vk = .int .i64 k ∧ vo = .slice A k cp ∧ Hid (Ext w wr ∧ wr.ownsRow w.heap.size 5 1 (.slice A k cp) k (((List.range k).map fun k => Gf.mul c ((bl s).getD k 0)).map bv))) (fun _ vk _ => s.size - (intOf vk).toNat)
  case atStart => exact ⟨0, none, 0, Nat.zero_le _, rfl, rfl, Ext.refl _, World.ownsRow_nil _ _ _ _⟩
  case round =>
    obtain ⟨k, A, cp, hk, rfl, rfl, HR2⟩ := hrel
    by_cases hlt : k < s.size
    · have hg := getD_bl s k hlt
      have HG := Lib.hid hg
      clear hg
      go_wp2_with fail
      refine (rmul_u8 _ _ _).mono ?_
      rw [← HG.out]
      rintro e w' ⟨rfl, rfl⟩
      go_wp2_with (at_builtin; refine wpl_append_new w 57 5 rfl _ _ rfl Tryd.underlying57 info_u8 rfl rfl HR2.out.2 HR2.out.1 rfl rfl (by omega) (by omega) ?_; intro A' c' w2 ho hx _)
      have ho := (map_range_succ (fun k => Gf.mul c ((bl s).getD k 0)) k) ▸ ho
      have HO := Lib.hid (And.intro hx ho)
      clear hx ho
      go_wp2_with fail
      go_roundw
      case rel => exact ⟨k + 1, A', c', by omega, by go_num, rfl, HO.out⟩
      case measure => simp [intOf]; omega
    · obtain rfl : k = s.size := by omega
      have hrun := str_u8 (n := s.size) (c := cp) (A := A) (w := wr) (l := (List.range s.size).map fun k => Gf.mul c ((bl s).getD k 0)) (by simp) (own_rd HR2.out.2)
      go_wp2_with fail
      go_ret
      exact ⟨by rw [← HR.out]; rfl, HR2.out.1⟩

theorem rsum_any (a b : ByteArray) (w : World) (ha : a.size ≤ 1000000) (hb : b.size ≤ 1000000) :
    Calls Tryd.prog 52 #[.string a, .string b] w fun e w' => e = .returned (.string (sb (Gf.sum (bl a) (bl b)))) ∧ Ext w w' := by
  obtain ⟨n, hn⟩ : ∃ n, n = max a.size b.size := ⟨_, rfl⟩
  have hr : (List.range n).map (fun k => (bl a).getD k 0 ^^^ (bl b).getD k 0) = Gf.sum (bl a) (bl b) := by
    unfold Gf.sum
    rw [← size_bl, ← size_bl, ← hn]
  have hn1 : n ≤ 1000000 := by omega
  have hmax : (if a.size < b.size then (b.size : Int) else (a.size : Int)) = (n : Int) := by split <;> omega
  have HR := Lib.hid hr
  have HN := Lib.hid hn
  clear hr hn
  go_enter Tryd.func52, Tryd.ntmps52
  go_wp2_with fail
  go_loopw [5, 6] (fun vo vk wr => ∃ (k : Nat) (A : Option Addr) (cp : Nat), k ≤ n ∧ vk = .int .i64 k ∧ vo = .slice A k cp ∧ Hid (Ext w wr ∧ wr.ownsRow w.heap.size 5 1 (.slice A k cp) k (((List.range k).map fun k => (bl a).getD k 0 ^^^ (bl b).getD k 0).map bv))) (fun _ vk _ => n - (intOf vk).toNat)
  case atStart => exact ⟨0, none, 0, Nat.zero_le _, rfl, rfl, Ext.refl _, World.ownsRow_nil _ _ _ _⟩
  case round =>
    obtain ⟨k, A, cp, hk, rfl, rfl, HR2⟩ := hrel
    by_cases hlt : k < n
    · have hx : bits .xor .u8 (((bl a).getD k 0).toNat : Int) (((bl b).getD k 0).toNat : Int) = (((bl a).getD k 0 ^^^ (bl b).getD k 0).toNat : Int) := by
        rw [u8_xor_nat _ _ (Gf.lt8 _) (Gf.lt8 _), UInt8.toNat_xor]
      have HX := Lib.hid hx
      clear hx
      go_wp2_with fail
      refine (rat_any _ _ _).mono ?_
      rintro e w' ⟨rfl, rfl⟩
      go_wp2_with fail
      refine (rat_any _ _ _).mono ?_
      rintro e w' ⟨rfl, rfl⟩
      go_wp2_with (at_builtin; refine wpl_append_new w 57 5 rfl _ _ rfl Tryd.underlying57 info_u8 rfl rfl HR2.out.2 HR2.out.1 rfl rfl (by omega) (by omega) ?_; intro A' c' w2 ho hx _)
      have ho' : w2.ownsRow w.heap.size 5 1 (.slice A' (k + 1) c') (k + 1) (((List.range (k + 1)).map fun k => (bl a).getD k 0 ^^^ (bl b).getD k 0).map bv) := by
        rw [← map_range_succ (fun k => (bl a).getD k 0 ^^^ (bl b).getD k 0)]
        have e : Value.int .u8 (bits .xor .u8 (((bl a).getD k 0).toNat : Int) (((bl b).getD k 0).toNat : Int)) = bv ((bl a).getD k 0 ^^^ (bl b).getD k 0) := by rw [HX.out]
        rw [← e]
        exact ho
      have HO := Lib.hid (And.intro hx ho')
      clear hx ho ho'
      go_wp2_with fail
      go_roundw
      case rel => exact ⟨k + 1, A', c', by omega, by go_num, rfl, HO.out⟩
      case measure => simp [intOf]; omega
    · obtain rfl : k = n := by omega
      have hrun := str_u8 (n := k) (c := cp) (A := A) (w := wr) (l := (List.range k).map fun k => (bl a).getD k 0 ^^^ (bl b).getD k 0) (by simp) (own_rd HR2.out.2)
      go_wp2_with fail
      go_ret
      exact ⟨by rw [← HR.out]; rfl, HR2.out.1⟩

/-- The sum of the scaled strings, from the first n of them, as the specification adds them. -/
def rcomb (coef : List UInt8) (parts : List (List UInt8)) : Nat → List UInt8
  | 0 => []
  | n + 1 => Gf.sum (rcomb coef parts n) (Gf.scale (coef.getD n 0) (parts.getD n []))
theorem sum_length (s t : List UInt8) : (Gf.sum s t).length = max s.length t.length := by simp [Gf.sum]
theorem rcomb_at (coef : List UInt8) (parts : List (List UInt8)) (L : Nat) : ∀ i, (∀ j, j < i → (parts.getD j []).length = L) →
    (rcomb coef parts i).length = (if i = 0 then 0 else L) ∧ ∀ k, k < L → (rcomb coef parts i).getD k 0 = Gf.comb coef parts k i
  | 0, _ => ⟨rfl, fun k _ => rfl⟩
  | i + 1, h => by
    obtain ⟨h1, h2⟩ := rcomb_at coef parts L i (fun j hj => h j (by omega))
    have hL := h i (by omega)
    have hlen : (rcomb coef parts (i + 1)).length = L := by
      rw [rcomb, sum_length, h1, Gf.scale, List.length_map, hL]
      split <;> omega
    refine ⟨by rw [hlen, if_neg (by omega)], fun k hk => ?_⟩
    have e1 : (rcomb coef parts (i + 1)).getD k 0 = (rcomb coef parts i).getD k 0 ^^^ (Gf.scale (coef.getD i 0) (parts.getD i [])).getD k 0 := by
      have hk' : k < max (rcomb coef parts i).length (Gf.scale (coef.getD i 0) (parts.getD i [])).length := by rw [Gf.scale, List.length_map, hL]; omega
      rw [rcomb, Gf.sum, List.getD_eq_getElem?_getD, List.getElem?_map, List.getElem?_eq_getElem (by simpa using hk')]
      simp
    have e2 : (Gf.scale (coef.getD i 0) (parts.getD i [])).getD k 0 = Gf.mul (coef.getD i 0) ((parts.getD i []).getD k 0) := by
      rw [Gf.scale, List.getD_eq_getElem?_getD, List.getElem?_map, List.getElem?_eq_getElem (by omega), List.getD_eq_getElem?_getD (l := parts.getD i []), List.getElem?_eq_getElem (by omega)]
      rfl
    rw [e1, e2, h2 k hk, Gf.comb]
theorem rcomb_combine (coef : List UInt8) (parts : List (List UInt8)) (n : Nat) (hn : n = coef.length) (hm : n = parts.length) (h : ∀ j, j < n → (parts.getD j []).length = (parts.headD []).length) :
    rcomb coef parts n = Gf.combine coef parts := by
  obtain ⟨h1, h2⟩ := rcomb_at coef parts _ n h
  by_cases h0 : n = 0
  · subst h0
    rw [if_pos rfl, List.length_eq_zero_iff] at h1
    have : parts = [] := List.length_eq_zero_iff.1 hm.symm
    rw [h1, Gf.combine, this]
    rfl
  · rw [if_neg h0] at h1
    apply List.ext_getElem
    · rw [h1]; simp [Gf.combine]
    · intro k hk hk'
      have := h2 k (by omega)
      rw [List.getD_eq_getElem?_getD, List.getElem?_eq_getElem hk] at this
      simp only [Option.getD_some] at this
      rw [this, hn]
      simp [Gf.combine]

theorem rcombine_any (coef : List UInt8) (parts : List (List UInt8)) (A B : Option Addr) (n m ca cb : Nat) (w : World) (hn : n = coef.length) (hm : m = parts.length)
    (hl : m ≤ 1000000) (hs : ∀ p ∈ parts, p.length ≤ 1000000) (hA : Rd w A (coef.map bv)) (hB : Rd w B (parts.map fun p => .string (sb p))) :
    Calls Tryd.prog 37 #[.slice A n ca, .slice B m cb] w fun e w' => e = .returned (.agg #[.string (sb (Gf.combS coef parts)), .int .i64 (Gf.combE coef parts)]) ∧ Ext w w' := by
  by_cases hne : n = m
  · subst hne
    have HA := Lib.hid hA
    have HB := Lib.hid hB
    have HS := Lib.hid hs
    have HN := Lib.hid (And.intro hn hm)
    have he0 : (w.alloc (.cells #[.string { data := #[] }, .int .i64 0] 63)).heap[w.heap.size]? = some (.cells #[.string { data := #[] }, .int .i64 0] 63 (0, 0)) := heap_new w _
    have HE0 := Lib.hid he0
    obtain ⟨p0, hp0⟩ : ∃ p0, parts.headD [] = p0 := ⟨_, rfl⟩
    have HP := Lib.hid hp0
    clear hA hB hs hn hm he0 hp0
    go_enter Tryd.func37, Tryd.ntmps37
    go_wp2_with fail
    go_loopw [5, 6] (fun vo vi wr => ∃ i : Nat, i ≤ n ∧ vi = .int .i64 i ∧ vo = .string (sb (rcomb coef parts i)) ∧
        Hid (Ext w wr ∧ wr.heap[w.heap.size]? = some (.cells #[.string { data := #[] }, .int .i64 0] 63 (0, 0)) ∧ ∀ j, j < i → (parts.getD j []).length = p0.length)) (fun _ vi _ => n - (intOf vi).toNat)
    case atStart => exact ⟨0, Nat.zero_le _, rfl, rfl, (Ext.refl _).alloc _, HE0.out, fun j hj => absurd hj (by omega)⟩
    case round =>
      obtain ⟨i, hi, rfl, rfl, HJ⟩ := hrel
      have hblk := HJ.out.2.1
      have hc0 : wr.cell? ⟨w.heap.size, 0, none⟩ = some (.string { data := #[] }) := by simp [World.cell?, hblk]
      have hc1 : wr.cell? ⟨w.heap.size, 1, none⟩ = some (.int .i64 0) := by simp [World.cell?, hblk]
      have hf : ∀ k, wr.frozen? ⟨w.heap.size, k, none⟩ = false := by intro k; simp [World.frozen?, hblk]
      have hf0 := hf 0
      have hf1 := hf 1
      clear hf hblk
      by_cases hlt : i < n
      · have hlp : i < parts.length := by rw [← HN.out.2]; exact hlt
        have hlc : i < coef.length := by rw [← HN.out.1]; exact hlt
        obtain ⟨bd, rfl, _, hb⟩ := (HB.out.ext HJ.out.1).at (k := i) (by simpa using hlp)
        obtain ⟨ad, rfl, _, ha⟩ := (HA.out.ext HJ.out.1).at (k := i) (by simpa using hlc)
        rw [List.getElem_map] at hb ha
        have hb0 : wr.cell? bd = some (.string (sb p0)) := by
          have h := (HB.out.ext HJ.out.1).all (k := 0) (by simp; omega)
          rw [List.getElem_map] at h
          rw [← HP.out]
          cases parts with
          | nil => simp at hlp
          | cons p l => exact h
        have hsz : parts[i].length ≤ 1000000 := HS.out _ (List.getElem_mem _)
        have hgd : parts.getD i [] = parts[i] := by rw [List.getD_eq_getElem?_getD, List.getElem?_eq_getElem hlp]; rfl
        have hcd : coef.getD i 0 = coef[i] := by rw [List.getD_eq_getElem?_getD, List.getElem?_eq_getElem hlc]; rfl
        have HG := Lib.hid (And.intro hgd hcd)
        have hpos : 0 < n := by omega
        clear hgd hcd
        by_cases he : parts[i].length = p0.length
        · have e1 : ((parts[i].length : Int) != (p0.length : Int)) = false := by rw [he]; simp
          have hll : (rcomb coef parts i).length ≤ 1000000 := by
            have := (rcomb_at coef parts p0.length i HJ.out.2.2).1
            rw [this]
            split <;> omega
          have HL := Lib.hid hll
          clear hll
          have HE := Lib.hid he
          clear he
          go_wp2_with fail
          go_quiet (fail)
          go_wp2_with fail
          go_region_held3 (fun w' => w'.cell? (ad.add i) = some (bv coef[i]) ∧ w'.cell? (bd.add i) = some (.string (sb parts[i]))) (first | exact ⟨hx1.cell ha, hx1.cell hb⟩ | exact ⟨hx2.cell (hx1.cell ha), hx2.cell (hx1.cell hb)⟩ | go_keep)
            (first
              | (go_at_call 53; refine (rscale_any coef[i] (sb parts[i]) _ (by rw [size_sb]; exact hsz)).mono ?_; rintro e w1 ⟨rfl, hx1⟩)
              | (go_at_call 52; refine (rsum_any (sb (rcomb coef parts i)) (sb (Gf.scale coef[i] (bl (sb parts[i])))) _ (by rw [size_sb]; exact HL.out) (by rw [size_sb, Gf.scale, List.length_map]; exact hsz)).mono ?_; rintro e w2 ⟨rfl, hx2⟩))
          have hx3 : Ext w w2 := (((HJ.out.1.drewN nq).drew).trans hx1).trans hx2
          have hbk := hx2.heap (hx1.heap (g := w.heap.size) (o := .cells #[.string { data := #[] }, .int .i64 0] 63 (0, 0)) HJ.out.2.1)
          have HX := Lib.hid (And.intro hx3 hbk)
          clear hx1 hx2 hx3 hbk
          go_wp2_with fail
          go_roundw
          case rel => exact ⟨i + 1, by omega, by go_num, by rw [rcomb, HG.out.1, HG.out.2], HX.out.1, HX.out.2, fun j hj => by
            by_cases hji : j = i
            · rw [hji, HG.out.1, HE.out]
            · exact HJ.out.2.2 j (by omega)⟩
          case measure => simp [intOf]; omega
        · have e1 : ((parts[i].length : Int) != (p0.length : Int)) = true := by rw [bne_iff_ne]; omega
          have hno : Gf.combOk coef parts = false := by
            rw [Bool.eq_false_iff]
            intro h
            unfold Gf.combOk at h
            rw [Bool.and_eq_true, List.all_eq_true] at h
            exact he (by rw [← HP.out]; simpa using h.2 _ (List.getElem_mem hlp))
          have HO := Lib.hid hno
          clear he hno
          go_wp2_with fail
          go_quiet (fail)
          go_wp2_with fail
          have hx : Ext w (((wr.drewN nq).setCell ⟨w.heap.size, 0, none⟩ (.string { data := #[] })).setCell ⟨w.heap.size, 1, none⟩ (.int .i64 1)) := ((HJ.out.1.drewN nq).setCell (Nat.le_refl _) _).setCell (Nat.le_refl _) _
          exact bodyPost_ret (v := .agg #[.string (sb []), .int .i64 1]) (by simp [results, Tryd.results37, go_sem, hc0, hc1]; rfl) rfl ⟨by rw [Gf.combS_no HO.out, Gf.combE_no HO.out], hx⟩
      · obtain rfl : i = n := by omega
        have hok : Gf.combOk coef parts = true := by
          unfold Gf.combOk
          rw [Bool.and_eq_true, List.all_eq_true]
          refine ⟨by simp [← HN.out.1, ← HN.out.2], fun p hp => ?_⟩
          obtain ⟨j, hj, rfl⟩ := List.getElem_of_mem hp
          have := HJ.out.2.2 j (by rw [HN.out.2]; exact hj)
          rw [List.getD_eq_getElem?_getD, List.getElem?_eq_getElem hj, ← HP.out] at this
          simpa using this
        have hrc := rcomb_combine coef parts i HN.out.1 HN.out.2 (by rw [HP.out]; exact HJ.out.2.2)
        have HO := Lib.hid (And.intro hok hrc)
        clear hok hrc
        go_wp2_with fail
        have hx : Ext w ((wr.setCell ⟨w.heap.size, 0, none⟩ (.string (sb (rcomb coef parts i)))).setCell ⟨w.heap.size, 1, none⟩ (.int .i64 0)) := (HJ.out.1.setCell (Nat.le_refl _) _).setCell (Nat.le_refl _) _
        exact bodyPost_ret (v := .agg #[.string (sb (rcomb coef parts i)), .int .i64 0]) (by simp [results, Tryd.results37, go_sem, hc0, hc1]) rfl ⟨by rw [Gf.combS_ok HO.out.1, Gf.combE_ok HO.out.1, HO.out.2], hx⟩
  · have h1 : ((n : Int) != (m : Int)) = true := by rw [bne_iff_ne]; omega
    have h' := Gf.combOk_ne (coef := coef) (parts := parts) (by omega)
    rw [Gf.combS_no h', Gf.combE_no h']
    clear hne hn hm hs hA hB h'
    go_enter Tryd.func37, Tryd.ntmps37
    go_wp2_with fail
    exact bodyPost_ret (v := .agg #[.string (sb []), .int .i64 1]) (by simp [results, Tryd.results37, go_sem]; rfl) rfl ⟨rfl, (Ext.refl _).alloc _⟩
end Go.Proofs.YtgkohfmgdejkpaaDoor
