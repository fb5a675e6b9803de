/- THE WALKS over the strings of package gf: build, Sum, Scale, Combine and their closures. -/
import Derived.Test.YtdbolgollpnfdaaDoorGfW
import Derived.Test.YtdbolgollpnfdaaDoorGfB
namespace Go.Proofs.YtdbolgollpnfdaaDoor
open Go.RowKit

theorem info_u8 : (Tryd.prog.info? 5).map (fun i => (i.zero, i.size, i.bytes)) = some (some (.int .u8 0), 1, 1) := by kernel_rfl

theorem str_u8 {w : World} {A : Option Addr} {l : List UInt8} {c n : Nat} (hn : n = l.length) (h : Rd w A (l.map bv)) :
    (convert 63 9 (.slice A n c)).run Tryd.prog w = .ok (.string (sb l)) w := run_str Tryd.underlying63 Tryd.underlying5 Tryd.underlying9 hn h

def part (n k : Nat) (g : Nat → UInt8) : List Value := (List.range k).map (fun j => bv (g j)) ++ List.replicate (n - k) (.int .u8 0)
theorem part_set {n k : Nat} (g : Nat → UInt8) (h : k < n) : (part n k g).set k (bv (g k)) = part n (k + 1) g := by
  unfold part
  obtain ⟨m, rfl⟩ : ∃ m, n = k + 1 + m := ⟨n - (k + 1), by omega⟩
  rw [show k + 1 + m - k = m + 1 from by omega, show k + 1 + m - (k + 1) = m from by omega, List.set_append_right _ _ (by simp), List.range_succ]
  simp [List.replicate_succ]
theorem part_length {n k : Nat} (g : Nat → UInt8) (h : k ≤ n) : (part n k g).length = n := by simp [part]; omega
theorem part_zero (n : Nat) (g : Nat → UInt8) : part n 0 g = List.replicate n (.int .u8 0) := by simp [part]
theorem part_full (n : Nat) (g : Nat → UInt8) : part n n g = ((List.range n).map g).map bv := by simp [part]

/-- build, over whatever function value that only computes. -/
theorem build_any (n : Nat) (hn : n ≤ 140737488351232) (F : FuncId) (cap : Array Value) (g : Nat → UInt8) (w : World) (hE : ∀ args w, (callFunc F args).run Tryd.prog w = .ok (.enter F args) w)
    (hF : ∀ k, k < n → ∀ w', Ext w w' → Calls Tryd.prog F (#[.int .i64 k] ++ cap) w' fun e w'' => e = .returned (bv (g k)) ∧ Ext w' w'') :
    Calls Tryd.prog 66 #[.int .i64 n, .func (.func F) #[] cap] w fun e w' => e = .returned (.string (sb ((List.range n).map g))) ∧ Ext w w' := by
  have HF := Lib.hid hF
  clear hF
  obtain ⟨i0, hi, hz0, hz1, hz2⟩ := info_parts info_u8
  have HZ := Lib.hid hz2
  clear hz2
  go_enter Tryd.func66, Tryd.ntmps66
  go_wp2_with (refine wpList_make_full _ rfl (.tmp 7) (.tmp 7) 63 rfl w.heap.size 5 i0 (.int .u8 0) 1 Tryd.underlying63 hi hz0 hz1 _ _ _ _ n rfl rfl rfl rfl (by rw [HZ.out]; omega) (by unfold maxLen; omega) (Nat.le_refl _) ?_; intro w1 hown hgrow)
  have hx : Ext w w1 := (Ext.refl w).grown hgrow (fun k h => by cases h)
  have hsz : w.heap.size < w1.heap.size := by
    have := hown.lt w.heap.size rfl
    omega
  have hown' : w1.ownsRow w.heap.size 5 1 (.slice (some ⟨w.heap.size, 0, none⟩) n n) n (part n 0 g) := by
    rw [part_zero, ← toList_madeCells_one]
    simpa [Value.cells] using hown
  have H0 := Lib.hid (And.intro hx hown')
  clear hown hown' hgrow hx
  go_loopw [10] (fun vi wr => ∃ k : Nat, k ≤ n ∧ vi = .int .i64 k ∧ Hid (Ext w wr ∧ wr.ownsRow w.heap.size 5 1 (.slice (some ⟨w.heap.size, 0, none⟩) n n) n (part n k g))) (fun vi _ => n - (intOf vi).toNat)
  case atStart => exact ⟨0, Nat.zero_le _, rfl, H0.out⟩
  case round =>
    obtain ⟨k, hk, rfl, HR⟩ := hrel
    by_cases hlt : k < n
    · go_wp2_with fail
      refine (HF.out k hlt wr HR.out.1).mono ?_
      rintro e w2 ⟨rfl, hx2⟩
      have hown2 : w2.ownsRow w.heap.size 5 1 (.slice (some ⟨w.heap.size, 0, none⟩) n n) n (part n k g) := own_ext HR.out.2 hx2
      have hc := hown2.cellAt k (by omega)
      rw [List.getElem?_eq_getElem (by rw [part_length g hk]; exact hlt)] at hc
      have hf := hown2.frozenAt k
      have hst := (hown2.stored k (bv (g k))).1
      rw [part_set g hlt] at hst
      have hx3 : Ext w w2 := HR.out.1.trans hx2
      have HS := Lib.hid (And.intro hx3 hst)
      clear hown2 hst hx3 hx2
      go_wp2_with fail
      go_roundw
      case rel => exact ⟨k + 1, by omega, by go_num, HS.out.1.setCell (Nat.le_refl _) _, HS.out.2⟩
      case measure => simp [intOf]; omega
    · obtain rfl : k = n := by omega
      have hrun := str_u8 (n := k) (c := k) (A := some ⟨w.heap.size, 0, none⟩) (w := wr) (l := (List.range k).map g) (by simp) (by
        have := Rd.of_own (w := wr) (B := w.heap.size) (e := 5) (c := k) (A := some ⟨w.heap.size, 0, none⟩) (xs := part k k g) (by rw [part_length g hk]; exact HR.out.2)
        rw [part_full] at this
        exact this)
      go_wp2_with fail
      go_ret
      exact ⟨rfl, HR.out.1⟩

theorem getD_bl (s : ByteArray) (k : Nat) (h : k < s.size) : (bl s).getD k 0 = s[k] := by
  rw [get_bl s k h, List.getD_eq_getElem?_getD, List.getElem?_eq_getElem (by rw [← size_bl]; exact h)]
  rfl
theorem getD_bl_out (s : ByteArray) (k : Nat) (h : s.size ≤ k) : (bl s).getD k 0 = 0 := by
  rw [List.getD_eq_getElem?_getD, List.getElem?_eq_none (by rw [← size_bl]; exact h)]
  rfl

/-- The sum's closure: the byte at one place. -/
theorem sum1_any (k P1 P2 : Nat) (a b : ByteArray) (w : World) (hk : k < a.size)
    (h1 : w.cell? ⟨P1, 0, none⟩ = some (.string b)) (h2 : w.cell? ⟨P2, 0, none⟩ = some (.string a)) :
    Calls Tryd.prog 67 #[.int .i64 k, .pointer (some ⟨P1, 0, none⟩), .pointer (some ⟨P2, 0, none⟩)] w fun e w' => e = .returned (bv ((bl a).getD k 0 ^^^ (bl b).getD k 0)) ∧ Ext w w' := by
  have eA := getD_bl a k hk
  by_cases hlt : k < b.size
  · have eB := getD_bl b k hlt
    have hx : bits .xor .u8 (((a[k]'hk).toNat : Nat) : Int) (((b[k]'hlt).toNat : Nat) : Int) = (((bl a).getD k 0 ^^^ (bl b).getD k 0).toNat : Int) := by
      rw [u8_xor_nat _ _ (Gf.lt8 _) (Gf.lt8 _), eA, eB, UInt8.toNat_xor]
    have HX := Lib.hid hx
    clear hx eA eB
    go_enter Tryd.func67, Tryd.ntmps67
    go_wp2_with fail
    go_quiet (fail)
    go_wp2_with fail
    go_ret
    exact ⟨ret_int HX.out, (Ext.refl _).drewN _⟩
  · have eB := getD_bl_out b k (by omega)
    have hx : (((a[k]'hk).toNat : Nat) : Int) = (((bl a).getD k 0 ^^^ (bl b).getD k 0).toNat : Int) := by
      rw [eA, eB, UInt8.xor_zero]
    have HX := Lib.hid hx
    clear hx eA eB
    go_enter Tryd.func67, Tryd.ntmps67
    go_wp2_with fail
    go_ret
    exact ⟨ret_int HX.out, Ext.refl _⟩

theorem enters67 : ∀ args w, (callFunc 67 args).run Tryd.prog w = .ok (.enter 67 args) w := enters_of Tryd.func67 (by kernel_rfl) rfl
theorem sum_any (a b : ByteArray) (w : World) (ha : a.size ≤ 140737488351232) (hb : b.size ≤ 140737488351232) :
    Calls Tryd.prog 61 #[.string a, .string b] w fun e w' => e = .returned (.string (sb (Gf.sum (bl a) (bl b)))) ∧ Ext w w' := by
  by_cases hlt : a.size < b.size
  · have hr : (List.range b.size).map (fun k => (bl b).getD k 0 ^^^ (bl a).getD k 0) = Gf.sum (bl a) (bl b) := by
      unfold Gf.sum
      rw [← size_bl, ← size_bl, show max a.size b.size = b.size from by omega]
      exact List.map_congr_left fun k _ => UInt8.xor_comm _ _
    have HR := Lib.hid hr
    clear hr
    go_enter Tryd.func61, Tryd.ntmps61
    go_wp2_with fail
    refine (build_any b.size hb _ _ (fun k => (bl b).getD k 0 ^^^ (bl a).getD k 0) _ enters67 ?_).mono ?_
    · intro k hk w' hx
      exact sum1_any k _ _ b a w' hk (hx.cell (by go_simp)) (hx.cell (by go_simp))
    rintro e w1 ⟨rfl, hx⟩
    go_wp2_with fail
    go_ret
    exact ⟨by rw [← HR.out]; rfl, Ext.trans (((Ext.refl _).alloc _).alloc _) hx⟩
  · have hr : (List.range a.size).map (fun k => (bl a).getD k 0 ^^^ (bl b).getD k 0) = Gf.sum (bl a) (bl b) := by
      unfold Gf.sum
      rw [← size_bl, ← size_bl, show max a.size b.size = a.size from by omega]
    have HR := Lib.hid hr
    clear hr
    go_enter Tryd.func61, Tryd.ntmps61
    go_wp2_with fail
    refine (build_any a.size ha _ _ (fun k => (bl a).getD k 0 ^^^ (bl b).getD k 0) _ enters67 ?_).mono ?_
    · intro k hk w' hx
      exact sum1_any k _ _ a b w' hk (hx.cell (by go_simp)) (hx.cell (by go_simp))
    rintro e w1 ⟨rfl, hx⟩
    go_wp2_with fail
    go_ret
    exact ⟨by rw [← HR.out]; rfl, Ext.trans (((Ext.refl _).alloc _).alloc _) hx⟩

theorem mul_u8 (a b : UInt8) (w : World) (hT : Tab w) : Calls Tryd.prog 60 #[bv a, bv b] w fun e w' => e = .returned (bv (Gf.mul a b)) ∧ w = w' := by
  refine (mul_any _ _ w hT (by omega) (by have := Gf.lt8 a; omega) (by omega) (by have := Gf.lt8 b; omega)).mono ?_
  rintro e w' ⟨rfl, rfl⟩
  exact ⟨by rw [Gf.mulI_toNat], rfl⟩
theorem Tab.drewN {w : World} (h : Tab w) (n : Nat) : Tab (w.drewN n) := h

theorem scale1_any (k P1 P2 : Nat) (c : UInt8) (s : ByteArray) (w : World) (hT : Tab w) (hk : k < s.size)
    (h1 : w.cell? ⟨P1, 0, none⟩ = some (bv c)) (h2 : w.cell? ⟨P2, 0, none⟩ = some (.string s)) :
    Calls Tryd.prog 68 #[.int .i64 k, .pointer (some ⟨P1, 0, none⟩), .pointer (some ⟨P2, 0, none⟩)] w fun e w' => e = .returned (bv (Gf.mul c ((bl s).getD k 0))) ∧ Ext w w' := by
  have HT := Lib.hid hT
  clear hT
  rw [getD_bl s k hk]
  go_enter Tryd.func68, Tryd.ntmps68
  go_wp2_with fail
  go_quiet ((go_at_call 60; first | exact quiet_left (mul_u8 _ _ _ (HT.out.drewN _)) | exact quiet_add_left (mul_u8 _ _ _ (HT.out.drewN _))))
  go_wp2_with fail
  go_ret
  exact ⟨rfl, (Ext.refl _).drewN _⟩
theorem enters68 : ∀ args w, (callFunc 68 args).run Tryd.prog w = .ok (.enter 68 args) w := enters_of Tryd.func68 (by kernel_rfl) rfl
theorem scale_any (c : UInt8) (s : ByteArray) (w : World) (hT : Tab w) (hs : s.size ≤ 140737488351232) :
    Calls Tryd.prog 62 #[bv c, .string s] w fun e w' => e = .returned (.string (sb (Gf.scale c (bl s)))) ∧ Ext w w' := by
  have hr : (List.range s.size).map (fun k => Gf.mul c ((bl s).getD k 0)) = Gf.scale c (bl s) := by
    unfold Gf.scale
    apply List.ext_getElem
    · simp [size_bl]
    · intro k h1 h2
      simp
      congr 1
      simp at h2
      rw [List.getElem?_eq_getElem h2]; rfl
  have HR := Lib.hid hr
  have HT := Lib.hid hT
  clear hr hT
  go_enter Tryd.func62, Tryd.ntmps62
  go_wp2_with fail
  refine (build_any s.size hs _ _ (fun k => Gf.mul c ((bl s).getD k 0)) _ enters68 ?_).mono ?_
  · intro k hk w' hx
    exact scale1_any k _ _ c s w' ((HT.out.ext (((Ext.refl _).alloc _).alloc _)).ext hx) hk (hx.cell (by go_simp)) (hx.cell (by go_simp))
  rintro e w1 ⟨rfl, hx⟩
  go_wp2_with fail
  go_ret
  exact ⟨by rw [← HR.out]; rfl, Ext.trans (((Ext.refl _).alloc _).alloc _) hx⟩

end Go.Proofs.YtdbolgollpnfdaaDoor
