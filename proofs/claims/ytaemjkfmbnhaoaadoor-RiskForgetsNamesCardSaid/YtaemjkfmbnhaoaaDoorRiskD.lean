/- THE LAW RiskOfCopies: its walk. -/
import Derived.Test.YtaemjkfmbnhaoaaDoorRiskF
import Derived.Test.YtaemjkfmbnhaoaaDoorRiskU
import Derived.Test.YtaemjkfmbnhaoaaDoorRiskR
namespace Go.Proofs.YtaemjkfmbnhaoaaDoor
open Go.RowKit
/-- What holds behind a region whose frame names a new block and its room. -/
theorem region_cut2 {P : Program} {id : Nat} {ops : Array Oper} {b : Bool} {Q : Exit → Act → World → Prop} {a : Act} {w : World} (R : World → Prop) (a0 : Nat → Nat → Act)
    (h : (Code.region id ops b).wp P (AtEnd fun a w => ∃ g c, a = a0 g c ∧ R w) a w) (hK : ∀ g c w, R w → Q .normal (a0 g c) w) : (Code.region id ops b).wp P Q a w :=
  Code.wp_mono (fun e a w hr => by
    cases e with
    | normal =>
      obtain ⟨g, c, rfl, h2⟩ := hr
      exact hK g c w h2
    | _ => exact (hr : False).elim) h
/-- A peril that a call builds: its box, its places, its chances. -/
def PState (w0 w : World) (B : Nat) (d : Int) (G : Value) (gl : Int) (at' ch : List Int) : Prop :=
  ∃ (T C : Option Addr) (ct cc : Nat), Owns w0 w [⟨.slice (some ⟨B, 0, none⟩) 5 5, 27, 1, 5, [.int .i64 d, G, .int .i64 gl, .slice T at'.length ct, .slice C ch.length cc]⟩, ⟨.slice T at'.length ct, 3, 1, at'.length, at'.map (.int .i64)⟩, ⟨.slice C ch.length cc, 3, 1, ch.length, ch.map (.int .i64)⟩]
theorem PState.ext {w0 w : World} {B : Nat} {d gl : Int} {G : Value} {at' ch : List Int} (h : PState w0 w B d G gl at' ch) : Ext w0 w := by
  obtain ⟨T, C, ct, cc, h⟩ := h
  exact h.ext
theorem PState.next {w0 w w' : World} {B : Nat} {d gl : Int} {G : Value} {at' ch : List Int} (h : PState w0 w B d G gl at' ch) (hx : Ext w w') : PState w0 w' B d G gl at' ch := by
  obtain ⟨T, C, ct, cc, h⟩ := h
  exact ⟨T, C, ct, cc, h.next hx⟩
theorem PState.push {w0 w : World} {B : Nat} {d gl : Int} {G : Value} {at' ch : List Int} {T : Option Addr} {g ct cc : Nat} {X : LRow} {y : Int} (h : Owns w0 w [⟨.slice (some ⟨B, 0, none⟩) 5 5, 27, 1, 5, [.int .i64 d, G, .int .i64 gl, .slice T at'.length ct, .slice (some ⟨g, 0, none⟩) (ch.length + 1) cc]⟩, ⟨.slice T at'.length ct, 3, 1, at'.length, at'.map (.int .i64)⟩, ⟨.slice (some ⟨g, 0, none⟩) (ch.length + 1) cc, 3, 1, ch.length + 1, ch.map (.int .i64) ++ [.int .i64 y]⟩, X]) :
    PState w0 w B d G gl at' (ch ++ [y]) := by
  refine ⟨T, some ⟨g, 0, none⟩, ct, cc, ?_⟩
  have h2 := h.sublist (List.sublist_append_left [_, _, _] [X])
  rw [List.length_append, List.map_append]
  exact h2
theorem PState.pushAt {w0 w : World} {B : Nat} {d gl : Int} {G : Value} {at' ch : List Int} {C : Option Addr} {g ct cc : Nat} {X : LRow} {y : Int} (h : Owns w0 w [⟨.slice (some ⟨B, 0, none⟩) 5 5, 27, 1, 5, [.int .i64 d, G, .int .i64 gl, .slice (some ⟨g, 0, none⟩) (at'.length + 1) ct, .slice C ch.length cc]⟩, ⟨.slice (some ⟨g, 0, none⟩) (at'.length + 1) ct, 3, 1, at'.length + 1, at'.map (.int .i64) ++ [.int .i64 y]⟩, ⟨.slice C ch.length cc, 3, 1, ch.length, ch.map (.int .i64)⟩, X]) :
    PState w0 w B d G gl (at' ++ [y]) ch := by
  refine ⟨some ⟨g, 0, none⟩, C, ct, cc, ?_⟩
  have h2 := h.sublist (List.sublist_append_left [_, _, _] [X])
  rw [List.length_append, List.map_append]
  exact h2
theorem PState.start {w : World} {d gl : Int} {G : Value} : PState w (w.alloc (.cells #[.int .i64 d, G, .int .i64 gl, .slice none 0 0, .slice none 0 0] 27)) w.heap.size d G gl [] [] := by
  refine ⟨none, none, 0, 0, ?_⟩
  have h1 := (Owns.start w (L := [no, nilRow 3, nilRow 3]) (by intro r hr; simp [no, nilRow] at hr; rcases hr with rfl | rfl | rfl <;> simp)).new 0 #[.int .i64 d, G, .int .i64 gl, .slice none 0 0, .slice none 0 0] 27 (by simp [maxLen])
  exact h1
def chOf (l : List UInt8) : List Int := l.map fun b => ((b.toNat % 17 : Nat) : Int)
def atOf (n : Nat) (l : List UInt8) : List Int := l.map fun b => ((b.toNat % n : Nat) : Int)
theorem chOf_take {l : List UInt8} {i : Nat} (h : i < l.length) : chOf (l.take (i + 1)) = chOf (l.take i) ++ [((l[i].toNat % 17 : Nat) : Int)] := by
  rw [chOf, List.take_succ_eq_append_getElem h, List.map_append]; rfl
theorem atOf_take {n : Nat} {l : List UInt8} {i : Nat} (h : i < l.length) : atOf n (l.take (i + 1)) = atOf n (l.take i) ++ [((l[i].toNat % n : Nat) : Int)] := by
  rw [atOf, List.take_succ_eq_append_getElem h, List.map_append]; rfl
theorem hasTo_lt {l : List Int} {n : Nat} (h : ∀ x ∈ l, 0 ≤ x ∧ x < n) : ∀ k, k ≤ l.length → Rk.hasTo l k < 2 ^ n
  | 0, _ => by rw [Rk.hasTo]; exact Nat.two_pow_pos n
  | k + 1, hk => by
    rw [Rk.hasTo]
    have hx := h l[k] (List.getElem_mem (by omega))
    have e : l.getD k 0 = l[k] := by rw [List.getD_eq_getElem?_getD, List.getElem?_eq_getElem (by omega)]; rfl
    rw [e]
    exact Nat.or_lt_two_pow (hasTo_lt h k (by omega)) (Nat.pow_lt_pow_right (by omega) (by omega))
theorem atOf_ok {n : Nat} (hn : 0 < n) {l : List UInt8} : ∀ x ∈ atOf n l, 0 ≤ x ∧ x < n := fun x hx => by
  rw [atOf, List.mem_map] at hx
  obtain ⟨b, _, rfl⟩ := hx
  have := Nat.mod_lt b.toNat hn
  omega
theorem atOf_getD {n : Nat} {l : List UInt8} {i : Nat} (h : i < l.length) : (atOf n l).getD i 0 = ((l[i].toNat % n : Nat) : Int) := by
  rw [atOf, List.getD_eq_getElem?_getD, List.getElem?_map, List.getElem?_eq_getElem h]; rfl
theorem chOf_len (l : List UInt8) : (chOf l).length = l.length := List.length_map _
theorem atOf_len (n : Nat) (l : List UInt8) : (atOf n l).length = l.length := List.length_map _
theorem chOf_ok (l : List UInt8) : ∀ c ∈ chOf l, 0 ≤ c ∧ c ≤ 16 := fun c hc => by
  rw [chOf, List.mem_map] at hc
  obtain ⟨b, _, rfl⟩ := hc
  have := Nat.mod_lt b.toNat (show 0 < 17 by decide)
  omega
theorem prodTo_le {ch : List Int} (h : ∀ c ∈ ch, 0 ≤ c ∧ c ≤ 16) (S : Nat) : ∀ k, k ≤ ch.length → Rk.prodTo ch S k ≤ 16 ^ k
  | 0, _ => by rw [Rk.prodTo]; exact Nat.le_refl _
  | k + 1, hk => by
    have ih := prodTo_le h S k (by omega)
    have hc : ch.getD k 0 ≤ 16 := by
      rw [List.getD_eq_getElem?_getD, List.getElem?_eq_getElem (by omega)]
      exact (h _ (List.getElem_mem _)).2
    rw [Rk.prodTo, Nat.pow_succ]
    refine Nat.mul_le_mul ih ?_
    split <;> omega
theorem prodTo_cap {ch : List Int} (h : ∀ c ∈ ch, 0 ≤ c ∧ c ≤ 16) (S : Nat) {k : Nat} (hk : k ≤ ch.length) (h9 : k ≤ 9) : Rk.prodTo ch S k ≤ 68719476736 :=
  Nat.le_trans (prodTo_le h S k hk) (Nat.pow_le_pow_right (n := 16) (by omega) h9)
theorem copies_check {n : Nat} (chs cps : List UInt8) (hn : n = chs.length) (h1 : 0 < n) (h2 : n ≤ 9) (h3 : 0 < cps.length) (h4 : cps.length ≤ 5) : Rk.check ⟨1, [], (cps.length : Int) - 1, atOf n cps, chOf chs⟩ = 0 := by
  have hc : Cd.check 1 [] ((cps.length : Int) - 1) = 0 := by
    rw [Cd.check_groups (by omega) (by simp; omega), Cd.checkG_end]
  refine Rk.check_zero hc ?_ ?_ ?_ ?_
  · show ¬ 12 < (chOf chs).length
    rw [chOf_len]; omega
  · show ((atOf n cps).length : Int) = Cd.pieces 1 [] _
    rw [Cd.pieces_ok hc, atOf_len]
    simp
    omega
  · intro x hx
    have := atOf_ok h1 x hx
    show ¬ (x < -1 ∨ ((chOf chs).length : Int) ≤ x)
    rw [chOf_len]; omega
  · intro c hc
    have := chOf_ok chs c hc
    omega
theorem copies_loss {n : Nat} (chs cps : List UInt8) (hn : n = chs.length) (h1 : 0 < n) (h3 : 0 < cps.length) (h4 : cps.length ≤ 5) : Rk.loss ⟨1, [], (cps.length : Int) - 1, atOf n cps, chOf chs⟩ = Rk.prodTo (chOf chs) (Rk.hasTo (atOf n cps) cps.length) n := by
  have e : (cps.length : Int) - 1 = ((cps.length - 1 : Nat) : Int) := by omega
  rw [e, Rk.loss_sub (chOf_ok chs) (Rk.hasTo (atOf n cps) cps.length)]
  · show Rk.prodTo _ _ (chOf chs).length = _
    rw [chOf_len, hn]
  · intro f _
    have := Rk.copies_loses (g := cps.length - 1) (by omega) (at' := atOf n cps) (ch := chOf chs) (by rw [atOf_len]; omega) (fun x hx => by have := atOf_ok h1 x hx; rw [chOf_len]; omega) f
    rw [atOf_len] at this
    exact this
/-- A second peril that the call builds: its box, its places; its chances are another's. -/
def QState (w0 w : World) (B : Nat) (d : Int) (G : Value) (gl : Int) (at' : List Int) (C : Value) : Prop :=
  ∃ (T : Option Addr) (ct : Nat), Owns w0 w [⟨.slice (some ⟨B, 0, none⟩) 5 5, 27, 1, 5, [.int .i64 d, G, .int .i64 gl, .slice T at'.length ct, C]⟩, ⟨.slice T at'.length ct, 3, 1, at'.length, at'.map (.int .i64)⟩]
theorem QState.ext {w0 w : World} {B : Nat} {d gl : Int} {G C : Value} {at' : List Int} (h : QState w0 w B d G gl at' C) : Ext w0 w := by
  obtain ⟨T, ct, h⟩ := h
  exact h.ext
theorem QState.next {w0 w w' : World} {B : Nat} {d gl : Int} {G C : Value} {at' : List Int} (h : QState w0 w B d G gl at' C) (hx : Ext w w') : QState w0 w' B d G gl at' C := by
  obtain ⟨T, ct, h⟩ := h
  exact ⟨T, ct, h.next hx⟩
theorem QState.push {w0 w : World} {B : Nat} {d gl : Int} {G C : Value} {at' : List Int} {g ct : Nat} {X : LRow} {y : Int} (h : Owns w0 w [⟨.slice (some ⟨B, 0, none⟩) 5 5, 27, 1, 5, [.int .i64 d, G, .int .i64 gl, .slice (some ⟨g, 0, none⟩) (at'.length + 1) ct, C]⟩, ⟨.slice (some ⟨g, 0, none⟩) (at'.length + 1) ct, 3, 1, at'.length + 1, at'.map (.int .i64) ++ [.int .i64 y]⟩, X]) :
    QState w0 w B d G gl (at' ++ [y]) C := by
  refine ⟨some ⟨g, 0, none⟩, ct, ?_⟩
  have h2 := h.sublist (List.sublist_append_left [_, _] [X])
  rw [List.length_append, List.map_append]
  exact h2
theorem QState.start {w : World} {d gl : Int} {G C : Value} : QState w (w.alloc (.cells #[.int .i64 d, G, .int .i64 gl, .slice none 0 0, C] 27)) w.heap.size d G gl [] C := by
  refine ⟨none, 0, ?_⟩
  have h1 := (Owns.start w (L := [no, nilRow 3]) (by intro r hr; simp [no, nilRow] at hr; rcases hr with rfl | rfl <;> simp)).new 0 #[.int .i64 d, G, .int .i64 gl, .slice none 0 0, C] 27 (by simp [maxLen])
  exact h1
theorem ints_small {l : List Int} {n : Nat} (h : ∀ x ∈ l, 0 ≤ x ∧ x < n) (hn : n < 1000) : ∀ x ∈ l, -9223372036854775808 ≤ x ∧ x ≤ 9223372036854775807 := fun x hx => by
  have := h x hx
  omega
/-- What Few says, in full. -/
def FewOut2 (p : Rk.Pe) (n : Nat) (w : World) (e : Ending) (w' : World) : Prop := ∃ b, e = .returned (.bool b) ∧ (b = true → p.ch.length ≤ n ∧ p.at'.length ≤ 60 ∧ p.gs.length ≤ 30) ∧ Ext w w'
set_option maxHeartbeats 4000000 in
theorem few_more (p : Rk.Pe) (n : Nat) (v : Value) (w : World) (hv : RP w v p) :
    Calls Tryd.prog 9 #[v, .int .i64 n] w fun e w' => FewOut2 p n w e w' := by
  obtain ⟨A1, A2, A3, c1, c2, c3, rfl⟩ := hv.slices
  have hx0 := (Ext.refl w).alloc (.cells #[.int .i64 p.d, .slice A1 p.gs.length c1, .int .i64 p.gl, .slice A2 p.at'.length c2, .slice A3 p.ch.length c3] 27)
  have hv1 := RP.ext _ _ _ _ hx0 hv
  have hG : Rs (Rs RI) (w.alloc (.cells #[.int .i64 p.d, .slice A1 p.gs.length c1, .int .i64 p.gl, .slice A2 p.at'.length c2, .slice A3 p.ch.length c3] 27)) (.slice A1 p.gs.length c1) p.gs := by
    obtain ⟨G, T, C, he, h1, h2, h3⟩ := hv1
    injection he with he
    simp at he
    obtain ⟨rfl, rfl, rfl⟩ := he
    exact h1
  have HG := Lib.hid hG
  have HX := Lib.hid hx0
  clear hv hx0 hv1 hG
  by_cases h1 : p.ch.length ≤ n
  · by_cases h2 : p.at'.length ≤ 60
    · by_cases h3 : p.gs.length ≤ 30
      · go_enter Tryd.func9, Tryd.ntmps9
        go_wp2_with fail
        go_loop [5] (fun vi => ∃ i : Nat, i ≤ p.gs.length ∧ vi = .int .i64 i) (fun vi => p.gs.length - (intOf vi).toNat)
        case atStart => exact ⟨0, Nat.zero_le _, rfl⟩
        case round =>
          obtain ⟨i, hi, rfl⟩ := hrel
          by_cases hlt : i < p.gs.length
          · obtain ⟨ad, u, rfl, hcell, hu⟩ := HG.out.at hlt
            obtain ⟨B, cB, rfl, hlB⟩ := hu.form
            clear hu
            by_cases h4 : p.gs[i].length ≤ 30
            · go_wp2_with fail
              go_round
              case rel => exact ⟨i + 1, by omega, by go_num⟩
              case measure => simp [intOf]; omega
            · go_wp2_with fail
              go_ret
              exact ⟨false, rfl, by simp, HX.out⟩
          · obtain rfl : i = p.gs.length := by omega
            go_wp2_with fail
            go_ret
            exact ⟨true, rfl, fun _ => ⟨h1, h2, h3⟩, HX.out⟩
      · go_enter Tryd.func9, Tryd.ntmps9
        go_wp2_with fail
        go_ret
        exact ⟨false, rfl, by simp, HX.out⟩
    · go_enter Tryd.func9, Tryd.ntmps9
      go_wp2_with fail
      go_ret
      exact ⟨false, rfl, by simp, HX.out⟩
  · go_enter Tryd.func9, Tryd.ntmps9
    go_wp2_with fail
    go_ret
    exact ⟨false, rfl, by simp, HX.out⟩
theorem x16 {X k : Nat} (hX : X ≤ 16) (hk : 1 ≤ k) (h9 : k ≤ 9) : X * 16 ^ (k - 1) ≤ 68719476736 := by
  have h1 : 16 ^ (k - 1) ≤ 16 ^ 8 := Nat.pow_le_pow_right (by omega) (by omega)
  have h2 := Nat.mul_le_mul hX h1
  omega
theorem x16_step {X k : Nat} (hk : 1 ≤ k) : X * 16 ^ (k + 1 - 1) = X * 16 ^ (k - 1) * 16 := by
  obtain ⟨j, rfl⟩ : ∃ j, k = j + 1 := ⟨k - 1, by omega⟩
  show X * 16 ^ (j + 1) = X * 16 ^ j * 16
  rw [Nat.pow_succ, Nat.mul_assoc]
theorem all_loss {p : Rk.Pe} (h : Rk.check p = 0) {D : Nat} (hD : D < p.ch.length) (ha : ∀ x ∈ p.at', x = (D : Int)) : Rk.lossOf p = (p.ch.getD D 0).toNat * 16 ^ (p.ch.length - 1) := by
  rw [Rk.lossOf_ok h, Rk.one_loss h hD ha, Rk.prodTo_one, if_pos hD]
set_option maxRecDepth 100000 in
set_option maxHeartbeats 16000000 in
theorem copies_in (chs cps : List UInt8) (d gl : Int) (gs : List (List Int)) (G : Value) (dom : Nat) (A B : Option Addr) (ca cb : Nat) (w : World) (hT : Tab w) (hA : Rd w A (chs.map bv)) (hB : Rd w B (cps.map bv)) (hG : Rs (Rs RI) w G gs) (hdom : dom < 256)
    (h1 : 0 < chs.length) (h2 : chs.length ≤ 9) (h3 : 0 < cps.length) (h4 : cps.length ≤ 5) :
    Calls Tryd.prog 7 #[.slice A chs.length ca, .slice B cps.length cb, .agg #[.int .i64 d, G, .int .i64 gl], .int .u8 dom] w fun e w' => e = .returned (.bool true) ∧ Ext w w' := by
  have hx0 := (Ext.refl w).alloc (.cells #[.int .i64 d, G, .int .i64 gl] 24)
  have HA := Lib.hid (hA.ext hx0)
  have HB := Lib.hid (hB.ext hx0)
  have HG := Lib.hid (Rs.ext (Rs.ext RI.ext) _ _ _ _ hx0 hG)
  have HX0 := Lib.hid hx0
  have HT := Lib.hid (hT.ext hx0)
  have HC0 := Lib.hid (cells_new w #[.int .i64 d, G, .int .i64 gl] 24)
  obtain ⟨A1, c1, rfl, hl1⟩ := hG.form
  have e1 : ((chs.length : Int) == 0) = false := by rw [beq_eq_false_iff_ne]; omega
  have e2 : ((cps.length : Int) == 0) = false := by rw [beq_eq_false_iff_ne]; omega
  clear hA hB hG hx0 hT
  go_enter Tryd.func7, Tryd.ntmps7
  go_wp2_with fail
  have hP0 := PState.start (w := (w.alloc (.cells #[.int .i64 d, .slice A1 gs.length c1, .int .i64 gl] 24))) (d := 1) (gl := (cps.length : Int) - 1) (G := .slice none 0 0)
  rw [show (w.alloc (.cells #[.int .i64 d, .slice A1 gs.length c1, .int .i64 gl] 24)).heap.size = w.heap.size + 1 from by simp] at hP0
  have HP0 := Lib.hid hP0
  clear hP0
  go_loopw [11] (fun vi wr => ∃ i : Nat, i ≤ chs.length ∧ vi = .int .i64 i ∧ Hid (PState (w.alloc (.cells #[.int .i64 d, .slice A1 gs.length c1, .int .i64 gl] 24)) wr (w.heap.size + 1) 1 (.slice none 0 0) ((cps.length : Int) - 1) [] (chOf (chs.take i)))) (fun vi _ => chs.length - (intOf vi).toNat)
  case atStart => exact ⟨0, Nat.zero_le _, rfl, HP0.out⟩
  case round =>
    obtain ⟨i, hi, rfl, HI⟩ := hrel
    by_cases hlt : i < chs.length
    · obtain ⟨T, C, ct, cc, hO⟩ := HI.out
      obtain ⟨ad, rfl, _, hcell⟩ := (HA.out.ext hO.ext).at (k := i) (by simpa using hlt)
      rw [List.getElem_map] at hcell
      have hst := chOf_take hlt
      have hlen : (chOf (chs.take i)).length = i := by rw [chOf_len, List.length_take]; omega
      have hb := Gf.lt8 chs[i]
      obtain ⟨bn, hbn⟩ : ∃ bn, chs[i].toNat = bn := ⟨_, rfl⟩
      rw [hbn] at hst hb
      have hcell2 : wr.cell? (ad.add i) = some (.int .u8 (bn : Int)) := by rw [hcell, ← hbn]
      clear hcell
      have u2 : ((bn : Nat) : Int).tmod 17 = ((bn % 17 : Nat) : Int) := rem_nat (n := 17)
      have hy17 := Nat.mod_lt bn (show 0 < 17 by decide)
      obtain ⟨y, hy⟩ : ∃ y, bn % 17 = y := ⟨_, rfl⟩
      rw [hy] at u2 hst hy17
      have u1 : IntKind.i64.wrap (bn : Int) = (bn : Int) := wrap_small _ (by omega) (by omega)
      have u3 : IntKind.i64.wrap (y : Int) = (y : Int) := wrap_small _ (by omega) (by omega)
      obtain ⟨ch, hch⟩ : ∃ ch, chOf (chs.take i) = ch := ⟨_, rfl⟩
      rw [hch] at hst hO hlen
      have HO := Lib.hid hO.wider.drew
      have HST := Lib.hid (And.intro hst hlen)
      have P4 : wr.cell? ⟨w.heap.size + 1, 4, none⟩ = some (.slice C ch.length cc) := hO.cell 0 rfl 4 rfl
      have P4' : (wr.alloc (.cells #[.int .i64 y] 3)).cell? ⟨w.heap.size + 1, 4, none⟩ = some (.slice C ch.length cc) := ((Ext.refl wr).alloc _).cell P4
      clear hO hst hch hbn hy hlen
      go_wp2_with fail
      apply region_cut2 (fun w9 => PState (w.alloc (.cells #[.int .i64 d, .slice A1 gs.length c1, .int .i64 gl] 24)) w9 (w.heap.size + 1) 1 (.slice none 0 0) ((cps.length : Int) - 1) [] (ch ++ [(y : Int)]))
      case h =>
        go_region_law (have hB : Owns (w.alloc (.cells #[.int .i64 d, .slice A1 gs.length c1, .int .i64 gl] 24)) (World.drew (World.alloc wr (.cells #[.int .i64 y] 3))) _ := HO.out.new 3 #[.int .i64 y] 3 (by simp [maxLen]); refine step_append_owns 25 3 rfl (.tmp 56) (.tmp 63) rfl Tryd.underlying25 info_int rfl hB 2 rfl rfl rfl (hB.cell 3 rfl 0 rfl) rfl (by have := HST.out.2; omega) (by decide) ?_; clear hB; intro g8 c8 w8 hO8 hx8; have HO := Lib.hid hO8; have P4 : w8.cell? ⟨w.heap.size + 1, 4, none⟩ = some (.slice C ch.length cc) := hO8.cell 0 rfl 4 rfl; have F4 : w8.frozen? ⟨w.heap.size + 1, 4, none⟩ = false := hO8.frozen 0 rfl 4; clear hO8 hx8)
        all_goals exact ⟨g8, c8, rfl, PState.push (HO.out.store 0 rfl 4 _)⟩
      case hK =>
        intro g8 c8 w9 hP
        have HP := Lib.hid hP
        clear hP P4 P4'
        go_wp2_with fail
        go_roundw
        case rel => exact ⟨i + 1, by omega, by go_num, by rw [HST.out.1]; exact HP.out⟩
        case measure => simp [intOf]; omega
    · obtain rfl : i = chs.length := by omega
      have hP := HI.out
      rw [List.take_length] at hP
      have HP := Lib.hid hP
      clear hP
      go_wp2_with fail
      go_loopw [10, 12] (fun vh vi wr => ∃ i hs : Nat, i ≤ cps.length ∧ vi = .int .i64 i ∧ vh = .int .i64 hs ∧ hs < 512 ∧ Hid (hs = Rk.hasTo (atOf chs.length cps) i ∧ PState (w.alloc (.cells #[.int .i64 d, .slice A1 gs.length c1, .int .i64 gl] 24)) wr (w.heap.size + 1) 1 (.slice none 0 0) ((cps.length : Int) - 1) (atOf chs.length (cps.take i)) (chOf chs))) (fun _ vi _ => cps.length - (intOf vi).toNat)
      case atStart => exact ⟨0, 0, Nat.zero_le _, rfl, rfl, by omega, rfl, HP.out⟩
      case round =>
        obtain ⟨i, hs, hi, rfl, rfl, hs9, HI⟩ := hrel
        by_cases hlt : i < cps.length
        · obtain ⟨T, C, ct, cc, hO⟩ := HI.out.2
          obtain ⟨ad, rfl, _, hcell⟩ := (HB.out.ext hO.ext).at (k := i) (by simpa using hlt)
          rw [List.getElem_map] at hcell
          have hst := atOf_take (n := chs.length) hlt
          have hlen : (atOf chs.length (cps.take i)).length = i := by rw [atOf_len, List.length_take]; omega
          have hhas : Rk.hasTo (atOf chs.length cps) (i + 1) = hs ||| 2 ^ (cps[i].toNat % chs.length) := by
            rw [Rk.hasTo, ← HI.out.1, atOf_getD hlt, Int.toNat_natCast]
          have hb := Gf.lt8 cps[i]
          obtain ⟨bn, hbn⟩ : ∃ bn, cps[i].toNat = bn := ⟨_, rfl⟩
          rw [hbn] at hst hb hhas
          have hcell2 : wr.cell? (ad.add i) = some (.int .u8 (bn : Int)) := by rw [hcell, ← hbn]
          clear hcell
          have u2 : ((bn : Nat) : Int).tmod (chs.length : Int) = ((bn % chs.length : Nat) : Int) := rem_nat
          have hy9 := Nat.mod_lt bn h1
          obtain ⟨y, hy⟩ : ∃ y, bn % chs.length = y := ⟨_, rfl⟩
          rw [hy] at u2 hst hy9 hhas
          have e3 : ((chs.length : Int)) ≠ 0 := by omega
          obtain ⟨atl, hat⟩ : ∃ atl, atOf chs.length (cps.take i) = atl := ⟨_, rfl⟩
          rw [hat] at hst hO hlen
          have hor : bits .or .i64 (hs : Int) (wrap64 (2 ^ y)) = ((hs ||| 2 ^ y : Nat) : Int) := (or_pow hs y (by omega) (by omega)).1
          have hhb : hs ||| 2 ^ y < 512 := Nat.or_lt_two_pow (n := 9) hs9 (Nat.pow_lt_pow_right (by omega) (by omega))
          have HO := Lib.hid hO.wider
          have HST := Lib.hid (And.intro hst (And.intro hlen hhas))
          have P3 : wr.cell? ⟨w.heap.size + 1, 3, none⟩ = some (.slice T atl.length ct) := hO.cell 0 rfl 3 rfl
          clear hO hst hat hbn hy hlen hhas
          go_wp2_with (have hB := HO.out.new 3 #[.int .i64 (y : Int)] 3 (by simp [maxLen]); refine wpl_append_owns (u := .int .i64 (y : Int)) 25 3 rfl (.tmp 81) (.tmp 83) rfl Tryd.underlying25 info_int rfl hB 1 rfl rfl rfl (hB.cell 3 rfl 0 rfl) rfl (by have := HST.out.2.1; omega) (by decide) ?_; clear hB; intro g8 c8 w8 hO8 _; have P3' : w8.cell? ⟨w.heap.size + 1, 3, none⟩ = some (.slice T atl.length ct) := hO8.cell 0 rfl 3 rfl; have F3 : w8.frozen? ⟨w.heap.size + 1, 3, none⟩ = false := hO8.frozen 0 rfl 3)
          go_roundw
          case rel => exact ⟨i + 1, _, by omega, by go_num, rfl, hhb, HST.out.2.2.symm, by rw [HST.out.1]; exact PState.pushAt (hO8.store 0 rfl 3 _)⟩
          case measure => simp [intOf]; omega
        · obtain rfl : i = cps.length := by omega
          have hP2 := HI.out.2
          rw [List.take_length] at hP2
          have HP2 := Lib.hid hP2
          clear hP2
          have hC := HP2.out
          obtain ⟨T, C, ct, cc, hO⟩ := hC
          have hTT : Rs RI wr (.slice T (atOf chs.length cps).length ct) (atOf chs.length cps) := Rs.of_rdI (hO.rd 1 rfl) rfl (by rw [atOf_len]; omega) (ints_small (atOf_ok h1) (by omega))
          have hCC : Rs RI wr (.slice C (chOf chs).length cc) (chOf chs) := Rs.of_rdI (hO.rd 2 rfl) rfl (by rw [chOf_len]; omega) (ints_small (n := 17) (fun x hx => by have := chOf_ok chs x hx; omega) (by omega))
          rw [chOf_len] at hCC
          rw [atOf_len] at hTT
          have P0 : wr.cell? ⟨w.heap.size + 1, 0, none⟩ = some (.int .i64 1) := hO.cell 0 rfl 0 rfl
          have P1 : wr.cell? ⟨w.heap.size + 1, 1, none⟩ = some (.slice none 0 0) := hO.cell 0 rfl 1 rfl
          have P2 : wr.cell? ⟨w.heap.size + 1, 2, none⟩ = some (.int .i64 ((cps.length : Int) - 1)) := hO.cell 0 rfl 2 rfl
          have P3 : wr.cell? ⟨w.heap.size + 1, 3, none⟩ = some (.slice T (atOf chs.length cps).length ct) := hO.cell 0 rfl 3 rfl
          have P4 : wr.cell? ⟨w.heap.size + 1, 4, none⟩ = some (.slice C (chOf chs).length cc) := hO.cell 0 rfl 4 rfl
          rw [chOf_len] at P4
          rw [atOf_len] at P3
          have HH := Lib.hid HI.out.1
          have HP3 := Lib.hid (And.intro P0 (And.intro P1 (And.intro P2 (And.intro P3 P4))))
          have HTT := Lib.hid hTT
          have HCC := Lib.hid hCC
          have HX1 := Lib.hid hO.ext
          clear hTT hCC hO P0 P1 P2 P3
          go_wp2_with fail
          clear P4
          go_loop [14, 15] (fun vw vi => ∃ (i : Nat) (z : Int), i ≤ chs.length ∧ vi = .int .i64 i ∧ vw = .int .i64 z ∧ Hid (z = ((Rk.prodTo (chOf chs) hs i : Nat) : Int))) (fun _ vi => chs.length - (intOf vi).toNat)
          case atStart => exact ⟨0, 1, Nat.zero_le _, rfl, rfl, rfl⟩
          case round =>
            obtain ⟨i, z, hi, rfl, rfl, HZ⟩ := hrel
            have P4 := HP3.out.2.2.2.2
            by_cases hlt : i < chs.length
            · obtain ⟨ad, u, rfl, hcell, hu⟩ := HCC.out.at (i := i) (by rw [chOf_len]; exact hlt)
              obtain ⟨rfl, _, _⟩ := hu
              have hc16 := chOf_ok chs _ (List.getElem_mem (by rw [chOf_len]; exact hlt))
              have hcap := prodTo_cap (chOf_ok chs) hs (k := i + 1) (by rw [chOf_len]; omega) (by omega)
              have hcap0 := prodTo_cap (chOf_ok chs) hs (k := i) (by rw [chOf_len]; omega) (by omega)
              have hstep : Rk.prodTo (chOf chs) hs (i + 1) = Rk.prodTo (chOf chs) hs i * (if hs.testBit i then ((chOf chs).getD i 0).toNat else 16) := rfl
              have hgd : (chOf chs).getD i 0 = (chOf chs)[i]'(by rw [chOf_len]; exact hlt) := by rw [List.getD_eq_getElem?_getD, List.getElem?_eq_getElem (by rw [chOf_len]; exact hlt)]; rfl
              rw [hgd] at hstep
              obtain ⟨x, hx⟩ : ∃ x, (chOf chs)[i]'(by rw [chOf_len]; exact hlt) = x := ⟨_, rfl⟩
              rw [hx] at hcell hc16 hstep
              have hmm : bits .and .i64 ((hs : Int) / 2 ^ i) 1 = ((Cd.bitAt hs i : Nat) : Int) := by
                have hle : hs / 2 ^ i ≤ hs := Nat.div_le_self _ _
                have := odd64 (hs / 2 ^ i) (by omega)
                rw [Cd.bitAt, ← this]
                simp
              by_cases hb : Cd.bitAt hs i = 1
              · rw [if_pos (Rk.bit_one.1 hb)] at hstep
                have hf : wrap64 (z * x) = ((Rk.prodTo (chOf chs) hs (i + 1) : Nat) : Int) := by
                  rw [hstep] at hcap ⊢
                  have e1 : ((x.toNat : Nat) : Int) = x := by omega
                  have e2 : z * x = ((Rk.prodTo (chOf chs) hs i * x.toNat : Nat) : Int) := by rw [Int.natCast_mul, e1, HZ.out]
                  rw [e2]
                  exact wrap_nat _ (by omega)
                rw [hb] at hmm
                have HF := Lib.hid hf
                clear hf hstep hcap hcap0 hb hx hgd
                go_wp2_with fail
                go_round
                case rel => exact ⟨i + 1, _, by omega, by go_num, rfl, HF.out⟩
                case measure => simp [intOf]; omega
              · have hb0 : Cd.bitAt hs i = 0 := by have : Cd.bitAt hs i < 2 := Nat.mod_lt _ (by decide); omega
                have hbt := Rk.bit_zero.1 hb0
                have hb2 : ¬ (hs.testBit i = true) := by rw [hbt]; simp
                rw [if_neg hb2] at hstep
                have hf : wrap64 (z * 16) = ((Rk.prodTo (chOf chs) hs (i + 1) : Nat) : Int) := by
                  rw [hstep] at hcap ⊢
                  have e2 : z * 16 = ((Rk.prodTo (chOf chs) hs i * 16 : Nat) : Int) := by rw [Int.natCast_mul, HZ.out]; rfl
                  rw [e2]
                  exact wrap_nat _ (by omega)
                rw [hb0] at hmm
                have HF := Lib.hid hf
                clear hf hstep hcap hcap0 hb hb0 hbt hb2 hx hgd
                go_wp2_with fail
                go_round
                case rel => exact ⟨i + 1, _, by omega, by go_num, rfl, HF.out⟩
                case measure => simp [intOf]; omega
            · obtain rfl : i = chs.length := by omega
              clear P4
              obtain ⟨p, hp⟩ : ∃ p, (⟨1, [], (cps.length : Int) - 1, atOf chs.length cps, chOf chs⟩ : Rk.Pe) = p := ⟨_, rfl⟩
              have hrp : RP wr (.agg #[.int .i64 1, .slice none 0 0, .int .i64 ((cps.length : Int) - 1), .slice T cps.length ct, .slice C chs.length cc]) p := by
                rw [← hp]
                exact ⟨_, _, _, rfl, ⟨none, 0, rfl, by simp, fun i x h => by simp at h⟩, HTT.out, HCC.out⟩
              have hck : Rk.check p = 0 := by rw [← hp]; exact copies_check chs cps rfl h1 h2 h3 h4
              have hls : ((Rk.lossOf p : Nat) : Int) = z := by
                rw [Rk.lossOf_ok hck, ← hp, copies_loss chs cps rfl h1 h3 h4, HZ.out, HH.out]
              have HRP := Lib.hid hrp
              have HCK := Lib.hid hck
              have HLS := Lib.hid hls
              have P0 := HP3.out.1
              have P1 := HP3.out.2.1
              have P2 := HP3.out.2.2.1
              have P3 := HP3.out.2.2.2.1
              have P4 := HP3.out.2.2.2.2
              clear hrp hck hls hp
              go_wp2_with fail
              clear P0 P1 P2 P3 P4
              refine (kLoss_any p _ _ (HT.out.ext HX1.out) HRP.out).mono ?_
              rintro e w3 ⟨rfl, hx3⟩
              rw [HLS.out, HCK.out]
              have B0 : w3.cell? ⟨w.heap.size, 0, none⟩ = some (.int .i64 d) := hx3.cell (HX1.out.cell (HC0.out 0 _ rfl))
              have B1 : w3.cell? ⟨w.heap.size, 1, none⟩ = some (.slice A1 gs.length c1) := hx3.cell (HX1.out.cell (HC0.out 1 _ rfl))
              have B2 : w3.cell? ⟨w.heap.size, 2, none⟩ = some (.int .i64 gl) := hx3.cell (HX1.out.cell (HC0.out 2 _ rfl))
              have P4 : w3.cell? ⟨w.heap.size + 1, 4, none⟩ = some (.slice C chs.length cc) := hx3.cell HP3.out.2.2.2.2
              have HX3 := Lib.hid (HX1.out.trans hx3)
              have HC3 := Lib.hid (Rs.ext RI.ext _ _ _ _ hx3 HCC.out)
              have HG3 := Lib.hid (Rs.ext (Rs.ext RI.ext) _ _ _ _ (HX1.out.trans hx3) HG.out)
              have HB := Lib.hid (And.intro B0 (And.intro B1 (And.intro B2 P4)))
              clear hx3
              go_wp2_with fail
              have hrq : RP (w3.alloc (.cells #[.int .i64 d, .slice A1 gs.length c1, .int .i64 gl, .slice none 0 0, .slice C chs.length cc] 27)) (.agg #[.int .i64 d, .slice A1 gs.length c1, .int .i64 gl, .slice none 0 0, .slice C chs.length cc]) ⟨d, gs, gl, [], chOf chs⟩ := ⟨_, _, _, rfl, Rs.ext (Rs.ext RI.ext) _ _ _ _ ((Ext.refl w3).alloc _) HG3.out, ⟨none, 0, rfl, by simp, fun i x h => by simp at h⟩, Rs.ext RI.ext _ _ _ _ ((Ext.refl w3).alloc _) HC3.out⟩
              have HQ0 := Lib.hid (QState.start (w := w3) (d := d) (G := .slice A1 gs.length c1) (gl := gl) (C := .slice C chs.length cc))
              refine (few_more ⟨d, gs, gl, [], chOf chs⟩ 9 _ _ hrq).mono ?_
              rintro e w4 ⟨b, rfl, hb, hx4⟩
              have HQ4 := Lib.hid (HQ0.out.next hx4)
              have HX4 := Lib.hid (HX0.out.trans (HX3.out.trans HQ4.out.ext))
              have HT4 := Lib.hid (HT.out.ext (HX3.out.trans HQ4.out.ext))
              have HFEW := Lib.hid hb
              clear hrq hb hx4 B0 B1 B2 P4
              have u2 : ((dom : Nat) : Int).tmod (chs.length : Int) = ((dom % chs.length : Nat) : Int) := rem_nat
              have hDn := Nat.mod_lt dom h1
              obtain ⟨D, hD⟩ : ∃ D, dom % chs.length = D := ⟨_, rfl⟩
              rw [hD] at u2 hDn
              clear hD
              have e3 : ((chs.length : Int)) ≠ 0 := by omega
              cases b with
              | false =>
                go_wp2_with fail
                refine (sanity_any _ HT4.out).mono ?_
                rintro e w5 ⟨rfl, hx⟩
                go_wp2_with fail
                go_ret
                exact ⟨rfl, HX4.out.trans hx⟩
              | true =>
                have B0 : w4.cell? ⟨w.heap.size, 0, none⟩ = some (.int .i64 d) := HQ4.out.ext.cell HB.out.1
                have B2 : w4.cell? ⟨w.heap.size, 2, none⟩ = some (.int .i64 gl) := HQ4.out.ext.cell HB.out.2.2.1
                by_cases hall : 0 ≤ d ∧ d ≤ 30 ∧ 0 ≤ gl ∧ gl ≤ 30
                · have hgs : gs.length ≤ 30 := (HFEW.out rfl).2.2
                  obtain ⟨q1, q2, q3, q4⟩ := hall
                  go_wp2_with fail
                  clear B0 B2
                  go_loopw [21] (fun vi wr => ∃ k : Nat, (k : Int) ≤ d + gs.length + gl ∧ vi = .int .i64 k ∧ Hid (QState w3 wr w3.heap.size d (.slice A1 gs.length c1) gl (List.replicate k (D : Int)) (.slice C chs.length cc))) (fun vi _ => (d + gs.length + gl - intOf vi).toNat)
                  case atStart => exact ⟨0, by omega, rfl, HQ4.out⟩
                  case round =>
                    obtain ⟨k, hk, rfl, HI2⟩ := hrel
                    obtain ⟨atl, hat⟩ : ∃ atl, List.replicate k (D : Int) = atl := ⟨_, rfl⟩
                    have hlen : atl.length = k := by rw [← hat]; exact List.length_replicate
                    have hnext : List.replicate (k + 1) (D : Int) = atl ++ [(D : Int)] := by rw [← hat]; exact List.replicate_succ'
                    have hQ := HI2.out
                    rw [hat] at hQ
                    obtain ⟨T2, ct2, hO2⟩ := hQ
                    have B0 : wr.cell? ⟨w.heap.size, 0, none⟩ = some (.int .i64 d) := hO2.ext.cell HB.out.1
                    have B1 : wr.cell? ⟨w.heap.size, 1, none⟩ = some (.slice A1 gs.length c1) := hO2.ext.cell HB.out.2.1
                    have B2 : wr.cell? ⟨w.heap.size, 2, none⟩ = some (.int .i64 gl) := hO2.ext.cell HB.out.2.2.1
                    by_cases hlt : (k : Int) < d + gs.length + gl
                    · have HO2 := Lib.hid hO2.wider
                      have HST := Lib.hid (And.intro hlen hnext)
                      have P3 : wr.cell? ⟨w3.heap.size, 3, none⟩ = some (.slice T2 atl.length ct2) := hO2.cell 0 rfl 3 rfl
                      clear hO2 hat hlen hnext
                      go_wp2_with (have hB := HO2.out.new 2 #[.int .i64 (D : Int)] 3 (by simp [maxLen]); refine wpl_append_owns (u := .int .i64 (D : Int)) 25 3 rfl (.tmp 171) (.tmp 173) rfl Tryd.underlying25 info_int rfl hB 1 rfl rfl rfl (hB.cell 2 rfl 0 rfl) rfl (by have := HST.out.1; omega) (by decide) ?_; clear hB; intro g8 c8 w8 hO8 _; have P3' : w8.cell? ⟨w3.heap.size, 3, none⟩ = some (.slice T2 atl.length ct2) := hO8.cell 0 rfl 3 rfl; have F3 : w8.frozen? ⟨w3.heap.size, 3, none⟩ = false := hO8.frozen 0 rfl 3)
                      go_roundw
                      case rel => exact ⟨k + 1, by omega, by go_num, by rw [HST.out.2]; exact QState.push (hO8.store 0 rfl 3 _)⟩
                      case measure => simp [intOf]; omega
                    · have ha : ∀ x ∈ atl, x = (D : Int) := fun x hx => by rw [← hat] at hx; exact (List.mem_replicate.1 hx).2
                      have hTT2 : Rs RI wr (.slice T2 atl.length ct2) atl := Rs.of_rdI (hO2.rd 1 rfl) rfl (by omega) (fun x hx => by have := ha x hx; omega)
                      obtain ⟨p3, hp3⟩ : ∃ p3, (⟨d, gs, gl, atl, chOf chs⟩ : Rk.Pe) = p3 := ⟨_, rfl⟩
                      have hrp3 : RP wr (.agg #[.int .i64 d, .slice A1 gs.length c1, .int .i64 gl, .slice T2 atl.length ct2, .slice C chs.length cc]) p3 := by
                        rw [← hp3]
                        exact ⟨_, _, _, rfl, Rs.ext (Rs.ext RI.ext) _ _ _ _ hO2.ext HG3.out, hTT2, Rs.ext RI.ext _ _ _ _ hO2.ext HC3.out⟩
                      have hone : Rk.check p3 = 0 → Rk.lossOf p3 = ((chOf chs).getD D 0).toNat * 16 ^ (chs.length - 1) := fun hc => by
                        rw [all_loss hc (D := D) (by rw [← hp3]; show D < (chOf chs).length; rw [chOf_len]; exact hDn) (by rw [← hp3]; exact ha), ← hp3]
                        show _ * 16 ^ ((chOf chs).length - 1) = _
                        rw [chOf_len]
                      obtain ⟨ad, u, rfl, hcell, hu⟩ := HC3.out.at (i := D) (by rw [chOf_len]; exact hDn)
                      obtain ⟨rfl, _, _⟩ := hu
                      have hc16 := chOf_ok chs _ (List.getElem_mem (by rw [chOf_len]; exact hDn))
                      have hgd : (chOf chs).getD D 0 = (chOf chs)[D]'(by rw [chOf_len]; exact hDn) := by rw [List.getD_eq_getElem?_getD, List.getElem?_eq_getElem (by rw [chOf_len]; exact hDn)]; rfl
                      rw [hgd] at hone
                      obtain ⟨x, hx⟩ : ∃ x, (chOf chs)[D]'(by rw [chOf_len]; exact hDn) = x := ⟨_, rfl⟩
                      rw [hx] at hcell hc16 hone
                      have HCE := Lib.hid hcell
                      have HRP3 := Lib.hid hrp3
                      have HONE := Lib.hid hone
                      have HX5 := Lib.hid hO2.ext
                      have R0 : wr.cell? ⟨w3.heap.size, 0, none⟩ = some (.int .i64 d) := hO2.cell 0 rfl 0 rfl
                      have R1 : wr.cell? ⟨w3.heap.size, 1, none⟩ = some (.slice A1 gs.length c1) := hO2.cell 0 rfl 1 rfl
                      have R2 : wr.cell? ⟨w3.heap.size, 2, none⟩ = some (.int .i64 gl) := hO2.cell 0 rfl 2 rfl
                      have R3 : wr.cell? ⟨w3.heap.size, 3, none⟩ = some (.slice T2 atl.length ct2) := hO2.cell 0 rfl 3 rfl
                      have R4 : wr.cell? ⟨w3.heap.size, 4, none⟩ = some (.slice (some ad) chs.length cc) := hO2.cell 0 rfl 4 rfl
                      have HR := Lib.hid (And.intro R0 (And.intro R1 (And.intro R2 (And.intro R3 R4))))
                      clear hTT2 hrp3 hone hcell hx hgd hO2 hp3 ha hat hnext hlen
                      go_wp2_with fail
                      clear R0 R1 R2 R3 R4 B0 B1 B2
                      refine (kCheck_any p3 _ _ HRP3.out).mono ?_
                      rintro e w5 ⟨rfl, hx5⟩
                      have HY5 := Lib.hid (HX5.out.trans hx5)
                      by_cases hck3 : Rk.check p3 = 0
                      · have e9 : (Rk.check p3 != 0) = false := by rw [hck3]; rfl
                        have HCK3 := Lib.hid hck3
                        have R0 := hx5.cell HR.out.1
                        have R1 := hx5.cell HR.out.2.1
                        have R2 := hx5.cell HR.out.2.2.1
                        have R3 := hx5.cell HR.out.2.2.2.1
                        have R4 := hx5.cell HR.out.2.2.2.2
                        have HRP5 := Lib.hid (RP.ext _ _ _ _ hx5 HRP3.out)
                        clear hx5 hck3
                        go_wp2_with fail
                        clear R0 R1 R2 R3 R4 e9
                        refine (kLoss_any p3 _ _ (HT.out.ext (HX3.out.trans HY5.out)) HRP5.out).mono ?_
                        rintro e w6 ⟨rfl, hx6⟩
                        have hL := HONE.out HCK3.out
                        obtain ⟨X, hX⟩ : ∃ X, x.toNat = X := ⟨_, rfl⟩
                        have hxX : x = (X : Int) := by omega
                        have hX16 : X ≤ 16 := by omega
                        rw [hX] at hL
                        rw [HCK3.out]
                        have HY6 := Lib.hid (HY5.out.trans hx6)
                        have P4 : w6.cell? ⟨w.heap.size + 1, 4, none⟩ = some (.slice (some ad) chs.length cc) := HY6.out.cell HB.out.2.2.2
                        have hcx : w6.cell? (ad.add D) = some (.int .i64 (X : Int)) := by rw [← hxX]; exact HY6.out.cell HCE.out
                        obtain ⟨L, hLL⟩ : ∃ L, Rk.lossOf p3 = L := ⟨_, rfl⟩
                        rw [hLL]
                        rw [hLL] at hL
                        have HL := Lib.hid hL
                        clear hx6 hL hX hxX hLL
                        go_wp2_with fail
                        clear hcx P4
                        go_loop [14, 24] (fun vw vi => ∃ (k : Nat) (z : Int), 1 ≤ k ∧ k ≤ chs.length ∧ vi = .int .i64 k ∧ vw = .int .i64 z ∧ Hid (z = ((X * 16 ^ (k - 1) : Nat) : Int))) (fun _ vi => chs.length - (intOf vi).toNat)
                        case atStart => exact ⟨1, (X : Int), Nat.le_refl _, h1, rfl, rfl, Lib.hid (by simp)⟩
                        case round =>
                          obtain ⟨i, z, hi1, hi, rfl, rfl, HZ⟩ := hrel
                          have P4 : w6.cell? ⟨w.heap.size + 1, 4, none⟩ = some (.slice (some ad) chs.length cc) := HY6.out.cell HB.out.2.2.2
                          by_cases hlt : i < chs.length
                          · have hf : wrap64 (z * 16) = ((X * 16 ^ (i + 1 - 1) : Nat) : Int) := by
                              have hcap := x16 hX16 (k := i + 1) (by omega) (by omega)
                              rw [x16_step hi1] at hcap ⊢
                              have e2 : z * 16 = ((X * 16 ^ (i - 1) * 16 : Nat) : Int) := by rw [Int.natCast_mul, HZ.out]; rfl
                              rw [e2]
                              exact wrap_nat _ (by omega)
                            have HF := Lib.hid hf
                            clear hf
                            go_wp2_with fail
                            go_round
                            case rel => exact ⟨i + 1, _, by omega, by omega, by go_num, rfl, HF.out⟩
                            case measure => simp [intOf]; omega
                          · obtain rfl : i = chs.length := by omega
                            obtain rfl : z = (L : Int) := by rw [HZ.out, HL.out]
                            go_wp2_with fail
                            refine (sanity_any _ (HT.out.ext (HX3.out.trans HY6.out))).mono ?_
                            rintro e w7 ⟨rfl, hx⟩
                            have HX7 := Lib.hid (HX0.out.trans (HX3.out.trans (HY6.out.trans hx)))
                            clear hx
                            go_wp2_with fail
                            go_ret
                            exact ⟨rfl, HX7.out⟩
                      · have e9 : (Rk.check p3 != 0) = true := by rw [bne_iff_ne]; exact hck3
                        clear hck3 hx5
                        go_wp2_with fail
                        refine (sanity_any _ (HT.out.ext (HX3.out.trans HY5.out))).mono ?_
                        rintro e w7 ⟨rfl, hx⟩
                        have HX7 := Lib.hid (HX0.out.trans (HX3.out.trans (HY5.out.trans hx)))
                        clear hx
                        go_wp2_with fail
                        go_ret
                        exact ⟨rfl, HX7.out⟩
                · have four : d < 0 ∨ (¬ d < 0 ∧ 30 < d) ∨ (¬ d < 0 ∧ ¬ 30 < d ∧ gl < 0) ∨ (¬ d < 0 ∧ ¬ 30 < d ∧ ¬ gl < 0 ∧ 30 < gl) := by omega
                  clear hall
                  rcases four with g | ⟨g1, g⟩ | ⟨g1, g2, g⟩ | ⟨g1, g2, g3, g⟩
                  all_goals
                    go_wp2_with fail
                    refine (sanity_any _ HT4.out).mono ?_
                    rintro e w5 ⟨rfl, hx⟩
                    go_wp2_with fail
                    go_ret
                    exact ⟨rfl, HX4.out.trans hx⟩
set_option maxRecDepth 100000 in
set_option maxHeartbeats 4000000 in
theorem copies_out (chs cps : List UInt8) (d gl : Int) (G : Value) (dom : Nat) (A B : Option Addr) (ca cb : Nat) (w : World) (hT : Tab w)
    (h : chs.length = 0 ∨ 9 < chs.length ∨ cps.length = 0 ∨ 5 < cps.length) :
    Calls Tryd.prog 7 #[.slice A chs.length ca, .slice B cps.length cb, .agg #[.int .i64 d, G, .int .i64 gl], .int .u8 dom] w fun e w' => e = .returned (.bool true) ∧ Ext w w' := by
  have hx0 := (Ext.refl w).alloc (.cells #[.int .i64 d, G, .int .i64 gl] 24)
  have HX0 := Lib.hid hx0
  have HT := Lib.hid (hT.ext hx0)
  obtain ⟨n, hn⟩ : ∃ n, chs.length = n := ⟨_, rfl⟩
  obtain ⟨m, hm⟩ : ∃ m, cps.length = m := ⟨_, rfl⟩
  rw [hn, hm] at h ⊢
  have four : n = 0 ∨ (¬ n = 0 ∧ 9 < n) ∨ (¬ n = 0 ∧ ¬ 9 < n ∧ m = 0) ∨ (¬ n = 0 ∧ ¬ 9 < n ∧ ¬ m = 0 ∧ 5 < m) := by omega
  clear h hx0 hT hn hm
  rcases four with g | ⟨g1, g⟩ | ⟨g1, g2, g⟩ | ⟨g1, g2, g3, g⟩
  · subst g
    go_enter Tryd.func7, Tryd.ntmps7
    go_wp2_with fail
    refine (sanity_any _ HT.out).mono ?_
    rintro e w5 ⟨rfl, hx⟩
    go_wp2_with fail
    go_ret
    exact ⟨rfl, HX0.out.trans hx⟩
  · have e1 : ((n : Int) == 0) = false := by rw [beq_eq_false_iff_ne]; omega
    go_enter Tryd.func7, Tryd.ntmps7
    go_wp2_with fail
    refine (sanity_any _ HT.out).mono ?_
    rintro e w5 ⟨rfl, hx⟩
    go_wp2_with fail
    go_ret
    exact ⟨rfl, HX0.out.trans hx⟩
  · have e1 : ((n : Int) == 0) = false := by rw [beq_eq_false_iff_ne]; omega
    subst g
    go_enter Tryd.func7, Tryd.ntmps7
    go_wp2_with fail
    refine (sanity_any _ HT.out).mono ?_
    rintro e w5 ⟨rfl, hx⟩
    go_wp2_with fail
    go_ret
    exact ⟨rfl, HX0.out.trans hx⟩
  · have e1 : ((n : Int) == 0) = false := by rw [beq_eq_false_iff_ne]; omega
    have e2 : ((m : Int) == 0) = false := by rw [beq_eq_false_iff_ne]; omega
    go_enter Tryd.func7, Tryd.ntmps7
    go_wp2_with fail
    refine (sanity_any _ HT.out).mono ?_
    rintro e w5 ⟨rfl, hx⟩
    go_wp2_with fail
    go_ret
    exact ⟨rfl, HX0.out.trans hx⟩
theorem copies_walk (chs cps : List UInt8) (d gl : Int) (gs : List (List Int)) (G : Value) (dom : Nat) (A B : Option Addr) (ca cb : Nat) (w : World) (hT : Tab w) (hA : Rd w A (chs.map bv)) (hB : Rd w B (cps.map bv)) (hG : Rs (Rs RI) w G gs) (hdom : dom < 256) :
    Calls Tryd.prog 7 #[.slice A chs.length ca, .slice B cps.length cb, .agg #[.int .i64 d, G, .int .i64 gl], .int .u8 dom] w fun e w' => e = .returned (.bool true) ∧ Ext w w' := by
  by_cases h : 0 < chs.length ∧ chs.length ≤ 9 ∧ 0 < cps.length ∧ cps.length ≤ 5
  · exact copies_in chs cps d gl gs G dom A B ca cb w hT hA hB hG hdom h.1 h.2.1 h.2.2.1 h.2.2.2
  · exact copies_out chs cps d gl G dom A B ca cb w hT (by omega)
end Go.Proofs.YtaemjkfmbnhaoaaDoor
