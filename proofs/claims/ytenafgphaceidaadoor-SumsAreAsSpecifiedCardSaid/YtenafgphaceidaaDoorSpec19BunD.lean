/- What the program's functions do, step by step: part D of the texts for this claim; no condition beyond what each theorem states. -/
import Derived.DeepKeys5
import Derived.ArgAppend
import Derived.Deep.DeepCutAuto
import Derived.Deep.CutRange
import Derived.Deep.CutBlock
import Derived.Test.YtenafgphaceidaaDoorSpec19BunA
import Derived.Test.YtenafgphaceidaaDoorSpec19BunB
import Derived.Test.YtenafgphaceidaaDoorSpec19BunC
/- THE WALK over ways of package sums. -/
namespace Go.Proofs.YtenafgphaceidaaDoor
open Go.RowKit
theorem Owns.lower {w w0 w' : World} {L : List LRow} (h : Owns w0 w' L) (hx : Ext w w0) : Owns w w' L where
  ext := hx.trans h.ext
  ok i r hr := by
    obtain ⟨h1, h2⟩ := h.ok i r hr
    refine ⟨h1, ?_⟩
    rcases h2 with h2 | ⟨g, cap, cur, a, b, rest⟩
    · exact .inl h2
    · exact .inr ⟨g, cap, cur, a, Nat.le_trans hx.size b, rest⟩
  far := h.far
theorem wrap_pow8 {k P : Nat} (h : 2 ^ k = P) (hk : k ≤ 8) : wrap64 (2 ^ k) = (P : Int) ∧ P ≤ 256 := by
  have h1 : ((2 : Int) ^ k) = ((2 ^ k : Nat) : Int) := by simp
  have h2 : P ≤ 256 := by rw [← h]; exact Nat.pow_le_pow_right (by decide) hk
  rw [h1, h]
  clear h1 h
  unfold wrap64
  omega
set_option maxHeartbeats 8000000 in
set_option maxRecDepth 100000 in
theorem uWays_any (h : Su.Ha) (v : Value) (w : World) (hv : RH w v h) (hk : Su.Ok h) :
    Calls Tryd.prog 34 #[v] w fun e w' => ∃ g N, e = .returned (.slice (some ⟨g, 0, none⟩) N N) ∧ N = 2 ^ (Su.senders h).length ∧ Owns w w' [wrow g N (Su.ways h)] := by
  have hvv := hv
  obtain ⟨A, B, c, d, rfl, hG, hS, hl1, hl2, hb1, hb2⟩ := hv.open
  have hx0 := (Ext.refl w).alloc (.cells #[.slice A h.pr.length c, .slice B h.src.length d, .int .i64 h.tgt] 25)
  have HX0 := Lib.hid hx0
  have HG := Lib.hid (Rs.ext (Rs.ext RI.ext) _ _ _ _ hx0 hG)
  have HV := Lib.hid (RH.ext _ _ _ _ hx0 hvv)
  clear hv hvv hG hS hx0
  obtain ⟨n, hn⟩ : ∃ n, h.pr.length = n := ⟨_, rfl⟩
  rw [hn] at HX0 HG HV hl1 ⊢
  have hn12 := hk.few
  rw [hn] at hn12
  have hterm : ∀ a ∈ Su.senders h, 0 ≤ a ∧ a < (n : Int) := fun a ha => by
    rw [← hn]; exact hk.src a ((Su.senders_mem h a).1 ha).2
  have HK := Lib.hid (And.intro hk (And.intro hn hterm))
  have h8 := hk.send
  clear hk hterm
  obtain ⟨m, hm⟩ : ∃ m, (Su.senders h).length = m := ⟨_, rfl⟩
  rw [hm] at h8
  obtain ⟨N, hN⟩ : ∃ N, 2 ^ m = N := ⟨_, rfl⟩
  have hN256 : N ≤ 256 := by rw [← hN]; exact Nat.pow_le_pow_right (by omega) h8
  have hN0 : 0 < N := by rw [← hN]; exact Nat.two_pow_pos m
  have hwN : wrap64 (2 ^ m) = (N : Int) := by
    rw [← hN]
    have h1 : ((2 : Int) ^ m) = ((2 ^ m : Nat) : Int) := by simp
    rw [h1, hN]
    unfold wrap64
    omega
  have HM := Lib.hid (And.intro hm (And.intro hN (fun k => show (Su.waysTo h k).length = N * 12 by rw [Su.waysTo_len, hm, hN])))
  obtain ⟨i0, hi, hz0, hz1, hz2⟩ := info_parts info_ways
  have HZ := Lib.hid hz2
  clear hz2 hm hN
  go_enter Tryd.func34, Tryd.ntmps34
  go_wp2_with fail
  refine (uSenders_any h _ _ HV.out (fun k hk => Nat.le_trans (Su.send_few HK.out.1.src k hk) (by rw [HK.out.2.1]; exact hn12))).mono ?_
  rintro e w1 ⟨A9, n9, c9, rfl, hr9, hx9⟩
  obtain rfl : n9 = m := by rw [hr9.len]; exact HM.out.1
  have HR9 := Lib.hid hr9
  have hb9 := hbox hx9
  have HX1 := Lib.hid hx9
  obtain ⟨d0, d1, d2⟩ := hb9
  clear hr9 hx9
  go_wp2_with (refine wpList_make_full _ rfl (.tmp 25) (.tmp 25) 74 rfl w1.heap.size 78 i0 wzero 36 Tryd.underlying74 hi hz0 hz1 _ _ _ _ N rfl rfl hwN hwN (by rw [HZ.out]; omega) (by unfold maxLen; omega) (Nat.le_refl _) ?_; intro w2 hown hgrow)
  have hO0 : Owns w1 w2 [wrow w1.heap.size N (Su.waysTo h 0)] := by
    refine Owns.single ((Ext.refl w1).grown hgrow (fun k h => by cases h)) ?_
    rw [made_zero] at hown
    rw [Su.waysTo_zero, HM.out.1, HM.out.2.1]
    unfold LRow.ok wrow
    rw [wcells_zeros]
    exact hown
  have HO0 := Lib.hid hO0
  obtain ⟨g, hg⟩ : ∃ g, w1.heap.size = g := ⟨_, rfl⟩
  rw [hg] at HO0 ⊢
  clear hown hgrow hO0 d0 d1 d2 hg hwN
  go_loopw [29] (fun vi wr => ∃ s : Nat, s ≤ N ∧ vi = .int .i64 s ∧ Hid (Owns w1 wr [wrow g N (Su.waysTo h s)])) (fun vi _ => N - (intOf vi).toNat)
  case atStart => exact ⟨0, Nat.zero_le _, rfl, HO0⟩
  case round =>
    obtain ⟨s, hs, rfl, HS⟩ := hrel
    by_cases hlt : s < N
    case neg =>
      obtain rfl : s = N := by omega
      go_wp2_with fail
      go_ret
      refine ⟨g, s, rfl, by rw [HM.out.1, HM.out.2.1], ?_⟩
      rw [Su.ways_def, HM.out.1, HM.out.2.1]
      exact HS.out.lower (HX0.out.trans HX1.out)
    case pos =>
      obtain ⟨X0, hX0⟩ : ∃ X, Su.waysTo h s = X := ⟨_, rfl⟩
      have hX0l : X0.length = N * 12 := by rw [← hX0]; exact HM.out.2.2 s
      have hnext : Su.waysTo h (s + 1) = Su.fill h (Su.senders h) n s X0 := by rw [Su.waysTo_succ, hX0, HK.out.2.1]
      rw [hX0] at HS
      have HNX := Lib.hid hnext
      clear hX0 hnext
      obtain ⟨wo, hwo⟩ : ∃ wo, wo = wr := ⟨_, rfl⟩
      rw [← hwo] at HS ⊢
      clear hwo
      go_wp2_with fail
      go_loopw [35] (fun vi wr => ∃ k : Nat, k ≤ 12 ∧ vi = .int .i64 k ∧ Hid (Owns w1 wr [wrow g N (Su.rep (Su.initStep s) k X0)])) (fun vi _ => 12 - (intOf vi).toNat)
      case atStart => exact ⟨0, Nat.zero_le _, rfl, Lib.hid HS.out⟩
      case round =>
        obtain ⟨k, hk, rfl, HI⟩ := hrel
        by_cases hlt2 : k < 12
        · have hat := ways_at HI.out (by rw [Su.rep_len (Su.initStep_len s)]; exact hX0l) hlt hlt2
          obtain ⟨k0, k1, k2, j0, j1, j2⟩ := hat
          go_wp2_with fail
          clear k0 k1 k2 j0 j1 j2
          go_roundw
          case rel => exact ⟨k + 1, by omega, by go_num, Lib.hid (ways_put HI.out s k (-1) 0 (-1))⟩
          case measure => simp [intOf]; omega
        · obtain rfl : k = 12 := by omega
          obtain ⟨X1, hX1⟩ : ∃ X, Su.rep (Su.initStep s) 12 X0 = X := ⟨_, rfl⟩
          have hX1l : X1.length = N * 12 := by rw [← hX1, Su.rep_len (Su.initStep_len s)]; exact hX0l
          rw [hX1] at HI
          by_cases hs0 : s = 0
          · subst hs0
            have hnx : Su.waysTo h (0 + 1) = X1 := by rw [HNX.out, Su.fill_zero, hX1]
            have HNX2 := Lib.hid hnx
            clear hX1 hnx
            go_wp2_with fail
            go_roundw
            case rel => exact ⟨0 + 1, by omega, by go_num, Lib.hid (by rw [HNX2.out]; exact HI.out)⟩
            case measure => simp [intOf]; omega
          · have hnx : Su.waysTo h (s + 1) = Su.relax h s n (Su.halfLoop s n s ((s - 1) &&& s) (Su.rep (Su.oneStep (Su.senders h) s) n9 X1)) := by rw [HNX.out, Su.fill_pos hs0, hX1, HM.out.1]
            have HNX2 := Lib.hid hnx
            have e0 : ((s : Int) == 0) = false := by rw [beq_eq_false_iff_ne]; omega
            clear hX1 hnx
            go_wp2_with fail
            go_loopw [48] (fun vi wr => ∃ k : Nat, k ≤ n9 ∧ vi = .int .i64 k ∧ Hid (Owns w1 wr [wrow g N (Su.rep (Su.oneStep (Su.senders h) s) k X1)])) (fun vi _ => n9 - (intOf vi).toNat)
            case atStart => exact ⟨0, Nat.zero_le _, rfl, Lib.hid HI.out⟩
            case round =>
              obtain ⟨k, hk, rfl, HJ⟩ := hrel
              by_cases hlt3 : k < n9
              · have hll : k < (Su.senders h).length := by rw [HM.out.1]; exact hlt3
                obtain ⟨ad, u, rfl, hcell, hu⟩ := HR9.out.at hll
                obtain ⟨rfl, hlo, hhi⟩ := hu
                have hgd := getD_get (x := (0 : Int)) hll
                have htm := HK.out.2.2 _ (List.getElem_mem hll)
                obtain ⟨y, hy⟩ : ∃ y, (Su.senders h)[k] = y := ⟨_, rfl⟩
                rw [hy] at hcell hgd htm hlo hhi
                obtain ⟨b, rfl⟩ : ∃ b : Nat, y = b := ⟨y.toNat, by omega⟩
                have hb : b < 12 := by omega
                have hcell2 := HJ.out.ext.cell hcell
                obtain ⟨Xk, hXk⟩ : ∃ X, Su.rep (Su.oneStep (Su.senders h) s) k X1 = X := ⟨_, rfl⟩
                have hXkl : Xk.length = N * 12 := by rw [← hXk, Su.rep_len (Su.oneStep_len _ s)]; exact hX1l
                rw [hXk] at HJ
                have hstep : Su.rep (Su.oneStep (Su.senders h) s) (k + 1) X1 = Su.oneStep (Su.senders h) s k Xk := by rw [Su.rep_succ, hXk]
                obtain ⟨Pk, hPk⟩ : ∃ P, 2 ^ k = P := ⟨_, rfl⟩
                have hk8 : k ≤ 8 := Nat.le_trans (Nat.le_of_lt hlt3) h8
                obtain ⟨hwk, hPk256⟩ := wrap_pow8 hPk hk8
                have hy2 := @Su.oneStep_yes (Su.senders h) s k Xk
                have hn2 := @Su.oneStep_no (Su.senders h) s k Xk
                rw [hPk, hgd, Int.toNat_natCast] at hy2
                rw [hPk] at hn2
                rw [← hstep] at hy2 hn2
                have HY2 := Lib.hid hy2
                have HN2 := Lib.hid hn2
                clear hy2 hn2 hPk hgd hstep hXk hk8 hcell hlo hhi htm
                by_cases hsp : s = Pk
                · have e1 : ((s : Int) == (Pk : Int)) = true := by rw [hsp]; simp
                  have HST := Lib.hid (HY2.out hsp)
                  have hat := ways_at HJ.out hXkl hlt hb
                  obtain ⟨k0, k1, k2, j0, j1, j2⟩ := hat
                  have e2 : ¬ (12 : Int) ≤ (b : Int) := by omega
                  clear hsp k1 k2 j1 j2
                  go_wp2_with fail
                  clear k0 j0 hcell2
                  go_roundw
                  case rel => exact ⟨k + 1, by omega, by go_num, Lib.hid (by rw [HST.out]; exact ways_put1 HJ.out s b 0)⟩
                  case measure => simp [intOf]; omega
                · have e1 : ((s : Int) == (Pk : Int)) = false := by rw [beq_eq_false_iff_ne]; omega
                  have HST := Lib.hid (HN2.out hsp)
                  clear hsp
                  go_wp2_with fail
                  clear hcell2
                  go_roundw
                  case rel => exact ⟨k + 1, by omega, by go_num, Lib.hid (by rw [HST.out]; exact HJ.out)⟩
                  case measure => simp [intOf]; omega
              · obtain rfl : k = n9 := by omega
                obtain ⟨X2, hX2⟩ : ∃ X, Su.rep (Su.oneStep (Su.senders h) s) k X1 = X := ⟨_, rfl⟩
                have hX2l : X2.length = N * 12 := by rw [← hX2, Su.rep_len (Su.oneStep_len _ s)]; exact hX1l
                rw [hX2] at HJ HNX2
                clear hX2
                have hs256 : s ≤ 256 := Nat.le_trans (Nat.le_of_lt hlt) hN256
                have hspos : 0 < s := Nat.pos_of_ne_zero hs0
                have hand := and_half (s := s) (x := s) hs256 hspos (Nat.le_refl _)
                have hhl := Su.and_small (s - 1) s
                obtain ⟨h0, hh0⟩ : ∃ x, (s - 1) &&& s = x := ⟨_, rfl⟩
                rw [hh0] at hand hhl HNX2
                obtain ⟨X3, hX3⟩ : ∃ X, Su.halfLoop s n s h0 X2 = X := ⟨_, rfl⟩
                have hX3l : X3.length = N * 12 := by rw [← hX3, Su.halfLoop_len]; exact hX2l
                rw [hX3] at HNX2
                have HX3 := Lib.hid hX3
                clear hh0 hX3
                have hhs : h0 < s := by omega
                have hhf : h0 ≤ s := by omega
                go_wp2_with fail
                refine half_loop w1 wr g N n s h0 s hN256 hn12 hlt hhs hhf X2 X3 hX2l HX3 HJ _ _ _ _ _ _ _ _ _ _ _ _ _ _ _ _ _ _ _ _ _ _ _ _ _ _ _ _ _ _ _ _ _ _ _ _ _ _ _ _ _ _ _ _ _ _ _ _ _ _ _ _ _ _ _ _ _ _ _ _ _ _ _ _ _ _ _ _ _ _ _ _ _ _ _ _ _ _ _ _ _ _ _ _ _ _ _ _ _ _ _ _ _ _ _ _ _ _ _ _ _ _ _ _ _ _ _ _ _ _ _ _ _ _ _ _ _ _ _ _ _ _ _ _ _ _ _ _ _ _ _ _ _ _ _ _ _ _ _ _ _ _ _ _ _ _ _ _ _ _ _ _ _ _ _ _ _ _ _ _ _ _ _ _ _ _ _ _ _ _ _ _ _ _ _ _ _ _ _ _ _ _ _ _ _ _ _ _ _ _ _ _ _ _ _ _ _ _ _ _ _ _ _ _ _ _ _ ?_
                intro u11 u12 u13 u14 u67 u68 u69 u70 u71 u72 u73 u74 u75 u76 u77 u78 u79 u80 u81 u82 u83 u84 u85 u86 u87 u88 u89 u90 u91 u92 u93 u94 u95 u96 u97 u98 u99 u100 u101 u102 u103 u104 u105 u106 u107 u108 u109 u110 u111 u112 u113 u114 u115 u116 u117 u118 u119 u120 u121 u122 u123 u124 u125 u126 u127 u128 u129 w3 hx3
                have HO3 := Lib.hid hx3
                clear hx3
                go_wp2_with fail
                have hdd := (hbox HX1.out).d0
                refine i_loop w1 w3 h A w.heap.size g N n s c hn12 hl1 hlt hdd (Lib.hid (Rs.ext (Rs.ext RI.ext) _ _ _ _ HX1.out HG.out)) (Lib.hid ⟨HK.out.1, HK.out.2.1⟩) X3 hX3l HO3 _ _ _ _ _ _ _ _ _ _ _ _ _ _ _ _ _ _ _ _ _ _ _ _ _ _ _ _ _ _ _ _ _ _ _ _ _ _ _ _ _ _ _ _ _ _ _ _ _ _ _ _ _ _ _ _ _ _ _ _ _ _ _ _ _ _ _ _ _ _ _ _ _ _ _ _ _ _ _ _ _ _ _ _ _ _ _ _ _ _ _ _ _ _ _ _ _ _ _ _ _ _ _ _ _ _ _ _ _ _ _ _ _ _ _ _ _ _ _ _ _ _ _ _ _ _ _ _ _ _ _ _ _ _ _ _ _ _ _ _ _ _ _ _ _ _ _ _ _ _ _ _ _ _ _ _ _ _ _ _ _ _ _ _ _ _ _ _ _ _ _ _ _ _ _ _ _ _ _ _ _ _ _ _ _ _ _ _ _ _ _ _ _ _ _ _ _ _ _ _ _ _ _ _ _ _ _ ?_
                intro u15 u16 u17 u131 u132 u133 u134 u135 u136 u137 u138 u139 u140 u141 u142 u143 u144 u145 u146 u147 u148 u149 u150 u151 u152 u153 u154 u155 u156 u157 u158 u159 u160 u161 u162 u163 u164 u165 u166 u167 u168 u169 u170 u171 u172 u173 u174 u175 u176 u177 u178 u179 u180 u181 u182 u183 u184 u185 u186 u187 u188 u189 u190 u191 u192 u193 u194 u195 u196 u197 u198 u199 u200 u201 u202 u203 u204 u205 u206 u207 w4 hx4
                have HO4 := Lib.hid hx4
                clear hx4 hdd
                go_wp2_with fail
                go_roundw
                case rel => exact ⟨s + 1, by omega, by go_num, Lib.hid (by rw [HNX2.out]; exact HO4.out)⟩
                case measure => simp [intOf]; omega
end Go.Proofs.YtenafgphaceidaaDoor

/- THE WALK over Valid of package sums. -/
namespace Su
theorem rise {h : Ha} {l : List (Int × Int)} : ∀ i, i < l.length → (∀ k, k ≤ i → ¬ badHop h l k (l.getD k (0, 0))) → ∀ j, j < i → (l.getD j (0, 0)).1 < (l.getD i (0, 0)).1
  | 0, _, _, j, hj => absurd hj (Nat.not_lt_zero j)
  | i + 1, hi, hb, j, hj => by
    have h1 := hb (i + 1) (Nat.le_refl _)
    unfold badHop at h1
    simp only [Nat.add_sub_cancel] at h1
    by_cases hji : j = i
    · subst hji; omega
    · have := rise i (by omega) (fun k hk => hb k (by omega)) j (by omega)
      omega
theorem fresh {h : Ha} {l : List (Int × Int)} {i : Nat} (hi : i < l.length) (hb : ∀ k, k ≤ i → ¬ badHop h l k (l.getD k (0, 0))) : nextOf (l.take i) (l.getD i (0, 0)).1 = none := by
  rw [nextOf_none]
  intro x hx
  obtain ⟨j, hj, rfl⟩ := List.getElem_of_mem hx
  rw [List.length_take] at hj
  have hji : j < i := by omega
  have := rise i hi hb j hji
  rw [List.getElem_take]
  rw [List.getD_eq_getElem?_getD, List.getElem?_eq_getElem (by omega : j < l.length), Option.getD_some] at this
  omega
theorem rise_ge {h : Ha} {l : List (Int × Int)} : ∀ i, i < l.length → (∀ k, k ≤ i → ¬ badHop h l k (l.getD k (0, 0))) → (i : Int) ≤ (l.getD i (0, 0)).1
  | 0, _, hb => by
    have h1 := hb 0 (Nat.le_refl _)
    unfold badHop at h1
    omega
  | i + 1, hi, hb => by
    have h1 := rise_ge i (by omega) fun k hk => hb k (by omega)
    have h2 := rise (i + 1) hi hb i (by omega)
    omega
theorem take_snoc {l : List (Int × Int)} {i : Nat} (hi : i < l.length) : l.take (i + 1) = l.take i ++ [l.getD i (0, 0)] := by
  rw [List.take_succ_eq_append_getElem hi, List.getD_eq_getElem?_getD, List.getElem?_eq_getElem hi]
  rfl
theorem next_in {h : Ha} {l : List (Int × Int)} (ho : hopsOk h l) {a b : Int} (hn : nextOf l a = some b) : (0 ≤ a ∧ a < (h.pr.length : Int)) ∧ 0 ≤ b ∧ b < (h.pr.length : Int) ∧ a ≠ h.tgt ∧ a ≠ b ∧ 0 ≤ price h a b := by
  obtain ⟨k, hk, e⟩ := mem_at (nextOf_some hn)
  have := ho k hk
  rw [e] at this
  unfold badHop at this
  simp only at this
  omega
theorem go_in {h : Ha} {l : List (Int × Int)} (ho : hopsOk h l) {a : Int} (ha : 0 ≤ a ∧ a < (h.pr.length : Int)) : ∀ n, 0 ≤ go l n a ∧ go l n a < (h.pr.length : Int)
  | 0 => ha
  | n + 1 => by
    cases hn : nextOf l (go l n a) with
    | none => rw [go_none hn]; exact go_in ho ha n
    | some b => rw [go_some hn]; have := next_in ho hn; omega
end Su
namespace Go.Proofs.YtenafgphaceidaaDoor
open Go.RowKit
open Go.Maps (Keyed)
open Go.WideMaps Go.ChangeMaps Go.MapKept Go.WideShapes
open Go.WideElems (Fit rd rg pl rd_val elemAt)
theorem hopLaw : Keyed Tryd.prog 3 := Go.Maps.int_keyed Tryd.underlying3
theorem hopZero (w : World) : (zeroValue 3).run Tryd.prog w = .ok (.int .i64 0) w := by kernel_rfl
theorem ownsMap_ext {w w' : World} {H : Type} {P : Program} {k : TypeId} {R : Value → Option (DataW H × List MemPlace)} {b n : Nat} {D : DataW H} (h : w.ownsMap P k R b n D) (hx : Ext w w') : w'.ownsMap P k R b n D := by
  obtain ⟨es, clock, hb, r⟩ := h
  exact ⟨es, clock, hx.heap hb, r⟩
/-- A map from houses to houses says what a function says. -/
def MSays (D : DataW Unit) (nx : Int → Option Int) : Prop := ∀ a : Int, Go.Maps.has D (.int .i64 a) = (nx a).isSome ∧ ∀ z, D.atKey (.int .i64 a) z = (nx a).elim z fun b => .lit (.int .i64 b)
theorem MSays.put {D : DataW Unit} {nx : Int → Option Int} (h : MSays D nx) (hD : Go.Maps.IsMap D) (f t : Int) : MSays (D.put (.int .i64 f) (.lit (.int .i64 t))) (fun a => if a = f then some t else nx a) := by
  have hk : WideAt.IsKeyLit (.int .i64 f) := by simp [WideAt.IsKeyLit]
  intro a
  dsimp only
  by_cases ha : a = f
  · subst ha
    rw [if_pos rfl]
    exact ⟨Go.Maps.has_put_same hD hk _, fun z => Go.Maps.atKey_put_same hD hk _ z⟩
  · have hne : (Lit.int .i64 a) ≠ .int .i64 f := by
      intro h
      injection h with _ h
      exact ha h
    rw [if_neg ha]
    refine ⟨by rw [Go.Maps.has_put_other hne]; exact (h a).1, fun z => ?_⟩
    rw [Go.Maps.atKey_put_other hne]
    exact (h a).2 z
theorem MSays.congr {D : DataW Unit} {nx ny : Int → Option Int} (h : MSays D nx) (e : ∀ a, nx a = ny a) : MSays D ny := fun a => by rw [← e a]; exact h a
theorem MSays.hop {D : DataW Unit} {l : List (Int × Int)} {f t : Int} (h : MSays D (Su.nextOf l)) (hD : Go.Maps.IsMap D) (hn : Su.nextOf l f = none) : MSays (D.put (.int .i64 f) (.lit (.int .i64 t))) (Su.nextOf (l ++ [(f, t)])) :=
  (h.put hD f t).congr fun a => by
    rw [Su.nextOf_snoc]
    by_cases ha : a = f
    · subst ha; simp [hn]
    · rw [if_neg ha, if_neg (fun e => ha e.symm)]; simp
theorem MSays.start (nx : Int → Option Int) (h : ∀ a, nx a = none) : MSays (.map []) nx := fun a => by
  rw [h a]
  exact ⟨rfl, fun _ => rfl⟩
/-- 'v, ok := m[k]' in such a map. -/
theorem wpl_look {ops : Array Oper} {rest : List Oper} {o : Oper} {a : Act} {Q : Exit → Act → World → Prop} {w : World} (hg : o.guard = none) (m x : Operand) (hop : o.op = Op.lookup 72 m x true)
    (b n : Nat) {D : DataW Unit} {nx : Int → Option Int} (hm : a.eval m = .map (some b)) (hown : w.ownsMap Tryd.prog 3 (plainElem Tryd.prog 3) b n D) (hS : MSays D nx) {y : Int} (hx : a.eval x = .int .i64 y) (hlo : -9223372036854775808 ≤ y) (hhi : y ≤ 9223372036854775807)
    {z : Int} {bb : Bool} (hz : (nx y).getD 0 = z) (hb : (nx y).isSome = bb)
    (hK : wpList Tryd.prog ops Q rest (a.put o.dst (.tuple #[.int .i64 z, .bool bb])) w) : wpList Tryd.prog ops Q (o :: rest) a w := by
  refine wpList_lookup_own_ok_int _ hg m x 72 hop 3 3 .i64 hopLaw Tryd.underlying72 Tryd.underlying3 (hopZero _) b n D hm hown _ _ hx (Go.Maps.keyOf_int_mk Tryd.underlying3 (WalkArith.wf_i64 (by omega))) ?_
  intro c hat _
  rw [(hS y).2] at hat
  rw [(hS y).1, hb]
  cases hn : nx y with
  | none =>
    rw [hn] at hat hz
    injection hat with hat
    injection hat with _ hat
    rw [← hat]
    have hz : (0 : Int) = z := hz
    rw [hz]
    exact hK
  | some t =>
    rw [hn] at hat hz
    injection hat with hat
    injection hat with _ hat
    rw [← hat]
    have hz : t = z := hz
    rw [hz]
    exact hK
/-- The map of the hops, of the first i ones. -/
structure VR (W0 wr : World) (b i : Nat) (l : List (Int × Int)) : Prop where
  ext : Ext W0 wr
  own : ∃ D : DataW Unit, wr.ownsMap Tryd.prog 3 (plainElem Tryd.prog 3) b i D ∧ MSays D (Su.nextOf l)
theorem VR.next {W0 wr w : World} {b i : Nat} {l : List (Int × Int)} (h : VR W0 wr b i l) (hx : Ext wr w) : VR W0 w b i l :=
  ⟨h.ext.trans hx, by obtain ⟨D, h1, h2⟩ := h.own; exact ⟨D, ownsMap_ext h1 hx, h2⟩⟩
set_option maxHeartbeats 8000000 in
set_option maxRecDepth 100000 in
theorem uValid_any (h : Su.Ha) (l : List (Int × Int)) (v u : Value) (w : World) (hv : RH w v h) (hu : RL w u l) :
    Calls Tryd.prog 14 #[v, u] w fun e w' => e = .returned (.bool (Su.valid h l)) ∧ Ext w w' := by
  have hvv := hv
  obtain ⟨A, B, c, d, rfl, hG, hS, hl1, hl2, hb1, hb2⟩ := hv.open
  have hx0 := (Ext.refl w).alloc (.cells #[.slice A h.pr.length c, .slice B h.src.length d, .int .i64 h.tgt] 25)
  have HX0 := Lib.hid hx0
  have HG := Lib.hid (Rs.ext (Rs.ext RI.ext) _ _ _ _ hx0 hG)
  have HL := Lib.hid (RL.ext _ _ _ _ hx0 hu)
  have HV := Lib.hid (RH.ext _ _ _ _ hx0 hvv)
  obtain ⟨C, e, rfl, hl3⟩ := hu.form
  clear hv hvv hG hS hx0 hu
  obtain ⟨n, hn⟩ : ∃ n, h.pr.length = n := ⟨_, rfl⟩
  rw [hn] at HX0 HG HV hl1 HL ⊢
  by_cases h0 : Su.check h = 0
  case neg =>
    have e1 : (Su.check h != 0) = true := by rw [bne_iff_ne]; exact h0
    have HC := Lib.hid (Su.valid_err (l := l) h0)
    clear h0
    go_enter Tryd.func14, Tryd.ntmps14
    go_wp2_with fail
    refine (uCheck_any h _ _ HV.out).mono ?_
    rintro ee w1 ⟨rfl, hx1⟩
    have HX1 := Lib.hid (HX0.out.trans hx1)
    clear hx1
    go_wp2_with fail
    go_ret
    exact ⟨ret_bool HC.out.symm, HX1.out⟩
  case pos =>
  have e1 : (Su.check h != 0) = false := by rw [h0]; rfl
  have hkk := Su.ok_of h0
  have HK := Lib.hid (And.intro hkk (And.intro h0 hn))
  have hn12 := hkk.few
  rw [hn] at hn12
  clear h0 hkk
  have hmm := @run_makeMap Tryd.prog
  go_enter Tryd.func14, Tryd.ntmps14
  go_wp2_with fail
  refine (uCheck_any h _ _ HV.out).mono ?_
  rintro ee w1 ⟨rfl, hx1⟩
  have d0 : w1.cell? ⟨w.heap.size, 0, none⟩ = some (.slice A n c) := hx1.cell (by go_simp)
  have HGE := Lib.hid hx1.size
  have HR0 : Hid (VR (w.alloc (.cells #[.slice A n c, .slice B h.src.length d, .int .i64 h.tgt] 25)) (w1.alloc (.map #[] 0)) w1.heap.size 0 []) := Lib.hid ⟨hx1.alloc _, _, World.ownsMap_made (H := Unit) w1 Tryd.prog 3 (plainElem Tryd.prog 3), MSays.start _ fun _ => rfl⟩
  clear hx1
  go_wp2_with fail
  clear d0
  obtain ⟨b, hbb⟩ : ∃ b, w1.heap.size = b := ⟨_, rfl⟩
  rw [hbb] at HR0 HGE ⊢
  clear hbb hmm
  go_loopw [27] (fun vi wr => ∃ i : Nat, i ≤ l.length ∧ i ≤ 12 ∧ vi = .int .i64 i ∧ Hid (VR (w.alloc (.cells #[.slice A n c, .slice B h.src.length d, .int .i64 h.tgt] 25)) wr b i (l.take i) ∧ ∀ k, k < i → ¬ Su.badHop h l k (l.getD k (0, 0)))) (fun vi _ => l.length - (intOf vi).toNat)
  case atStart => exact ⟨0, Nat.zero_le _, Nat.zero_le _, rfl, Lib.hid ⟨HR0.out, fun k hk => absurd hk (Nat.not_lt_zero k)⟩⟩
  case round =>
    obtain ⟨i, hi, hi12, rfl, HI⟩ := hrel
    by_cases hlt : i < l.length
    · obtain ⟨ad, f, t, rfl, hft, k1, k2, kb, kb2⟩ := HL.out.at hlt
      have k1' := HI.out.1.ext.cell k1
      have k2' := HI.out.1.ext.cell k2
      have d0 : wr.cell? ⟨w.heap.size, 0, none⟩ = some (.slice A n c) := HI.out.1.ext.cell (by go_simp)
      have d2 : wr.cell? ⟨w.heap.size, 2, none⟩ = some (.int .i64 h.tgt) := HI.out.1.ext.cell (by go_simp)
      have HX3 := Lib.hid (HI.out.1.ext.alloc (.cells #[.int .i64 f, .int .i64 t] 65))
      have e0 : (wr.alloc (.cells #[.int .i64 f, .int .i64 t] 65)).cell? ⟨w.heap.size, 0, none⟩ = some (.slice A n c) := ((Ext.refl wr).alloc _).cell d0
      have e2 : (wr.alloc (.cells #[.int .i64 f, .int .i64 t] 65)).cell? ⟨w.heap.size, 2, none⟩ = some (.int .i64 h.tgt) := ((Ext.refl wr).alloc _).cell d2
      have HFT := Lib.hid hft
      clear hft k1 k2 d0 d2
      by_cases q0 : f < 0
      case pos =>
        have hc : Su.valid h l = false := Su.valid_hop hlt (by rw [HFT.out]; exact .inl q0)
        have HC := Lib.hid hc
        clear hc
        go_wp2_with fail
        refine wp_atEnd (hop_0 _ f _ n (by go_simp) (by omega) _ _ _ _ _ _ _ _ _ _ _ _ _ _ _ _ _ _ _ _ _ _ _ _ _ _ _ _ _ _ _ _ _ _ _ _ _ _ _ _ _ _ _ _ _ _ _ _ _ _ _ _ _ _ _ _ _ _ _ _ _ _ _ _ _ _ _ _ _ _ _ _ _ _ _ _ _ _ _ _ _ _ _ _ _ _ _ _ _ _ _ _ _ _ _ _ _ _ _ _ _ _ _ _ _ _ _ _ _ _ _ _ _ _ _ _ _ _ _ _ _ _ _ _ _ _ _ _ _ _ _ _ _ _ _ _ _ _ _ _ _ ?_)
        intro u32 u33 u34 u35 u36 u37 u38 u39 u40 u41 u42 u43 u44 u45 u46 u47 u48 u49 u50 u51 u52 u53 u54 u55 u56 u57 u58 u59 u60 u61 u62 u63 u64 u65 u66 u67 u68 u69 u70 u71 u72 u73 u74 u75 u76 u77 u78 u79 u80 u81 u82 u83 u84 u85 u86 u87 u88 u89 u90 u91 u92 wx hx
        have HX5 := Lib.hid (HX3.out.trans hx)
        clear hx
        go_wp2_with fail
        go_ret
        exact ⟨ret_bool HC.out.symm, HX0.out.trans HX5.out⟩
      case neg =>
      by_cases q1 : (n : Int) ≤ f
      case pos =>
        have hc : Su.valid h l = false := Su.valid_hop hlt (by rw [HFT.out]; exact .inr (.inl (by rw [hn]; exact q1)))
        have HC := Lib.hid hc
        clear hc
        go_wp2_with fail
        refine wp_atEnd (hop_1 _ f _ n (by go_simp) (by omega) (by omega) _ _ _ _ _ _ _ _ _ _ _ _ _ _ _ _ _ _ _ _ _ _ _ _ _ _ _ _ _ _ _ _ _ _ _ _ _ _ _ _ _ _ _ _ _ _ _ _ _ _ _ _ _ _ _ _ _ _ _ _ _ _ _ _ _ _ _ _ _ _ _ _ _ _ _ _ _ _ _ _ _ _ _ _ _ _ _ _ _ _ _ _ _ _ _ _ _ _ _ _ _ _ _ _ _ _ _ _ _ _ _ _ _ _ _ _ _ _ _ _ _ _ _ _ _ _ _ _ _ _ _ _ _ _ _ _ _ _ _ _ _ ?_)
        intro u32 u33 u34 u35 u36 u37 u38 u39 u40 u41 u42 u43 u44 u45 u46 u47 u48 u49 u50 u51 u52 u53 u54 u55 u56 u57 u58 u59 u60 u61 u62 u63 u64 u65 u66 u67 u68 u69 u70 u71 u72 u73 u74 u75 u76 u77 u78 u79 u80 u81 u82 u83 u84 u85 u86 u87 u88 u89 u90 u91 u92 wx hx
        have HX5 := Lib.hid (HX3.out.trans hx)
        clear hx
        go_wp2_with fail
        go_ret
        exact ⟨ret_bool HC.out.symm, HX0.out.trans HX5.out⟩
      case neg =>
      by_cases q2 : t < 0
      case pos =>
        have hc : Su.valid h l = false := Su.valid_hop hlt (by rw [HFT.out]; exact .inr (.inr (.inl q2)))
        have HC := Lib.hid hc
        clear hc
        go_wp2_with fail
        refine wp_atEnd (hop_2 _ f t _ n (by go_simp) (by go_simp) (by omega) (by omega) (by omega) _ _ _ _ _ _ _ _ _ _ _ _ _ _ _ _ _ _ _ _ _ _ _ _ _ _ _ _ _ _ _ _ _ _ _ _ _ _ _ _ _ _ _ _ _ _ _ _ _ _ _ _ _ _ _ _ _ _ _ _ _ _ _ _ _ _ _ _ _ _ _ _ _ _ _ _ _ _ _ _ _ _ _ _ _ _ _ _ _ _ _ _ _ _ _ _ _ _ _ _ _ _ _ _ _ _ _ _ _ _ _ _ _ _ _ _ _ _ _ _ _ _ _ _ _ _ _ _ _ _ _ _ _ _ _ _ _ _ _ _ _ ?_)
        intro u32 u33 u34 u35 u36 u37 u38 u39 u40 u41 u42 u43 u44 u45 u46 u47 u48 u49 u50 u51 u52 u53 u54 u55 u56 u57 u58 u59 u60 u61 u62 u63 u64 u65 u66 u67 u68 u69 u70 u71 u72 u73 u74 u75 u76 u77 u78 u79 u80 u81 u82 u83 u84 u85 u86 u87 u88 u89 u90 u91 u92 wx hx
        have HX5 := Lib.hid (HX3.out.trans hx)
        clear hx
        go_wp2_with fail
        go_ret
        exact ⟨ret_bool HC.out.symm, HX0.out.trans HX5.out⟩
      case neg =>
      by_cases q3 : (n : Int) ≤ t
      case pos =>
        have hc : Su.valid h l = false := Su.valid_hop hlt (by rw [HFT.out]; exact .inr (.inr (.inr (.inl (by rw [hn]; exact q3)))))
        have HC := Lib.hid hc
        clear hc
        go_wp2_with fail
        refine wp_atEnd (hop_3 _ f t _ n (by go_simp) (by go_simp) (by omega) (by omega) (by omega) (by omega) _ _ _ _ _ _ _ _ _ _ _ _ _ _ _ _ _ _ _ _ _ _ _ _ _ _ _ _ _ _ _ _ _ _ _ _ _ _ _ _ _ _ _ _ _ _ _ _ _ _ _ _ _ _ _ _ _ _ _ _ _ _ _ _ _ _ _ _ _ _ _ _ _ _ _ _ _ _ _ _ _ _ _ _ _ _ _ _ _ _ _ _ _ _ _ _ _ _ _ _ _ _ _ _ _ _ _ _ _ _ _ _ _ _ _ _ _ _ _ _ _ _ _ _ _ _ _ _ _ _ _ _ _ _ _ _ _ _ _ _ _ ?_)
        intro u32 u33 u34 u35 u36 u37 u38 u39 u40 u41 u42 u43 u44 u45 u46 u47 u48 u49 u50 u51 u52 u53 u54 u55 u56 u57 u58 u59 u60 u61 u62 u63 u64 u65 u66 u67 u68 u69 u70 u71 u72 u73 u74 u75 u76 u77 u78 u79 u80 u81 u82 u83 u84 u85 u86 u87 u88 u89 u90 u91 u92 wx hx
        have HX5 := Lib.hid (HX3.out.trans hx)
        clear hx
        go_wp2_with fail
        go_ret
        exact ⟨ret_bool HC.out.symm, HX0.out.trans HX5.out⟩
      case neg =>
      by_cases q4 : f = t
      case pos =>
        have hc : Su.valid h l = false := Su.valid_hop hlt (by rw [HFT.out]; exact .inr (.inr (.inr (.inr (.inl q4)))))
        have HC := Lib.hid hc
        clear hc
        have u4 : (f == t) = true := by rw [beq_iff_eq]; exact q4
        clear q4
        go_wp2_with fail
        refine wp_atEnd (hop_4 _ f t _ n (by go_simp) (by go_simp) (by omega) (by omega) (by omega) (by omega) u4 _ _ _ _ _ _ _ _ _ _ _ _ _ _ _ _ _ _ _ _ _ _ _ _ _ _ _ _ _ _ _ _ _ _ _ _ _ _ _ _ _ _ _ _ _ _ _ _ _ _ _ _ _ _ _ _ _ _ _ _ _ _ _ _ _ _ _ _ _ _ _ _ _ _ _ _ _ _ _ _ _ _ _ _ _ _ _ _ _ _ _ _ _ _ _ _ _ _ _ _ _ _ _ _ _ _ _ _ _ _ _ _ _ _ _ _ _ _ _ _ _ _ _ _ _ _ _ _ _ _ _ _ _ _ _ _ _ _ _ _ _ ?_)
        intro u32 u33 u34 u35 u36 u37 u38 u39 u40 u41 u42 u43 u44 u45 u46 u47 u48 u49 u50 u51 u52 u53 u54 u55 u56 u57 u58 u59 u60 u61 u62 u63 u64 u65 u66 u67 u68 u69 u70 u71 u72 u73 u74 u75 u76 u77 u78 u79 u80 u81 u82 u83 u84 u85 u86 u87 u88 u89 u90 u91 u92 wx hx
        have HX5 := Lib.hid (HX3.out.trans hx)
        clear hx
        go_wp2_with fail
        go_ret
        exact ⟨ret_bool HC.out.symm, HX0.out.trans HX5.out⟩
      case neg =>
      have u4 : (f == t) = false := by rw [beq_eq_false_iff_ne]; exact q4
      by_cases q5 : f = h.tgt
      case pos =>
        have hc : Su.valid h l = false := Su.valid_hop hlt (by rw [HFT.out]; exact .inr (.inr (.inr (.inr (.inr (.inl q5))))))
        have HC := Lib.hid hc
        clear hc
        have u5 : (f == h.tgt) = true := by rw [beq_iff_eq]; exact q5
        clear q5
        go_wp2_with fail
        refine wp_atEnd (hop_5 _ f t _ n (by go_simp) (by go_simp) (by omega) (by omega) (by omega) (by omega) u4 h.tgt _ e2 u5 _ _ _ _ _ _ _ _ _ _ _ _ _ _ _ _ _ _ _ _ _ _ _ _ _ _ _ _ _ _ _ _ _ _ _ _ _ _ _ _ _ _ _ _ _ _ _ _ _ _ _ _ _ _ _ _ _ _ _ _ _ _ _ _ _ _ _ _ _ _ _ _ _ _ _ _ _ _ _ _ _ _ _ _ _ _ _ _ _ _ _ _ _ _ _ _ _ _ _ _ _ _ _ _ _ _ _ _ _ _ _ _ _ _ _ _ _ _ _ _ _ _ _ _ _ _ _ _ _ _ _ _ _ _ _ _ _ _ _ _ ?_)
        intro u32 u33 u34 u35 u36 u37 u38 u39 u40 u41 u42 u43 u44 u45 u46 u47 u48 u49 u50 u51 u52 u53 u54 u55 u56 u57 u58 u59 u60 u61 u62 u63 u64 u65 u66 u67 u68 u69 u70 u71 u72 u73 u74 u75 u76 u77 u78 u79 u80 u81 u82 u83 u84 u85 u86 u87 u88 u89 u90 u91 u92 wx hx
        have HX5 := Lib.hid (HX3.out.trans hx)
        clear hx
        go_wp2_with fail
        go_ret
        exact ⟨ret_bool HC.out.symm, HX0.out.trans HX5.out⟩
      case neg =>
      have u5 : (f == h.tgt) = false := by rw [beq_eq_false_iff_ne]; exact q5
      obtain ⟨a, rfl⟩ : ∃ a : Nat, f = a := ⟨f.toNat, by omega⟩
      obtain ⟨bb, rfl⟩ : ∃ bb : Nat, t = bb := ⟨t.toNat, by omega⟩
      have ha : a < n := by omega
      have hb : bb < n := by omega
      obtain ⟨ad1, ad2, cc, hA, g1, g2⟩ := price_at HG.out HK.out.1 hn ha hb
      rw [hA] at e0
      have g1 := ((Ext.refl wr).alloc (.cells #[.int .i64 a, .int .i64 bb] 65)).cell (HI.out.1.ext.cell g1)
      have g2 := ((Ext.refl wr).alloc (.cells #[.int .i64 a, .int .i64 bb] 65)).cell (HI.out.1.ext.cell g2)
      obtain ⟨pp, hpp⟩ : ∃ pp, Su.price h a bb = pp := ⟨_, rfl⟩
      rw [hpp] at g2
      clear q0 q1 q2 q3 q4 hA kb kb2
      by_cases q6 : pp < 0
      case pos =>
        have hc : Su.valid h l = false := Su.valid_hop hlt (by rw [HFT.out]; exact .inr (.inr (.inr (.inr (.inr (.inr (.inl (by rw [hpp]; exact q6))))))))
        have HC := Lib.hid hc
        clear hc
        clear hpp
        go_wp2_with fail
        refine wp_atEnd (hop_6 _ a bb _ n (by go_simp) (by go_simp) ha hb u4 h.tgt _ e2 u5 c cc ad1 ad2 pp e0 g1 g2 (by omega) _ _ _ _ _ _ _ _ _ _ _ _ _ _ _ _ _ _ _ _ _ _ _ _ _ _ _ _ _ _ _ _ _ _ _ _ _ _ _ _ _ _ _ _ _ _ _ _ _ _ _ _ _ _ _ _ _ _ _ _ _ _ _ _ _ _ _ _ _ _ _ _ _ _ _ _ _ _ _ _ _ _ _ _ _ _ _ _ _ _ _ _ _ _ _ _ _ _ _ _ _ _ _ _ _ _ _ _ _ _ _ _ _ _ _ _ _ _ _ _ _ _ _ _ _ _ _ _ _ _ _ _ _ _ _ _ _ _ _ _ ?_)
        intro u32 u33 u34 u35 u36 u37 u38 u39 u40 u41 u42 u43 u44 u45 u46 u47 u48 u49 u50 u51 u52 u53 u54 u55 u56 u57 u58 u59 u60 u61 u62 u63 u64 u65 u66 u67 u68 u69 u70 u71 u72 u73 u74 u75 u76 u77 u78 u79 u80 u81 u82 u83 u84 u85 u86 u87 u88 u89 u90 u91 u92 wx hx
        have HX5 := Lib.hid (HX3.out.trans hx)
        clear hx
        go_wp2_with fail
        go_ret
        exact ⟨ret_bool HC.out.symm, HX0.out.trans HX5.out⟩
      case neg =>
      by_cases q7 : 0 < i ∧ (a : Int) ≤ (l.getD (i - 1) (0, 0)).1
      case pos =>
        obtain ⟨j, rfl⟩ : ∃ j, i = j + 1 := ⟨i - 1, by omega⟩
        obtain ⟨ad', f0, t0, e', hf0, m1, _, mb, _⟩ := HL.out.at (i := j) (by omega)
        injection e' with e'
        subst e'
        have m1' := ((Ext.refl wr).alloc (.cells #[.int .i64 a, .int .i64 bb] 65)).cell (HI.out.1.ext.cell m1)
        have q8 := q7.2
        simp only [Nat.add_sub_cancel] at q8
        rw [hf0] at q8
        simp only at q8
        clear m1 hf0
        have hc : Su.valid h l = false := Su.valid_hop hlt (by rw [HFT.out]; exact .inr (.inr (.inr (.inr (.inr (.inr (.inr q7)))))))
        have HC := Lib.hid hc
        clear hc
        clear hpp q7
        go_wp2_with fail
        refine wp_atEnd (hop_7 _ a bb _ n (by go_simp) (by go_simp) ha hb u4 h.tgt _ e2 u5 c cc ad1 ad2 pp e0 g1 g2 (by omega) _ f0 j l.length e ad (by omega) (by omega) hl3 m1' (by omega) _ _ _ _ _ _ _ _ _ _ _ _ _ _ _ _ _ _ _ _ _ _ _ _ _ _ _ _ _ _ _ _ _ _ _ _ _ _ _ _ _ _ _ _ _ _ _ _ _ _ _ _ _ _ _ _ _ _ _ _ _ _ _ _ _ _ _ _ _ _ _ _ _ _ _ _ _ _ _ _ _ _ _ _ _ _ _ _ _ _ _ _ _ _ _ _ _ _ _ _ _ _ _ _ _ _ _ _ _ _ _ _ _ _ _ _ _ _ _ _ _ _ _ _ _ _ _ _ _ _ _ _ _ _ _ _ _ _ ?_)
        intro u32 u33 u34 u35 u36 u37 u38 u39 u40 u41 u42 u43 u44 u45 u46 u47 u48 u49 u50 u51 u52 u53 u54 u55 u56 u57 u58 u59 u60 u61 u62 u63 u64 u65 u66 u67 u68 u69 u70 u71 u72 u73 u74 u75 u76 u77 u78 u79 u80 u81 u82 u83 u84 u85 u86 u87 u88 u89 u90 u91 u92 wx hx
        have HX5 := Lib.hid (HX3.out.trans hx)
        clear hx
        go_wp2_with fail
        go_ret
        exact ⟨ret_bool HC.out.symm, HX0.out.trans HX5.out⟩
      case neg =>
      have hgood : ∀ k, k < i + 1 → ¬ Su.badHop h l k (l.getD k (0, 0)) := fun k hk => by
        by_cases hki : k = i
        · rw [hki, HFT.out]
          rintro (z | z | z | z | z | z | z | z)
          · simp only at z; omega
          · simp only at z; omega
          · simp only at z; omega
          · simp only at z; omega
          · simp only at z; rw [z] at u4; simp at u4
          · exact q5 z
          · simp only at z; omega
          · exact q7 z
        · exact HI.out.2 k (by omega)
      have hfr := Su.fresh hlt (fun k hk => hgood k (by omega))
      have htk := Su.take_snoc hlt
      have hge := Su.rise_ge _ hlt (fun k hk => hgood k (by omega))
      rw [HFT.out] at hfr htk hge
      have h12 : i + 1 ≤ 12 := by simp only at hge; omega
      clear hge
      have hkey : keyOf Tryd.prog 3 (.int .i64 (a : Int)) = some (.int .i64 (a : Int)) := Go.Maps.keyOf_int_mk Tryd.underlying3 (WalkArith.wf_i64 (by omega))
      have hwf : (Lit.int .i64 (bb : Int)).wf = true := WalkArith.wf_i64 (by omega)
      have HGOOD := Lib.hid (And.intro hgood (And.intro hfr htk))
      clear hgood hfr htk hpp
      obtain ⟨D, hD, hS⟩ := HI.out.1.own
      have HD := Lib.hid (And.intro hD hS)
      have HDA := Lib.hid (ownsMap_ext hD ((Ext.refl wr).alloc (.cells #[.int .i64 a, .int .i64 bb] 65)))
      clear hD hS
      have hfin : ∀ (w4 w5 : World), Ext (wr.alloc (.cells #[.int .i64 a, .int .i64 bb] 65)) w4 → w5.ownsMap Tryd.prog 3 (plainElem Tryd.prog 3) b (i + 1) (D.put (.int .i64 (a : Int)) (.lit (.int .i64 (bb : Int)))) → w4.grownBy w5 (some b) → VR (w.alloc (.cells #[.slice A n c, .slice B h.src.length d, .int .i64 h.tgt] 25)) w5 b (i + 1) (l.take (i + 1)) := fun w4 w5 hx h1 h2 => by
        refine ⟨(HX3.out.trans hx).grown h2 (fun k hk => by injection hk with hk; rw [← hk]; exact HGE.out), _, h1, ?_⟩
        rw [HGOOD.out.2.2]
        exact HD.out.2.hop HD.out.1.isMap HGOOD.out.2.1
      have HFIN := Lib.hid hfin
      clear hfin
      rcases Nat.eq_zero_or_pos i with hi0 | hi0
      · subst hi0
        have e00 : ad.add (0 * 2) = ad := by simp [Addr.add]
        rw [e00] at k1' k2'
        clear q7 e00
        go_wp2_with fail
        refine wp_atEnd (hop_8 _ a bb _ n (by go_simp) (by go_simp) ha hb u4 h.tgt _ e2 u5 c cc ad1 ad2 pp e0 g1 g2 (by omega) _ (by omega) _ _ _ _ _ _ _ _ _ _ _ _ _ _ _ _ _ _ _ _ _ _ _ _ _ _ _ _ _ _ _ _ _ _ _ _ _ _ _ _ _ _ _ _ _ _ _ _ _ _ _ _ _ _ _ _ _ _ _ _ _ _ _ _ _ _ _ _ _ _ _ _ _ _ _ _ _ _ _ _ _ _ _ _ _ _ _ _ _ _ _ _ _ _ _ _ _ _ _ _ _ _ _ _ _ _ _ _ _ _ _ _ _ _ _ _ _ _ _ _ _ _ _ _ _ _ _ _ _ _ _ _ _ _ _ _ _ _ _ ?_)
        intro u32 u33 u34 u35 u36 u37 u38 u39 u40 u41 u42 u43 u44 u45 u46 u47 u48 u49 u50 u51 u52 u53 u54 u55 u56 u57 u58 u59 u60 u61 u62 u63 u64 u65 u66 u67 u68 u69 u70 u71 u72 u73 u74 u75 u76 u77 u78 u79 u80 u81 u82 u83 u84 u85 u86 u87 u88 u89 u90 u91 u92 wx hx
        have k0 : wx.cell? ⟨wr.heap.size, 0, none⟩ = some (.int .i64 a) := hx.cell (by go_simp)
        have k1 : wx.cell? ⟨wr.heap.size, 1, none⟩ = some (.int .i64 bb) := hx.cell (by go_simp)
        have HX5 := Lib.hid hx
        clear hx
        go_wp2_with (at_mapUpdate; refine wpList_mapUpdate_own _ rfl _ _ _ 72 rfl 3 3 hopLaw Tryd.underlying72 _ b 0 D rfl (ownsMap_ext HDA.out HX5.out) (by unfold maxLen; omega) _ _ _ rfl rfl hkey (.lit (.int .i64 (bb : Int))) [] (plainElem_int Tryd.underlying3 hwf) ?_; intro w5 hown5 hgrow5)
        have H5 := Lib.hid (HFIN.out _ _ HX5.out hown5 hgrow5)
        clear hown5 hgrow5 k0 k1
        go_roundw
        case rel => exact ⟨0 + 1, by omega, by omega, by go_num, Lib.hid ⟨H5.out, HGOOD.out.1⟩⟩
        case measure => simp [intOf]; omega
      · obtain ⟨j, rfl⟩ : ∃ j, i = j + 1 := ⟨i - 1, by omega⟩
        obtain ⟨ad', f0, t0, e', hf0, m1, _, mb, _⟩ := HL.out.at (i := j) (by omega)
        injection e' with e'
        subst e'
        have m1' := ((Ext.refl wr).alloc (.cells #[.int .i64 a, .int .i64 bb] 65)).cell (HI.out.1.ext.cell m1)
        have q8 : ¬ (a : Int) ≤ f0 := fun z => q7 ⟨hi0, by simp only [Nat.add_sub_cancel]; rw [hf0]; exact z⟩
        clear m1 hf0 q7
        go_wp2_with fail
        refine wp_atEnd (hop_9 _ a bb _ n (by go_simp) (by go_simp) ha hb u4 h.tgt _ e2 u5 c cc ad1 ad2 pp e0 g1 g2 (by omega) _ f0 j l.length e ad (by omega) (by omega) hl3 m1' (by omega) _ _ _ _ _ _ _ _ _ _ _ _ _ _ _ _ _ _ _ _ _ _ _ _ _ _ _ _ _ _ _ _ _ _ _ _ _ _ _ _ _ _ _ _ _ _ _ _ _ _ _ _ _ _ _ _ _ _ _ _ _ _ _ _ _ _ _ _ _ _ _ _ _ _ _ _ _ _ _ _ _ _ _ _ _ _ _ _ _ _ _ _ _ _ _ _ _ _ _ _ _ _ _ _ _ _ _ _ _ _ _ _ _ _ _ _ _ _ _ _ _ _ _ _ _ _ _ _ _ _ _ _ _ _ _ _ _ _ ?_)
        intro u32 u33 u34 u35 u36 u37 u38 u39 u40 u41 u42 u43 u44 u45 u46 u47 u48 u49 u50 u51 u52 u53 u54 u55 u56 u57 u58 u59 u60 u61 u62 u63 u64 u65 u66 u67 u68 u69 u70 u71 u72 u73 u74 u75 u76 u77 u78 u79 u80 u81 u82 u83 u84 u85 u86 u87 u88 u89 u90 u91 u92 wx hx
        have k0 : wx.cell? ⟨wr.heap.size, 0, none⟩ = some (.int .i64 a) := hx.cell (by go_simp)
        have k1 : wx.cell? ⟨wr.heap.size, 1, none⟩ = some (.int .i64 bb) := hx.cell (by go_simp)
        have HX5 := Lib.hid hx
        clear hx
        go_wp2_with (at_mapUpdate; refine wpList_mapUpdate_own _ rfl _ _ _ 72 rfl 3 3 hopLaw Tryd.underlying72 _ b (j + 1) D rfl (ownsMap_ext HDA.out HX5.out) (by unfold maxLen; omega) _ _ _ rfl rfl hkey (.lit (.int .i64 (bb : Int))) [] (plainElem_int Tryd.underlying3 hwf) ?_; intro w5 hown5 hgrow5)
        have H5 := Lib.hid (HFIN.out _ _ HX5.out hown5 hgrow5)
        clear hown5 hgrow5 k0 k1
        go_roundw
        case rel => exact ⟨j + 1 + 1, by omega, by omega, by go_num, Lib.hid ⟨H5.out, HGOOD.out.1⟩⟩
        case measure => simp [intOf]; omega
    · obtain rfl : i = l.length := by omega
      have hops : Su.hopsOk h l := HI.out.2
      have hvr : VR (w.alloc (.cells #[.slice A n c, .slice B h.src.length d, .int .i64 h.tgt] 25)) wr b l.length l := by have := HI.out.1; rwa [List.take_length] at this
      have HOPS := Lib.hid hops
      have HVR := Lib.hid hvr
      clear hops hvr
      obtain ⟨wo, hwo⟩ : ∃ wo, wo = wr := ⟨_, rfl⟩
      rw [← hwo] at HVR ⊢
      clear HI hwo
      have d0 : wo.cell? ⟨w.heap.size, 0, none⟩ = some (.slice A n c) := HVR.out.ext.cell (by go_simp)
      have d1 : wo.cell? ⟨w.heap.size, 1, none⟩ = some (.slice B h.src.length d) := HVR.out.ext.cell (by go_simp)
      have d2 : wo.cell? ⟨w.heap.size, 2, none⟩ = some (.int .i64 h.tgt) := HVR.out.ext.cell (by go_simp)
      go_wp2_with fail
      clear d0 d1 d2
      refine (uSenders_any h _ _ (RH.ext _ _ _ _ HVR.out.ext HV.out) (fun k hk => Nat.le_trans (Su.send_few HK.out.1.src k hk) (by rw [HK.out.2.2]; exact hn12))).mono ?_
      rintro ee w2 ⟨A9, n9, c9, rfl, hr9, hx9⟩
      have hn9 := hr9.len
      have hvr2 := HVR.out.next hx9
      have HN9 := Lib.hid hn9
      have HR9 := Lib.hid hr9
      have h9 : n9 ≤ 8 := by have := HK.out.1.send; omega
      have HVR := Lib.hid hvr2
      clear hr9 hx9 hn9 hvr2
      obtain ⟨D, hD, hS⟩ := HVR.out.own
      have HD := Lib.hid (And.intro hD hS)
      clear hD hS
      go_wp2_with fail
      go_loop [103] (fun vi => ∃ i : Nat, i ≤ n9 ∧ vi = .int .i64 i ∧ Hid (∀ j, j < i → Su.nextOf l ((Su.senders h).getD j 0) ≠ none)) (fun vi => n9 - (intOf vi).toNat)
      case atStart => exact ⟨0, Nat.zero_le _, rfl, Lib.hid fun j hj => absurd hj (Nat.not_lt_zero j)⟩
      case round =>
        obtain ⟨i, hi, rfl, HJ⟩ := hrel
        by_cases hlt : i < n9
        · have hll : i < (Su.senders h).length := by rw [← HN9.out]; exact hlt
          obtain ⟨ad, u, rfl, hc, hu⟩ := HR9.out.at hll
          obtain ⟨rfl, hlo, hhi⟩ := hu
          have hgd := getD_get (x := (0 : Int)) hll
          have hmem := List.getElem_mem hll
          obtain ⟨y, hy⟩ : ∃ y, (Su.senders h)[i] = y := ⟨_, rfl⟩
          rw [hy] at hc hgd hlo hhi hmem
          have HM := Lib.hid (And.intro hgd hmem)
          clear hgd hmem hy
          cases hnx : Su.nextOf l y with
          | none =>
            have hc2 : Su.valid h l = false := Su.valid_send HM.out.2 hnx
            have hz : (Su.nextOf l y).getD 0 = 0 := by rw [hnx]; rfl
            have hb : (Su.nextOf l y).isSome = false := by rw [hnx]; rfl
            have HC := Lib.hid hc2
            have HZ := Lib.hid (And.intro hz hb)
            clear hc2 hz hb hnx
            go_wp2_with (at_lookup; refine wpl_look rfl _ _ rfl b l.length rfl HD.out.1 HD.out.2 rfl hlo hhi HZ.out.1 HZ.out.2 ?_)
            go_ret
            exact ⟨ret_bool HC.out.symm, HX0.out.trans HVR.out.ext⟩
          | some z =>
            have hz : (Su.nextOf l y).getD 0 = z := by rw [hnx]; rfl
            have hb : (Su.nextOf l y).isSome = true := by rw [hnx]; rfl
            have HZ := Lib.hid (And.intro hz (And.intro hb hnx))
            clear hz hb hnx
            go_wp2_with (at_lookup; refine wpl_look rfl _ _ rfl b l.length rfl HD.out.1 HD.out.2 rfl hlo hhi HZ.out.1 HZ.out.2.1 ?_)
            go_round
            case rel => exact ⟨i + 1, by omega, by go_num, Lib.hid fun j hj => by
              by_cases hji : j = i
              · rw [hji, HM.out.1, HZ.out.2.2]; simp
              · exact HJ.out j (by omega)⟩
            case measure => simp [intOf]; omega
        · obtain rfl : i = n9 := by omega
          have hsend : ∀ a ∈ Su.senders h, Su.nextOf l a ≠ none := fun a ha => by
            obtain ⟨j, hj, rfl⟩ := List.getElem_of_mem ha
            have := HJ.out j (by rw [HN9.out]; exact hj)
            rwa [getD_get hj] at this
          have HSEND := Lib.hid hsend
          clear hsend
          go_wp2_with fail
          clear HD
          go_loopw [118] (fun vi wr => ∃ i : Nat, i ≤ l.length ∧ vi = .int .i64 i ∧ Hid (VR (w.alloc (.cells #[.slice A n c, .slice B h.src.length d, .int .i64 h.tgt] 25)) wr b l.length l ∧ ∀ j, j < i → Su.go l n (l.getD j (0, 0)).1 = h.tgt)) (fun vi _ => l.length - (intOf vi).toNat)
          case atStart => exact ⟨0, Nat.zero_le _, rfl, Lib.hid ⟨HVR.out, fun j hj => absurd hj (Nat.not_lt_zero j)⟩⟩
          case round =>
            obtain ⟨i, hi, rfl, HI⟩ := hrel
            by_cases hlt : i < l.length
            · obtain ⟨ad, f, t, rfl, hft, k1, k2, kb, kb2⟩ := HL.out.at hlt
              have k1' := HI.out.1.ext.cell k1
              have k2' := HI.out.1.ext.cell k2
              have hxx := (Ext.refl wr).alloc (.cells #[.int .i64 f, .int .i64 t] 65)
              have HVX := Lib.hid (HI.out.1.next hxx)
              have hf := HOPS.out i hlt
              rw [hft] at hf
              unfold Su.badHop at hf
              simp only at hf
              have hfin : 0 ≤ f ∧ f < (h.pr.length : Int) := by omega
              have HF := Lib.hid (And.intro hft hfin)
              obtain ⟨D, hD, hS⟩ := HVX.out.own
              have HD := Lib.hid (And.intro hD hS)
              have e2 : (wr.alloc (.cells #[.int .i64 f, .int .i64 t] 65)).cell? ⟨w.heap.size, 2, none⟩ = some (.int .i64 h.tgt) := HVX.out.ext.cell (by go_simp)
              clear hft k1 k2 hxx hD hS hf hfin
              go_wp2_with fail
              clear k1' k2'
              go_loop [15, 125] (fun va vk => ∃ (k : Nat) (y : Int), k ≤ n ∧ vk = .int .i64 k ∧ va = .int .i64 y ∧ Hid (Su.go l k f = y)) (fun _ vk => n - (intOf vk).toNat)
              case atStart => exact ⟨0, f, Nat.zero_le _, rfl, rfl, Lib.hid (Su.go_zero _ _)⟩
              case round =>
                obtain ⟨k, y, hk, rfl, rfl, HY⟩ := hrel
                by_cases hlt2 : k < n
                · have hyb := Su.go_in HOPS.out HF.out.2 k
                  rw [HY.out, hn] at hyb
                  obtain ⟨hy1, hy2⟩ := hyb
                  cases hnx : Su.nextOf l y with
                  | none =>
                    have hz : (Su.nextOf l y).getD 0 = 0 := by rw [hnx]; rfl
                    have hb : (Su.nextOf l y).isSome = false := by rw [hnx]; rfl
                    have hg : Su.go l (k + 1) f = y := by rw [Su.go_none (by rw [HY.out]; exact hnx), HY.out]
                    have HZ := Lib.hid (And.intro hz (And.intro hb hg))
                    clear hz hb hnx hg
                    go_wp2_with (at_lookup; refine wpl_look rfl _ _ rfl b l.length rfl HD.out.1 HD.out.2 rfl (by omega) (by omega) HZ.out.1 HZ.out.2.1 ?_)
                    go_round
                    case rel => exact ⟨k + 1, y, by omega, by go_num, rfl, Lib.hid HZ.out.2.2⟩
                    case measure => simp [intOf]; omega
                  | some z =>
                    have hz : (Su.nextOf l y).getD 0 = z := by rw [hnx]; rfl
                    have hb : (Su.nextOf l y).isSome = true := by rw [hnx]; rfl
                    have hg : Su.go l (k + 1) f = z := Su.go_some (by rw [HY.out]; exact hnx)
                    have HZ := Lib.hid (And.intro hz (And.intro hb hg))
                    clear hz hb hnx hg
                    go_wp2_with (at_lookup; refine wpl_look rfl _ _ rfl b l.length rfl HD.out.1 HD.out.2 rfl (by omega) (by omega) HZ.out.1 HZ.out.2.1 ?_)
                    go_round
                    case rel => exact ⟨k + 1, z, by omega, by go_num, rfl, Lib.hid HZ.out.2.2⟩
                    case measure => simp [intOf]; omega
                · obtain rfl : k = n := by omega
                  by_cases hyt : y = h.tgt
                  · have e3 : (y != h.tgt) = false := by rw [hyt]; simp
                    have hg : Su.go l k (l.getD i (0, 0)).1 = h.tgt := by rw [HF.out.1]; show Su.go l k f = h.tgt; rw [HY.out, hyt]
                    have HG2 := Lib.hid hg
                    clear hg hyt
                    go_wp2_with fail
                    clear e2
                    go_roundw
                    case rel => exact ⟨i + 1, by omega, by go_num, Lib.hid ⟨HVX.out, fun j hj => by
                      by_cases hji : j = i
                      · rw [hji]; exact HG2.out
                      · exact HI.out.2 j (by omega)⟩⟩
                    case measure => simp [intOf]; omega
                  · have e3 : (y != h.tgt) = true := by rw [bne_iff_ne]; exact hyt
                    have hc2 : Su.valid h l = false := Su.valid_go (x := l.getD i (0, 0)) (by rw [getD_get hlt]; exact List.getElem_mem _) (by rw [HF.out.1, hn]; show Su.go l k f ≠ h.tgt; rw [HY.out]; exact hyt)
                    have HC := Lib.hid hc2
                    clear hc2 hyt
                    go_wp2_with fail
                    go_ret
                    exact ⟨ret_bool HC.out.symm, HX0.out.trans HVX.out.ext⟩
            · obtain rfl : i = l.length := by omega
              have hc2 : Su.valid h l = true := Su.valid_iff.2 ⟨HK.out.2.1, HOPS.out, HSEND.out, fun x hx => by
                obtain ⟨j, hj, e⟩ := Su.mem_at hx
                rw [← e, hn]
                exact HI.out.2 j hj⟩
              have HC := Lib.hid hc2
              clear hc2
              go_wp2_with fail
              go_ret
              exact ⟨ret_bool HC.out.symm, HX0.out.trans HI.out.1.ext⟩
end Go.Proofs.YtenafgphaceidaaDoor

/- THE WALK over Least of package sums. -/
namespace Su
/-- The way of all pieces to a house. -/
def last (h : Ha) (v : Int) : Way := get (ways h) ((2 ^ (senders h).length - 1) * 12 + v.toNat)
/-- What Least returns. -/
def least (h : Ha) : Int × Int :=
  if check h ≠ 0 then (0, check h) else if senders h = [] then (0, 0) else if (last h h.tgt).cost < 0 then (0, 8) else ((last h h.tgt).cost, 0)
theorem least_err {h : Ha} (hc : check h ≠ 0) : least h = (0, check h) := if_pos hc
theorem least_none {h : Ha} (hc : check h = 0) (hs : senders h = []) : least h = (0, 0) := by rw [least, if_neg (by simp [hc]), if_pos hs]
theorem least_no {h : Ha} (hc : check h = 0) (hs : senders h ≠ []) (hl : (last h h.tgt).cost < 0) : least h = (0, 8) := by rw [least, if_neg (by simp [hc]), if_neg hs, if_pos hl]
theorem least_yes {h : Ha} (hc : check h = 0) (hs : senders h ≠ []) (hl : ¬ (last h h.tgt).cost < 0) : least h = ((last h h.tgt).cost, 0) := by rw [least, if_neg (by simp [hc]), if_neg hs, if_neg hl]
end Su
namespace Go.Proofs.YtenafgphaceidaaDoor
open Go.RowKit
set_option maxHeartbeats 4000000 in
set_option maxRecDepth 100000 in
theorem uLeast_any (h : Su.Ha) (v : Value) (w : World) (hv : RH w v h) :
    Calls Tryd.prog 15 #[v] w fun e w' => e = .returned (.tuple #[.int .i64 (Su.least h).1, .int .i64 (Su.least h).2]) ∧ Ext w w' := by
  have hvv := hv
  obtain ⟨A, B, c, d, rfl, hG, hS, hl1, hl2, hb1, hb2⟩ := hv.open
  have hx0 := (Ext.refl w).alloc (.cells #[.slice A h.pr.length c, .slice B h.src.length d, .int .i64 h.tgt] 25)
  have HX0 := Lib.hid hx0
  have HV := Lib.hid (RH.ext _ _ _ _ hx0 hvv)
  clear hv hvv hG hS hx0
  by_cases h0 : Su.check h = 0
  case neg =>
    have e1 : (Su.check h != 0) = true := by rw [bne_iff_ne]; exact h0
    have HC := Lib.hid (Su.least_err h0)
    clear h0
    go_enter Tryd.func15, Tryd.ntmps15
    go_wp2_with fail
    refine (uCheck_any h _ _ HV.out).mono ?_
    rintro ee w1 ⟨rfl, hx1⟩
    have HX1 := Lib.hid (HX0.out.trans hx1)
    clear hx1
    go_wp2_with fail
    go_ret2
    exact ⟨ret_two (v_int (by rw [HC.out])) (v_int (by rw [HC.out])), HX1.out⟩
  case pos =>
  have e1 : (Su.check h != 0) = false := by rw [h0]; rfl
  have hk := Su.ok_of h0
  have HK := Lib.hid (And.intro hk h0)
  obtain ⟨t, ht⟩ : ∃ t : Nat, h.tgt = t := ⟨h.tgt.toNat, by have := hk.tgt; omega⟩
  have ht12 : t < 12 := by have := hk.tgt; have := hk.few; omega
  have h8 := hk.send
  have hmm : 2 ^ (Su.senders h).length ≤ 256 := Nat.pow_le_pow_right (by decide) h8
  have hpos := Nat.two_pow_pos (Su.senders h).length
  have hlen := Su.waysTo_len h (2 ^ (Su.senders h).length)
  rw [← Su.ways_def] at hlen
  have hlast : Su.last h h.tgt = Su.get (Su.ways h) ((2 ^ (Su.senders h).length - 1) * 12 + t) := by unfold Su.last; rw [ht]; rfl
  have hnil : Su.senders h = [] ↔ 2 ^ (Su.senders h).length = 1 := by
    constructor
    · intro e; rw [e]; rfl
    · intro e
      rcases Nat.eq_zero_or_pos (Su.senders h).length with h1 | h1
      · exact List.length_eq_zero_iff.1 h1
      · exfalso
        obtain ⟨k, hk⟩ : ∃ k, (Su.senders h).length = k + 1 := ⟨(Su.senders h).length - 1, by omega⟩
        have := Nat.two_pow_pos k
        rw [hk, Nat.pow_succ] at e
        omega
  obtain ⟨N, hN⟩ : ∃ N, 2 ^ (Su.senders h).length = N := ⟨_, rfl⟩
  rw [hN] at hmm hpos hlen hlast hnil
  have HF := Lib.hid (And.intro hlen (And.intro hlast (And.intro hnil hN)))
  rw [ht] at HV HX0 ⊢
  have HTG := Lib.hid ht
  clear h0 ht hk hlen hlast hnil h8
  go_enter Tryd.func15, Tryd.ntmps15
  go_wp2_with fail
  refine (uCheck_any h _ _ HV.out).mono ?_
  rintro ee w1 ⟨rfl, hx1⟩
  have d0 : w1.cell? ⟨w.heap.size, 0, none⟩ = some (.slice A h.pr.length c) := hx1.cell (by go_simp)
  have d1 : w1.cell? ⟨w.heap.size, 1, none⟩ = some (.slice B h.src.length d) := hx1.cell (by go_simp)
  have d2 : w1.cell? ⟨w.heap.size, 2, none⟩ = some (.int .i64 (t : Int)) := hx1.cell (by go_simp)
  have HX1 := Lib.hid hx1
  have HD2 := Lib.hid d2
  clear hx1
  go_wp2_with fail
  clear d0 d1 d2
  refine (uWays_any h _ _ (RH.ext _ _ _ _ HX1.out HV.out) HK.out.1).mono ?_
  rintro ee w2 ⟨g, N', rfl, hN', hO⟩
  obtain rfl : N' = N := by rw [hN', HF.out.2.2.2]
  have hat := (ways_at hO HF.out.1 (s := N' - 1) (v := t) (by omega) ht12).c0
  obtain ⟨cost, hcost⟩ : ∃ cost, (Su.get (Su.ways h) ((N' - 1) * 12 + t)).cost = cost := ⟨_, rfl⟩
  rw [hcost] at hat
  have hlc : (Su.last h h.tgt).cost = cost := by rw [HF.out.2.1]; exact hcost
  have d2 := hO.ext.cell HD2.out
  have HLC := Lib.hid hlc
  have HX2 := Lib.hid ((HX0.out.trans HX1.out).trans hO.ext)
  obtain ⟨M, hM⟩ : ∃ M, N' - 1 = M := ⟨_, rfl⟩
  have hM2 : (N' : Int) - 1 = (M : Int) := by omega
  have hMN : M < N' := by omega
  rw [hM] at hat
  have e12 : ¬ (12 : Int) ≤ (t : Int) := by omega
  clear hO hlc hcost hN'
  by_cases hs : Su.senders h = []
  · have hone : M = 0 := by have := HF.out.2.2.1.1 hs; omega
    have HC := Lib.hid (Su.least_none HK.out.2 hs)
    have e2 : ((M : Int) == 0) = true := by rw [hone]; rfl
    clear hs hone
    go_wp2_with fail
    go_quiet (fail)
    go_wp2_with fail
    go_ret2
    exact ⟨ret_two (v_int (by rw [HC.out])) (v_int (by rw [HC.out])), HX2.out.drewN _⟩
  · have hone : M ≠ 0 := by
      intro e
      exact hs (HF.out.2.2.1.2 (by omega))
    have e2 : ((M : Int) == 0) = false := by rw [beq_eq_false_iff_ne]; omega
    by_cases hneg : cost < 0
    · have HC := Lib.hid (Su.least_no HK.out.2 hs (by rw [HLC.out]; exact hneg))
      clear hs hone
      go_wp2_with fail
      go_quiet (fail)
      go_wp2_with fail
      go_ret2
      exact ⟨ret_two (v_int (by rw [HC.out])) (v_int (by rw [HC.out])), HX2.out.drewN _⟩
    · have HC := Lib.hid (Su.least_yes HK.out.2 hs (by rw [HLC.out]; exact hneg))
      clear hs hone
      go_wp2_with fail
      go_quiet (fail)
      go_wp2_with fail
      go_ret2
      exact ⟨ret_two (v_int (by rw [HC.out, HLC.out])) (v_int (by rw [HC.out])), HX2.out.drewN _⟩
end Go.Proofs.YtenafgphaceidaaDoor

/- A SET OF HOPS as a map: its keys. -/
namespace Su
/-- The hops that are used for a set and a house, behind those that were; none if it takes too long. -/
def walkF (N : Nat) (W : List Way) : Nat → Nat → Nat → List (Int × Int) → Option (List (Int × Int))
  | 0, _, _, _ => none
  | f + 1, s, v, U =>
    if s < N ∧ v < 12 ∧ U.length < 1000000 then
      if 0 ≤ (get W (s * 12 + v)).frm then
        if (get W (s * 12 + v)).frm < 12 then walkF N W f s (get W (s * 12 + v)).frm.toNat (U ++ [((get W (s * 12 + v)).frm, (v : Int))]) else none
      else if 0 < (get W (s * 12 + v)).half then
        if (get W (s * 12 + v)).half ≤ s then (walkF N W f (get W (s * 12 + v)).half.toNat v U).bind (walkF N W f (s - (get W (s * 12 + v)).half.toNat) v) else none
      else some U
    else none
theorem walkF_in {N : Nat} {W : List Way} {f s v : Nat} {U V : List (Int × Int)} (h : walkF N W (f + 1) s v U = some V) : s < N ∧ v < 12 ∧ U.length < 1000000 := by
  rw [walkF] at h
  split at h
  · assumption
  · cases h
theorem walkF_from {N : Nat} {W : List Way} {f s v : Nat} {U V : List (Int × Int)} (h : walkF N W (f + 1) s v U = some V) (hf : 0 ≤ (get W (s * 12 + v)).frm) : (get W (s * 12 + v)).frm < 12 ∧ walkF N W f s (get W (s * 12 + v)).frm.toNat (U ++ [((get W (s * 12 + v)).frm, (v : Int))]) = some V := by
  rw [walkF, if_pos (walkF_in h), if_pos hf] at h
  split at h
  · exact ⟨by assumption, h⟩
  · cases h
theorem walkF_half {N : Nat} {W : List Way} {f s v : Nat} {U V : List (Int × Int)} (h : walkF N W (f + 1) s v U = some V) (hf : ¬ 0 ≤ (get W (s * 12 + v)).frm) (hh : 0 < (get W (s * 12 + v)).half) :
    (get W (s * 12 + v)).half ≤ s ∧ ∃ X, walkF N W f (get W (s * 12 + v)).half.toNat v U = some X ∧ walkF N W f (s - (get W (s * 12 + v)).half.toNat) v X = some V := by
  rw [walkF, if_pos (walkF_in h), if_neg hf, if_pos hh] at h
  split at h
  · refine ⟨by assumption, ?_⟩
    cases e : walkF N W f (get W (s * 12 + v)).half.toNat v U with
    | none => rw [e] at h; cases h
    | some X => rw [e] at h; exact ⟨X, rfl, h⟩
  · cases h
theorem walkF_end {N : Nat} {W : List Way} {f s v : Nat} {U V : List (Int × Int)} (h : walkF N W (f + 1) s v U = some V) (hf : ¬ 0 ≤ (get W (s * 12 + v)).frm) (hh : ¬ 0 < (get W (s * 12 + v)).half) : U = V := by
  rw [walkF, if_pos (walkF_in h), if_neg hf, if_neg hh] at h
  injection h
end Su
namespace Go.Proofs.YtenafgphaceidaaDoor
open Go.RowKit
open Go.Maps (Keyed)
open Go.WideMaps Go.ChangeMaps Go.MapKept Go.WideShapes
theorem laidOutT : laidOutB Tryd.prog = true := by kernel_rfl
theorem hopKeyed : Keyed Tryd.prog 65 := Keyed.of_law (deep_law_laid laidOutT (m := 5) (by decide) (Nat.le_of_ble_eq_true (by kernel_rfl)) (by kernel_rfl) (by kernel_rfl))
/-- What a hop reads as, as a key. -/
def hopKey (a b : Int) : Lit := .string (keyBytes [.int .i64 a, .int .i64 b])
theorem lits_int (m : Nat) {a : Int} (wa : (Lit.int .i64 a).wf = true) : Program.keyLits Tryd.prog (m + 1) 3 [.int .i64 a] = some [.int .i64 a] := by
  unfold Program.keyLits
  rw [Tryd.underlying3]
  simp [wa]
theorem cellsIntT : Tryd.prog.cellsOf 3 = 1 := by kernel_rfl
theorem cellsHop : Tryd.prog.cellsOf 65 = 2 := by kernel_rfl
theorem lits_hop (m : Nat) {a b : Int} (wa : (Lit.int .i64 a).wf = true) (wb : (Lit.int .i64 b).wf = true) : Program.keyLits Tryd.prog (m + 1 + 1) 65 [.int .i64 a, .int .i64 b] = some [.int .i64 a, .int .i64 b] := by
  unfold Program.keyLits
  rw [Tryd.underlying65]
  simp [cellsHop, cellsIntT, lits_int m wa, lits_int m wb]
theorem hopKey_of {a b : Int} (ha : -9223372036854775808 ≤ a ∧ a ≤ 9223372036854775807) (hb : -9223372036854775808 ≤ b ∧ b ≤ 9223372036854775807) : keyOf Tryd.prog 65 (.agg #[.int .i64 a, .int .i64 b]) = some (hopKey a b) := by
  have wa : (Lit.int .i64 a).wf = true := WalkArith.wf_i64 ha
  have wb : (Lit.int .i64 b).wf = true := WalkArith.wf_i64 hb
  obtain ⟨m, hm⟩ : ∃ m, Tryd.prog.types.size = m + 1 := ⟨Tryd.prog.types.size - 1, by kernel_rfl⟩
  have hkt : Tryd.prog.keyType 65 = true := by kernel_rfl
  have hfo : Value.formed Tryd.prog 65 (.agg #[.int .i64 a, .int .i64 b]) = true := by
    unfold Value.formed
    rw [Tryd.underlying65]
    simp [cellsHop]
  unfold keyOf
  rw [Tryd.underlying65]
  simp only [hkt, hfo, hm, Value.cells, lits_hop m wa wb, hopKey]
  rfl
theorem hopKey_inj {a b c d : Int} (ha : -9223372036854775808 ≤ a ∧ a ≤ 9223372036854775807) (hb : -9223372036854775808 ≤ b ∧ b ≤ 9223372036854775807) (hc : -9223372036854775808 ≤ c ∧ c ≤ 9223372036854775807) (hd : -9223372036854775808 ≤ d ∧ d ≤ 9223372036854775807) (h : hopKey a b = hopKey c d) : a = c ∧ b = d := by
  have h1 := hopKey_of ha hb
  have h2 := hopKey_of hc hd
  rw [← h] at h2
  have := hopKeyed.inj h1 h2
  injection this with this
  injection this with this
  injection this with e1 e2
  injection e1 with _ e1
  injection e2 with e2 _
  injection e2 with _ e2
  exact ⟨e1, e2⟩
def r64 (a : Int) : Prop := -9223372036854775808 ≤ a ∧ a ≤ 9223372036854775807
/-- A map says which hops are in a list. -/
def USays (D : DataW Unit) (U : List (Int × Int)) : Prop := ∀ a b : Int, r64 a → r64 b → Go.Maps.has D (hopKey a b) = decide ((a, b) ∈ U) ∧ D.atKey (hopKey a b) (.lit (.bool false)) = .lit (.bool (decide ((a, b) ∈ U)))
theorem USays.start : USays (.map []) [] := fun _ _ _ _ => ⟨rfl, rfl⟩
theorem USays.put {D : DataW Unit} {U : List (Int × Int)} (h : USays D U) (hD : Go.Maps.IsMap D) {f t : Int} (hf : r64 f) (ht : r64 t) : USays (D.put (hopKey f t) (.lit (.bool true))) (U ++ [(f, t)]) := by
  have hk : WideAt.IsKeyLit (hopKey f t) := hopKeyed.key (hopKey_of hf ht)
  intro a b ha hb
  by_cases he : a = f ∧ b = t
  · obtain ⟨rfl, rfl⟩ := he
    have hm : decide ((a, b) ∈ U ++ [(a, b)]) = true := by simp
    rw [hm]
    exact ⟨Go.Maps.has_put_same hD hk _, Go.Maps.atKey_put_same hD hk _ _⟩
  · have hne : hopKey a b ≠ hopKey f t := fun e => he (hopKey_inj ha hb hf ht e)
    have hm : decide ((a, b) ∈ U ++ [(f, t)]) = decide ((a, b) ∈ U) := by
      apply decide_eq_decide.2
      rw [List.mem_append, List.mem_singleton, Prod.mk.injEq]
      exact ⟨fun e => e.elim id fun e => absurd e he, .inl⟩
    rw [hm, Go.Maps.has_put_other hne, Go.Maps.atKey_put_other hne]
    exact h a b ha hb
/-- What the walk through the table reads and writes. -/
structure TW (W0 w : World) (g N b P6 P7 P8 : Nat) (W : List Su.Way) (U : List (Int × Int)) : Prop where
  ext : Ext W0 w
  ge : W0.heap.size ≤ b
  tab : ∀ s v, s < N → v < 12 → w.cell? ⟨g, s * 36 + v * 3, none⟩ = some (.int .i64 (Su.get W (s * 12 + v)).cost) ∧ w.cell? ⟨g, s * 36 + v * 3 + 1, none⟩ = some (.int .i64 (Su.get W (s * 12 + v)).half) ∧ w.cell? ⟨g, s * 36 + v * 3 + 2, none⟩ = some (.int .i64 (Su.get W (s * 12 + v)).frm)
  p6 : w.cell? ⟨P6, 0, none⟩ = some (.slice (some ⟨g, 0, none⟩) N N)
  p7 : w.cell? ⟨P7, 0, none⟩ = some (.map (some b))
  p8 : w.cell? ⟨P8, 0, none⟩ = some (.func (.func 35) #[] #[.pointer (some ⟨P6, 0, none⟩), .pointer (some ⟨P7, 0, none⟩), .pointer (some ⟨P8, 0, none⟩)])
  own : ∃ D : DataW Unit, w.ownsMap Tryd.prog 65 (plainElem Tryd.prog 4) b U.length D ∧ USays D U
theorem TW.next {W0 w w' : World} {g N b P6 P7 P8 : Nat} {W : List Su.Way} {U : List (Int × Int)} (h : TW W0 w g N b P6 P7 P8 W U) (hx : Ext w w') : TW W0 w' g N b P6 P7 P8 W U :=
  ⟨h.ext.trans hx, h.ge, fun s v hs hv => ⟨hx.cell (h.tab s v hs hv).1, hx.cell (h.tab s v hs hv).2.1, hx.cell (h.tab s v hs hv).2.2⟩, hx.cell h.p6, hx.cell h.p7, hx.cell h.p8, by obtain ⟨D, h1, h2⟩ := h.own; exact ⟨D, ownsMap_ext h1 hx, h2⟩⟩
/-- A store into a map turns no cell. -/
theorem grown_cell {w w' : World} {b n : Nat} {D : DataW Unit} {k : TypeId} {R : Value → Option (DataW Unit × List MemPlace)} (hown : w.ownsMap Tryd.prog k R b n D) (hg : w.grownBy w' (some b)) {p : Addr} {v : Value} (hp : w.cell? p = some v) : w'.cell? p = some v := by
  obtain ⟨es, clock, hb, _⟩ := hown
  by_cases hpb : p.block = b
  · exfalso
    simp [World.cell?, hpb, hb] at hp
  · have hlt : p.block < w.heap.size := by
      rcases Nat.lt_or_ge p.block w.heap.size with h1 | h1
      · exact h1
      · simp [World.cell?, Array.getElem?_eq_none h1] at hp
    have h1 := hg.block p.block hlt (by intro e; injection e with e; exact hpb e)
    unfold World.cell? at hp ⊢
    rw [h1]
    exact hp
theorem TW.put {W0 w w' : World} {g N b P6 P7 P8 : Nat} {W : List Su.Way} {U : List (Int × Int)} (h : TW W0 w g N b P6 P7 P8 W U) {D : DataW Unit} (h1 : w.ownsMap Tryd.prog 65 (plainElem Tryd.prog 4) b U.length D) (h2 : USays D U) {f t : Int} (hf : r64 f) (ht : r64 t)
    (h3 : w'.ownsMap Tryd.prog 65 (plainElem Tryd.prog 4) b (U.length + 1) (D.put (hopKey f t) (.lit (.bool true)))) (hg : w.grownBy w' (some b)) : TW W0 w' g N b P6 P7 P8 W (U ++ [(f, t)]) :=
  have k := fun {p : Addr} {v : Value} (hp : w.cell? p = some v) => grown_cell h1 hg hp
  ⟨h.ext.grown hg (fun j hj => by injection hj with hj; rw [← hj]; exact h.ge), h.ge, fun s v hs hv => ⟨k (h.tab s v hs hv).1, k (h.tab s v hs hv).2.1, k (h.tab s v hs hv).2.2⟩, k h.p6, k h.p7, k h.p8, _, by rw [List.length_append]; exact h3, h2.put h1.isMap hf ht⟩
end Go.Proofs.YtenafgphaceidaaDoor

/- THE WALK over Tree's closure. -/
namespace Go.Proofs.YtenafgphaceidaaDoor
open Go.RowKit
open Go.Maps (Keyed)
open Go.WideMaps Go.ChangeMaps Go.MapKept Go.WideShapes
theorem enters35 : ∀ args w, (callFunc 35 args).run Tryd.prog w = .ok (.enter 35 args) w := enters_of Tryd.func35 (by kernel_rfl) rfl
/-- No cell that was there has turned. -/
def Keep (w w' : World) : Prop := ∀ p v, w.cell? p = some v → w'.cell? p = some v
theorem Ext.keep {w w' : World} (h : Ext w w') : Keep w w' := fun _ _ hp => h.cell hp
theorem Keep.trans {a b c : World} (h : Keep a b) (k : Keep b c) : Keep a c := fun p v hp => k p v (h p v hp)
set_option maxHeartbeats 4000000 in
set_option maxRecDepth 100000 in
/-- The walk through the table. -/
theorem tree1_any (W0 : World) (g N b P6 P7 P8 : Nat) (W : List Su.Way) (hN : N ≤ 256) : ∀ (fuel s v : Nat) (U V : List (Int × Int)) (w : World), Su.walkF N W fuel s v U = some V → TW W0 w g N b P6 P7 P8 W U →
    Calls Tryd.prog 35 #[.int .i64 s, .int .i64 v, .pointer (some ⟨P6, 0, none⟩), .pointer (some ⟨P7, 0, none⟩), .pointer (some ⟨P8, 0, none⟩)] w fun e w' => e = .returned (.tuple #[]) ∧ TW W0 w' g N b P6 P7 P8 W V ∧ Keep w w'
  | 0, s, v, U, V, w, hw, _ => by cases hw
  | fuel + 1, s, v, U, V, w, hw, ht => by
    have ih := tree1_any W0 g N b P6 P7 P8 W hN fuel
    have IH := Lib.hid ih
    clear ih
    obtain ⟨hs, hv, hU⟩ := Su.walkF_in hw
    obtain ⟨k0, k1, k2⟩ := ht.tab s v hs hv
    have p6 := ht.p6
    obtain ⟨x, hx⟩ : ∃ x, Su.get W (s * 12 + v) = x := ⟨_, rfl⟩
    have hfrom := fun h => Su.walkF_from hw h
    have hhalf := fun h h2 => Su.walkF_half hw h h2
    have hend := fun h h2 => Su.walkF_end hw h h2
    rw [hx] at k0 k1 k2 hfrom hhalf hend
    obtain ⟨cost, half, frm⟩ := x
    simp only at k0 k1 k2 hfrom hhalf hend
    have hE := @enters35
    have HT := Lib.hid ht
    have ht2 := ht.next ((Ext.refl w).alloc (.cells #[.int .i64 cost, .int .i64 half, .int .i64 frm] 77))
    have HT2 := Lib.hid ht2
    have hkp : Keep w (w.alloc (.cells #[.int .i64 cost, .int .i64 half, .int .i64 frm] 77)) := ((Ext.refl w).alloc _).keep
    have HKP := Lib.hid hkp
    have e12 : ¬ (12 : Int) ≤ (v : Int) := by omega
    have hv64 : r64 (v : Int) := ⟨by omega, by omega⟩
    have HV64 := Lib.hid hv64
    clear ht ht2 hw hx hv64 hkp
    by_cases h0 : 0 ≤ frm
    · obtain ⟨hf12, hrec⟩ := hfrom h0
      obtain ⟨u, rfl⟩ : ∃ u : Nat, frm = u := ⟨frm.toNat, by omega⟩
      rw [Int.toNat_natCast] at hrec
      have hu64 : r64 (u : Int) := ⟨by omega, by omega⟩
      have HREC := Lib.hid (And.intro hrec hu64)
      obtain ⟨D, hD, hS⟩ := HT2.out.own
      have HD := Lib.hid (And.intro hD hS)
      have p7 := HT2.out.p7
      have hUl : U.length < maxLen := by unfold maxLen; omega
      clear hfrom hhalf hend hrec hu64 hD hS
      go_enter Tryd.func35, Tryd.ntmps35
      go_wp2_with (at_mapUpdate; refine wpList_mapUpdate_own _ rfl _ _ _ 79 rfl 65 4 hopKeyed Tryd.underlying79 _ b U.length D rfl HD.out.1 hUl _ _ _ rfl rfl (hopKey_of HREC.out.2 HV64.out) (.lit (.bool true)) [] (plainElem_bool Tryd.underlying4 true) ?_; intro w5 hown5 hgrow5; have HT5 := Lib.hid (HT2.out.put HD.out.1 HD.out.2 HREC.out.2 HV64.out hown5 hgrow5); have q8 := HT5.out.p8; have hk5 : Keep _ w5 := fun p v hp => grown_cell HD.out.1 hgrow5 hp; have HK5 := Lib.hid (HKP.out.trans hk5); clear hk5; have m2 := grown_cell HD.out.1 hgrow5 (p := ⟨w.heap.size, 2, none⟩) (v := .int .i64 (u : Int)) (by go_simp); clear hown5 hgrow5)
      refine (IH.out s u _ _ _ HREC.out.1 HT5.out).mono ?_
      rintro e w6 ⟨rfl, h6, h7⟩
      have H6 := Lib.hid (And.intro h6 (HK5.out.trans h7))
      clear h6 h7
      go_wp2_with fail
      go_end0
      exact ⟨rfl, H6.out⟩
    · by_cases h1 : 0 < half
      · obtain ⟨hhs, X, hr1, hr2⟩ := hhalf h0 h1
        obtain ⟨m, rfl⟩ : ∃ m : Nat, half = m := ⟨half.toNat, by omega⟩
        rw [Int.toNat_natCast] at hr1 hr2
        obtain ⟨r, hr⟩ : ∃ r, s - m = r := ⟨_, rfl⟩
        have hsr : (s : Int) - (m : Int) = (r : Int) := by omega
        rw [hr] at hr2
        have HREC := Lib.hid (And.intro hr1 hr2)
        have q8 := HT2.out.p8
        clear hfrom hhalf hend hr1 hr2 hr
        go_enter Tryd.func35, Tryd.ntmps35
        go_wp2_with fail
        refine (IH.out m v _ _ _ HREC.out.1 HT2.out).mono ?_
        rintro e w6 ⟨rfl, h6, h7⟩
        have x1 : w6.cell? ⟨w.heap.size, 1, none⟩ = some (.int .i64 (m : Int)) := h7 _ _ (by go_simp)
        have q8' := h6.p8
        have H6 := Lib.hid (And.intro h6 (HKP.out.trans h7))
        clear h6 h7
        go_wp2_with fail
        refine (IH.out r v _ _ _ HREC.out.2 H6.out.1).mono ?_
        rintro e w7 ⟨rfl, h6, h7⟩
        have H7 := Lib.hid (And.intro h6 (H6.out.2.trans h7))
        clear h6 h7
        go_wp2_with fail
        go_end0
        exact ⟨rfl, H7.out⟩
      · have hU2 := hend h0 h1
        subst hU2
        clear hfrom hhalf hend
        go_enter Tryd.func35, Tryd.ntmps35
        go_wp2_with fail
        go_end0
        exact ⟨rfl, HT2.out, HKP.out⟩
end Go.Proofs.YtenafgphaceidaaDoor

/- THE SEARCH BACK FROM THE TARGET, in plain terms; a queue in memory. -/
namespace Su
/-- A house is looked at from the house y. -/
def bfsStep (U : List (Int × Int)) (y : Int) (a : Nat) (nx : List (Int × Int)) : List (Int × Int) :=
  if nextOf nx (a : Int) = none ∧ ((a : Int), y) ∈ U then nx ++ [((a : Int), y)] else nx
theorem bfsStep_known {U : List (Int × Int)} {y b : Int} {a : Nat} {nx : List (Int × Int)} (h : nextOf nx (a : Int) = some b) : bfsStep U y a nx = nx := if_neg (by rw [h]; rintro ⟨e, _⟩; cases e)
theorem bfsStep_no {U : List (Int × Int)} {y : Int} {a : Nat} {nx : List (Int × Int)} (h : ((a : Int), y) ∉ U) : bfsStep U y a nx = nx := if_neg fun e => h e.2
theorem bfsStep_yes {U : List (Int × Int)} {y : Int} {a : Nat} {nx : List (Int × Int)} (h : nextOf nx (a : Int) = none) (h2 : ((a : Int), y) ∈ U) : bfsStep U y a nx = nx ++ [((a : Int), y)] := if_pos ⟨h, h2⟩
/-- The houses that are known; q: how many of them have been looked from. -/
def bfs (U : List (Int × Int)) (n : Nat) : Nat → Nat → List (Int × Int) → List (Int × Int)
  | 0, _, nx => nx
  | f + 1, q, nx => if q < nx.length then bfs U n f (q + 1) (rep (bfsStep U (nx.getD q (0, 0)).1) n nx) else nx
theorem bfs_go {U : List (Int × Int)} {n f q : Nat} {nx : List (Int × Int)} (h : q < nx.length) : bfs U n (f + 1) q nx = bfs U n f (q + 1) (rep (bfsStep U (nx.getD q (0, 0)).1) n nx) := by rw [bfs, if_pos h]
theorem bfs_end {U : List (Int × Int)} {n f q : Nat} {nx : List (Int × Int)} (h : ¬ q < nx.length) : bfs U n f q nx = nx := by
  cases f with
  | zero => rfl
  | succ f => rw [bfs, if_neg h]
/-- Known houses: each once, all of them houses. -/
structure Known (n : Nat) (nx : List (Int × Int)) : Prop where
  nd : (nx.map Prod.fst).Nodup
  dom : ∀ x ∈ nx, 0 ≤ x.1 ∧ x.1 < (n : Int)
  ran : ∀ x ∈ nx, 0 ≤ x.2 ∧ x.2 < (n : Int)
theorem Known.len {n : Nat} {nx : List (Int × Int)} (h : Known n nx) : nx.length ≤ n := by
  have := nodup_len n (nx.map Prod.fst) h.nd (fun x hx => by
    obtain ⟨y, hy, rfl⟩ := List.mem_map.1 hx
    exact h.dom y hy)
  simpa using this
theorem Known.step {n : Nat} {nx : List (Int × Int)} (h : Known n nx) {U : List (Int × Int)} {y : Int} {a : Nat} (ha : a < n) (hy : 0 ≤ y ∧ y < (n : Int)) : Known n (bfsStep U y a nx) := by
  unfold bfsStep
  split
  · rename_i hc
    refine ⟨?_, ?_, ?_⟩
    · rw [List.map_append, List.nodup_append]
      refine ⟨h.nd, by simp, ?_⟩
      intro x hx z hz
      simp only [List.map_cons, List.map_nil, List.mem_singleton] at hz
      subst hz
      obtain ⟨p, hp, rfl⟩ := List.mem_map.1 hx
      exact (nextOf_none.1 hc.1) p hp
    · intro x hx
      rcases List.mem_append.1 hx with hx | hx
      · exact h.dom x hx
      · rw [List.mem_singleton] at hx; subst hx; exact ⟨by simp, by simp; omega⟩
    · intro x hx
      rcases List.mem_append.1 hx with hx | hx
      · exact h.ran x hx
      · rw [List.mem_singleton] at hx; subst hx; exact hy
  · exact h
theorem Known.rep {n : Nat} {U : List (Int × Int)} {y : Int} (hy : 0 ≤ y ∧ y < (n : Int)) {nx : List (Int × Int)} (h : Known n nx) : ∀ k, k ≤ n → Known n (rep (bfsStep U y) k nx)
  | 0, _ => h
  | k + 1, hk => (Known.rep hy h k (by omega)).step (by omega) hy
theorem Known.at {n : Nat} {nx : List (Int × Int)} (h : Known n nx) {q : Nat} (hq : q < nx.length) : 0 ≤ (nx.getD q (0, 0)).1 ∧ (nx.getD q (0, 0)).1 < (n : Int) :=
  h.dom _ (by rw [List.getD_eq_getElem?_getD, List.getElem?_eq_getElem hq]; exact List.getElem_mem hq)
theorem bfsStep_pre (U : List (Int × Int)) (y : Int) (a : Nat) (nx : List (Int × Int)) : ∃ t, bfsStep U y a nx = nx ++ t := by
  unfold bfsStep
  split
  · exact ⟨_, rfl⟩
  · exact ⟨[], by simp⟩
theorem rep_pre (U : List (Int × Int)) (y : Int) (nx : List (Int × Int)) : ∀ k, ∃ t, rep (bfsStep U y) k nx = nx ++ t
  | 0 => ⟨[], by rw [rep_zero]; simp⟩
  | k + 1 => by
    obtain ⟨t, ht⟩ := rep_pre U y nx k
    obtain ⟨t2, ht2⟩ := bfsStep_pre U y k (rep (bfsStep U y) k nx)
    exact ⟨t ++ t2, by rw [rep_succ, ht2, ht, List.append_assoc]⟩
theorem rep_getD (U : List (Int × Int)) (y : Int) (nx : List (Int × Int)) (k : Nat) {q : Nat} (hq : q < nx.length) : (rep (bfsStep U y) k nx).getD q (0, 0) = nx.getD q (0, 0) := by
  obtain ⟨t, ht⟩ := rep_pre U y nx k
  rw [ht, List.getD_eq_getElem?_getD, List.getD_eq_getElem?_getD, List.getElem?_append_left hq]
theorem rep_len_ge (U : List (Int × Int)) (y : Int) (nx : List (Int × Int)) (k : Nat) : nx.length ≤ (rep (bfsStep U y) k nx).length := by
  obtain ⟨t, ht⟩ := rep_pre U y nx k
  rw [ht, List.length_append]
  omega
/-- The heads of the known houses from the q-th on. -/
def heads (q : Nat) (nx : List (Int × Int)) : List Int := (nx.drop q).map Prod.fst
theorem heads_len (q : Nat) (nx : List (Int × Int)) : (heads q nx).length = nx.length - q := by simp [heads]
theorem heads_snoc {q : Nat} {nx : List (Int × Int)} (hq : q ≤ nx.length) (x : Int × Int) : heads q (nx ++ [x]) = heads q nx ++ [x.1] := by
  unfold heads
  rw [List.drop_append_of_le_length hq, List.map_append]
  rfl
theorem heads_cons {q : Nat} {nx : List (Int × Int)} (hq : q < nx.length) : heads q nx = (nx.getD q (0, 0)).1 :: heads (q + 1) nx := by
  unfold heads
  rw [List.drop_eq_getElem_cons hq, List.map_cons, List.getD_eq_getElem?_getD, List.getElem?_eq_getElem hq]
  rfl
/-- The houses on the way of a house to the target are marked. -/
def mark (R : List (Int × Int)) (t : Int) : Nat → Int → List Bool → List Bool
  | 0, _, S => S
  | f + 1, a, S => if a ≠ t ∧ S.getD a.toNat false = false then mark R t f ((nextOf R a).getD 0) (S.set a.toNat true) else S
theorem mark_go {R : List (Int × Int)} {t : Int} {f : Nat} {a : Int} {S : List Bool} (h : a ≠ t) (h2 : S.getD a.toNat false = false) : mark R t (f + 1) a S = mark R t f ((nextOf R a).getD 0) (S.set a.toNat true) := by rw [mark, if_pos ⟨h, h2⟩]
theorem mark_tgt {R : List (Int × Int)} {t : Int} {f : Nat} {a : Int} {S : List Bool} (h : a = t) : mark R t f a S = S := by
  cases f with
  | zero => rfl
  | succ f => rw [mark, if_neg fun e => e.1 h]
theorem mark_on {R : List (Int × Int)} {t : Int} {f : Nat} {a : Int} {S : List Bool} (h : S.getD a.toNat false = true) : mark R t f a S = S := by
  cases f with
  | zero => rfl
  | succ f => rw [mark, if_neg fun e => by rw [h] at e; cases e.2]
theorem mark_len (R : List (Int × Int)) (t : Int) : ∀ f a S, (mark R t f a S).length = S.length
  | 0, _, _ => rfl
  | f + 1, a, S => by
    rw [mark]
    split
    · rw [mark_len R t f, List.length_set]
    · rfl
/-- How many are not marked. -/
def offs (S : List Bool) : Nat := S.count false
theorem offs_set {S : List Bool} {i : Nat} (h : S.getD i false = false) (hi : i < S.length) : offs (S.set i true) + 1 = offs S := by
  unfold offs
  rw [List.count_set hi]
  have e : S[i] = false := by rw [List.getD_eq_getElem?_getD, List.getElem?_eq_getElem hi] at h; exact h
  have hp : 0 < S.count false := List.count_pos_iff.2 (by rw [← e]; exact List.getElem_mem hi)
  simp [e]
  omega
/-- The marks of all senders. -/
def marksTo (R : List (Int × Int)) (t : Int) (L : List Int) (n : Nat) : Nat → List Bool
  | 0 => List.replicate n false
  | k + 1 => mark R t (n + 1) (L.getD k 0) (marksTo R t L n k)
theorem marksTo_zero (R : List (Int × Int)) (t : Int) (L : List Int) (n : Nat) : marksTo R t L n 0 = List.replicate n false := rfl
theorem marksTo_succ (R : List (Int × Int)) (t : Int) (L : List Int) (n k : Nat) : marksTo R t L n (k + 1) = mark R t (n + 1) (L.getD k 0) (marksTo R t L n k) := rfl
theorem marksTo_len (R : List (Int × Int)) (t : Int) (L : List Int) (n : Nat) : ∀ k, (marksTo R t L n k).length = n
  | 0 => by simp [marksTo]
  | k + 1 => by rw [marksTo, mark_len, marksTo_len R t L n k]
/-- The hops of the marked ones of the first k houses. -/
def outTo (R : List (Int × Int)) (S : List Bool) : Nat → List (Int × Int)
  | 0 => []
  | k + 1 => if S.getD k false = true then outTo R S k ++ [((k : Int), (nextOf R (k : Int)).getD 0)] else outTo R S k
theorem outTo_zero (R : List (Int × Int)) (S : List Bool) : outTo R S 0 = [] := rfl
theorem outTo_yes {R : List (Int × Int)} {S : List Bool} {k : Nat} (h : S.getD k false = true) : outTo R S (k + 1) = outTo R S k ++ [((k : Int), (nextOf R (k : Int)).getD 0)] := by rw [outTo, if_pos h]
theorem outTo_no {R : List (Int × Int)} {S : List Bool} {k : Nat} (h : S.getD k false = false) : outTo R S (k + 1) = outTo R S k := by rw [outTo, if_neg (by rw [h]; simp)]
theorem outTo_len (R : List (Int × Int)) (S : List Bool) : ∀ k, (outTo R S k).length ≤ k
  | 0 => Nat.le_refl _
  | k + 1 => by
    have := outTo_len R S k
    rw [outTo]
    split
    · rw [List.length_append]; simp; omega
    · omega
/-- The known houses, of used hops. -/
def known (h : Ha) (U : List (Int × Int)) : List (Int × Int) := bfs U h.pr.length (h.pr.length + 1) 0 [(h.tgt, h.tgt)]
/-- What Tree returns, of used hops. -/
def treeOf (h : Ha) (U : List (Int × Int)) : List (Int × Int) := outTo (known h U) (marksTo (known h U) h.tgt (senders h) h.pr.length (senders h).length) h.pr.length
attribute [irreducible] bfsStep bfs mark marksTo outTo
end Su
namespace Go.Proofs.YtenafgphaceidaaDoor
open Go.RowKit
/-- A QUEUE OF THE CALL'S OWN: a row whose head moves on. -/
def QRow (w0 w : World) (v : Value) (xs : List Value) : Prop :=
  ∃ g off c, v = .slice (some ⟨g, off, none⟩) xs.length c ∧ w0.heap.size ≤ g ∧ g < w.heap.size ∧ xs.length ≤ c ∧ c ≤ maxLen ∧ (∀ j x, xs[j]? = some x → w.cell? ⟨g, off + j, none⟩ = some x) ∧ ∀ j, j < c → (w.cell? ⟨g, off + j, none⟩).isSome = true ∧ w.frozen? ⟨g, off + j, none⟩ = false
theorem QRow.of_row {w0 w : World} {v : Value} {xs : List Value} {e n : Nat} (h : w.ownsRow w0.heap.size e 1 v n xs) (hn : 0 < n) : QRow w0 w v xs := by
  rcases h.2 with ⟨_, h0⟩ | ⟨g, cap, cur, hv, hB, hg, hnc, hcm, hsz, ht⟩
  · omega
  · have hl := h.1
    refine ⟨g, 0, cap, by rw [hv, show xs.length = n by omega], hB, lt_of_block hg, by omega, hcm, fun j x hj => ?_, fun j hj => ⟨?_, ?_⟩⟩
    · have hjn : j < n * 1 := by
        have : j < xs.length := by
          rcases Nat.lt_or_ge j xs.length with h2 | h2
          · exact h2
          · rw [List.getElem?_eq_none h2] at hj; cases hj
        omega
      rw [Nat.zero_add, ← hj, ← ht, cell_of_row w g j cur e (0, 0) hg]
      rw [List.getElem?_take, if_pos (by omega)]
      simp
    · rw [Nat.zero_add, cell_of_row w g j cur e (0, 0) hg]
      rw [Array.getElem?_eq_getElem (by omega)]
      rfl
    · rw [Nat.zero_add]
      simp [World.frozen?, hg]
theorem QRow.next {w0 w w' : World} {v : Value} {xs : List Value} (h : QRow w0 w v xs) (hx : Ext w w') : QRow w0 w' v xs := by
  obtain ⟨g, off, c, hv, hB, hlt, h1, h2, h3, h4⟩ := h
  exact ⟨g, off, c, hv, hB, Nat.lt_of_lt_of_le hlt hx.size, h1, h2, fun j x hj => hx.cell (h3 j x hj), fun j hj => ⟨by rw [Below.cell hx hlt]; exact (h4 j hj).1, by rw [Below.frozen hx hlt]; exact (h4 j hj).2⟩⟩
theorem QRow.mapped {w0 w w' : World} {v : Value} {xs : List Value} {P : Program} {b n : Nat} {D : DataW Unit} {k : TypeId} {R : Value → Option (DataW Unit × List MemPlace)} (h : QRow w0 w v xs) (hown : w.ownsMap P k R b n D) (hg : w.grownBy w' (some b)) : QRow w0 w' v xs := by
  obtain ⟨g, off, c, hv, hB, hlt, h1, h2, h3, h4⟩ := h
  obtain ⟨es, clock, hb, _⟩ := hown
  have key : ∀ j, j < c → w'.heap[g]? = w.heap[g]? := fun j hj => by
    refine hg.block g hlt ?_
    intro e
    injection e with e
    subst e
    have := (h4 j hj).1
    simp [World.cell?, hb] at this
  have hxl : ∀ j x, xs[j]? = some x → j < c := fun j x hj => by
    have : j < xs.length := by
      rcases Nat.lt_or_ge j xs.length with h2 | h2
      · exact h2
      · rw [List.getElem?_eq_none h2] at hj; cases hj
    omega
  exact ⟨g, off, c, hv, hB, Nat.lt_of_lt_of_le hlt hg.size, h1, h2, fun j x hj => by rw [World.cell?_of_block (a := ⟨g, off + j, none⟩) (key j (hxl j x hj))]; exact h3 j x hj,
    fun j hj => ⟨by rw [World.cell?_of_block (a := ⟨g, off + j, none⟩) (key j hj)]; exact (h4 j hj).1, by rw [World.frozen?_of_block (a := ⟨g, off + j, none⟩) (key j hj)]; exact (h4 j hj).2⟩⟩
theorem QRow.form {w0 w : World} {v : Value} {xs : List Value} (h : QRow w0 w v xs) : ∃ g off c, v = .slice (some ⟨g, off, none⟩) xs.length c ∧ ∀ j x, xs[j]? = some x → w.cell? ⟨g, off + j, none⟩ = some x := by
  obtain ⟨g, off, c, hv, hB, hlt, h1, h2, h3, h4⟩ := h
  exact ⟨g, off, c, hv, h3⟩
/-- The queue behind its head. -/
theorem QRow.tail {w0 w : World} {x : Value} {xs : List Value} {P : Program} (t : TypeId) (ht : P.underlying t = some (.slice (P.elem t))) (hs : (sizeOf (P.elem t)).run P w = .ok 1 w) {v : Value} (h : QRow w0 w v (x :: xs)) :
    ∃ v', (Instr.sliceAt t v (some (.int .i64 1)) none none).run P w = .ok v' w ∧ QRow w0 w v' xs := by
  obtain ⟨g, off, c, rfl, hB, hlt, h1, h2, h3, h4⟩ := h
  rw [List.length_cons] at h1
  rw [run_sliceAt_slice _ _ _ _ _ _ ht, run_slice_l _ _ _ _ _ ht .i64 1 (by decide) (by simp; omega), hs]
  simp only [Result.andThen]
  by_cases hc : c = 1
  · refine ⟨_, rfl, ?_⟩
    subst hc
    have hnil : xs = [] := List.length_eq_zero_iff.1 (by omega)
    subst hnil
    refine ⟨g, off, 0, by simp [sliced], hB, hlt, Nat.le_refl _, by omega, fun j x hj => by simp at hj, fun j hj => absurd hj (Nat.not_lt_zero j)⟩
  · refine ⟨_, rfl, g, off + 1, c - 1, ?_, hB, hlt, by omega, by omega, fun j y hj => ?_, fun j hj => ?_⟩
    · simp [sliced, hc, Addr.add_lit]
    · have := h3 (j + 1) y (by simpa using hj)
      rwa [show off + 1 + j = off + (j + 1) by omega]
    · have := h4 (j + 1) (by omega)
      rwa [show off + 1 + j = off + (j + 1) by omega]
/-- One element more. -/
theorem QRow.push {w0 w : World} {xs : List Value} {P : Program} (hx0 : Ext w0 w) (t ty e : TypeId) {z : Value} {bytes : Nat} (ht : P.underlying t = some (.slice e)) (hi : (P.info? e).map (fun i => (i.zero, i.size, i.bytes)) = some (some z, 1, bytes)) (hzs : z.cells.size = 1) {v : Value} (h : QRow w0 w v xs)
    {g0 : Nat} {u : Value} (hu : w.cell? ⟨g0, 0, none⟩ = some u) (h1 : u.oneCell' = true) (hm : xs.length < 1000000000000) (hb : bytes ≤ 100) :
    ∃ v' w', (Builtin.append_ #[t, t] ty #[v, .slice (some ⟨g0, 0, none⟩) 1 1]).run P w = .ok v' w' ∧ QRow w0 w' v' (xs ++ [u]) ∧ Ext w0 w' ∧
      ∀ (b : Nat) (k : TypeId) (R : Value → Option (DataW Unit × List MemPlace)) (n : Nat) (D : DataW Unit), w.ownsMap P k R b n D → w'.ownsMap P k R b n D := by
  obtain ⟨i, hi0, hiz, hi1, hi2⟩ := info_parts hi
  obtain ⟨g, off, c, rfl, hB, hlt, hl1, hl2, h3, h4⟩ := h
  have hnews : ∀ j y, [u][j]? = some y → w.cell? ((⟨g0, 0, none⟩ : Addr).add j) = some y := fun j y hj => by
    match j, hj with
    | 0, hj => simp at hj; subst hj; exact hu
  have hone : ∀ y ∈ [u], y.oneCell' = true := fun y hy => by simp at hy; subst hy; exact h1
  have hbb : (xs.length + 1) * bytes ≤ (xs.length + 1) * 100 := Nat.mul_le_mul_left _ hb
  by_cases hr : xs.length + 1 ≤ c
  · have hc0 := h4 xs.length (by omega)
    have hrun := run_append_room_cells (P := P) w t ty e i ht hi0 g off xs.length c ⟨g0, 0, none⟩ 1 1 [u] (by simp [hi1]) hnews hone hr (fun j hj => by
        obtain rfl : j = 0 := by simpa using hj
        rw [hi1, Nat.mul_one]; exact hc0.1) (fun j hj => by
        obtain rfl : j = 0 := by simpa using hj
        rw [hi1, Nat.mul_one]; exact hc0.2)
    rw [hi1, Nat.mul_one] at hrun
    have hw : w.setCells g (off + xs.length) [u] = w.setCell ⟨g, off + xs.length, none⟩ u := rfl
    rw [hw] at hrun
    refine ⟨_, _, hrun, ⟨g, off, c, by simp, hB, by simpa using hlt, by simpa using hr, hl2, fun j x hj => ?_, fun j hj => ⟨?_, ?_⟩⟩, hx0.setCell hB u, ?_⟩
    · by_cases hjl : j = xs.length
      · subst hjl
        rw [List.getElem?_append_right (Nat.le_refl _)] at hj
        simp at hj
        subst hj
        exact World.cell?_setCell_same' _ _ _ hc0.1
      · have hj2 : j < xs.length := by
          rcases Nat.lt_or_ge j (xs ++ [u]).length with h5 | h5
          · simp at h5; omega
          · rw [List.getElem?_eq_none h5] at hj; cases hj
        rw [List.getElem?_append_left hj2] at hj
        rw [World.cell?_setCell_other _ _ _ _ (by intro e; injection e with _ e _; omega)]
        exact h3 j x hj
    · by_cases hjl : j = xs.length
      · subst hjl
        rw [World.cell?_setCell_same' _ _ _ hc0.1]
        rfl
      · rw [World.cell?_setCell_other _ _ _ _ (by intro e; injection e with _ e _; omega)]
        exact (h4 j hj).1
    · rw [World.frozen?_setCell]
      exact (h4 j hj).2
    · rintro b k R n D ⟨es, clock, hbk, rest⟩
      refine ⟨es, clock, ?_, rest⟩
      rw [Below.heap_setCell _ _ _ _ (by
        rintro rfl
        have := hc0.1
        simp [World.cell?, hbk] at this)]
      exact hbk
  · obtain ⟨v', w', hrun, r1, r2⟩ := run_append_arg_grows (P := P) w t ty e i z 1 bytes ht hi0 hiz hi1 hi2 hzs (by decide) ⟨g, off, none⟩ xs.length c xs (by omega) (fun j y hj => by rw [Addr.add_lit]; exact h3 j y hj) ⟨g0, 0, none⟩ 1 1 [u] rfl hnews (by omega) (by unfold maxLen; omega) (by omega)
    have hxw : Ext w w' := (Ext.refl w).grown r2 (fun k hk => by cases hk)
    refine ⟨v', w', hrun, ?_, hx0.trans hxw, fun b k R n D hD => hD.kept r2 (by simp)⟩
    have hq := QRow.of_row (w0 := w) r1 (by omega)
    obtain ⟨g', off', c', e1, e2, e3⟩ := hq
    exact ⟨g', off', c', e1, Nat.le_trans hx0.size e2, e3⟩
end Go.Proofs.YtenafgphaceidaaDoor

/- THE LOOPS OF Tree, each a declaration of its own. -/
namespace Go.Proofs.YtenafgphaceidaaDoor
open Go.RowKit
open Go.Maps (Keyed)
open Go.WideMaps Go.ChangeMaps Go.MapKept Go.WideShapes
/-! The least fuel. -/
theorem least_ex (p : Nat → Prop) : ∀ n, p n → ∃ f, p f ∧ ∀ g, g < f → ¬ p g := by
  intro n
  induction n using Nat.strongRecOn with
  | ind n ih =>
    intro h
    by_cases hm : ∃ m, m < n ∧ p m
    · obtain ⟨m, h1, h2⟩ := hm
      exact ih m h1 h2
    · exact ⟨n, h, fun g hg hp => hm ⟨g, hg, hp⟩⟩
open Classical in
/-- The least number of which something is true. -/
noncomputable def minOf (p : Nat → Prop) : Nat := if h : ∃ n, p n then Classical.choose (least_ex p _ (Classical.choose_spec h)) else 0
theorem minOf_spec {p : Nat → Prop} (h : ∃ n, p n) : p (minOf p) := by
  unfold minOf
  rw [dif_pos h]
  exact (Classical.choose_spec (least_ex p _ (Classical.choose_spec h))).1
theorem minOf_le {p : Nat → Prop} {n : Nat} (h : p n) : minOf p ≤ n := by
  have he : ∃ n, p n := ⟨n, h⟩
  unfold minOf
  rw [dif_pos he]
  rcases Nat.lt_or_ge n (Classical.choose (least_ex p _ (Classical.choose_spec he))) with h1 | h1
  · exact absurd h ((Classical.choose_spec (least_ex p _ (Classical.choose_spec he))).2 n h1)
  · exact h1
attribute [irreducible] minOf
/-- What the search reads and writes. -/
structure BW (W0 w : World) (bn : Nat) (vq : Value) (q : Nat) (nx : List (Int × Int)) : Prop where
  ext : Ext W0 w
  ge : W0.heap.size ≤ bn
  map : ∃ D : DataW Unit, w.ownsMap Tryd.prog 3 (plainElem Tryd.prog 3) bn nx.length D ∧ MSays D (Su.nextOf nx)
  row : QRow W0 w vq ((Su.heads q nx).map (.int .i64))
theorem BW.next {W0 w w' : World} {bn q : Nat} {vq : Value} {nx : List (Int × Int)} (h : BW W0 w bn vq q nx) (hx : Ext w w') : BW W0 w' bn vq q nx :=
  ⟨h.ext.trans hx, h.ge, by obtain ⟨D, h1, h2⟩ := h.map; exact ⟨D, ownsMap_ext h1 hx, h2⟩, h.row.next hx⟩
theorem ex_lookup {P : Program} {o : Oper} {a : Act} {w : World} {t : TypeId} {m k : Operand} {u v r : Value} (ho : o.op = .lookup t m k false) (hm : a.eval m = u) (hk : a.eval k = v) (hr : (Instr.lookup t u v false).run P w = .ok r w) : (execOp a.eval o).run P w = .ok (.value r) w := by
  unfold execOp
  simp only [ho, hm, hk, hr, Sem.run_bind, Sem.run_pure, Result.andThen_ok]
theorem ex_build2 {P : Program} {o : Oper} {a : Act} {w : World} {t : TypeId} {x y : Operand} {u v r : Value} (ho : o.op = .build t #[(0, x), (1, y)]) (hx : a.eval x = u) (hy : a.eval y = v) (hr : (Instr.build t #[(0, u), (1, v)]).run P w = .ok r w) : (execOp a.eval o).run P w = .ok (.value r) w := by
  unfold execOp
  simp only [ho, List.map_toArray, List.map_cons, List.map_nil, hx, hy, hr, Sem.run_bind, Sem.run_pure, Result.andThen_ok]
theorem boolZero (w : World) : (zeroValue 4).run Tryd.prog w = .ok (.bool false) w := by kernel_rfl
theorem plainElem_bool_inv {H : Type} {P : Program} {e : TypeId} (he : P.underlying e = some .bool) {v : Value} {z : DataW H × List MemPlace} (h : plainElem P e v = some z) : ∃ x, v = .bool x ∧ z = (.lit (.bool x), []) := by
  unfold plainElem at h
  rw [he] at h
  cases v <;> simp at h
  subst h
  exact ⟨_, rfl, rfl⟩
set_option maxRecDepth 100000 in
/-- A look into the map of the used hops. -/
theorem look_hop {w : World} {b n : Nat} {D : DataW Unit} {U : List (Int × Int)} (h : w.ownsMap Tryd.prog 65 (plainElem Tryd.prog 4) b n D) (hS : USays D U) {x y : Int} (hx : r64 x) (hy : r64 y) :
    (Instr.lookup 79 (.map (some b)) (.agg #[.int .i64 x, .int .i64 y]) false).run Tryd.prog w = .ok (.bool (decide ((x, y) ∈ U))) w := by
  obtain ⟨v, ps, hrun, hv⟩ := h.lookup hopKeyed Tryd.underlying79 (boolZero w) (plainElem_bool Tryd.underlying4 false) (hopKey_of hx hy)
  rw [(hS x y hx hy).2] at hv
  obtain ⟨z, rfl, hz⟩ := plainElem_bool_inv Tryd.underlying4 hv
  injection hz with hz _
  injection hz with hz
  injection hz with hz
  rw [hrun, hz]
set_option maxRecDepth 100000 in
/-- A look into a map of houses. -/
theorem look_int {w : World} {b n : Nat} {D : DataW Unit} {nx : Int → Option Int} (h : w.ownsMap Tryd.prog 3 (plainElem Tryd.prog 3) b n D) (hS : MSays D nx) {y : Int} (hy : r64 y) :
    (Instr.lookup 72 (.map (some b)) (.int .i64 y) false).run Tryd.prog w = .ok (.int .i64 ((nx y).getD 0)) w := by
  obtain ⟨c, hrun, hat, _⟩ := h.lookup_int hopLaw Tryd.underlying72 Tryd.underlying3 (hopZero w) (Go.Maps.keyOf_int_mk Tryd.underlying3 (WalkArith.wf_i64 hy))
  rw [hrun]
  rw [(hS y).2] at hat
  cases hn : nx y with
  | none =>
    rw [hn] at hat
    injection hat with hat
    injection hat with _ hat
    rw [← hat]
    rfl
  | some z =>
    rw [hn] at hat
    injection hat with hat
    injection hat with _ hat
    rw [← hat]
    rfl
/-- 'queue = append(queue, a)'. -/
theorem wpl_push {ops : Array Oper} {rest : List Oper} {o : Oper} {a : Act} {Q : Exit → Act → World → Prop} {w0 w : World} (hgd : o.guard = none) (s x : Operand)
    (ho : o.op = .call { callee := .builtin .append, args := #[s, x], argTypes := #[23, 23] }) (hx0 : Ext w0 w) {v : Value} {xs : List Value} (h : QRow w0 w v xs) (hs : a.eval s = v) {g0 : Nat} {z : Int}
    (hx : a.eval x = .slice (some ⟨g0, 0, none⟩) 1 1) (hu : w.cell? ⟨g0, 0, none⟩ = some (.int .i64 z)) (hm : xs.length < 1000000000000)
    (hK : ∀ v' w', QRow w0 w' v' (xs ++ [.int .i64 z]) → Ext w0 w' → (∀ (b : Nat) (k : TypeId) (R : Value → Option (DataW Unit × List MemPlace)) (n : Nat) (D : DataW Unit), w.ownsMap Tryd.prog k R b n D → w'.ownsMap Tryd.prog k R b n D) → wpList Tryd.prog ops Q rest (a.put o.dst v') w') :
    wpList Tryd.prog ops Q (o :: rest) a w := by
  refine wpList_plain hgd fun K hK' => ?_
  obtain ⟨v', w', hrun, h1, h2, h3⟩ := QRow.push (P := Tryd.prog) hx0 23 o.type 3 Tryd.underlying23 info_int rfl h hu rfl hm (by decide)
  unfold Oper.wp execOp
  simp only [ho, resolve, invoke, builtin, Sem.run_bind, Sem.run_pure, Result.andThen_ok, List.map_toArray, List.map_cons, List.map_nil, hs, hx, hrun]
  exact hK' _ _ (hK v' w' h1 h2 h3)
noncomputable def bfs_known_code : Code := ((Tryd.f16.body.bind (regionOf 18)).getD .skip)
def bfs_known_dsts : List (Option Nat) := [some 68, some 69, some 70, some 71, some 72, some 73, some 74, some 75, some 76, some 77, some 78]
theorem bfs_known_apart : apartD bfs_known_dsts = true := by decide +kernel
set_option maxRecDepth 1000000 in
set_option maxHeartbeats 16000000 in
theorem bfs_known (wr : World) (c0 c1 c2 c3 c4 c5 c6 c7 c8 c9 c10 c11 c12 c14 c15 c16 c17 c18 c19 c20 c21 c22 c23 c24 c25 c26 c27 c28 c29 c30 c31 c32 c33 c34 c35 c36 c37 c38 c39 c40 c41 c42 c43 c44 c45 c46 c47 c48 c49 c50 c51 c52 c53 c54 c55 c56 c57 c58 c59 c60 c61 c62 c63 c64 c65 c66 c67 c68 c69 c70 c71 c72 c73 c74 c75 c76 c77 c78 c79 c80 c81 c82 c83 c84 c85 c86 c87 c88 c89 c90 c91 c92 c93 c94 c95 c96 c97 c98 c99 c100 c101 c102 c103 c104 c105 c106 c107 c108 c109 c110 c111 c112 c113 c114 c115 c116 c117 c118 c119 c120 c121 c122 c123 c124 c125 c126 c127 c128 c129 c130 c131 c132 c133 c134 c135 : Value) (df : List Deferred) (K : Act → World → Prop)
    (hK : ∀  (u68 u69 u70 u71 u72 u73 u74 u75 u76 u77 : Value) (wx : World), Ext wr wx → K ⟨#[c0, c1, c2, c3, c4, c5, c6, c7, c8, c9, c10, c11, c12, .bool true, c14, c15, c16, c17, c18, c19, c20, c21, c22, c23, c24, c25, c26, c27, c28, c29, c30, c31, c32, c33, c34, c35, c36, c37, c38, c39, c40, c41, c42, c43, c44, c45, c46, c47, c48, c49, c50, c51, c52, c53, c54, c55, c56, c57, c58, c59, c60, c61, c62, c63, c64, c65, c66, c67, u68, u69, u70, u71, u72, u73, u74, u75, u76, u77, .bool false, c79, c80, c81, c82, c83, c84, c85, c86, c87, c88, c89, c90, c91, c92, c93, c94, c95, c96, c97, c98, c99, c100, c101, c102, c103, c104, c105, c106, c107, c108, c109, c110, c111, c112, c113, c114, c115, c116, c117, c118, c119, c120, c121, c122, c123, c124, c125, c126, c127, c128, c129, c130, c131, c132, c133, c134, c135], df⟩ wx) :
    Code.wp Tryd.prog bfs_known_code (AtEnd K) ⟨#[c0, c1, c2, c3, c4, c5, c6, c7, c8, c9, c10, c11, c12, .bool true, c14, c15, c16, c17, c18, c19, c20, c21, c22, c23, c24, c25, c26, c27, c28, c29, c30, c31, c32, c33, c34, c35, c36, c37, c38, c39, c40, c41, c42, c43, c44, c45, c46, c47, c48, c49, c50, c51, c52, c53, c54, c55, c56, c57, c58, c59, c60, c61, c62, c63, c64, c65, c66, c67, c68, c69, c70, c71, c72, c73, c74, c75, c76, c77, c78, c79, c80, c81, c82, c83, c84, c85, c86, c87, c88, c89, c90, c91, c92, c93, c94, c95, c96, c97, c98, c99, c100, c101, c102, c103, c104, c105, c106, c107, c108, c109, c110, c111, c112, c113, c114, c115, c116, c117, c118, c119, c120, c121, c122, c123, c124, c125, c126, c127, c128, c129, c130, c131, c132, c133, c134, c135], df⟩ wr := by
  conv => arg 2; whnf
  refine region_inv (by kernel_rfl) [[], [0], [1], [2], [2], [2], [5, 2], [6, 2], [4, 7, 2], [3, 8, 2], [2, 9]] (by kernel_rfl) [0, 1, 2, 3, 4, 5, 6, 7, 8, 9, 10] (by decide +kernel) (by decide +kernel) (by decide +kernel) (fun L a wc => Inv bfs_known_dsts [.bool true, .bool false, .bool false, undef, undef, undef, undef, undef, undef, undef, .bool false] ⟨#[c0, c1, c2, c3, c4, c5, c6, c7, c8, c9, c10, c11, c12, .bool true, c14, c15, c16, c17, c18, c19, c20, c21, c22, c23, c24, c25, c26, c27, c28, c29, c30, c31, c32, c33, c34, c35, c36, c37, c38, c39, c40, c41, c42, c43, c44, c45, c46, c47, c48, c49, c50, c51, c52, c53, c54, c55, c56, c57, c58, c59, c60, c61, c62, c63, c64, c65, c66, c67, c68, c69, c70, c71, c72, c73, c74, c75, c76, c77, c78, c79, c80, c81, c82, c83, c84, c85, c86, c87, c88, c89, c90, c91, c92, c93, c94, c95, c96, c97, c98, c99, c100, c101, c102, c103, c104, c105, c106, c107, c108, c109, c110, c111, c112, c113, c114, c115, c116, c117, c118, c119, c120, c121, c122, c123, c124, c125, c126, c127, c128, c129, c130, c131, c132, c133, c134, c135], df⟩ L a ∧ Hid (Ext wr wc)) ⟨Inv.start, Lib.hid ((Ext.refl wr).drew)⟩ ?_ ?_
  · refine ⟨?_, ?_, ?_, ?_, ?_, ?_, ?_, ?_, ?_, ?_, ?_, trivial⟩
    · -- 0 move
      rintro L a wc ⟨hv, HO⟩ hL hc hd
      exact wpOp_val rfl rfl (ex_move rfl ((hv.fixed 13 (by decide)).trans rfl)) ⟨hv.put bfs_known_apart 0 rfl (Nat.le_of_ble_eq_true rfl) (Nat.le_of_ble_eq_true rfl) rfl, HO⟩
    · -- 1 un
      rintro L a wc ⟨hv, HO⟩ hL hc hd
      exact wpOp_val rfl rfl (ex_un rfl (hv.get 0 rfl rfl (hd 0 (by decide))) (by go_simp)) ⟨hv.put bfs_known_apart 1 rfl (Nat.le_of_ble_eq_true rfl) (Nat.le_of_ble_eq_true rfl) rfl, HO⟩
    · -- 2 move
      rintro L a wc ⟨hv, HO⟩ hL hc hd
      exact wpOp_val rfl rfl (ex_move rfl (hv.get 1 rfl rfl (hd 1 (by decide)))) ⟨hv.put bfs_known_apart 2 rfl (Nat.le_of_ble_eq_true rfl) (Nat.le_of_ble_eq_true rfl) rfl, HO⟩
    · -- 3 off
      rintro L a wc ⟨hv, HO⟩ hL hc hd
      exact wpOp_off rfl ((wanted_at rfl rfl (hv.get 2 rfl rfl (hd 2 (by decide)))).trans rfl) ⟨hv.put bfs_known_apart 3 rfl (Nat.le_of_ble_eq_true rfl) (Nat.le_of_ble_eq_true rfl) rfl, HO⟩
    · -- 4 off
      rintro L a wc ⟨hv, HO⟩ hL hc hd
      exact wpOp_off rfl ((wanted_at rfl rfl (hv.get 2 rfl rfl (hd 2 (by decide)))).trans rfl) ⟨hv.put bfs_known_apart 4 rfl (Nat.le_of_ble_eq_true rfl) (Nat.le_of_ble_eq_true rfl) rfl, HO⟩
    · -- 5 off
      rintro L a wc ⟨hv, HO⟩ hL hc hd
      exact wpOp_off rfl ((wanted_at rfl rfl (hv.get 2 rfl rfl (hd 2 (by decide)))).trans rfl) ⟨hv.put bfs_known_apart 5 rfl (Nat.le_of_ble_eq_true rfl) (Nat.le_of_ble_eq_true rfl) rfl, HO⟩
    · -- 6 off
      rintro L a wc ⟨hv, HO⟩ hL hc hd
      exact wpOp_off rfl ((wanted_at rfl rfl (hv.get 2 rfl rfl (hd 2 (by decide)))).trans rfl) ⟨hv.put bfs_known_apart 6 rfl (Nat.le_of_ble_eq_true rfl) (Nat.le_of_ble_eq_true rfl) rfl, HO⟩
    · -- 7 off
      rintro L a wc ⟨hv, HO⟩ hL hc hd
      exact wpOp_off rfl ((wanted_at rfl rfl (hv.get 2 rfl rfl (hd 2 (by decide)))).trans rfl) ⟨hv.put bfs_known_apart 7 rfl (Nat.le_of_ble_eq_true rfl) (Nat.le_of_ble_eq_true rfl) rfl, HO⟩
    · -- 8 off
      rintro L a wc ⟨hv, HO⟩ hL hc hd
      exact wpOp_off rfl ((wanted_at rfl rfl (hv.get 2 rfl rfl (hd 2 (by decide)))).trans rfl) ⟨hv.put bfs_known_apart 8 rfl (Nat.le_of_ble_eq_true rfl) (Nat.le_of_ble_eq_true rfl) rfl, HO⟩
    · -- 9 off
      rintro L a wc ⟨hv, HO⟩ hL hc hd
      exact wpOp_off rfl ((wanted_at rfl rfl (hv.get 2 rfl rfl (hd 2 (by decide)))).trans rfl) ⟨hv.put bfs_known_apart 9 rfl (Nat.le_of_ble_eq_true rfl) (Nat.le_of_ble_eq_true rfl) rfl, HO⟩
    · -- 10 pick
      rintro L a wc ⟨hv, HO⟩ hL hc hd
      exact wpOp_val rfl rfl (ex_pick rfl (hv.get 2 rfl rfl (hd 2 (by decide))) rfl) ⟨hv.put bfs_known_apart 10 rfl (Nat.le_of_ble_eq_true rfl) (Nat.le_of_ble_eq_true rfl) rfl, HO⟩
  · rintro L a wc ⟨hv, HO⟩ hall
    show K a wc
    have ha := act_lit a
    rw [hv.size, hv.defers] at ha
    have hl : ∀ f : Nat → Value, ((List.range (⟨#[c0, c1, c2, c3, c4, c5, c6, c7, c8, c9, c10, c11, c12, .bool true, c14, c15, c16, c17, c18, c19, c20, c21, c22, c23, c24, c25, c26, c27, c28, c29, c30, c31, c32, c33, c34, c35, c36, c37, c38, c39, c40, c41, c42, c43, c44, c45, c46, c47, c48, c49, c50, c51, c52, c53, c54, c55, c56, c57, c58, c59, c60, c61, c62, c63, c64, c65, c66, c67, c68, c69, c70, c71, c72, c73, c74, c75, c76, c77, c78, c79, c80, c81, c82, c83, c84, c85, c86, c87, c88, c89, c90, c91, c92, c93, c94, c95, c96, c97, c98, c99, c100, c101, c102, c103, c104, c105, c106, c107, c108, c109, c110, c111, c112, c113, c114, c115, c116, c117, c118, c119, c120, c121, c122, c123, c124, c125, c126, c127, c128, c129, c130, c131, c132, c133, c134, c135], df⟩ : Act).tmps.size).map f).toArray = #[f 0, f 1, f 2, f 3, f 4, f 5, f 6, f 7, f 8, f 9, f 10, f 11, f 12, f 13, f 14, f 15, f 16, f 17, f 18, f 19, f 20, f 21, f 22, f 23, f 24, f 25, f 26, f 27, f 28, f 29, f 30, f 31, f 32, f 33, f 34, f 35, f 36, f 37, f 38, f 39, f 40, f 41, f 42, f 43, f 44, f 45, f 46, f 47, f 48, f 49, f 50, f 51, f 52, f 53, f 54, f 55, f 56, f 57, f 58, f 59, f 60, f 61, f 62, f 63, f 64, f 65, f 66, f 67, f 68, f 69, f 70, f 71, f 72, f 73, f 74, f 75, f 76, f 77, f 78, f 79, f 80, f 81, f 82, f 83, f 84, f 85, f 86, f 87, f 88, f 89, f 90, f 91, f 92, f 93, f 94, f 95, f 96, f 97, f 98, f 99, f 100, f 101, f 102, f 103, f 104, f 105, f 106, f 107, f 108, f 109, f 110, f 111, f 112, f 113, f 114, f 115, f 116, f 117, f 118, f 119, f 120, f 121, f 122, f 123, f 124, f 125, f 126, f 127, f 128, f 129, f 130, f 131, f 132, f 133, f 134, f 135] := fun _ => rfl
    rw [hl] at ha
    simp only [hv.fixed 0 (by decide), hv.fixed 1 (by decide), hv.fixed 2 (by decide), hv.fixed 3 (by decide), hv.fixed 4 (by decide), hv.fixed 5 (by decide), hv.fixed 6 (by decide), hv.fixed 7 (by decide), hv.fixed 8 (by decide), hv.fixed 9 (by decide), hv.fixed 10 (by decide), hv.fixed 11 (by decide), hv.fixed 12 (by decide), hv.fixed 13 (by decide), hv.fixed 14 (by decide), hv.fixed 15 (by decide), hv.fixed 16 (by decide), hv.fixed 17 (by decide), hv.fixed 18 (by decide), hv.fixed 19 (by decide), hv.fixed 20 (by decide), hv.fixed 21 (by decide), hv.fixed 22 (by decide), hv.fixed 23 (by decide), hv.fixed 24 (by decide), hv.fixed 25 (by decide), hv.fixed 26 (by decide), hv.fixed 27 (by decide), hv.fixed 28 (by decide), hv.fixed 29 (by decide), hv.fixed 30 (by decide), hv.fixed 31 (by decide), hv.fixed 32 (by decide), hv.fixed 33 (by decide), hv.fixed 34 (by decide), hv.fixed 35 (by decide), hv.fixed 36 (by decide), hv.fixed 37 (by decide), hv.fixed 38 (by decide), hv.fixed 39 (by decide), hv.fixed 40 (by decide), hv.fixed 41 (by decide), hv.fixed 42 (by decide), hv.fixed 43 (by decide), hv.fixed 44 (by decide), hv.fixed 45 (by decide), hv.fixed 46 (by decide), hv.fixed 47 (by decide), hv.fixed 48 (by decide), hv.fixed 49 (by decide), hv.fixed 50 (by decide), hv.fixed 51 (by decide), hv.fixed 52 (by decide), hv.fixed 53 (by decide), hv.fixed 54 (by decide), hv.fixed 55 (by decide), hv.fixed 56 (by decide), hv.fixed 57 (by decide), hv.fixed 58 (by decide), hv.fixed 59 (by decide), hv.fixed 60 (by decide), hv.fixed 61 (by decide), hv.fixed 62 (by decide), hv.fixed 63 (by decide), hv.fixed 64 (by decide), hv.fixed 65 (by decide), hv.fixed 66 (by decide), hv.fixed 67 (by decide), hv.fixed 79 (by decide), hv.fixed 80 (by decide), hv.fixed 81 (by decide), hv.fixed 82 (by decide), hv.fixed 83 (by decide), hv.fixed 84 (by decide), hv.fixed 85 (by decide), hv.fixed 86 (by decide), hv.fixed 87 (by decide), hv.fixed 88 (by decide), hv.fixed 89 (by decide), hv.fixed 90 (by decide), hv.fixed 91 (by decide), hv.fixed 92 (by decide), hv.fixed 93 (by decide), hv.fixed 94 (by decide), hv.fixed 95 (by decide), hv.fixed 96 (by decide), hv.fixed 97 (by decide), hv.fixed 98 (by decide), hv.fixed 99 (by decide), hv.fixed 100 (by decide), hv.fixed 101 (by decide), hv.fixed 102 (by decide), hv.fixed 103 (by decide), hv.fixed 104 (by decide), hv.fixed 105 (by decide), hv.fixed 106 (by decide), hv.fixed 107 (by decide), hv.fixed 108 (by decide), hv.fixed 109 (by decide), hv.fixed 110 (by decide), hv.fixed 111 (by decide), hv.fixed 112 (by decide), hv.fixed 113 (by decide), hv.fixed 114 (by decide), hv.fixed 115 (by decide), hv.fixed 116 (by decide), hv.fixed 117 (by decide), hv.fixed 118 (by decide), hv.fixed 119 (by decide), hv.fixed 120 (by decide), hv.fixed 121 (by decide), hv.fixed 122 (by decide), hv.fixed 123 (by decide), hv.fixed 124 (by decide), hv.fixed 125 (by decide), hv.fixed 126 (by decide), hv.fixed 127 (by decide), hv.fixed 128 (by decide), hv.fixed 129 (by decide), hv.fixed 130 (by decide), hv.fixed 131 (by decide), hv.fixed 132 (by decide), hv.fixed 133 (by decide), hv.fixed 134 (by decide), hv.fixed 135 (by decide), hv.get 10 (d := 78) rfl rfl (hall 10 (by decide))] at ha
    rw [ha]
    exact hK _ _ _ _ _ _ _ _ _ _ wc HO.out
noncomputable def bfs_look_code : Code := ((Tryd.f16.body.bind (regionOf 18)).getD .skip)
def bfs_look_dsts : List (Option Nat) := [some 68, some 69, some 70, some 71, some 72, some 73, some 74, some 75, some 76, some 77, some 78]
theorem bfs_look_apart : apartD bfs_look_dsts = true := by decide +kernel
set_option maxRecDepth 1000000 in
set_option maxHeartbeats 16000000 in
theorem bfs_look (wr : World) (P7 b g off m cq aa : Nat) (y : Int) (x : Bool) (p7 : wr.cell? ⟨P7, 0, none⟩ = some (.map (some b))) (cy : wr.cell? ⟨g, off, none⟩ = some (.int .i64 y)) (HL : Hid (∀ w1, Ext wr w1 → (Instr.lookup 79 (.map (some b)) (.agg #[.int .i64 (aa : Nat), .int .i64 y]) false).run Tryd.prog w1 = .ok (.bool x) w1)) (c0 c1 c2 c3 c4 c5 c6 c8 c9 c12 c14 c15 c16 c17 c18 c19 c20 c21 c22 c23 c24 c25 c26 c27 c28 c29 c30 c31 c32 c33 c34 c35 c36 c37 c38 c39 c40 c41 c42 c43 c44 c45 c46 c47 c48 c49 c50 c51 c52 c53 c54 c55 c56 c57 c58 c59 c60 c61 c62 c63 c64 c65 c66 c67 c68 c69 c70 c71 c72 c73 c74 c75 c76 c77 c78 c79 c80 c81 c82 c83 c84 c85 c86 c87 c88 c89 c90 c91 c92 c93 c94 c95 c96 c97 c98 c99 c100 c101 c102 c103 c104 c105 c106 c107 c108 c109 c110 c111 c112 c113 c114 c115 c116 c117 c118 c119 c120 c121 c122 c123 c124 c125 c126 c127 c128 c129 c130 c131 c132 c133 c134 c135 : Value) (df : List Deferred) (K : Act → World → Prop)
    (hK : ∀  (u68 u69 u70 u71 u72 u73 u74 u75 u76 u77 : Value) (wx : World), Ext wr wx → K ⟨#[c0, c1, c2, c3, c4, c5, c6, .pointer (some ⟨P7, 0, none⟩), c8, c9, .slice (some ⟨g, off, none⟩) (m + 1) cq, .int .i64 (aa : Nat), c12, .bool false, c14, c15, c16, c17, c18, c19, c20, c21, c22, c23, c24, c25, c26, c27, c28, c29, c30, c31, c32, c33, c34, c35, c36, c37, c38, c39, c40, c41, c42, c43, c44, c45, c46, c47, c48, c49, c50, c51, c52, c53, c54, c55, c56, c57, c58, c59, c60, c61, c62, c63, c64, c65, c66, c67, u68, u69, u70, u71, u72, u73, u74, u75, u76, u77, .bool x, c79, c80, c81, c82, c83, c84, c85, c86, c87, c88, c89, c90, c91, c92, c93, c94, c95, c96, c97, c98, c99, c100, c101, c102, c103, c104, c105, c106, c107, c108, c109, c110, c111, c112, c113, c114, c115, c116, c117, c118, c119, c120, c121, c122, c123, c124, c125, c126, c127, c128, c129, c130, c131, c132, c133, c134, c135], df⟩ wx) :
    Code.wp Tryd.prog bfs_look_code (AtEnd K) ⟨#[c0, c1, c2, c3, c4, c5, c6, .pointer (some ⟨P7, 0, none⟩), c8, c9, .slice (some ⟨g, off, none⟩) (m + 1) cq, .int .i64 (aa : Nat), c12, .bool false, c14, c15, c16, c17, c18, c19, c20, c21, c22, c23, c24, c25, c26, c27, c28, c29, c30, c31, c32, c33, c34, c35, c36, c37, c38, c39, c40, c41, c42, c43, c44, c45, c46, c47, c48, c49, c50, c51, c52, c53, c54, c55, c56, c57, c58, c59, c60, c61, c62, c63, c64, c65, c66, c67, c68, c69, c70, c71, c72, c73, c74, c75, c76, c77, c78, c79, c80, c81, c82, c83, c84, c85, c86, c87, c88, c89, c90, c91, c92, c93, c94, c95, c96, c97, c98, c99, c100, c101, c102, c103, c104, c105, c106, c107, c108, c109, c110, c111, c112, c113, c114, c115, c116, c117, c118, c119, c120, c121, c122, c123, c124, c125, c126, c127, c128, c129, c130, c131, c132, c133, c134, c135], df⟩ wr := by
  conv => arg 2; whnf
  refine region_inv (by kernel_rfl) [[], [0], [1], [2], [2], [2], [5, 2], [6, 2], [4, 7, 2], [3, 8, 2], [2, 9]] (by kernel_rfl) [0, 1, 2, 3, 4, 5, 6, 7, 8, 9, 10] (by decide +kernel) (by decide +kernel) (by decide +kernel) (fun L a wc => Inv bfs_look_dsts [.bool false, .bool true, .bool true, .map (some b), .int .i64 (aa : Nat), .slice (some ⟨g, off, none⟩) (m + 1) cq, .pointer (some ⟨g, off, none⟩), .int .i64 y, .agg #[.int .i64 (aa : Nat), .int .i64 y], .bool x, .bool x] ⟨#[c0, c1, c2, c3, c4, c5, c6, .pointer (some ⟨P7, 0, none⟩), c8, c9, .slice (some ⟨g, off, none⟩) (m + 1) cq, .int .i64 (aa : Nat), c12, .bool false, c14, c15, c16, c17, c18, c19, c20, c21, c22, c23, c24, c25, c26, c27, c28, c29, c30, c31, c32, c33, c34, c35, c36, c37, c38, c39, c40, c41, c42, c43, c44, c45, c46, c47, c48, c49, c50, c51, c52, c53, c54, c55, c56, c57, c58, c59, c60, c61, c62, c63, c64, c65, c66, c67, c68, c69, c70, c71, c72, c73, c74, c75, c76, c77, c78, c79, c80, c81, c82, c83, c84, c85, c86, c87, c88, c89, c90, c91, c92, c93, c94, c95, c96, c97, c98, c99, c100, c101, c102, c103, c104, c105, c106, c107, c108, c109, c110, c111, c112, c113, c114, c115, c116, c117, c118, c119, c120, c121, c122, c123, c124, c125, c126, c127, c128, c129, c130, c131, c132, c133, c134, c135], df⟩ L a ∧ Hid (Ext wr wc)) ⟨Inv.start, Lib.hid ((Ext.refl wr).drew)⟩ ?_ ?_
  · refine ⟨?_, ?_, ?_, ?_, ?_, ?_, ?_, ?_, ?_, ?_, ?_, trivial⟩
    · -- 0 move
      rintro L a wc ⟨hv, HO⟩ hL hc hd
      exact wpOp_val rfl rfl (ex_move rfl ((hv.fixed 13 (by decide)).trans rfl)) ⟨hv.put bfs_look_apart 0 rfl (Nat.le_of_ble_eq_true rfl) (Nat.le_of_ble_eq_true rfl) rfl, HO⟩
    · -- 1 un
      rintro L a wc ⟨hv, HO⟩ hL hc hd
      exact wpOp_val rfl rfl (ex_un rfl (hv.get 0 rfl rfl (hd 0 (by decide))) (by go_simp)) ⟨hv.put bfs_look_apart 1 rfl (Nat.le_of_ble_eq_true rfl) (Nat.le_of_ble_eq_true rfl) rfl, HO⟩
    · -- 2 move
      rintro L a wc ⟨hv, HO⟩ hL hc hd
      exact wpOp_val rfl rfl (ex_move rfl (hv.get 1 rfl rfl (hd 1 (by decide)))) ⟨hv.put bfs_look_apart 2 rfl (Nat.le_of_ble_eq_true rfl) (Nat.le_of_ble_eq_true rfl) rfl, HO⟩
    · -- 3 load
      rintro L a wc ⟨hv, HO⟩ hL hc hd
      have e7 : wc.cell? ⟨P7, 0, none⟩ = some (.map (some b)) := HO.out.cell p7
      exact wpOp_val rfl ((wanted_at rfl rfl (hv.get 2 rfl rfl (hd 2 (by decide)))).trans rfl) (ex_load rfl ((hv.fixed 7 (by decide)).trans rfl) (by go_simp)) ⟨hv.put bfs_look_apart 3 rfl (Nat.le_of_ble_eq_true rfl) (Nat.le_of_ble_eq_true rfl) rfl, HO⟩
    · -- 4 move
      rintro L a wc ⟨hv, HO⟩ hL hc hd
      exact wpOp_val rfl ((wanted_at rfl rfl (hv.get 2 rfl rfl (hd 2 (by decide)))).trans rfl) (ex_move rfl ((hv.fixed 11 (by decide)).trans rfl)) ⟨hv.put bfs_look_apart 4 rfl (Nat.le_of_ble_eq_true rfl) (Nat.le_of_ble_eq_true rfl) rfl, HO⟩
    · -- 5 move
      rintro L a wc ⟨hv, HO⟩ hL hc hd
      exact wpOp_val rfl ((wanted_at rfl rfl (hv.get 2 rfl rfl (hd 2 (by decide)))).trans rfl) (ex_move rfl ((hv.fixed 10 (by decide)).trans rfl)) ⟨hv.put bfs_look_apart 5 rfl (Nat.le_of_ble_eq_true rfl) (Nat.le_of_ble_eq_true rfl) rfl, HO⟩
    · -- 6 index
      rintro L a wc ⟨hv, HO⟩ hL hc hd
      have b1 : (0 : Int) < (m : Int) + 1 := by omega
      exact wpOp_val rfl ((wanted_at rfl rfl (hv.get 2 rfl rfl (hd 2 (by decide)))).trans rfl) (ex_index rfl (hv.get 5 rfl rfl (hd 5 (by decide))) rfl (by go_simp)) ⟨hv.put bfs_look_apart 6 rfl (Nat.le_of_ble_eq_true rfl) (Nat.le_of_ble_eq_true rfl) rfl, HO⟩
    · -- 7 load
      rintro L a wc ⟨hv, HO⟩ hL hc hd
      have eQ : wc.cell? ⟨g, off, none⟩ = some (.int .i64 y) := HO.out.cell cy
      exact wpOp_val rfl ((wanted_at rfl rfl (hv.get 2 rfl rfl (hd 2 (by decide)))).trans rfl) (ex_load rfl (hv.get 6 rfl rfl (hd 6 (by decide))) (by go_simp)) ⟨hv.put bfs_look_apart 7 rfl (Nat.le_of_ble_eq_true rfl) (Nat.le_of_ble_eq_true rfl) rfl, HO⟩
    · -- 8 raw
      rintro L a wc ⟨hv, HO⟩ hL hc hd
      exact wpOp_val rfl ((wanted_at rfl rfl (hv.get 2 rfl rfl (hd 2 (by decide)))).trans rfl) (ex_build2 rfl (hv.get 4 rfl rfl (hd 4 (by decide))) (hv.get 7 rfl rfl (hd 7 (by decide))) (by go_simp)) ⟨hv.put bfs_look_apart 8 rfl (Nat.le_of_ble_eq_true rfl) (Nat.le_of_ble_eq_true rfl) rfl, HO⟩
    · -- 9 raw
      rintro L a wc ⟨hv, HO⟩ hL hc hd
      exact wpOp_val rfl ((wanted_at rfl rfl (hv.get 2 rfl rfl (hd 2 (by decide)))).trans rfl) (ex_lookup rfl (hv.get 3 rfl rfl (hd 3 (by decide))) (hv.get 8 rfl rfl (hd 8 (by decide))) (HL.out wc HO.out)) ⟨hv.put bfs_look_apart 9 rfl (Nat.le_of_ble_eq_true rfl) (Nat.le_of_ble_eq_true rfl) rfl, HO⟩
    · -- 10 pick
      rintro L a wc ⟨hv, HO⟩ hL hc hd
      exact wpOp_val rfl rfl (ex_pick rfl (hv.get 2 rfl rfl (hd 2 (by decide))) ((if_pos rfl).trans (hv.get 9 rfl rfl (hd 9 (by decide))))) ⟨hv.put bfs_look_apart 10 rfl (Nat.le_of_ble_eq_true rfl) (Nat.le_of_ble_eq_true rfl) rfl, HO⟩
  · rintro L a wc ⟨hv, HO⟩ hall
    show K a wc
    have ha := act_lit a
    rw [hv.size, hv.defers] at ha
    have hl : ∀ f : Nat → Value, ((List.range (⟨#[c0, c1, c2, c3, c4, c5, c6, .pointer (some ⟨P7, 0, none⟩), c8, c9, .slice (some ⟨g, off, none⟩) (m + 1) cq, .int .i64 (aa : Nat), c12, .bool false, c14, c15, c16, c17, c18, c19, c20, c21, c22, c23, c24, c25, c26, c27, c28, c29, c30, c31, c32, c33, c34, c35, c36, c37, c38, c39, c40, c41, c42, c43, c44, c45, c46, c47, c48, c49, c50, c51, c52, c53, c54, c55, c56, c57, c58, c59, c60, c61, c62, c63, c64, c65, c66, c67, c68, c69, c70, c71, c72, c73, c74, c75, c76, c77, c78, c79, c80, c81, c82, c83, c84, c85, c86, c87, c88, c89, c90, c91, c92, c93, c94, c95, c96, c97, c98, c99, c100, c101, c102, c103, c104, c105, c106, c107, c108, c109, c110, c111, c112, c113, c114, c115, c116, c117, c118, c119, c120, c121, c122, c123, c124, c125, c126, c127, c128, c129, c130, c131, c132, c133, c134, c135], df⟩ : Act).tmps.size).map f).toArray = #[f 0, f 1, f 2, f 3, f 4, f 5, f 6, f 7, f 8, f 9, f 10, f 11, f 12, f 13, f 14, f 15, f 16, f 17, f 18, f 19, f 20, f 21, f 22, f 23, f 24, f 25, f 26, f 27, f 28, f 29, f 30, f 31, f 32, f 33, f 34, f 35, f 36, f 37, f 38, f 39, f 40, f 41, f 42, f 43, f 44, f 45, f 46, f 47, f 48, f 49, f 50, f 51, f 52, f 53, f 54, f 55, f 56, f 57, f 58, f 59, f 60, f 61, f 62, f 63, f 64, f 65, f 66, f 67, f 68, f 69, f 70, f 71, f 72, f 73, f 74, f 75, f 76, f 77, f 78, f 79, f 80, f 81, f 82, f 83, f 84, f 85, f 86, f 87, f 88, f 89, f 90, f 91, f 92, f 93, f 94, f 95, f 96, f 97, f 98, f 99, f 100, f 101, f 102, f 103, f 104, f 105, f 106, f 107, f 108, f 109, f 110, f 111, f 112, f 113, f 114, f 115, f 116, f 117, f 118, f 119, f 120, f 121, f 122, f 123, f 124, f 125, f 126, f 127, f 128, f 129, f 130, f 131, f 132, f 133, f 134, f 135] := fun _ => rfl
    rw [hl] at ha
    simp only [hv.fixed 0 (by decide), hv.fixed 1 (by decide), hv.fixed 2 (by decide), hv.fixed 3 (by decide), hv.fixed 4 (by decide), hv.fixed 5 (by decide), hv.fixed 6 (by decide), hv.fixed 7 (by decide), hv.fixed 8 (by decide), hv.fixed 9 (by decide), hv.fixed 10 (by decide), hv.fixed 11 (by decide), hv.fixed 12 (by decide), hv.fixed 13 (by decide), hv.fixed 14 (by decide), hv.fixed 15 (by decide), hv.fixed 16 (by decide), hv.fixed 17 (by decide), hv.fixed 18 (by decide), hv.fixed 19 (by decide), hv.fixed 20 (by decide), hv.fixed 21 (by decide), hv.fixed 22 (by decide), hv.fixed 23 (by decide), hv.fixed 24 (by decide), hv.fixed 25 (by decide), hv.fixed 26 (by decide), hv.fixed 27 (by decide), hv.fixed 28 (by decide), hv.fixed 29 (by decide), hv.fixed 30 (by decide), hv.fixed 31 (by decide), hv.fixed 32 (by decide), hv.fixed 33 (by decide), hv.fixed 34 (by decide), hv.fixed 35 (by decide), hv.fixed 36 (by decide), hv.fixed 37 (by decide), hv.fixed 38 (by decide), hv.fixed 39 (by decide), hv.fixed 40 (by decide), hv.fixed 41 (by decide), hv.fixed 42 (by decide), hv.fixed 43 (by decide), hv.fixed 44 (by decide), hv.fixed 45 (by decide), hv.fixed 46 (by decide), hv.fixed 47 (by decide), hv.fixed 48 (by decide), hv.fixed 49 (by decide), hv.fixed 50 (by decide), hv.fixed 51 (by decide), hv.fixed 52 (by decide), hv.fixed 53 (by decide), hv.fixed 54 (by decide), hv.fixed 55 (by decide), hv.fixed 56 (by decide), hv.fixed 57 (by decide), hv.fixed 58 (by decide), hv.fixed 59 (by decide), hv.fixed 60 (by decide), hv.fixed 61 (by decide), hv.fixed 62 (by decide), hv.fixed 63 (by decide), hv.fixed 64 (by decide), hv.fixed 65 (by decide), hv.fixed 66 (by decide), hv.fixed 67 (by decide), hv.fixed 79 (by decide), hv.fixed 80 (by decide), hv.fixed 81 (by decide), hv.fixed 82 (by decide), hv.fixed 83 (by decide), hv.fixed 84 (by decide), hv.fixed 85 (by decide), hv.fixed 86 (by decide), hv.fixed 87 (by decide), hv.fixed 88 (by decide), hv.fixed 89 (by decide), hv.fixed 90 (by decide), hv.fixed 91 (by decide), hv.fixed 92 (by decide), hv.fixed 93 (by decide), hv.fixed 94 (by decide), hv.fixed 95 (by decide), hv.fixed 96 (by decide), hv.fixed 97 (by decide), hv.fixed 98 (by decide), hv.fixed 99 (by decide), hv.fixed 100 (by decide), hv.fixed 101 (by decide), hv.fixed 102 (by decide), hv.fixed 103 (by decide), hv.fixed 104 (by decide), hv.fixed 105 (by decide), hv.fixed 106 (by decide), hv.fixed 107 (by decide), hv.fixed 108 (by decide), hv.fixed 109 (by decide), hv.fixed 110 (by decide), hv.fixed 111 (by decide), hv.fixed 112 (by decide), hv.fixed 113 (by decide), hv.fixed 114 (by decide), hv.fixed 115 (by decide), hv.fixed 116 (by decide), hv.fixed 117 (by decide), hv.fixed 118 (by decide), hv.fixed 119 (by decide), hv.fixed 120 (by decide), hv.fixed 121 (by decide), hv.fixed 122 (by decide), hv.fixed 123 (by decide), hv.fixed 124 (by decide), hv.fixed 125 (by decide), hv.fixed 126 (by decide), hv.fixed 127 (by decide), hv.fixed 128 (by decide), hv.fixed 129 (by decide), hv.fixed 130 (by decide), hv.fixed 131 (by decide), hv.fixed 132 (by decide), hv.fixed 133 (by decide), hv.fixed 134 (by decide), hv.fixed 135 (by decide), hv.get 10 (d := 78) rfl rfl (hall 10 (by decide))] at ha
    rw [ha]
    exact hK _ _ _ _ _ _ _ _ _ _ wc HO.out
noncomputable def bfs_in_code : Code := ((Tryd.f16.body.bind (loopOf 18)).getD .skip)
set_option maxRecDepth 1000000 in
set_option maxHeartbeats 16000000 in
theorem bfs_in (W0 w00 wr : World) (g0 N b P6 P7 P8 bn n q : Nat) (y : Int) (vq0 : Value) (W : List Su.Way) (U nx0 : List (Int × Int)) (hn12 : n ≤ 12) (hyn : 0 ≤ y ∧ y < (n : Int)) (hq : q < nx0.length) (HKN : Hid (Su.Known n nx0)) (HY : Hid ((nx0.getD q (0, 0)).1 = y)) (HT : Hid (TW w00 W0 g0 N b P6 P7 P8 W U ∧ True)) (HB : Hid (BW W0 wr bn vq0 q nx0)) (c0 c1 c2 c3 c4 c5 c6 c8 c11 c12 c13 c14 c15 c16 c17 c18 c19 c20 c21 c22 c23 c24 c25 c26 c27 c28 c29 c30 c31 c32 c33 c34 c35 c36 c37 c38 c39 c40 c41 c42 c43 c44 c45 c46 c47 c48 c49 c50 c51 c52 c53 c54 c55 c56 c57 c60 c61 c62 c63 c64 c65 c66 c67 c68 c69 c70 c71 c72 c73 c74 c75 c76 c77 c78 c79 c80 c81 c82 c83 c84 c85 c86 c87 c88 c89 c90 c91 c92 c93 c94 c95 c96 c97 c98 c99 c100 c101 c102 c103 c104 c105 c106 c107 c108 c109 c110 c111 c112 c113 c114 c115 c116 c117 c118 c119 c120 c121 c122 c123 c124 c125 c126 c127 c128 c129 c130 c131 c132 c133 c134 c135 : Value) (df : List Deferred) (Q0 : Exit → Act → World → Prop)
    (hexit : ∀ (u10 u11 u12 u13 u59 u60 u61 u62 u63 u64 u65 u66 u67 u68 u69 u70 u71 u72 u73 u74 u75 u76 u77 u78 u79 u80 u81 u82 u83 u84 u85 u86 u87 u88 : Value) (wx : World), BW W0 wx bn u10 q (Su.rep (Su.bfsStep U y) n nx0) → Q0 (.exit 2) ⟨#[c0, c1, c2, c3, c4, c5, c6, .pointer (some ⟨P7, 0, none⟩), c8, .map (some bn), u10, u11, u12, u13, c14, c15, c16, c17, c18, c19, c20, c21, c22, c23, c24, c25, c26, c27, c28, c29, c30, c31, c32, c33, c34, c35, c36, c37, c38, c39, c40, c41, c42, c43, c44, c45, c46, c47, c48, c49, c50, c51, c52, c53, c54, c55, c56, c57, .int .i64 (n : Nat), u59, u60, u61, u62, u63, u64, u65, u66, u67, u68, u69, u70, u71, u72, u73, u74, u75, u76, u77, u78, u79, u80, u81, u82, u83, u84, u85, u86, u87, u88, c89, c90, c91, c92, c93, c94, c95, c96, c97, c98, c99, c100, c101, c102, c103, c104, c105, c106, c107, c108, c109, c110, c111, c112, c113, c114, c115, c116, c117, c118, c119, c120, c121, c122, c123, c124, c125, c126, c127, c128, c129, c130, c131, c132, c133, c134, c135], df⟩ wx) :
    Code.wp Tryd.prog bfs_in_code Q0 ⟨#[c0, c1, c2, c3, c4, c5, c6, .pointer (some ⟨P7, 0, none⟩), c8, .map (some bn), vq0, c11, c12, c13, c14, c15, c16, c17, c18, c19, c20, c21, c22, c23, c24, c25, c26, c27, c28, c29, c30, c31, c32, c33, c34, c35, c36, c37, c38, c39, c40, c41, c42, c43, c44, c45, c46, c47, c48, c49, c50, c51, c52, c53, c54, c55, c56, c57, .int .i64 (n : Nat), .int .i64 0, c60, c61, c62, c63, c64, c65, c66, c67, c68, c69, c70, c71, c72, c73, c74, c75, c76, c77, c78, c79, c80, c81, c82, c83, c84, c85, c86, c87, c88, c89, c90, c91, c92, c93, c94, c95, c96, c97, c98, c99, c100, c101, c102, c103, c104, c105, c106, c107, c108, c109, c110, c111, c112, c113, c114, c115, c116, c117, c118, c119, c120, c121, c122, c123, c124, c125, c126, c127, c128, c129, c130, c131, c132, c133, c134, c135], df⟩ wr := by
  have HE := Lib.hid hexit
  clear hexit
  conv => arg 2; whnf
  dsimp only
  go_loopw [10, 59] (fun vq vi wr => ∃ a : Nat, a ≤ n ∧ vi = .int .i64 a ∧ Hid (BW W0 wr bn vq q (Su.rep (Su.bfsStep U y) a nx0))) (fun _ vi _ => n - (intOf vi).toNat)
  case atStart => exact ⟨0, Nat.zero_le _, rfl, HB⟩
  case round =>
    obtain ⟨a, ha, rfl, HI⟩ := hrel
    by_cases hlt : a < n
    case neg =>
      obtain rfl : a = n := by omega
      go_wp2_with fail
      exact HE.out _ _ _ _ _ _ _ _ _ _ _ _ _ _ _ _ _ _ _ _ _ _ _ _ _ _ _ _ _ _ _ _ _ _ wr HI.out
    case pos =>
    obtain ⟨X, hX⟩ : ∃ X, Su.rep (Su.bfsStep U y) a nx0 = X := ⟨_, rfl⟩
    have hstep : Su.rep (Su.bfsStep U y) (a + 1) nx0 = Su.bfsStep U y a X := by rw [Su.rep_succ, hX]
    have hkn : Su.Known n X := by rw [← hX]; exact Su.Known.rep hyn HKN.out a ha
    have hge : nx0.length ≤ X.length := by rw [← hX]; exact Su.rep_len_ge U y nx0 a
    have hqX : q < X.length := by omega
    have hyX : (X.getD q (0, 0)).1 = y := by rw [← hX, Su.rep_getD U y nx0 a hq]; exact HY.out
    have hXl := hkn.len
    rw [hX] at HI
    have hrow := HI.out.row
    obtain ⟨m, hm⟩ : ∃ m, X.length - (q + 1) = m := ⟨_, rfl⟩
    have hhl : (Su.heads (q + 1) X).length = m := by rw [Su.heads_len]; exact hm
    rw [Su.heads_cons hqX, hyX, List.map_cons] at hrow
    obtain ⟨g, off, cq, rfl, hcells⟩ := hrow.form
    rw [List.length_cons, List.length_map, hhl] at HI ⊢
    have hcy : wr.cell? ⟨g, off, none⟩ = some (.int .i64 y) := hcells 0 _ rfl
    obtain ⟨D, hD, hS⟩ := HI.out.map
    have HD := Lib.hid (And.intro hD hS)
    have HST := Lib.hid hstep
    have hp7 := HT.out.1.p7
    have p7 := HI.out.ext.cell hp7
    obtain ⟨DU, hDU, hSU⟩ := HT.out.1.own
    have HDU := Lib.hid (And.intro hDU hSU)
    have ha64 : r64 (a : Int) := ⟨by omega, by omega⟩
    have hy64 : r64 y := ⟨by omega, by omega⟩
    have HR64 := Lib.hid (And.intro ha64 hy64)
    have HFX := Lib.hid (And.intro hkn (And.intro hqX hyX))
    clear hstep hkn hX hyX hrow hcells hD hS hp7 hDU hSU ha64 hy64 hm hhl hge hqX
    cases hn : Su.nextOf X (a : Int) with
    | some z =>
      have HZ := Lib.hid (show (Su.nextOf X (a : Int)).getD 0 = z ∧ (Su.nextOf X (a : Int)).isSome = true by rw [hn]; exact ⟨rfl, rfl⟩)
      have HNO := Lib.hid (Su.bfsStep_known (U := U) (y := y) hn)
      clear hn
      go_wp2_with (at_lookup; refine wpl_look rfl _ _ rfl bn X.length rfl HD.out.1 HD.out.2 rfl (by omega) (by omega) HZ.out.1 HZ.out.2 ?_)
      refine wp_atEnd (bfs_known wr _ _ _ _ _ _ _ _ _ _ _ _ _ _ _ _ _ _ _ _ _ _ _ _ _ _ _ _ _ _ _ _ _ _ _ _ _ _ _ _ _ _ _ _ _ _ _ _ _ _ _ _ _ _ _ _ _ _ _ _ _ _ _ _ _ _ _ _ _ _ _ _ _ _ _ _ _ _ _ _ _ _ _ _ _ _ _ _ _ _ _ _ _ _ _ _ _ _ _ _ _ _ _ _ _ _ _ _ _ _ _ _ _ _ _ _ _ _ _ _ _ _ _ _ _ _ _ _ _ _ _ _ _ _ _ _ _ ?_)
      intro u68 u69 u70 u71 u72 u73 u74 u75 u76 u77 wx hx
      have HX := Lib.hid hx
      clear hx hcy p7
      go_wp2_with fail
      go_roundw
      case rel => exact ⟨a + 1, by omega, by go_num, Lib.hid (by rw [HST.out, HNO.out]; exact HI.out.next HX.out)⟩
      case measure => simp [intOf]; omega
    | none =>
      have HZ := Lib.hid (show (Su.nextOf X (a : Int)).getD 0 = 0 ∧ (Su.nextOf X (a : Int)).isSome = false by rw [hn]; exact ⟨rfl, rfl⟩)
      have HN0 := Lib.hid hn
      obtain ⟨x, hxU⟩ : ∃ x, decide (((a : Int), y) ∈ U) = x := ⟨_, rfl⟩
      have HLK : Hid (∀ w1, Ext wr w1 → (Instr.lookup 79 (.map (some b)) (.agg #[.int .i64 (a : Nat), .int .i64 y]) false).run Tryd.prog w1 = .ok (.bool x) w1) := Lib.hid fun w1 hx1 => by
        rw [look_hop (ownsMap_ext HDU.out.1 (HI.out.ext.trans hx1)) HDU.out.2 HR64.out.1 HR64.out.2, hxU]
      have HXU := Lib.hid hxU
      clear hn hxU
      go_wp2_with (at_lookup; refine wpl_look rfl _ _ rfl bn X.length rfl HD.out.1 HD.out.2 rfl (by omega) (by omega) HZ.out.1 HZ.out.2 ?_)
      refine wp_atEnd (bfs_look wr P7 b g off m cq a y x p7 hcy HLK _ _ _ _ _ _ _ _ _ _ _ _ _ _ _ _ _ _ _ _ _ _ _ _ _ _ _ _ _ _ _ _ _ _ _ _ _ _ _ _ _ _ _ _ _ _ _ _ _ _ _ _ _ _ _ _ _ _ _ _ _ _ _ _ _ _ _ _ _ _ _ _ _ _ _ _ _ _ _ _ _ _ _ _ _ _ _ _ _ _ _ _ _ _ _ _ _ _ _ _ _ _ _ _ _ _ _ _ _ _ _ _ _ _ _ _ _ _ _ _ _ _ _ _ _ _ _ _ _ _ _ _ _ _ ?_)
      intro u68 u69 u70 u71 u72 u73 u74 u75 u76 u77 wx hx
      have HX := Lib.hid hx
      have hcy2 := hx.cell hcy
      clear hx hcy p7
      cases x with
      | false =>
        have HNO := Lib.hid (Su.bfsStep_no (nx := X) (of_decide_eq_false HXU.out))
        clear hcy2
        go_wp2_with fail
        go_roundw
        case rel => exact ⟨a + 1, by omega, by go_num, Lib.hid (by rw [HST.out, HNO.out]; exact HI.out.next HX.out)⟩
        case measure => simp [intOf]; omega
      | true =>
        have HYES := Lib.hid (Su.bfsStep_yes HN0.out (of_decide_eq_true HXU.out))
        have hkey := Go.Maps.keyOf_int_mk Tryd.underlying3 (WalkArith.wf_i64 HR64.out.1)
        have hwf : (Lit.int .i64 y).wf = true := WalkArith.wf_i64 HR64.out.2
        go_wp2_with (first | (at_mapUpdate; refine wpList_mapUpdate_own _ rfl _ _ _ 72 rfl 3 3 hopLaw Tryd.underlying72 _ bn X.length D rfl (ownsMap_ext HD.out.1 HX.out) (by unfold maxLen; omega) _ _ _ rfl rfl hkey (.lit (.int .i64 y)) [] (plainElem_int Tryd.underlying3 hwf) ?_; intro w5 hown5 hgrow5; have H5 := Lib.hid (And.intro hown5 hgrow5); clear hown5 hgrow5; have hq5 := Lib.hid ((HI.out.row.next HX.out).mapped (ownsMap_ext HD.out.1 HX.out) H5.out.2); have hx5 := Lib.hid ((HI.out.ext.trans HX.out).grown H5.out.2 (fun k hk => by injection hk with hk; rw [← hk]; exact HI.out.ge))) | (refine wpl_push (z := (a : Int)) rfl (.tmp 84) (.tmp 86) rfl (hx5.out.alloc _) (hq5.out.next ((Ext.refl _).alloc _)) rfl rfl (by go_simp) (by rw [List.length_map, Su.heads_len]; omega) ?_; intro v8 w8 hq8 hx8 hm8; have H8 := Lib.hid (And.intro hq8 (And.intro hx8 hm8)); clear hq8 hx8 hm8))
        have hw8 := H8.out.2.2 _ _ _ _ _ (H5.out.1.alloc _)
        have HW8 := Lib.hid hw8
        clear hw8 hkey hwf hcy2
        go_roundw
        case rel => exact ⟨a + 1, by omega, by go_num, Lib.hid (by
          rw [HST.out, HYES.out]
          refine ⟨H8.out.2.1, HI.out.ge, ⟨_, by rw [List.length_append]; exact HW8.out, HD.out.2.hop HD.out.1.isMap HN0.out⟩, ?_⟩
          rw [Su.heads_snoc (Nat.le_of_lt HFX.out.2.1), List.map_append]
          exact H8.out.1)⟩
        case measure => simp [intOf]; omega

end Go.Proofs.YtenafgphaceidaaDoor

/- THE OTHER LOOPS OF Tree, each a declaration of its own. -/
namespace Go.Proofs.YtenafgphaceidaaDoor
open Go.RowKit
open Go.Maps (Keyed)
open Go.WideMaps Go.ChangeMaps Go.MapKept Go.WideShapes
def BRel (W0 : World) (bn n : Nat) (U R : List (Int × Int)) (f : Nat) (vq : Value) (wr : World) : Prop :=
  ∃ (q : Nat) (nx : List (Int × Int)), q ≤ nx.length ∧ f + q = n + 1 ∧ BW W0 wr bn vq q nx ∧ Su.Known n nx ∧ Su.bfs U n f q nx = R
/-- The marks' row. -/
def srow (g n : Nat) (S : List Bool) : LRow := ⟨.slice (some ⟨g, 0, none⟩) n n, 4, 1, n, S.map .bool⟩
/-- All cells but those of one block are as they were. -/
def Apart (g : Nat) (w w' : World) : Prop := ∀ p v, p.block ≠ g → w.cell? p = some v → w'.cell? p = some v
theorem Apart.refl (g : Nat) (w : World) : Apart g w w := fun _ _ _ h => h
theorem Apart.trans {g : Nat} {a b c : World} (h : Apart g a b) (k : Apart g b c) : Apart g a c := fun p v hp hv => k p v hp (h p v hp hv)
theorem Apart.set {g : Nat} {a b : World} (h : Apart g a b) (k : Nat) (u : Value) : Apart g a (b.setCell ⟨g, k, none⟩ u) := fun p v hp hv => by
  rw [World.cell?_setCell_other _ _ _ _ (fun e => hp (by rw [← e]))]
  exact h p v hp hv
def MRel (W1 W2 : World) (g n : Nat) (R : List (Int × Int)) (tg : Int) (S' : List Bool) (f : Nat) (va : Value) (wr : World) : Prop :=
  ∃ (a : Int) (S : List Bool), va = .int .i64 a ∧ 0 ≤ a ∧ a < (n : Int) ∧ S.length = n ∧ Su.offs S ≤ f ∧ Owns W1 wr [srow g n S] ∧ Su.mark R tg (f + 1) a S = S' ∧ Apart g W2 wr
theorem next_range {n : Nat} {R : List (Int × Int)} (hn : 0 < n) (h : Su.Known n R) (a : Int) : 0 ≤ (Su.nextOf R a).getD 0 ∧ (Su.nextOf R a).getD 0 < (n : Int) := by
  cases hq : Su.nextOf R a with
  | none => simp only [Option.getD_none]; omega
  | some b =>
    have := h.ran _ (Su.nextOf_some hq)
    simpa using this
theorem srow_apart {W1 w : World} {g n : Nat} {S : List Bool} (h : Owns W1 w [srow g n S]) {p : Addr} {z : Int} (hp : w.cell? p = some (.int .i64 z)) : p.block ≠ g := by
  intro e
  rcases (h.row 0 rfl).2 with ⟨hv, _⟩ | ⟨g', cap, cur, hv, _, hg, _, _, hsz, ht⟩
  · cases hv
  · injection hv with e1 e2 e3
    injection e1 with e1
    injection e1 with e1 _ _
    subst e1
    unfold World.cell? at hp
    rw [e, hg] at hp
    have hmem : (Value.int .i64 z) ∈ cur.toList := by
      cases hs : p.spot with
      | none =>
        rw [hs] at hp
        simp only at hp
        exact Array.mem_toList_iff.2 (Array.mem_of_getElem? hp)
      | some q => rw [hs] at hp; simp at hp
    have hcur : cur.toList = S.map Value.bool := by
      rw [← ht, List.take_of_length_le (by simp; omega)]
    rw [hcur] at hmem
    obtain ⟨b, _, hb⟩ := List.mem_map.1 hmem
    cases hb
/-- Hops, as cells. -/
def hcells : List (Int × Int) → List Value
  | [] => []
  | x :: l => .int .i64 x.1 :: .int .i64 x.2 :: hcells l
theorem hcells_len : ∀ l, (hcells l).length = l.length * 2
  | [] => rfl
  | x :: l => by simp only [hcells, List.length_cons, hcells_len l]; omega
theorem hcells_snoc : ∀ (l : List (Int × Int)) (x : Int × Int), hcells (l ++ [x]) = hcells l ++ [.int .i64 x.1, .int .i64 x.2]
  | [], x => rfl
  | y :: l, x => by rw [List.cons_append, hcells, hcells, hcells_snoc l x]; rfl
theorem hcells_at : ∀ (l : List (Int × Int)) (i : Nat) (x : Int × Int), l[i]? = some x → (hcells l)[i * 2]? = some (.int .i64 x.1) ∧ (hcells l)[i * 2 + 1]? = some (.int .i64 x.2)
  | [], i, x, h => by simp at h
  | y :: l, 0, x, h => by simp at h; subst h; exact ⟨rfl, rfl⟩
  | y :: l, i + 1, x, h => by
    have h1 := hcells_at l i x (by simpa using h)
    rw [show (i + 1) * 2 = i * 2 + 1 + 1 by omega]
    exact h1
/-- A row of hops, read. -/
theorem RL.of_own {w0 w : World} {A : Option Addr} {m c : Nat} {l : List (Int × Int)} (h : w.ownsRow w0.heap.size 65 2 (.slice A m c) m (hcells l)) (hm : m = l.length) (hl : l.length ≤ 100) (hb : ∀ x ∈ l, r64 x.1 ∧ r64 x.2) : RL w (.slice A m c) l := by
  subst hm
  refine ⟨A, c, rfl, by omega, fun i x hi => ?_⟩
  obtain ⟨c1, c2⟩ := hcells_at l i x hi
  have hil : i < l.length := by
    rcases Nat.lt_or_ge i l.length with h1 | h1
    · exact h1
    · rw [List.getElem?_eq_none h1] at hi; cases hi
  rcases h.2 with ⟨_, h0⟩ | ⟨g, cap, cur, hv, _⟩
  · omega
  · injection hv with e1 e2 e3
    subst e1
    have k1 := h.cellAt (g := g) (i * 2) (by omega)
    have k2 := h.cellAt (g := g) (i * 2 + 1) (by omega)
    refine ⟨⟨g, 0, none⟩, rfl, ?_, ?_, (hb x (List.mem_of_getElem? hi)).1.1, (hb x (List.mem_of_getElem? hi)).1.2, (hb x (List.mem_of_getElem? hi)).2.1, (hb x (List.mem_of_getElem? hi)).2.2⟩
    · rw [Addr.add_lit, Nat.zero_add, k1]; exact c1
    · rw [Addr.add_lit]
      show w.cell? ⟨g, 0 + i * 2 + 1, none⟩ = _
      rw [Nat.zero_add, k2]; exact c2
theorem info_hop : (Tryd.prog.info? 65).map (fun i => (i.zero, i.size, i.bytes)) = some (some (.agg #[.int .i64 0, .int .i64 0]), 2, 16) := by kernel_rfl
/-- 'out = append(out, hop)'. -/
theorem wpl_append_hop {w0 w : World} {L : List LRow} {ops : Array Oper} {rest : List Oper} {o : Oper} {a : Act} {Q : Exit → Act → World → Prop} (hgd : o.guard = none) (s x : Operand)
    (ho : o.op = .call { callee := .builtin .append, args := #[s, x], argTypes := #[26, 26] })
    (h : Owns w0 w L) (i : Nat) {v : Value} {n : Nat} {l : List (Int × Int)} (hL : L[i]? = some ⟨v, 65, 2, n, hcells l⟩) (hs : a.eval s = v) {g0 : Nat} {y : Int × Int}
    (hx : a.eval x = .slice (some ⟨g0, 0, none⟩) 1 1) (hu : w.cell? ⟨g0, 0, none⟩ = some (.int .i64 y.1)) (hu2 : w.cell? ⟨g0, 1, none⟩ = some (.int .i64 y.2)) (hm : n < 1000000000000)
    (hK : ∀ g cap w', Owns w0 w' (L.set i ⟨.slice (some ⟨g, 0, none⟩) (n + 1) cap, 65, 2, n + 1, hcells (l ++ [y])⟩) → w.grownBy w' v.ownBlock → wpList Tryd.prog ops Q rest (a.put o.dst (.slice (some ⟨g, 0, none⟩) (n + 1) cap)) w') :
    wpList Tryd.prog ops Q (o :: rest) a w := by
  refine wpList_plain hgd fun K hK' => ?_
  obtain ⟨g, cap, w', hr, h2, _, h3⟩ := run_append_owns (P := Tryd.prog) 26 o.type 65 Tryd.underlying26 info_hop rfl (by decide) h i hL ⟨g0, 0, none⟩ 1 1 [.int .i64 y.1, .int .i64 y.2] rfl (fun j z hj => by
    match j, hj with
    | 0, hj => simp at hj; subst hj; exact hu
    | 1, hj => simp at hj; subst hj; exact hu2) (fun z hz => by
    simp at hz
    rcases hz with rfl | rfl <;> rfl) (by decide) (by unfold maxLen; omega) (by omega)
  rw [← hcells_snoc] at h2
  unfold Oper.wp execOp
  simp only [ho, resolve, invoke, builtin, Sem.run_bind, Sem.run_pure, Result.andThen_ok, List.map_toArray, List.map_cons, List.map_nil, hs, hx, hr]
  exact hK' _ _ (hK g cap w' h2 h3)
noncomputable def bfs_out_code : Code := ((Tryd.f16.body.bind (loopOf 13)).getD .skip)
set_option maxRecDepth 1000000 in
set_option maxHeartbeats 16000000 in
theorem bfs_out (W0 w00 wr : World) (A : Option Addr) (B c g0 N b P6 P7 P8 bn n : Nat) (vq0 : Value) (W : List Su.Way) (U R : List (Int × Int)) (hn12 : n ≤ 12) (hd0 : W0.cell? ⟨B, 0, none⟩ = some (.slice A n c)) (HD0 : Hid (W0.cell? ⟨B, 0, none⟩ = some (.slice A n c))) (HT : Hid (TW w00 W0 g0 N b P6 P7 P8 W U ∧ True)) (HB : Hid (∃ f, BRel W0 bn n U R f vq0 wr)) (c0 c2 c3 c4 c5 c6 c8 c11 c12 c13 c14 c15 c16 c17 c18 c19 c20 c21 c22 c23 c24 c25 c26 c27 c28 c29 c30 c31 c32 c33 c34 c35 c36 c37 c38 c39 c40 c41 c42 c43 c44 c45 c46 c47 c48 c49 c50 c51 c52 c53 c54 c55 c56 c57 c58 c59 c60 c61 c62 c63 c64 c65 c66 c67 c68 c69 c70 c71 c72 c73 c74 c75 c76 c77 c78 c79 c80 c81 c82 c83 c84 c85 c86 c87 c88 c89 c90 c91 c92 c93 c94 c95 c96 c97 c98 c99 c100 c101 c102 c103 c104 c105 c106 c107 c108 c109 c110 c111 c112 c113 c114 c115 c116 c117 c118 c119 c120 c121 c122 c123 c124 c125 c126 c127 c128 c129 c130 c131 c132 c133 c134 c135 : Value) (df : List Deferred) (Q0 : Exit → Act → World → Prop)
    (hexit : ∀ (u10 u11 u12 u13 u51 u52 u53 u54 u55 u56 u57 u58 u59 u60 u61 u62 u63 u64 u65 u66 u67 u68 u69 u70 u71 u72 u73 u74 u75 u76 u77 u78 u79 u80 u81 u82 u83 u84 u85 u86 u87 u88 : Value) (wx : World), (∃ q, BW W0 wx bn u10 q R ∧ Su.Known n R) → Q0 (.exit 0) ⟨#[c0, .pointer (some ⟨B, 0, none⟩), c2, c3, c4, c5, c6, .pointer (some ⟨P7, 0, none⟩), c8, .map (some bn), u10, u11, u12, u13, c14, c15, c16, c17, c18, c19, c20, c21, c22, c23, c24, c25, c26, c27, c28, c29, c30, c31, c32, c33, c34, c35, c36, c37, c38, c39, c40, c41, c42, c43, c44, c45, c46, c47, c48, c49, c50, u51, u52, u53, u54, u55, u56, u57, u58, u59, u60, u61, u62, u63, u64, u65, u66, u67, u68, u69, u70, u71, u72, u73, u74, u75, u76, u77, u78, u79, u80, u81, u82, u83, u84, u85, u86, u87, u88, c89, c90, c91, c92, c93, c94, c95, c96, c97, c98, c99, c100, c101, c102, c103, c104, c105, c106, c107, c108, c109, c110, c111, c112, c113, c114, c115, c116, c117, c118, c119, c120, c121, c122, c123, c124, c125, c126, c127, c128, c129, c130, c131, c132, c133, c134, c135], df⟩ wx) :
    Code.wp Tryd.prog bfs_out_code Q0 ⟨#[c0, .pointer (some ⟨B, 0, none⟩), c2, c3, c4, c5, c6, .pointer (some ⟨P7, 0, none⟩), c8, .map (some bn), vq0, c11, c12, c13, c14, c15, c16, c17, c18, c19, c20, c21, c22, c23, c24, c25, c26, c27, c28, c29, c30, c31, c32, c33, c34, c35, c36, c37, c38, c39, c40, c41, c42, c43, c44, c45, c46, c47, c48, c49, c50, c51, c52, c53, c54, c55, c56, c57, c58, c59, c60, c61, c62, c63, c64, c65, c66, c67, c68, c69, c70, c71, c72, c73, c74, c75, c76, c77, c78, c79, c80, c81, c82, c83, c84, c85, c86, c87, c88, c89, c90, c91, c92, c93, c94, c95, c96, c97, c98, c99, c100, c101, c102, c103, c104, c105, c106, c107, c108, c109, c110, c111, c112, c113, c114, c115, c116, c117, c118, c119, c120, c121, c122, c123, c124, c125, c126, c127, c128, c129, c130, c131, c132, c133, c134, c135], df⟩ wr := by
  have HE := Lib.hid hexit
  clear hexit
  conv => arg 2; whnf
  dsimp only
  go_loopw [10] (fun vq wr => Hid (∃ f, BRel W0 bn n U R f vq wr)) (fun vq wr => minOf fun f => BRel W0 bn n U R f vq wr)
  case atStart => exact HB
  case round =>
    obtain ⟨f, hf⟩ : ∃ f, minOf (fun f => BRel W0 bn n U R f u10 wr) = f := ⟨_, rfl⟩
    have hsp := minOf_spec hrel.out
    rw [hf] at hsp
    have HF := Lib.hid hf
    clear hf
    obtain ⟨q, nx, hq, hfq, hbw, hkn, hR⟩ := hsp
    have hxl := hkn.len
    have d0 : wr.cell? ⟨B, 0, none⟩ = some (.slice A n c) := hbw.ext.cell hd0
    by_cases hlt : q < nx.length
    case neg =>
      have hrow := hbw.row
      have hh : Su.heads q nx = [] := List.length_eq_zero_iff.1 (by rw [Su.heads_len]; omega)
      have hRx := Su.bfs_end (U := U) (n := n) (f := f) hlt
      rw [hR] at hRx
      rw [hh] at hrow
      obtain ⟨g, off, cq, hv, _⟩ := hrow.form
      have hbw2 := hbw
      rw [← hRx] at hbw2 hkn
      subst hv
      have HEND := Lib.hid (And.intro hbw2 hkn)
      simp only [List.map_nil, List.length_nil] at HEND ⊢
      clear hrow hh hRx hbw hbw2 hkn hR hrel hd0 HB d0
      go_wp2_with fail
      exact HE.out _ _ _ _ _ _ _ _ _ _ _ _ _ _ _ _ _ _ _ _ _ _ _ _ _ _ _ _ _ _ _ _ _ _ _ _ _ _ _ _ _ _ wr ⟨q, HEND.out⟩
    case pos =>
      obtain ⟨g', rfl⟩ : ∃ g', f = g' + 1 := ⟨f - 1, by omega⟩
      have hrow := hbw.row
      rw [Su.heads_cons hlt, List.map_cons] at hrow
      obtain ⟨g, off, cq, hv, _⟩ := hrow.form
      rw [List.length_cons] at hv
      obtain ⟨m, hm⟩ : ∃ m, ((Su.heads (q + 1) nx).map (Value.int .i64)).length = m := ⟨_, rfl⟩
      rw [hm] at hv
      subst hv
      have hyn := hkn.at hlt
      obtain ⟨y, hy⟩ : ∃ y, (nx.getD q (0, 0)).1 = y := ⟨_, rfl⟩
      have hgo := Su.bfs_go (U := U) (n := n) (f := g') hlt
      rw [hR, hy] at hgo
      rw [hy] at hyn
      have HG := Lib.hid (And.intro hgo (And.intro hfq hkn))
      have HY := Lib.hid hy
      have HBW := Lib.hid hbw
      have HKN := Lib.hid hkn
      have HQ := Lib.hid hlt
      have m0 : (0 : Int) < (m : Int) + 1 := by omega
      clear hgo hfq hkn hy hbw hrow hm hR hrel hd0 HB hq
      go_wp2_with fail
      refine bfs_in W0 w00 wr g0 N b P6 P7 P8 bn n q y _ W U nx hn12 hyn hlt HKN HY HT HBW _ _ _ _ _ _ _ _ _ _ _ _ _ _ _ _ _ _ _ _ _ _ _ _ _ _ _ _ _ _ _ _ _ _ _ _ _ _ _ _ _ _ _ _ _ _ _ _ _ _ _ _ _ _ _ _ _ _ _ _ _ _ _ _ _ _ _ _ _ _ _ _ _ _ _ _ _ _ _ _ _ _ _ _ _ _ _ _ _ _ _ _ _ _ _ _ _ _ _ _ _ _ _ _ _ _ _ _ _ _ _ _ _ _ _ _ _ _ _ _ _ _ _ _ _ _ _ _ _ _ _ _ _ ?_
      intro u10 u11 u12 u13 u59 u60 u61 u62 u63 u64 u65 u66 u67 u68 u69 u70 u71 u72 u73 u74 u75 u76 u77 u78 u79 u80 u81 u82 u83 u84 u85 u86 u87 u88 wx hbx
      have hqX : q < (Su.rep (Su.bfsStep U y) n nx).length := Nat.lt_of_lt_of_le HQ.out (Su.rep_len_ge U y nx n)
      have hrow := hbx.row
      rw [Su.heads_cons hqX, Su.rep_getD U y nx n HQ.out, List.map_cons] at hrow
      obtain ⟨v', hrun, hrow'⟩ := QRow.tail (P := Tryd.prog) 23 Tryd.underlying23 (by kernel_rfl) hrow
      have HX := Lib.hid (And.intro hbx (And.intro hrow' hqX))
      have d0 : wx.cell? ⟨B, 0, none⟩ = some (.slice A n c) := hbx.ext.cell HD0.out
      clear hbx hrow' hqX hrow d0
      go_wp2_with fail
      have hnew : BRel W0 bn n U R g' v' wx := ⟨q + 1, _, HX.out.2.2, by have := HG.out.2.1; omega, ⟨HX.out.1.ext, HX.out.1.ge, HX.out.1.map, HX.out.2.1⟩, Su.Known.rep hyn HG.out.2.2 n (Nat.le_refl _), HG.out.1.symm⟩
      have HNEW := Lib.hid hnew
      clear hnew hrun
      go_roundw
      case rel => exact Lib.hid ⟨g', HNEW.out⟩
      case measure =>
        have h1 := minOf_le (p := fun f => BRel W0 bn n U R f v' wx) HNEW.out
        have h2 := HF.out
        omega

noncomputable def mark_in_code : Code := ((Tryd.f16.body.bind (loopOf 28)).getD .skip)
set_option maxRecDepth 1000000 in
set_option maxHeartbeats 16000000 in
theorem mark_in (W1 W2 wr : World) (B bn gs n : Nat) (tg : Int) (va0 : Value) (R : List (Int × Int)) (S' : List Bool) (D : DataW Unit) (hn12 : n ≤ 12) (HD2 : Hid (W1.cell? ⟨B, 2, none⟩ = some (.int .i64 tg))) (HM : Hid (W1.ownsMap Tryd.prog 3 (plainElem Tryd.prog 3) bn R.length D ∧ MSays D (Su.nextOf R) ∧ Su.Known n R)) (HB : Hid (∃ f, MRel W1 W2 gs n R tg S' f va0 wr)) (c0 c2 c3 c4 c5 c6 c7 c8 c10 c11 c12 c13 c15 c17 c18 c19 c20 c21 c22 c23 c24 c25 c26 c27 c28 c29 c30 c31 c32 c33 c34 c35 c36 c37 c38 c39 c40 c41 c42 c43 c44 c45 c46 c47 c48 c49 c50 c51 c52 c53 c54 c55 c56 c57 c58 c59 c60 c61 c62 c63 c64 c65 c66 c67 c68 c69 c70 c71 c72 c73 c74 c75 c76 c77 c78 c79 c80 c81 c82 c83 c84 c85 c86 c87 c88 c89 c90 c91 c92 c93 c94 c95 c96 c97 c98 c99 c100 c101 c102 c103 c104 c105 c106 c107 c108 c109 c110 c111 c112 c113 c114 c115 c116 c117 c118 c119 c120 c121 c122 c123 c124 c125 c126 c127 c128 c129 c130 c131 c132 c133 c134 c135 : Value) (df : List Deferred) (Q0 : Exit → Act → World → Prop)
    (hexit : ∀ (u16 u100 u101 u102 u103 u104 u105 u106 u107 u108 u109 u110 u111 u112 u113 u114 u115 u116 : Value) (wx : World), Owns W1 wx [srow gs n S'] ∧ Apart gs W2 wx → Q0 (.exit 6) ⟨#[c0, .pointer (some ⟨B, 0, none⟩), c2, c3, c4, c5, c6, c7, c8, .map (some bn), c10, c11, c12, c13, .slice (some ⟨gs, 0, none⟩) n n, c15, u16, c17, c18, c19, c20, c21, c22, c23, c24, c25, c26, c27, c28, c29, c30, c31, c32, c33, c34, c35, c36, c37, c38, c39, c40, c41, c42, c43, c44, c45, c46, c47, c48, c49, c50, c51, c52, c53, c54, c55, c56, c57, c58, c59, c60, c61, c62, c63, c64, c65, c66, c67, c68, c69, c70, c71, c72, c73, c74, c75, c76, c77, c78, c79, c80, c81, c82, c83, c84, c85, c86, c87, c88, c89, c90, c91, c92, c93, c94, c95, c96, c97, c98, c99, u100, u101, u102, u103, u104, u105, u106, u107, u108, u109, u110, u111, u112, u113, u114, u115, u116, c117, c118, c119, c120, c121, c122, c123, c124, c125, c126, c127, c128, c129, c130, c131, c132, c133, c134, c135], df⟩ wx) :
    Code.wp Tryd.prog mark_in_code Q0 ⟨#[c0, .pointer (some ⟨B, 0, none⟩), c2, c3, c4, c5, c6, c7, c8, .map (some bn), c10, c11, c12, c13, .slice (some ⟨gs, 0, none⟩) n n, c15, va0, c17, c18, c19, c20, c21, c22, c23, c24, c25, c26, c27, c28, c29, c30, c31, c32, c33, c34, c35, c36, c37, c38, c39, c40, c41, c42, c43, c44, c45, c46, c47, c48, c49, c50, c51, c52, c53, c54, c55, c56, c57, c58, c59, c60, c61, c62, c63, c64, c65, c66, c67, c68, c69, c70, c71, c72, c73, c74, c75, c76, c77, c78, c79, c80, c81, c82, c83, c84, c85, c86, c87, c88, c89, c90, c91, c92, c93, c94, c95, c96, c97, c98, c99, c100, c101, c102, c103, c104, c105, c106, c107, c108, c109, c110, c111, c112, c113, c114, c115, c116, c117, c118, c119, c120, c121, c122, c123, c124, c125, c126, c127, c128, c129, c130, c131, c132, c133, c134, c135], df⟩ wr := by
  have HE := Lib.hid hexit
  clear hexit
  conv => arg 2; whnf
  dsimp only
  go_loopw [16] (fun va wr => Hid (∃ f, MRel W1 W2 gs n R tg S' f va wr)) (fun va wr => minOf fun f => MRel W1 W2 gs n R tg S' f va wr)
  case atStart => exact HB
  case round =>
    obtain ⟨f, hf⟩ : ∃ f, minOf (fun f => MRel W1 W2 gs n R tg S' f u16 wr) = f := ⟨_, rfl⟩
    have hsp := minOf_spec hrel.out
    rw [hf] at hsp
    have HF := Lib.hid hf
    clear hf hrel HB
    obtain ⟨a, S, rfl, ha0, han, hSl, hoff, hO, hmk, hap⟩ := hsp
    have HAP := Lib.hid hap
    clear hap
    obtain ⟨k, rfl⟩ : ∃ k : Nat, a = k := ⟨a.toNat, by omega⟩
    have hkn : k < n := by omega
    have hkS : k < S.length := by omega
    have d2 : wr.cell? ⟨B, 2, none⟩ = some (.int .i64 tg) := hO.ext.cell HD2.out
    have HO := Lib.hid (And.intro hO (And.intro hmk (And.intro hSl hoff)))
    clear hO hmk hSl hoff
    by_cases ht : (k : Int) = tg
    · have e1 : ((k : Int) != tg) = false := by rw [ht]; simp
      have hS : S = S' := (Su.mark_tgt (R := R) (f := f + 1) (S := S) ht).symm.trans HO.out.2.1
      have HS := Lib.hid hS
      clear ht hS
      go_wp2_with fail
      exact HE.out _ _ _ _ _ _ _ _ _ _ _ _ _ _ _ _ _ _ wr ⟨by rw [← HS.out]; exact HO.out.1, HAP.out⟩
    · have e1 : ((k : Int) != tg) = true := by rw [bne_iff_ne]; exact ht
      have hcell := HO.out.1.cell 0 rfl k (u := .bool S[k]) (by simp [hkS])
      have hgd : S.getD (k : Int).toNat false = S[k] := by rw [Int.toNat_natCast, List.getD_eq_getElem?_getD, List.getElem?_eq_getElem hkS]; rfl
      obtain ⟨x, hx⟩ : ∃ x, S[k] = x := ⟨_, rfl⟩
      rw [hx] at hcell hgd
      have HGD := Lib.hid (And.intro hgd ht)
      clear hx hgd ht
      cases x with
      | true =>
        have hS : S = S' := (Su.mark_on (R := R) (t := tg) (f := f + 1) HGD.out.1).symm.trans HO.out.2.1
        have HS := Lib.hid hS
        clear hS
        go_wp2_with fail
        exact HE.out _ _ _ _ _ _ _ _ _ _ _ _ _ _ _ _ _ _ wr ⟨by rw [← HS.out]; exact HO.out.1, HAP.out⟩
      | false =>
        have hfr := HO.out.1.frozen 0 rfl k
        have hst := HO.out.1.store 0 rfl k (.bool true)
        have hOS : Owns W1 (wr.setCell ⟨gs, k, none⟩ (.bool true)) [srow gs n (S.set k true)] := by
          have e : (S.map Value.bool).set k (.bool true) = (S.set k true).map Value.bool := by rw [List.map_set]
          have := hst
          rw [e] at this
          exact this
        have hlk := look_int (ownsMap_ext HM.out.1 hOS.ext) HM.out.2.1 (y := (k : Int)) ⟨by omega, by omega⟩
        have hr := next_range (by omega) HM.out.2.2 (k : Int)
        have hg := Su.mark_go (R := R) (f := f) HGD.out.2 HGD.out.1
        rw [Int.toNat_natCast, HO.out.2.1] at hg
        have hofs := Su.offs_set (S := S) (i := k) (by have := HGD.out.1; rwa [Int.toNat_natCast] at this) hkS
        have hof2 := HO.out.2.2.2
        obtain ⟨b, hb⟩ : ∃ b, (Su.nextOf R (k : Int)).getD 0 = b := ⟨_, rfl⟩
        rw [hb] at hlk hr hg
        obtain ⟨g', rfl⟩ : ∃ g', f = g' + 1 := ⟨f - 1, by omega⟩
        have hlen2 : (S.set k true).length = n := by rw [List.length_set]; exact HO.out.2.2.1
        have hnew : MRel W1 W2 gs n R tg S' g' (.int .i64 b) (wr.setCell ⟨gs, k, none⟩ (.bool true)) := ⟨b, S.set k true, rfl, hr.1, hr.2, hlen2, by omega, hOS, hg.symm, HAP.out.set k _⟩
        have HNEW := Lib.hid hnew
        clear hst hOS hr hg hofs hof2 hb hlen2 hnew hkS
        go_wp2_with fail
        clear hcell hfr hlk d2
        go_roundw
        case rel => exact Lib.hid ⟨g', HNEW.out⟩
        case measure =>
          have h1 := minOf_le (p := fun f => MRel W1 W2 gs n R tg S' f (.int .i64 b) (wr.setCell ⟨gs, k, none⟩ (.bool true))) HNEW.out
          have h2 := HF.out
          omega

noncomputable def mark_out_code : Code := ((Tryd.f16.body.bind (loopOf 25)).getD .skip)
set_option maxRecDepth 1000000 in
set_option maxHeartbeats 16000000 in
theorem mark_out (W1 wr W2 : World) (LA : Option Addr) (B bn gs n nl cl : Nat) (tg : Int) (R : List (Int × Int)) (L : List Int) (D : DataW Unit) (hn12 : n ≤ 12) (hnl : nl ≤ 12) (HD2 : Hid (W1.cell? ⟨B, 2, none⟩ = some (.int .i64 tg))) (HL : Hid (Rs RI W2 (.slice LA nl cl) L ∧ L.length = nl)) (HR : Hid (∀ x ∈ L, 0 ≤ x ∧ x < (n : Int))) (HM : Hid (W1.ownsMap Tryd.prog 3 (plainElem Tryd.prog 3) bn R.length D ∧ MSays D (Su.nextOf R) ∧ Su.Known n R)) (HO0 : Hid (Owns W1 W2 [srow gs n (Su.marksTo R tg L n 0)])) (HW2 : W2 = wr) (c0 c2 c3 c4 c5 c6 c7 c8 c10 c11 c12 c13 c15 c16 c17 c18 c19 c20 c21 c22 c23 c24 c25 c26 c27 c28 c29 c30 c31 c32 c33 c34 c35 c36 c37 c38 c39 c40 c41 c42 c43 c44 c45 c46 c47 c48 c49 c50 c51 c52 c53 c54 c55 c56 c57 c58 c59 c60 c61 c62 c63 c64 c65 c66 c67 c68 c69 c70 c71 c72 c73 c74 c75 c76 c77 c78 c79 c80 c81 c82 c83 c84 c85 c86 c87 c88 c89 c90 c91 c92 c93 c97 c98 c99 c100 c101 c102 c103 c104 c105 c106 c107 c108 c109 c110 c111 c112 c113 c114 c115 c116 c117 c118 c119 c120 c121 c122 c123 c124 c125 c126 c127 c128 c129 c130 c131 c132 c133 c134 c135 : Value) (df : List Deferred) (Q0 : Exit → Act → World → Prop)
    (hexit : ∀ (u16 u96 u97 u98 u99 u100 u101 u102 u103 u104 u105 u106 u107 u108 u109 u110 u111 u112 u113 u114 u115 u116 u117 : Value) (wx : World), Owns W1 wx [srow gs n (Su.marksTo R tg L n nl)] → Q0 (.exit 4) ⟨#[c0, .pointer (some ⟨B, 0, none⟩), c2, c3, c4, c5, c6, c7, c8, .map (some bn), c10, c11, c12, c13, .slice (some ⟨gs, 0, none⟩) n n, c15, u16, c17, c18, c19, c20, c21, c22, c23, c24, c25, c26, c27, c28, c29, c30, c31, c32, c33, c34, c35, c36, c37, c38, c39, c40, c41, c42, c43, c44, c45, c46, c47, c48, c49, c50, c51, c52, c53, c54, c55, c56, c57, c58, c59, c60, c61, c62, c63, c64, c65, c66, c67, c68, c69, c70, c71, c72, c73, c74, c75, c76, c77, c78, c79, c80, c81, c82, c83, c84, c85, c86, c87, c88, c89, c90, c91, c92, c93, .slice LA nl cl, .int .i64 (nl : Nat), u96, u97, u98, u99, u100, u101, u102, u103, u104, u105, u106, u107, u108, u109, u110, u111, u112, u113, u114, u115, u116, u117, c118, c119, c120, c121, c122, c123, c124, c125, c126, c127, c128, c129, c130, c131, c132, c133, c134, c135], df⟩ wx) :
    Code.wp Tryd.prog mark_out_code Q0 ⟨#[c0, .pointer (some ⟨B, 0, none⟩), c2, c3, c4, c5, c6, c7, c8, .map (some bn), c10, c11, c12, c13, .slice (some ⟨gs, 0, none⟩) n n, c15, c16, c17, c18, c19, c20, c21, c22, c23, c24, c25, c26, c27, c28, c29, c30, c31, c32, c33, c34, c35, c36, c37, c38, c39, c40, c41, c42, c43, c44, c45, c46, c47, c48, c49, c50, c51, c52, c53, c54, c55, c56, c57, c58, c59, c60, c61, c62, c63, c64, c65, c66, c67, c68, c69, c70, c71, c72, c73, c74, c75, c76, c77, c78, c79, c80, c81, c82, c83, c84, c85, c86, c87, c88, c89, c90, c91, c92, c93, .slice LA nl cl, .int .i64 (nl : Nat), .int .i64 0, c97, c98, c99, c100, c101, c102, c103, c104, c105, c106, c107, c108, c109, c110, c111, c112, c113, c114, c115, c116, c117, c118, c119, c120, c121, c122, c123, c124, c125, c126, c127, c128, c129, c130, c131, c132, c133, c134, c135], df⟩ wr := by
  have HE := Lib.hid hexit
  clear hexit
  conv => arg 2; whnf
  dsimp only
  subst HW2
  go_loopw [96] (fun vi wr => ∃ k : Nat, k ≤ nl ∧ vi = .int .i64 k ∧ Hid (Owns W1 wr [srow gs n (Su.marksTo R tg L n k)] ∧ Apart gs W2 wr)) (fun vi _ => nl - (intOf vi).toNat)
  case atStart => exact ⟨0, Nat.zero_le _, rfl, Lib.hid ⟨HO0.out, Apart.refl _ _⟩⟩
  case round =>
    obtain ⟨k, hk, rfl, HI⟩ := hrel
    by_cases hlt : k < nl
    · have hkl : k < L.length := by rw [HL.out.2]; exact hlt
      obtain ⟨ad, u, rfl, hc, hu⟩ := HL.out.1.at hkl
      obtain ⟨rfl, _, _⟩ := hu
      have hcell := HI.out.2 _ _ (srow_apart HO0.out hc) hc
      have hgd := getD_get (x := (0 : Int)) hkl
      have hmem : L[k] ∈ L := List.getElem_mem hkl
      have hra := HR.out _ hmem
      obtain ⟨x, hx⟩ : ∃ x, L[k] = x := ⟨_, rfl⟩
      rw [hx] at hcell hgd hra
      have hst := Su.marksTo_succ R tg L n k
      rw [hgd] at hst
      have hml := Su.marksTo_len R tg L n k
      have HB2 : Hid (∃ f, MRel W1 W2 gs n R tg (Su.marksTo R tg L n (k + 1)) f (.int .i64 x) wr) := Lib.hid ⟨n, x, Su.marksTo R tg L n k, rfl, hra.1, hra.2, hml, by
        have := List.count_le_length (a := false) (l := Su.marksTo R tg L n k)
        unfold Su.offs
        omega, HI.out.1, hst.symm, HI.out.2⟩
      clear hst hml hgd hmem hra hc hx
      go_wp2_with fail
      refine mark_in W1 W2 wr B bn gs n tg _ R (Su.marksTo R tg L n (k + 1)) D hn12 HD2 HM HB2 _ _ _ _ _ _ _ _ _ _ _ _ _ _ _ _ _ _ _ _ _ _ _ _ _ _ _ _ _ _ _ _ _ _ _ _ _ _ _ _ _ _ _ _ _ _ _ _ _ _ _ _ _ _ _ _ _ _ _ _ _ _ _ _ _ _ _ _ _ _ _ _ _ _ _ _ _ _ _ _ _ _ _ _ _ _ _ _ _ _ _ _ _ _ _ _ _ _ _ _ _ _ _ _ _ _ _ _ _ _ _ _ _ _ _ _ _ _ _ _ _ _ _ _ _ _ _ _ _ _ _ _ _ _ ?_
      intro u16 u100 u101 u102 u103 u104 u105 u106 u107 u108 u109 u110 u111 u112 u113 u114 u115 u116 wx hx
      have HX := Lib.hid hx
      clear hx hcell
      go_wp2_with fail
      go_roundw
      case rel => exact ⟨k + 1, by omega, by go_num, HX⟩
      case measure => simp [intOf]; omega
    · obtain rfl : k = nl := by omega
      go_wp2_with fail
      exact HE.out _ _ _ _ _ _ _ _ _ _ _ _ _ _ _ _ _ _ _ _ _ _ _ wr HI.out.1

noncomputable def out_loop_code : Code := ((Tryd.f16.body.bind (loopOf 33)).getD .skip)
set_option maxRecDepth 1000000 in
set_option maxHeartbeats 16000000 in
theorem out_loop (W1 W2 wr : World) (bn gs n : Nat) (R : List (Int × Int)) (S : List Bool) (D : DataW Unit) (hn12 : n ≤ 12) (HS : Hid (Owns W1 W2 [srow gs n S] ∧ S.length = n)) (HM : Hid (W2.ownsMap Tryd.prog 3 (plainElem Tryd.prog 3) bn R.length D ∧ MSays D (Su.nextOf R))) (HO0 : Hid (Owns W2 wr [⟨.slice none 0 0, 65, 2, 0, []⟩])) (c0 c1 c2 c3 c4 c5 c6 c7 c8 c10 c11 c12 c13 c14 c15 c16 c18 c19 c20 c21 c22 c23 c24 c25 c26 c27 c28 c29 c30 c31 c32 c33 c34 c35 c36 c37 c38 c39 c40 c41 c42 c43 c44 c45 c46 c47 c48 c49 c50 c51 c52 c53 c54 c55 c56 c57 c58 c59 c60 c61 c62 c63 c64 c65 c66 c67 c68 c69 c70 c71 c72 c73 c74 c75 c76 c77 c78 c79 c80 c81 c82 c83 c84 c85 c86 c87 c88 c89 c90 c91 c92 c93 c94 c95 c96 c97 c98 c99 c100 c101 c102 c103 c104 c105 c106 c107 c108 c109 c110 c111 c112 c113 c114 c115 c116 c117 c121 c122 c123 c124 c125 c126 c127 c128 c129 c130 c131 c132 c133 c134 c135 : Value) (df : List Deferred) (Q0 : Exit → Act → World → Prop)
    (hexit : ∀ (u17 u18 u19 u120 u121 u122 u123 u124 u125 u126 u127 u128 u129 u130 u131 u132 u133 u134 : Value) (wx : World), (∃ A' m c', u17 = .slice A' m c' ∧ m = (Su.outTo R S n).length ∧ Owns W2 wx [⟨.slice A' m c', 65, 2, m, hcells (Su.outTo R S n)⟩]) → Q0 (.exit 8) ⟨#[c0, c1, c2, c3, c4, c5, c6, c7, c8, .map (some bn), c10, c11, c12, c13, c14, c15, c16, u17, u18, u19, c20, c21, c22, c23, c24, c25, c26, c27, c28, c29, c30, c31, c32, c33, c34, c35, c36, c37, c38, c39, c40, c41, c42, c43, c44, c45, c46, c47, c48, c49, c50, c51, c52, c53, c54, c55, c56, c57, c58, c59, c60, c61, c62, c63, c64, c65, c66, c67, c68, c69, c70, c71, c72, c73, c74, c75, c76, c77, c78, c79, c80, c81, c82, c83, c84, c85, c86, c87, c88, c89, c90, c91, c92, c93, c94, c95, c96, c97, c98, c99, c100, c101, c102, c103, c104, c105, c106, c107, c108, c109, c110, c111, c112, c113, c114, c115, c116, c117, .slice (some ⟨gs, 0, none⟩) n n, .int .i64 (n : Nat), u120, u121, u122, u123, u124, u125, u126, u127, u128, u129, u130, u131, u132, u133, u134, c135], df⟩ wx) :
    Code.wp Tryd.prog out_loop_code Q0 ⟨#[c0, c1, c2, c3, c4, c5, c6, c7, c8, .map (some bn), c10, c11, c12, c13, c14, c15, c16, .slice none 0 0, c18, c19, c20, c21, c22, c23, c24, c25, c26, c27, c28, c29, c30, c31, c32, c33, c34, c35, c36, c37, c38, c39, c40, c41, c42, c43, c44, c45, c46, c47, c48, c49, c50, c51, c52, c53, c54, c55, c56, c57, c58, c59, c60, c61, c62, c63, c64, c65, c66, c67, c68, c69, c70, c71, c72, c73, c74, c75, c76, c77, c78, c79, c80, c81, c82, c83, c84, c85, c86, c87, c88, c89, c90, c91, c92, c93, c94, c95, c96, c97, c98, c99, c100, c101, c102, c103, c104, c105, c106, c107, c108, c109, c110, c111, c112, c113, c114, c115, c116, c117, .slice (some ⟨gs, 0, none⟩) n n, .int .i64 (n : Nat), .int .i64 0, c121, c122, c123, c124, c125, c126, c127, c128, c129, c130, c131, c132, c133, c134, c135], df⟩ wr := by
  have HE := Lib.hid hexit
  clear hexit
  conv => arg 2; whnf
  dsimp only
  go_loopw [17, 120] (fun vo vi wr => ∃ (k : Nat) (A' : Option Addr) (m c' : Nat), k ≤ n ∧ vi = .int .i64 k ∧ vo = .slice A' m c' ∧ m ≤ k ∧ Hid (m = (Su.outTo R S k).length ∧ Owns W2 wr [⟨.slice A' m c', 65, 2, m, hcells (Su.outTo R S k)⟩])) (fun _ vi _ => n - (intOf vi).toNat)
  case atStart => exact ⟨0, none, 0, 0, Nat.zero_le _, rfl, rfl, Nat.le_refl _, Lib.hid (by rw [Su.outTo_zero]; exact ⟨rfl, HO0.out⟩)⟩
  case round =>
    obtain ⟨k, A', m, c', hk, rfl, rfl, hm, HI⟩ := hrel
    by_cases hlt : k < n
    · have hkS : k < S.length := by rw [HS.out.2]; exact hlt
      have hcell0 := HS.out.1.cell 0 rfl k (u := .bool S[k]) (by simp [hkS])
      have hcell := HI.out.2.ext.cell hcell0
      have hgd : S.getD k false = S[k] := getD_get hkS
      obtain ⟨x, hx⟩ : ∃ x, S[k] = x := ⟨_, rfl⟩
      rw [hx] at hcell hgd
      have HGD := Lib.hid hgd
      clear hx hgd hcell0 hkS
      cases x with
      | false =>
        have HST := Lib.hid (Su.outTo_no (R := R) HGD.out)
        go_wp2_with fail
        clear hcell
        go_roundw
        case rel => exact ⟨k + 1, A', m, c', by omega, by go_num, rfl, by omega, Lib.hid (by rw [HST.out]; exact HI.out)⟩
        case measure => simp [intOf]; omega
      | true =>
        have hst := Su.outTo_yes (R := R) HGD.out
        have hlk := look_int (ownsMap_ext HM.out.1 HI.out.2.ext) HM.out.2 (y := (k : Int)) ⟨by omega, by omega⟩
        obtain ⟨b, hb⟩ : ∃ b, (Su.nextOf R (k : Int)).getD 0 = b := ⟨_, rfl⟩
        rw [hb] at hst hlk
        have HST := Lib.hid hst
        clear hst hb
        go_wp2_with (refine wpl_append_hop (y := ((k : Int), b)) rfl (.tmp 126) (.tmp 132) rfl (HI.out.2.alloc _) 0 rfl rfl rfl (by go_simp) (by go_simp) (by omega) ?_; intro g8 c8 w8 hO8 _)
        have HO8 := Lib.hid hO8
        clear hO8 hlk hcell
        go_roundw
        case rel => exact ⟨k + 1, some ⟨g8, 0, none⟩, m + 1, c8, by omega, by go_num, rfl, by omega, Lib.hid (by
          rw [HST.out]
          exact ⟨by rw [List.length_append, ← HI.out.1]; rfl, HO8.out⟩)⟩
        case measure => simp [intOf]; omega
    · obtain rfl : k = n := by omega
      go_wp2_with fail
      exact HE.out _ _ _ _ _ _ _ _ _ _ _ _ _ _ _ _ _ _ wr ⟨A', m, c', rfl, HI.out.1, HI.out.2⟩

end Go.Proofs.YtenafgphaceidaaDoor

/- THE WALK over Tree of package sums. -/
namespace Su
/-- The hops that are used. -/
def usedF (fuel : Nat) (h : Ha) : List (Int × Int) := if senders h = [] then [] else (walkF (2 ^ (senders h).length) (ways h) fuel (2 ^ (senders h).length - 1) h.tgt.toNat []).getD []
theorem usedF_nil {fuel : Nat} {h : Ha} (hs : senders h = []) : usedF fuel h = [] := if_pos hs
theorem usedF_some {fuel : Nat} {h : Ha} (hs : senders h ≠ []) {U : List (Int × Int)} (hw : walkF (2 ^ (senders h).length) (ways h) fuel (2 ^ (senders h).length - 1) h.tgt.toNat [] = some U) : usedF fuel h = U := by rw [usedF, if_neg hs, hw]; rfl
/-- What Tree returns. -/
def tree (fuel : Nat) (h : Ha) : List (Int × Int) × Int := if (least h).2 ≠ 0 then ([], (least h).2) else (treeOf h (usedF fuel h), 0)
theorem tree_err {fuel : Nat} {h : Ha} (he : (least h).2 ≠ 0) : tree fuel h = ([], (least h).2) := if_pos he
theorem tree_ok {fuel : Nat} {h : Ha} (he : (least h).2 = 0) : tree fuel h = (treeOf h (usedF fuel h), 0) := if_neg (by simp [he])
theorem least_check {h : Ha} (he : (least h).2 = 0) : check h = 0 := by
  by_cases hc : check h = 0
  · exact hc
  · rw [least_err hc] at he
    exact absurd he hc
end Su
namespace Go.Proofs.YtenafgphaceidaaDoor
open Go.RowKit
open Go.Maps (Keyed)
open Go.WideMaps Go.ChangeMaps Go.MapKept Go.WideShapes
/-- What Tree leaves. -/
def TreeOut (res : List (Int × Int) × Int) (w : World) (e : Ending) (w' : World) : Prop :=
  ∃ A n c, e = .returned (.tuple #[.slice A n c, .int .i64 res.2]) ∧ RL w' (.slice A n c) res.1 ∧ Ext w w'
theorem tree_nil {w w' : World} {res : List (Int × Int) × Int} {x : Int} (hr : res = ([], x)) (hx : Ext w w') : TreeOut res w (.returned (.tuple #[.slice none 0 0, .int .i64 x])) w' :=
  ⟨none, 0, 0, by rw [hr], by rw [hr]; exact ⟨none, 0, rfl, by simp, fun i x hi => by simp at hi⟩, hx⟩
/-- A map literal's entry. -/
theorem wpl_insert {H : Type} {P : Program} (w : World) {ops : Array Oper} {rest : List Oper} {o : Oper} {a : Act} {Q : Exit → Act → World → Prop}
    (hg : o.guard = none) (m x v : Operand) (t : TypeId) (hop : o.op = Op.insert t m x v)
    (k e : TypeId) (K : Keyed P k) (ht : P.underlying t = some (.map k e)) (R : Value → Option (DataW H × List MemPlace)) (b n : Nat) (D : DataW H)
    (hm : a.eval m = .map (some b)) (hown : w.ownsMap P k R b n D) (hn : n < maxLen) (key val : Value) (kl : Lit) (hx : a.eval x = key) (hv : a.eval v = val) (hkey : keyOf P k key = some kl)
    (d : DataW H) (ps : List MemPlace) (hval : R val = some (d, ps))
    (hK : ∀ w', w'.ownsMap P k R b (n + 1) (D.put kl d) → w.grownBy w' (some b) → wpList P ops Q rest (a.put o.dst undef) w') :
    wpList P ops Q (o :: rest) a w := by
  refine wpList_plain hg fun K' hK' => ?_
  obtain ⟨w', hrun, r1, r2⟩ := hown.update K ht hn hkey hval
  unfold Oper.wp
  simp [execOp, hop, hm, hx, hv, hrun, Result.andThen]
  exact hK' _ _ (hK w' r1 r2)
/-- The search's things, before the walk through the table. -/
theorem tw_start {w1 w2 : World} {g N' : Nat} {W : List Su.Way} (hO : Owns w1 w2 [wrow g N' W]) (hl : W.length = N' * 12) : TW w2 ((((w2.alloc (.cells #[.slice (some ⟨g, 0, none⟩) N' N'] 74)).alloc (.map #[] 0)).alloc (.cells #[.map (some (w2.heap.size + 1))] 79)).alloc (.cells #[.func (.func 35) #[] #[.pointer (some ⟨w2.heap.size, 0, none⟩), .pointer (some ⟨w2.heap.size + 1 + 1, 0, none⟩), .pointer (some ⟨w2.heap.size + 1 + 1 + 1, 0, none⟩)]] 80)) g N' (w2.heap.size + 1) w2.heap.size (w2.heap.size + 1 + 1) (w2.heap.size + 1 + 1 + 1) W [] where
  ext := ((((Ext.refl w2).alloc _).alloc _).alloc _).alloc _
  ge := by omega
  tab s v hs hv := by
    have hx4 : Ext w2 ((((w2.alloc (.cells #[.slice (some ⟨g, 0, none⟩) N' N'] 74)).alloc (.map #[] 0)).alloc (.cells #[.map (some (w2.heap.size + 1))] 79)).alloc (.cells #[.func (.func 35) #[] #[.pointer (some ⟨w2.heap.size, 0, none⟩), .pointer (some ⟨w2.heap.size + 1 + 1, 0, none⟩), .pointer (some ⟨w2.heap.size + 1 + 1 + 1, 0, none⟩)]] 80)) := ((((Ext.refl w2).alloc _).alloc _).alloc _).alloc _
    have h := ways_at hO hl hs hv
    exact ⟨hx4.cell h.c0, hx4.cell h.c1, hx4.cell h.c2⟩
  p6 := by go_simp
  p7 := by go_simp
  p8 := by go_simp
  own := ⟨.map [], by
    have := World.ownsMap_made (H := Unit) (w2.alloc (.cells #[.slice (some ⟨g, 0, none⟩) N' N'] 74)) Tryd.prog 65 (plainElem Tryd.prog 4)
    have h2 := (this.alloc (.cells #[.map (some (w2.heap.size + 1))] 79)).alloc (.cells #[.func (.func 35) #[] #[.pointer (some ⟨w2.heap.size, 0, none⟩), .pointer (some ⟨w2.heap.size + 1 + 1, 0, none⟩), .pointer (some ⟨w2.heap.size + 1 + 1 + 1, 0, none⟩)]] 80)
    simpa using h2, USays.start⟩
theorem outTo_range {n : Nat} {R : List (Int × Int)} (hn : 0 < n) (h : Su.Known n R) (S : List Bool) : ∀ k, k ≤ n → ∀ x ∈ Su.outTo R S k, (0 ≤ x.1 ∧ x.1 < (n : Int)) ∧ 0 ≤ x.2 ∧ x.2 < (n : Int)
  | 0, _, x, hx => by rw [Su.outTo_zero] at hx; cases hx
  | k + 1, hk, x, hx => by
    cases hs : S.getD k false with
    | true =>
      rw [Su.outTo_yes hs] at hx
      rcases List.mem_append.1 hx with hx | hx
      · exact outTo_range hn h S k (by omega) x hx
      · rw [List.mem_singleton] at hx
        subst hx
        exact ⟨⟨by simp, by simp; omega⟩, next_range hn h _⟩
    | false =>
      rw [Su.outTo_no hs] at hx
      exact outTo_range hn h S k (by omega) x hx
theorem info_bool1 : (Tryd.prog.info? 4).map (fun i => (i.zero, i.size, i.bytes)) = some (some (.bool false), 1, 1) := by kernel_rfl
set_option maxHeartbeats 8000000 in
set_option maxRecDepth 100000 in
theorem uTree_any (fuel : Nat) (h : Su.Ha) (v : Value) (w : World) (hv : RH w v h)
    (hterm : (Su.least h).2 = 0 → Su.senders h ≠ [] → ∃ U, Su.walkF (2 ^ (Su.senders h).length) (Su.ways h) fuel (2 ^ (Su.senders h).length - 1) h.tgt.toNat [] = some U) :
    Calls Tryd.prog 16 #[v] w fun e w' => TreeOut (Su.tree fuel h) w e w' := by
  have hvv := hv
  obtain ⟨A, B, c, d, rfl, hG, hS, hl1, hl2, hb1, hb2⟩ := hv.open
  have hx0 := (Ext.refl w).alloc (.cells #[.slice A h.pr.length c, .slice B h.src.length d, .int .i64 h.tgt] 25)
  have HX0 := Lib.hid hx0
  have HV := Lib.hid (RH.ext _ _ _ _ hx0 hvv)
  clear hv hvv hG hS hx0
  by_cases he : (Su.least h).2 = 0
  case neg =>
    have e1 : ((Su.least h).2 != 0) = true := by rw [bne_iff_ne]; exact he
    have HC := Lib.hid (Su.tree_err (fuel := fuel) he)
    clear he hterm
    go_enter Tryd.func16, Tryd.ntmps16
    go_wp2_with fail
    refine (uLeast_any h _ _ HV.out).mono ?_
    rintro ee w1 ⟨rfl, hx1⟩
    have HX1 := Lib.hid (HX0.out.trans hx1)
    clear hx1
    go_wp2_with fail
    go_ret2
    exact tree_nil HC.out HX1.out
  case pos =>
  have e1 : ((Su.least h).2 != 0) = false := by rw [he]; rfl
  have hc0 := Su.least_check he
  have hk := Su.ok_of hc0
  have HC := Lib.hid (Su.tree_ok (fuel := fuel) he)
  have hterm := hterm he
  obtain ⟨t, ht⟩ : ∃ t : Nat, h.tgt = t := ⟨h.tgt.toNat, by have := hk.tgt; omega⟩
  obtain ⟨n, hn⟩ : ∃ n, h.pr.length = n := ⟨_, rfl⟩
  have htn : t < n := by have := hk.tgt; omega
  have hn12 : n ≤ 12 := by have := hk.few; omega
  have h8 := hk.send
  have hmm : 2 ^ (Su.senders h).length ≤ 256 := Nat.pow_le_pow_right (by decide) h8
  have hpos := Nat.two_pow_pos (Su.senders h).length
  have hlen := Su.waysTo_len h (2 ^ (Su.senders h).length)
  rw [← Su.ways_def] at hlen
  have hnil : Su.senders h = [] ↔ 2 ^ (Su.senders h).length = 1 := by
    constructor
    · intro e; rw [e]; rfl
    · intro e
      rcases Nat.eq_zero_or_pos (Su.senders h).length with h1 | h1
      · exact List.length_eq_zero_iff.1 h1
      · exfalso
        obtain ⟨k, hk⟩ : ∃ k, (Su.senders h).length = k + 1 := ⟨(Su.senders h).length - 1, by omega⟩
        have := Nat.two_pow_pos k
        rw [hk, Nat.pow_succ] at e
        omega
  obtain ⟨N, hN⟩ : ∃ N, 2 ^ (Su.senders h).length = N := ⟨_, rfl⟩
  have hus := Su.usedF_some (fuel := fuel) (h := h)
  rw [hN] at hmm hpos hlen hnil hus
  rw [ht, hN, Int.toNat_natCast] at hterm
  rw [ht, Int.toNat_natCast] at hus
  have HF := Lib.hid (And.intro hlen (And.intro hnil (And.intro hN (And.intro hk (And.intro ht hn)))))
  have HTM := Lib.hid (And.intro hterm hus)
  rw [ht, hn] at HV HX0 ⊢
  have hE := @enters35
  have hmk := @run_makeMap Tryd.prog
  have hsf : ∀ (w : World) (a : Addr) (f : Fn) (cap : Array Value), (store a (.func f #[] cap)).run Tryd.prog w = stored Tryd.prog w a (.func f #[] cap) .plain := fun w a f cap => run_store _ w a _ _ rfl
  clear he hc0 ht hk hlen hnil h8 hterm hus hN hn
  go_enter Tryd.func16, Tryd.ntmps16
  go_wp2_with fail
  refine (uLeast_any h _ _ HV.out).mono ?_
  rintro ee w1 ⟨rfl, hx1⟩
  have d0 : w1.cell? ⟨w.heap.size, 0, none⟩ = some (.slice A n c) := hx1.cell (by go_simp)
  have d1 : w1.cell? ⟨w.heap.size, 1, none⟩ = some (.slice B h.src.length d) := hx1.cell (by go_simp)
  have d2 : w1.cell? ⟨w.heap.size, 2, none⟩ = some (.int .i64 (t : Int)) := hx1.cell (by go_simp)
  have HX1 := Lib.hid hx1
  have HD := Lib.hid (And.intro d0 (And.intro d1 d2))
  clear hx1
  go_wp2_with fail
  clear d0 d1 d2
  refine (uWays_any h _ _ (RH.ext _ _ _ _ HX1.out HV.out) HF.out.2.2.2.1).mono ?_
  rintro ee w2 ⟨g, N', rfl, hN', hO⟩
  obtain rfl : N' = N := by rw [hN', HF.out.2.2.1]
  have HO := Lib.hid hO
  have d0 := hO.ext.cell HD.out.1
  have d1 := hO.ext.cell HD.out.2.1
  have d2 := hO.ext.cell HD.out.2.2
  clear hO hN' e1
  have hx4 : Ext w2 ((((w2.alloc (.cells #[.slice (some ⟨g, 0, none⟩) N' N'] 74)).alloc (.map #[] 0)).alloc (.cells #[.map (some (w2.heap.size + 1))] 79)).alloc (.cells #[.func (.func 35) #[] #[.pointer (some ⟨w2.heap.size, 0, none⟩), .pointer (some ⟨w2.heap.size + 1 + 1, 0, none⟩), .pointer (some ⟨w2.heap.size + 1 + 1 + 1, 0, none⟩)]] 80)) := ((((Ext.refl w2).alloc _).alloc _).alloc _).alloc _
  have hTW := tw_start HO.out HF.out.1
  have c0 := hx4.cell d0
  have c1 := hx4.cell d1
  have c2 := hx4.cell d2
  have HX4 := Lib.hid hx4
  have HTW := Lib.hid hTW
  have HCS := Lib.hid (And.intro d0 (And.intro d1 d2))
  clear hx4 hTW d0 d1 d2
  rcases Nat.lt_or_ge 1 N' with h1 | h1
  · have hs : Su.senders h ≠ [] := fun e => by have := HF.out.2.1.1 e; omega
    obtain ⟨U, hU⟩ := HTM.out.1 hs
    have HUS := Lib.hid (HTM.out.2 hs hU)
    obtain ⟨M, hM⟩ : ∃ M, N' - 1 = M := ⟨_, rfl⟩
    have hM2 : (N' : Int) - 1 = (M : Int) := by omega
    rw [hM] at hU
    have HU := Lib.hid hU
    clear hs hU hM
    go_wp2_with fail
    refine (tree1_any w2 g N' (w2.heap.size + 1) w2.heap.size (w2.heap.size + 1 + 1) (w2.heap.size + 1 + 1 + 1) (Su.ways h) hmm fuel M t [] U _ HU.out HTW.out).mono ?_
    rintro ee w5 ⟨rfl, hT5, hk5⟩
    have HT5 := Lib.hid hT5
    have d0 := hk5 _ _ c0
    have d1 := hk5 _ _ c1
    have d2 := hk5 _ _ c2
    clear hT5 hk5 c0 c1 c2 hM2

    have HMD := Lib.hid (World.ownsMap_made (H := Unit) w5 Tryd.prog 3 (plainElem Tryd.prog 3))
    have hkey := Go.Maps.keyOf_int_mk Tryd.underlying3 (WalkArith.wf_i64 (n := (t : Int)) ⟨by omega, by omega⟩)
    have hwf : (Lit.int .i64 (t : Int)).wf = true := WalkArith.wf_i64 ⟨by omega, by omega⟩
    have x0 : (w5.alloc (.map #[] 0)).cell? ⟨w.heap.size, 0, none⟩ = some (.slice A n c) := ((Ext.refl w5).alloc _).cell d0
    have x1 : (w5.alloc (.map #[] 0)).cell? ⟨w.heap.size, 1, none⟩ = some (.slice B h.src.length d) := ((Ext.refl w5).alloc _).cell d1
    have x2 : (w5.alloc (.map #[] 0)).cell? ⟨w.heap.size, 2, none⟩ = some (.int .i64 (t : Int)) := ((Ext.refl w5).alloc _).cell d2
    have HD5 := Lib.hid (And.intro d0 (And.intro d1 d2))
    clear d0 d1 d2
    go_wp2_with (refine wpl_insert _ rfl _ _ _ 72 rfl 3 3 hopLaw Tryd.underlying72 _ w5.heap.size 0 (.map []) rfl HMD.out (by unfold maxLen; omega) _ _ _ rfl rfl hkey (.lit (.int .i64 (t : Int))) [] (plainElem_int Tryd.underlying3 hwf) ?_; intro w6 hown6 hgrow6; have HM6 := Lib.hid (And.intro hown6 hgrow6); clear hown6 hgrow6; have y2 := grown_cell HMD.out HM6.out.2 x2)
    have hx6 : Ext w5 (w6.alloc (.cells #[.int .i64 (t : Int)] 3)) := (((Ext.refl w5).alloc _).grown HM6.out.2 (fun k hk => by injection hk with hk; rw [← hk]; exact Nat.le_refl _)).alloc _
    have hrow6 : QRow w5 (w6.alloc (.cells #[.int .i64 (t : Int)] 3)) (.slice (some ⟨w6.heap.size, 0, none⟩) 1 1) ((Su.heads 0 [((t : Int), (t : Int))]).map (.int .i64)) := by
      have ho := (Owns.start (L := [no]) w6 (by intro r hr; simp [no] at hr; subst hr; simp)).new 0 #[.int .i64 (t : Int)] 3 (by simp [maxLen])
      have hq := QRow.of_row (w0 := w6) (ho.row 0 rfl) (by simp)
      obtain ⟨g', off', c', e1, e2, e3⟩ := hq
      refine ⟨g', off', c', e1, ?_, e3⟩
      have := ((Ext.refl w5).alloc (.map #[] 0)).size
      have := HM6.out.2.size
      omega
    have hms : MSays ((DataW.map []).put (.int .i64 (t : Int)) (.lit (.int .i64 (t : Int)))) (Su.nextOf [((t : Int), (t : Int))]) := (MSays.start (Su.nextOf []) (fun _ => rfl)).hop ⟨[], rfl⟩ rfl
    have hkn : Su.Known n [((t : Int), (t : Int))] := ⟨by simp, fun x hx => by simp at hx; subst hx; constructor <;> simp <;> omega, fun x hx => by simp at hx; subst hx; constructor <;> simp <;> omega⟩
    have hbf : Su.bfs U n (n + 1) 0 [((t : Int), (t : Int))] = Su.known h U := by unfold Su.known; rw [HF.out.2.2.2.2.1, HF.out.2.2.2.2.2]
    have HB : Hid (∃ f, BRel w5 w5.heap.size n U (Su.known h U) f (.slice (some ⟨w6.heap.size, 0, none⟩) 1 1) (w6.alloc (.cells #[.int .i64 (t : Int)] 3))) :=
      Lib.hid ⟨n + 1, 0, _, Nat.zero_le _, rfl, ⟨hx6, Nat.le_refl _, ⟨_, HM6.out.1.alloc _, hms⟩, hrow6⟩, hkn, hbf⟩
    clear hx6 hrow6 hms hkn hbf hkey hwf x0 x1 x2 y2
    refine bfs_out w5 w2 _ A w.heap.size c g N' (w2.heap.size + 1) w2.heap.size (w2.heap.size + 1 + 1) (w2.heap.size + 1 + 1 + 1) w5.heap.size n _ (Su.ways h) U (Su.known h U) hn12 HD5.out.1 (Lib.hid HD5.out.1) (Lib.hid ⟨HT5.out, trivial⟩) HB _ _ _ _ _ _ _ _ _ _ _ _ _ _ _ _ _ _ _ _ _ _ _ _ _ _ _ _ _ _ _ _ _ _ _ _ _ _ _ _ _ _ _ _ _ _ _ _ _ _ _ _ _ _ _ _ _ _ _ _ _ _ _ _ _ _ _ _ _ _ _ _ _ _ _ _ _ _ _ _ _ _ _ _ _ _ _ _ _ _ _ _ _ _ _ _ _ _ _ _ _ _ _ _ _ _ _ _ _ _ _ _ _ _ _ _ _ _ _ _ _ _ _ _ _ _ _ _ _ _ _ _ _ _ ?_
    rintro u10 u11 u12 u13 u51 u52 u53 u54 u55 u56 u57 u58 u59 u60 u61 u62 u63 u64 u65 u66 u67 u68 u69 u70 u71 u72 u73 u74 u75 u76 u77 u78 u79 u80 u81 u82 u83 u84 u85 u86 u87 u88 wx ⟨q, hbw, hkn⟩
    obtain ⟨D, hD, hms⟩ := hbw.map
    have HM := Lib.hid (And.intro hD (And.intro hms hkn))
    have HX := Lib.hid hbw.ext
    clear hbw hkn hD hms HB HM6 HMD
    obtain ⟨R, hR⟩ : ∃ R, Su.known h U = R := ⟨_, rfl⟩
    rw [hR] at HM
    have HRR := Lib.hid hR
    clear hR
    obtain ⟨bn, hbn⟩ : ∃ bn, w5.heap.size = bn := ⟨_, rfl⟩
    rw [hbn] at HM ⊢
    clear hbn
    have x0 := HX.out.cell HD5.out.1
    have x1 := HX.out.cell HD5.out.2.1
    have x2 := HX.out.cell HD5.out.2.2
    have HDX := Lib.hid (And.intro x0 (And.intro x1 x2))
    obtain ⟨i0, hi, hz0, hz1, hz2⟩ := info_parts info_bool1
    have HZ := Lib.hid hz2
    clear hz2
    go_wp2_with (refine wpList_make_full _ rfl (.tmp 91) (.tmp 91) 81 rfl wx.heap.size 4 i0 (.bool false) 1 Tryd.underlying81 hi hz0 hz1 _ _ _ _ n rfl rfl rfl rfl (by rw [HZ.out]; omega) (by unfold maxLen; omega) (Nat.le_refl _) ?_; intro w7 hown7 hgrow7; have HO7 := Lib.hid (And.intro hown7 hgrow7); clear hown7 hgrow7; have HX7 := Lib.hid ((Ext.refl wx).grown HO7.out.2 (fun k hk => by cases hk)); have z0 := HX7.out.cell HDX.out.1; have z1 := HX7.out.cell HDX.out.2.1; have z2 := HX7.out.cell HDX.out.2.2)
    clear x0 x1 x2 z0 z1 z2 hi hz0 hz1
    have hOw : Owns wx w7 [srow wx.heap.size n (List.replicate n false)] := Owns.single HX7.out (by
      have := HO7.out.1
      have e : (madeCells (Value.bool false).cells (n * 1)).toList = (List.replicate n false).map Value.bool := by
        rw [Nat.mul_one, show (Value.bool false).cells = #[.bool false] from rfl, toList_madeCells_one]
        simp
      rw [e] at this
      exact this)
    have HXA := Lib.hid ((HX1.out.trans HO.out.ext).trans (HT5.out.ext.trans (HX.out.trans HX7.out)))
    refine (uSenders_any h _ _ (RH.ext _ _ _ _ HXA.out HV.out) (fun k hk => Nat.le_trans (Su.send_few HF.out.2.2.2.1.src k hk) (by rw [HF.out.2.2.2.2.2]; exact hn12))).mono ?_
    rintro ee w8 ⟨LA, nl, cl, rfl, hL8, hx8⟩
    have hnl := hL8.len
    have HO8 : Hid (Owns wx w8 [srow wx.heap.size n (Su.marksTo R t (Su.senders h) n 0)]) := Lib.hid (by rw [Su.marksTo_zero]; exact hOw.next hx8)
    have h8 := HF.out.2.2.2.1.send
    have hnl8 : nl ≤ 12 := by omega
    have hrr : ∀ x ∈ Su.senders h, 0 ≤ x ∧ x < (n : Int) := fun x hx => by
      have := HF.out.2.2.2.1.src x ((Su.senders_mem h x).1 hx).2
      rw [HF.out.2.2.2.2.2] at this
      exact this
    have HRG := Lib.hid hrr
    have HL8 := Lib.hid (And.intro hL8 hnl.symm)
    have HX8 := Lib.hid hx8
    clear hOw hL8 hx8 hnl h8 hrr
    go_wp2_with fail
    refine mark_out wx _ w8 LA w.heap.size bn wx.heap.size n nl cl t R (Su.senders h) D hn12 hnl8 (Lib.hid HDX.out.2.2) HL8 HRG HM HO8 rfl _ _ _ _ _ _ _ _ _ _ _ _ _ _ _ _ _ _ _ _ _ _ _ _ _ _ _ _ _ _ _ _ _ _ _ _ _ _ _ _ _ _ _ _ _ _ _ _ _ _ _ _ _ _ _ _ _ _ _ _ _ _ _ _ _ _ _ _ _ _ _ _ _ _ _ _ _ _ _ _ _ _ _ _ _ _ _ _ _ _ _ _ _ _ _ _ _ _ _ _ _ _ _ _ _ _ _ _ _ _ _ _ _ _ _ _ _ _ _ _ _ _ _ _ _ _ _ _ _ _ _ _ ?_
    intro u16 u96 u97 u98 u99 u100 u101 u102 u103 u104 u105 u106 u107 u108 u109 u110 u111 u112 u113 u114 u115 u116 u117 w9 hO9
    have hml := Su.marksTo_len R t (Su.senders h) n nl
    have HO9 := Lib.hid (And.intro hO9 hml)
    have HM9 := Lib.hid (And.intro (ownsMap_ext HM.out.1 hO9.ext) HM.out.2.1)
    clear hO9 hml
    go_wp2_with fail
    refine out_loop wx w9 _ bn wx.heap.size n R (Su.marksTo R t (Su.senders h) n nl) D hn12 HO9 HM9 (Lib.hid (Owns.start _ (by intro r hr; simp at hr; subst hr; simp))) _ _ _ _ _ _ _ _ _ _ _ _ _ _ _ _ _ _ _ _ _ _ _ _ _ _ _ _ _ _ _ _ _ _ _ _ _ _ _ _ _ _ _ _ _ _ _ _ _ _ _ _ _ _ _ _ _ _ _ _ _ _ _ _ _ _ _ _ _ _ _ _ _ _ _ _ _ _ _ _ _ _ _ _ _ _ _ _ _ _ _ _ _ _ _ _ _ _ _ _ _ _ _ _ _ _ _ _ _ _ _ _ _ _ _ _ _ _ _ _ _ _ _ _ _ _ _ _ _ _ _ _ _ ?_
    rintro u17 u18 u19 u120 u121 u122 u123 u124 u125 u126 u127 u128 u129 u130 u131 u132 u133 u134 w10 ⟨A', m, c', rfl, hm, hO10⟩
    have hml := Su.outTo_len R (Su.marksTo R t (Su.senders h) n nl) n
    have htree : Su.treeOf h U = Su.outTo R (Su.marksTo R t (Su.senders h) n nl) n := by
      unfold Su.treeOf
      rw [HRR.out, HF.out.2.2.2.2.1, HF.out.2.2.2.2.2, HL8.out.2]
    have hrl : RL w10 (.slice A' m c') (Su.treeOf h U) := by
      rw [htree]
      exact RL.of_own (hO10.row 0 rfl) hm (by omega) (fun x hx => by
        have := outTo_range (n := n) (by omega) HM.out.2.2 (Su.marksTo R t (Su.senders h) n nl) n (Nat.le_refl _) x hx
        exact ⟨⟨by omega, by omega⟩, by omega, by omega⟩)
    have HEND := Lib.hid (And.intro hrl hO10.ext)
    have HXE := Lib.hid (HX0.out.trans ((HX1.out.trans HO.out.ext).trans (HT5.out.ext.trans (HX.out.trans (HO9.out.1.ext.trans hO10.ext)))))
    clear hm hO10 hml htree hrl
    go_wp2_with fail
    go_ret2
    refine ⟨A', m, c', ret_two rfl (v_int (by rw [HC.out])), ?_, HXE.out⟩
    rw [HC.out, HUS.out]
    exact HEND.out.1
  · have h1' : N' = 1 := by omega
    have HUS := Lib.hid (Su.usedF_nil (fuel := fuel) (HF.out.2.1.2 h1'))
    clear h1'
    go_upto_region 10 with fail
    obtain ⟨w5, hw5⟩ : ∃ w5, ((((w2.alloc (.cells #[.slice (some ⟨g, 0, none⟩) N' N'] 74)).alloc (.map #[] 0)).alloc (.cells #[.map (some (w2.heap.size + 1))] 79)).alloc (.cells #[.func (.func 35) #[] #[.pointer (some ⟨w2.heap.size, 0, none⟩), .pointer (some ⟨w2.heap.size + 1 + 1, 0, none⟩), .pointer (some ⟨w2.heap.size + 1 + 1 + 1, 0, none⟩)]] 80)) = w5 := ⟨_, rfl⟩
    rw [hw5] at HTW c0 c1 c2 ⊢
    have HT5 := HTW
    have d0 := c0
    have d1 := c1
    have d2 := c2
    obtain ⟨U, hUU⟩ : ∃ U : List (Int × Int), [] = U := ⟨_, rfl⟩
    rw [hUU] at HT5 HUS
    clear hw5 c0 c1 c2 hUU HX4 HTW

    have HMD := Lib.hid (World.ownsMap_made (H := Unit) w5 Tryd.prog 3 (plainElem Tryd.prog 3))
    have hkey := Go.Maps.keyOf_int_mk Tryd.underlying3 (WalkArith.wf_i64 (n := (t : Int)) ⟨by omega, by omega⟩)
    have hwf : (Lit.int .i64 (t : Int)).wf = true := WalkArith.wf_i64 ⟨by omega, by omega⟩
    have x0 : (w5.alloc (.map #[] 0)).cell? ⟨w.heap.size, 0, none⟩ = some (.slice A n c) := ((Ext.refl w5).alloc _).cell d0
    have x1 : (w5.alloc (.map #[] 0)).cell? ⟨w.heap.size, 1, none⟩ = some (.slice B h.src.length d) := ((Ext.refl w5).alloc _).cell d1
    have x2 : (w5.alloc (.map #[] 0)).cell? ⟨w.heap.size, 2, none⟩ = some (.int .i64 (t : Int)) := ((Ext.refl w5).alloc _).cell d2
    have HD5 := Lib.hid (And.intro d0 (And.intro d1 d2))
    clear d0 d1 d2
    go_wp2_with (refine wpl_insert _ rfl _ _ _ 72 rfl 3 3 hopLaw Tryd.underlying72 _ w5.heap.size 0 (.map []) rfl HMD.out (by unfold maxLen; omega) _ _ _ rfl rfl hkey (.lit (.int .i64 (t : Int))) [] (plainElem_int Tryd.underlying3 hwf) ?_; intro w6 hown6 hgrow6; have HM6 := Lib.hid (And.intro hown6 hgrow6); clear hown6 hgrow6; have y2 := grown_cell HMD.out HM6.out.2 x2)
    have hx6 : Ext w5 (w6.alloc (.cells #[.int .i64 (t : Int)] 3)) := (((Ext.refl w5).alloc _).grown HM6.out.2 (fun k hk => by injection hk with hk; rw [← hk]; exact Nat.le_refl _)).alloc _
    have hrow6 : QRow w5 (w6.alloc (.cells #[.int .i64 (t : Int)] 3)) (.slice (some ⟨w6.heap.size, 0, none⟩) 1 1) ((Su.heads 0 [((t : Int), (t : Int))]).map (.int .i64)) := by
      have ho := (Owns.start (L := [no]) w6 (by intro r hr; simp [no] at hr; subst hr; simp)).new 0 #[.int .i64 (t : Int)] 3 (by simp [maxLen])
      have hq := QRow.of_row (w0 := w6) (ho.row 0 rfl) (by simp)
      obtain ⟨g', off', c', e1, e2, e3⟩ := hq
      refine ⟨g', off', c', e1, ?_, e3⟩
      have := ((Ext.refl w5).alloc (.map #[] 0)).size
      have := HM6.out.2.size
      omega
    have hms : MSays ((DataW.map []).put (.int .i64 (t : Int)) (.lit (.int .i64 (t : Int)))) (Su.nextOf [((t : Int), (t : Int))]) := (MSays.start (Su.nextOf []) (fun _ => rfl)).hop ⟨[], rfl⟩ rfl
    have hkn : Su.Known n [((t : Int), (t : Int))] := ⟨by simp, fun x hx => by simp at hx; subst hx; constructor <;> simp <;> omega, fun x hx => by simp at hx; subst hx; constructor <;> simp <;> omega⟩
    have hbf : Su.bfs U n (n + 1) 0 [((t : Int), (t : Int))] = Su.known h U := by unfold Su.known; rw [HF.out.2.2.2.2.1, HF.out.2.2.2.2.2]
    have HB : Hid (∃ f, BRel w5 w5.heap.size n U (Su.known h U) f (.slice (some ⟨w6.heap.size, 0, none⟩) 1 1) (w6.alloc (.cells #[.int .i64 (t : Int)] 3))) :=
      Lib.hid ⟨n + 1, 0, _, Nat.zero_le _, rfl, ⟨hx6, Nat.le_refl _, ⟨_, HM6.out.1.alloc _, hms⟩, hrow6⟩, hkn, hbf⟩
    clear hx6 hrow6 hms hkn hbf hkey hwf x0 x1 x2 y2
    refine bfs_out w5 w2 _ A w.heap.size c g N' (w2.heap.size + 1) w2.heap.size (w2.heap.size + 1 + 1) (w2.heap.size + 1 + 1 + 1) w5.heap.size n _ (Su.ways h) U (Su.known h U) hn12 HD5.out.1 (Lib.hid HD5.out.1) (Lib.hid ⟨HT5.out, trivial⟩) HB _ _ _ _ _ _ _ _ _ _ _ _ _ _ _ _ _ _ _ _ _ _ _ _ _ _ _ _ _ _ _ _ _ _ _ _ _ _ _ _ _ _ _ _ _ _ _ _ _ _ _ _ _ _ _ _ _ _ _ _ _ _ _ _ _ _ _ _ _ _ _ _ _ _ _ _ _ _ _ _ _ _ _ _ _ _ _ _ _ _ _ _ _ _ _ _ _ _ _ _ _ _ _ _ _ _ _ _ _ _ _ _ _ _ _ _ _ _ _ _ _ _ _ _ _ _ _ _ _ _ _ _ _ _ ?_
    rintro u10 u11 u12 u13 u51 u52 u53 u54 u55 u56 u57 u58 u59 u60 u61 u62 u63 u64 u65 u66 u67 u68 u69 u70 u71 u72 u73 u74 u75 u76 u77 u78 u79 u80 u81 u82 u83 u84 u85 u86 u87 u88 wx ⟨q, hbw, hkn⟩
    obtain ⟨D, hD, hms⟩ := hbw.map
    have HM := Lib.hid (And.intro hD (And.intro hms hkn))
    have HX := Lib.hid hbw.ext
    clear hbw hkn hD hms HB HM6 HMD
    obtain ⟨R, hR⟩ : ∃ R, Su.known h U = R := ⟨_, rfl⟩
    rw [hR] at HM
    have HRR := Lib.hid hR
    clear hR
    obtain ⟨bn, hbn⟩ : ∃ bn, w5.heap.size = bn := ⟨_, rfl⟩
    rw [hbn] at HM ⊢
    clear hbn
    have x0 := HX.out.cell HD5.out.1
    have x1 := HX.out.cell HD5.out.2.1
    have x2 := HX.out.cell HD5.out.2.2
    have HDX := Lib.hid (And.intro x0 (And.intro x1 x2))
    obtain ⟨i0, hi, hz0, hz1, hz2⟩ := info_parts info_bool1
    have HZ := Lib.hid hz2
    clear hz2
    go_wp2_with (refine wpList_make_full _ rfl (.tmp 91) (.tmp 91) 81 rfl wx.heap.size 4 i0 (.bool false) 1 Tryd.underlying81 hi hz0 hz1 _ _ _ _ n rfl rfl rfl rfl (by rw [HZ.out]; omega) (by unfold maxLen; omega) (Nat.le_refl _) ?_; intro w7 hown7 hgrow7; have HO7 := Lib.hid (And.intro hown7 hgrow7); clear hown7 hgrow7; have HX7 := Lib.hid ((Ext.refl wx).grown HO7.out.2 (fun k hk => by cases hk)); have z0 := HX7.out.cell HDX.out.1; have z1 := HX7.out.cell HDX.out.2.1; have z2 := HX7.out.cell HDX.out.2.2)
    clear x0 x1 x2 z0 z1 z2 hi hz0 hz1
    have hOw : Owns wx w7 [srow wx.heap.size n (List.replicate n false)] := Owns.single HX7.out (by
      have := HO7.out.1
      have e : (madeCells (Value.bool false).cells (n * 1)).toList = (List.replicate n false).map Value.bool := by
        rw [Nat.mul_one, show (Value.bool false).cells = #[.bool false] from rfl, toList_madeCells_one]
        simp
      rw [e] at this
      exact this)
    have HXA := Lib.hid ((HX1.out.trans HO.out.ext).trans (HT5.out.ext.trans (HX.out.trans HX7.out)))
    refine (uSenders_any h _ _ (RH.ext _ _ _ _ HXA.out HV.out) (fun k hk => Nat.le_trans (Su.send_few HF.out.2.2.2.1.src k hk) (by rw [HF.out.2.2.2.2.2]; exact hn12))).mono ?_
    rintro ee w8 ⟨LA, nl, cl, rfl, hL8, hx8⟩
    have hnl := hL8.len
    have HO8 : Hid (Owns wx w8 [srow wx.heap.size n (Su.marksTo R t (Su.senders h) n 0)]) := Lib.hid (by rw [Su.marksTo_zero]; exact hOw.next hx8)
    have h8 := HF.out.2.2.2.1.send
    have hnl8 : nl ≤ 12 := by omega
    have hrr : ∀ x ∈ Su.senders h, 0 ≤ x ∧ x < (n : Int) := fun x hx => by
      have := HF.out.2.2.2.1.src x ((Su.senders_mem h x).1 hx).2
      rw [HF.out.2.2.2.2.2] at this
      exact this
    have HRG := Lib.hid hrr
    have HL8 := Lib.hid (And.intro hL8 hnl.symm)
    have HX8 := Lib.hid hx8
    clear hOw hL8 hx8 hnl h8 hrr
    go_wp2_with fail
    refine mark_out wx _ w8 LA w.heap.size bn wx.heap.size n nl cl t R (Su.senders h) D hn12 hnl8 (Lib.hid HDX.out.2.2) HL8 HRG HM HO8 rfl _ _ _ _ _ _ _ _ _ _ _ _ _ _ _ _ _ _ _ _ _ _ _ _ _ _ _ _ _ _ _ _ _ _ _ _ _ _ _ _ _ _ _ _ _ _ _ _ _ _ _ _ _ _ _ _ _ _ _ _ _ _ _ _ _ _ _ _ _ _ _ _ _ _ _ _ _ _ _ _ _ _ _ _ _ _ _ _ _ _ _ _ _ _ _ _ _ _ _ _ _ _ _ _ _ _ _ _ _ _ _ _ _ _ _ _ _ _ _ _ _ _ _ _ _ _ _ _ _ _ _ _ ?_
    intro u16 u96 u97 u98 u99 u100 u101 u102 u103 u104 u105 u106 u107 u108 u109 u110 u111 u112 u113 u114 u115 u116 u117 w9 hO9
    have hml := Su.marksTo_len R t (Su.senders h) n nl
    have HO9 := Lib.hid (And.intro hO9 hml)
    have HM9 := Lib.hid (And.intro (ownsMap_ext HM.out.1 hO9.ext) HM.out.2.1)
    clear hO9 hml
    go_wp2_with fail
    refine out_loop wx w9 _ bn wx.heap.size n R (Su.marksTo R t (Su.senders h) n nl) D hn12 HO9 HM9 (Lib.hid (Owns.start _ (by intro r hr; simp at hr; subst hr; simp))) _ _ _ _ _ _ _ _ _ _ _ _ _ _ _ _ _ _ _ _ _ _ _ _ _ _ _ _ _ _ _ _ _ _ _ _ _ _ _ _ _ _ _ _ _ _ _ _ _ _ _ _ _ _ _ _ _ _ _ _ _ _ _ _ _ _ _ _ _ _ _ _ _ _ _ _ _ _ _ _ _ _ _ _ _ _ _ _ _ _ _ _ _ _ _ _ _ _ _ _ _ _ _ _ _ _ _ _ _ _ _ _ _ _ _ _ _ _ _ _ _ _ _ _ _ _ _ _ _ _ _ _ _ ?_
    rintro u17 u18 u19 u120 u121 u122 u123 u124 u125 u126 u127 u128 u129 u130 u131 u132 u133 u134 w10 ⟨A', m, c', rfl, hm, hO10⟩
    have hml := Su.outTo_len R (Su.marksTo R t (Su.senders h) n nl) n
    have htree : Su.treeOf h U = Su.outTo R (Su.marksTo R t (Su.senders h) n nl) n := by
      unfold Su.treeOf
      rw [HRR.out, HF.out.2.2.2.2.1, HF.out.2.2.2.2.2, HL8.out.2]
    have hrl : RL w10 (.slice A' m c') (Su.treeOf h U) := by
      rw [htree]
      exact RL.of_own (hO10.row 0 rfl) hm (by omega) (fun x hx => by
        have := outTo_range (n := n) (by omega) HM.out.2.2 (Su.marksTo R t (Su.senders h) n nl) n (Nat.le_refl _) x hx
        exact ⟨⟨by omega, by omega⟩, by omega, by omega⟩)
    have HEND := Lib.hid (And.intro hrl hO10.ext)
    have HXE := Lib.hid (HX0.out.trans ((HX1.out.trans HO.out.ext).trans (HT5.out.ext.trans (HX.out.trans (HO9.out.1.ext.trans hO10.ext)))))
    clear hm hO10 hml htree hrl
    go_wp2_with fail
    go_ret2
    refine ⟨A', m, c', ret_two rfl (v_int (by rw [HC.out])), ?_, HXE.out⟩
    rw [HC.out, HUS.out]
    exact HEND.out.1
end Go.Proofs.YtenafgphaceidaaDoor

/- THE WALKS over Combine of package gf. -/
namespace Go.Proofs.YtenafgphaceidaaDoor
open Go.RowKit

/-- Combine's closure: the byte at one place of the combination. -/
theorem comb1_any (k P1 P2 : Nat) (coef : List UInt8) (parts : List (List UInt8)) (A B : Option Addr) (n ca cb : Nat) (w : World) (hT : Tab w) (hn : n = coef.length) (hn' : n = parts.length)
    (hl : n ≤ 140737488351232) (hk : ∀ i, i < n → k < (parts.getD i []).length)
    (h1 : w.cell? ⟨P1, 0, none⟩ = some (.slice A n ca)) (h2 : w.cell? ⟨P2, 0, none⟩ = some (.slice B n cb)) (hA : Rd w A (coef.map bv)) (hB : Rd w B (parts.map fun p => .string (sb p))) :
    Calls Tryd.prog 42 #[.int .i64 k, .pointer (some ⟨P1, 0, none⟩), .pointer (some ⟨P2, 0, none⟩)] w fun e w' => e = .returned (bv (Gf.comb coef parts k coef.length)) ∧ Ext w w' := by
  have HT := Lib.hid hT
  have HA := Lib.hid hA
  have HB := Lib.hid hB
  have HK := Lib.hid hk
  have HN := Lib.hid (And.intro hn hn')
  clear hT hA hB hk hn hn'
  go_enter Tryd.func42, Tryd.ntmps42
  go_wp2_with fail
  go_loop [5, 10] (fun vx vi => ∃ i : Nat, i ≤ n ∧ vi = .int .i64 i ∧ vx = bv (Gf.comb coef parts k i)) (fun _ vi => n - (intOf vi).toNat)
  case atStart => exact ⟨0, Nat.zero_le _, rfl, rfl⟩
  case round =>
    obtain ⟨i, hi, rfl, rfl⟩ := hrel
    by_cases hlt : i < n
    · have hlc : i < coef.length := by rw [← HN.out.1]; exact hlt
      have hlp : i < parts.length := by rw [← HN.out.2]; exact hlt
      obtain ⟨ad, rfl, _, ha⟩ := HA.out.at (k := i) (by simpa using hlc)
      obtain ⟨bd, rfl, _, hb⟩ := HB.out.at (k := i) (by simpa using hlp)
      rw [List.getElem_map] at ha hb
      have hkk : k < (sb parts[i]).size := by
        have := HK.out i hlt
        rw [List.getD_eq_getElem?_getD, List.getElem?_eq_getElem hlp] at this
        simpa using this
      have hstep : Gf.comb coef parts k (i + 1) = Gf.comb coef parts k i ^^^ Gf.mul coef[i] ((sb parts[i])[k]'hkk) := by
        rw [Gf.comb, get_bl, List.getD_eq_getElem?_getD, List.getElem?_eq_getElem hlc, List.getD_eq_getElem?_getD (l := parts), List.getElem?_eq_getElem hlp, List.getD_eq_getElem?_getD]
        simp only [Option.getD_some]
        rw [List.getElem?_eq_getElem (by simpa using hkk)]
        rfl
      have hx : bits .xor .u8 ((Gf.comb coef parts k i).toNat : Int) ((Gf.mul coef[i] ((sb parts[i])[k]'hkk)).toNat : Int) = ((Gf.comb coef parts k (i + 1)).toNat : Int) := by
        rw [u8_xor_nat _ _ (Gf.lt8 _) (Gf.lt8 _), hstep, UInt8.toNat_xor]
      have HX := Lib.hid hx
      clear hx hstep
      go_wp2_with fail
      refine (mul_u8 _ _ _ HT.out).mono ?_
      rintro e w' ⟨rfl, rfl⟩
      go_wp2_with fail
      go_round
      case rel => exact ⟨i + 1, by omega, by go_num, by rw [HX.out]⟩
      case measure => simp [intOf]; omega
    · obtain rfl : i = n := by omega
      have HI := Lib.hid HN.out.1
      go_wp2_with fail
      go_ret
      exact ⟨by rw [← HI.out]; rfl, Ext.refl _⟩

theorem enters42 : ∀ args w, (callFunc 42 args).run Tryd.prog w = .ok (.enter 42 args) w := enters_of Tryd.func42 (by kernel_rfl) rfl

theorem combine_ne (A B : Option Addr) (n m ca cb : Nat) (w : World) (hne : n ≠ m) :
    Calls Tryd.prog 21 #[.slice A n ca, .slice B m cb] w fun e w' => e = .returned (.tuple #[.string (sb []), .int .i64 1]) ∧ Ext w w' := by
  have h1 : ((n : Int) != (m : Int)) = true := by rw [bne_iff_ne]; omega
  clear hne
  go_enter Tryd.func21, Tryd.ntmps21
  go_wp2_with fail
  go_ret2
  exact ⟨rfl, ((Ext.refl _).alloc _).alloc _⟩
/-- The length that Combine has taken after i parts. -/
def headN (parts : List (List UInt8)) (i : Nat) : Nat := if i = 0 then 0 else (parts.headD []).length
theorem combine_eq (coef : List UInt8) (parts : List (List UInt8)) (A B : Option Addr) (n ca cb : Nat) (w : World) (hT : Tab w) (hn : n = coef.length) (hn' : n = parts.length)
    (hl : n ≤ 140737488351232) (hs : ∀ p ∈ parts, p.length ≤ 140737488351232) (hA : Rd w A (coef.map bv)) (hB : Rd w B (parts.map fun p => .string (sb p))) :
    Calls Tryd.prog 21 #[.slice A n ca, .slice B n cb] w fun e w' => e = .returned (.tuple #[.string (sb (Gf.combS coef parts)), .int .i64 (Gf.combE coef parts)]) ∧ Ext w w' := by
  have HT := Lib.hid hT
  have HA := Lib.hid hA
  have HB := Lib.hid hB
  have HS := Lib.hid hs
  have HN := Lib.hid (And.intro hn hn')
  clear hT hA hB hs hn hn'
  go_enter Tryd.func21, Tryd.ntmps21
  go_wp2_with fail
  have hW : Ext w ((w.alloc (.cells #[.slice A n ca] 44)).alloc (.cells #[.slice B n cb] 45)) := ((Ext.refl w).alloc _).alloc _
  have HW := Lib.hid hW
  clear hW
  go_loop [6, 16] (fun vn vi => ∃ i : Nat, i ≤ n ∧ vi = .int .i64 i ∧ vn = .int .i64 (headN parts i : Nat) ∧ Hid (∀ j, j < i → (parts.getD j []).length = (parts.headD []).length)) (fun _ vi => n - (intOf vi).toNat)
  case atStart => exact ⟨0, Nat.zero_le _, rfl, rfl, fun j hj => absurd hj (by omega)⟩
  case round =>
    obtain ⟨i, hi, rfl, rfl, HJ⟩ := hrel
    by_cases hlt : i < n
    · have hlp : i < parts.length := by rw [← HN.out.2]; exact hlt
      obtain ⟨bd, rfl, _, hb⟩ := (HB.out.ext HW.out).at (k := i) (by simpa using hlp)
      rw [List.getElem_map] at hb
      have hsz : parts[i].length ≤ 140737488351232 := HS.out _ (List.getElem_mem _)
      have hgd : parts.getD i [] = parts[i] := by rw [List.getD_eq_getElem?_getD, List.getElem?_eq_getElem hlp]; rfl
      have HG := Lib.hid hgd
      clear hgd
      by_cases h0 : i = 0
      · subst h0
        have hb0 : ((w.alloc (.cells #[.slice A n ca] 44)).alloc (.cells #[.slice (some bd) n cb] 45)).cell? bd = some (.string (sb parts[0])) := hb
        have hh : (parts.headD []).length = parts[0].length := by
          cases parts with
          | nil => simp at hlp
          | cons a l => rfl
        have HH := Lib.hid hh
        clear hh
        go_wp2_with fail
        go_round
        case rel => exact ⟨1, by omega, by go_num, by rw [headN, if_neg (by omega), HH.out], fun j hj => by
          obtain rfl : j = 0 := by omega
          rw [HH.out, HG.out]⟩
        case measure => simp [intOf]; omega
      · have hn0 : headN parts i = (parts.headD []).length := if_neg h0
        have HN0 := Lib.hid hn0
        clear hn0
        by_cases he : parts[i].length = (parts.headD []).length
        · have e1 : ((parts[i].length : Int) != (headN parts i : Int)) = false := by
            rw [HN0.out, he]; simp
          have e2 : ((i : Int) == 0) = false := by rw [beq_eq_false_iff_ne]; omega
          have HE := Lib.hid he
          have H0 := Lib.hid h0
          clear he h0
          go_wp2_with fail
          go_round
          case rel => exact ⟨i + 1, by omega, by go_num, by rw [HN0.out, headN, if_neg (by omega)], fun j hj => by
            by_cases hji : j = i
            · rw [hji, HG.out, HE.out]
            · exact HJ.out j (by omega)⟩
          case measure => simp [intOf]; omega
        · have e1 : ((parts[i].length : Int) != (headN parts i : Int)) = true := by
            rw [HN0.out, bne_iff_ne]; omega
          have e2 : ((i : Int) == 0) = false := by rw [beq_eq_false_iff_ne]; omega
          have hno : Gf.combOk coef parts = false := by
            rw [Bool.eq_false_iff]
            intro h
            unfold Gf.combOk at h
            rw [Bool.and_eq_true, List.all_eq_true] at h
            exact he (by simpa using h.2 _ (List.getElem_mem hlp))
          have HO := Lib.hid hno
          clear he h0 hno
          go_wp2_with fail
          go_ret2
          exact ⟨by rw [Gf.combS_no HO.out, Gf.combE_no HO.out]; rfl, HW.out⟩
    · obtain rfl : i = n := by omega
      have hok : Gf.combOk coef parts = true := by
        unfold Gf.combOk
        rw [Bool.and_eq_true, List.all_eq_true]
        refine ⟨by simp [← HN.out.1, ← HN.out.2], fun p hp => ?_⟩
        obtain ⟨j, hj, rfl⟩ := List.getElem_of_mem hp
        have := HJ.out j (by rw [HN.out.2]; exact hj)
        rw [List.getD_eq_getElem?_getD, List.getElem?_eq_getElem hj] at this
        simpa using this
      have hhd : headN parts i = (parts.headD []).length := by
        unfold headN
        split
        · rename_i h
          have := HN.out.2
          rw [h] at this
          cases parts with
          | nil => rfl
          | cons a l => simp at this
        · rfl
      have hle : headN parts i ≤ 140737488351232 := by
        rw [hhd]
        cases parts with
        | nil => simp
        | cons a l => exact HS.out a (by simp)
      have HO := Lib.hid hok
      have HD := Lib.hid hhd
      clear hok hhd
      go_wp2_with fail
      refine (build_any (headN parts i) hle _ _ (fun k => Gf.comb coef parts k coef.length) _ enters42 ?_).mono ?_
      · intro k hk w' hx
        refine comb1_any k _ _ coef parts A B i ca cb w' ((HT.out.ext HW.out).ext hx) HN.out.1 HN.out.2 hl (fun j hj => ?_) (hx.cell (by go_simp)) (hx.cell (by go_simp)) ((HA.out.ext HW.out).ext hx) ((HB.out.ext HW.out).ext hx)
        rw [HJ.out j hj, ← HD.out]
        exact hk
      rintro e w1 ⟨rfl, hx⟩
      go_wp2_with fail
      go_ret2
      refine ⟨?_, HW.out.trans hx⟩
      rw [Gf.combS_ok HO.out, Gf.combE_ok HO.out, Gf.combine, ← HD.out]
      rfl
/-- What Combine returns. -/
theorem combine_any (coef : List UInt8) (parts : List (List UInt8)) (A B : Option Addr) (n m ca cb : Nat) (w : World) (hT : Tab w) (hn : n = coef.length) (hm : m = parts.length)
    (hl : n ≤ 140737488351232) (hs : ∀ p ∈ parts, p.length ≤ 140737488351232) (hA : Rd w A (coef.map bv)) (hB : Rd w B (parts.map fun p => .string (sb p))) :
    Calls Tryd.prog 21 #[.slice A n ca, .slice B m cb] w fun e w' => e = .returned (.tuple #[.string (sb (Gf.combS coef parts)), .int .i64 (Gf.combE coef parts)]) ∧ Ext w w' := by
  by_cases h : n = m
  · subst h
    exact combine_eq coef parts A B n ca cb w hT hn hm hl hs hA hB
  · have h' := Gf.combOk_ne (coef := coef) (parts := parts) (by omega)
    rw [Gf.combS_no h', Gf.combE_no h']
    exact combine_ne A B n m ca cb w h
end Go.Proofs.YtenafgphaceidaaDoor

/- A DRAWN REGION BY AN INVARIANT, with slots that it reads and writes. -/
namespace Go.Proofs.YtenafgphaceidaaDoor
open Go.RowKit
/-- As Inv, and a slot whose operation is not done is as it was. -/
structure InvO (dsts : List (Option Nat)) (vals : List Value) (a0 : Act) (L : Nat → Bool) (a : Act) : Prop where
  inv : Inv dsts vals a0 L a
  old : ∀ i t, dsts[i]? = some (some t) → L i = false → a.eval (.tmp t) = a0.eval (.tmp t)
theorem InvO.start {dsts : List (Option Nat)} {vals : List Value} {a0 : Act} : InvO dsts vals a0 (fun _ => false) a0 := ⟨Inv.start, fun _ _ _ _ => rfl⟩
theorem InvO.put {dsts : List (Option Nat)} {vals : List Value} {a0 a : Act} {L : Nat → Bool} (h : InvO dsts vals a0 L a) (hap : apartD dsts = true) (i : Nat) {d : Nat} {v : Value} (hd : dsts[i]? = some (some d)) (hds : d < a0.tmps.size) (hi : i < vals.length) {vals' : List Value} (hv : vals' = vals.set i v) : InvO dsts vals' a0 (upd L i) (a.put (some d) v) := by
  refine ⟨h.inv.put hap i hd hds hi hv, ?_⟩
  intro j t hj hL
  unfold upd at hL
  split at hL
  · cases hL
  · rename_i hji
    rw [eval_put_ne]
    · exact h.old j t hj hL
    · rintro rfl
      exact hji (apartD_spec hap hj hd)
theorem InvO.reset {dsts : List (Option Nat)} {vals : List Value} {a0 a : Act} {L : Nat → Bool} (h : InvO dsts vals a0 L a) (i : Nat) (hL : L i = false) (v : Value) : InvO dsts (vals.set i v) a0 L a := ⟨h.inv.reset i hL v, h.old⟩
theorem InvO.get {dsts : List (Option Nat)} {vals : List Value} {a0 a : Act} {L : Nat → Bool} (h : InvO dsts vals a0 L a) (i : Nat) {d : Nat} {v : Value} (hd : dsts[i]? = some (some d)) (hv : vals[i]? = some v) (hL : L i = true) : a.eval (.tmp d) = v := h.inv.get i hd hv hL
theorem InvO.fixed {dsts : List (Option Nat)} {vals : List Value} {a0 a : Act} {L : Nat → Bool} (h : InvO dsts vals a0 L a) (t : Nat) (ht : dsts.contains (some t) = false) : a.eval (.tmp t) = a0.eval (.tmp t) := h.inv.fixed t ht
theorem InvO.size {dsts : List (Option Nat)} {vals : List Value} {a0 a : Act} {L : Nat → Bool} (h : InvO dsts vals a0 L a) : a.tmps.size = a0.tmps.size := h.inv.size
theorem InvO.defers {dsts : List (Option Nat)} {vals : List Value} {a0 a : Act} {L : Nat → Bool} (h : InvO dsts vals a0 L a) : a.defers = a0.defers := h.inv.defers
end Go.Proofs.YtenafgphaceidaaDoor

/- THE DRAWN REGION OF Carry's closure. -/
namespace Go.Proofs.YtenafgphaceidaaDoor
open Go.RowKit
theorem ent_scale : ∀ args w, (callFunc 39 args).run Tryd.prog w = .ok (.enter 39 args) w := enters_of Tryd.func39 (by kernel_rfl) rfl
theorem ent_sum : ∀ args w, (callFunc 38 args).run Tryd.prog w = .ok (.enter 38 args) w := enters_of Tryd.func38 (by kernel_rfl) rfl
noncomputable def carry_part_code : Code := ((Tryd.f37.body.bind (regionOf 6)).getD .skip)
def carry_part_dsts : List (Option Nat) := [some 29, some 30, some 31, some 32, some 33, some 34, some 35, some 36, some 37, some 38, some 39, some 9]
theorem carry_part_apart : apartD carry_part_dsts = true := by decide +kernel
set_option maxRecDepth 1000000 in
set_option maxHeartbeats 16000000 in
theorem carry_part (wr : World) (P3 P4 n m cc cp k : Nat) (ac ap : Addr) (x : UInt8) (y Z : List UInt8) (hkn : k < n) (hkm : k < m) (hy : y.length ≤ 140737488351232) (hZ : Z.length ≤ 140737488351232) (HT : Hid (Tab wr)) (p3 : wr.cell? ⟨P3, 0, none⟩ = some (.slice (some ac) n cc)) (p4 : wr.cell? ⟨P4, 0, none⟩ = some (.slice (some ap) m cp)) (cx : wr.cell? (ac.add k) = some (bv x)) (cy : wr.cell? (ap.add k) = some (.string (sb y))) (c0 c1 c2 c5 c6 c7 c8 c11 c12 c13 c14 c15 c16 c17 c18 c19 c20 c21 c22 c23 c24 c25 c26 c27 c28 c29 c30 c31 c32 c33 c34 c35 c36 c37 c38 c39 c40 c41 c42 c43 c44 c45 c46 c47 c48 c49 c50 c51 c52 c53 c54 c55 c56 c57 c58 : Value) (df : List Deferred) (K : Act → World → Prop)
    (hK : ∀  (u29 u30 u31 u32 u33 u34 u35 u36 u37 u38 u39 : Value) (wx : World), Ext wr wx → K ⟨#[c0, c1, c2, .pointer (some ⟨P3, 0, none⟩), .pointer (some ⟨P4, 0, none⟩), c5, c6, c7, c8, .string (sb (Gf.sum Z (Gf.scale x y))), .int .i64 k, c11, c12, c13, c14, c15, c16, c17, c18, c19, c20, c21, c22, c23, c24, c25, c26, c27, c28, u29, u30, u31, u32, u33, u34, u35, u36, u37, u38, u39, c40, c41, c42, c43, c44, c45, c46, c47, c48, c49, c50, c51, c52, c53, c54, c55, c56, c57, c58], df⟩ wx) :
    Code.wp Tryd.prog carry_part_code (AtEnd K) ⟨#[c0, c1, c2, .pointer (some ⟨P3, 0, none⟩), .pointer (some ⟨P4, 0, none⟩), c5, c6, c7, c8, .string (sb Z), .int .i64 k, c11, c12, c13, c14, c15, c16, c17, c18, c19, c20, c21, c22, c23, c24, c25, c26, c27, c28, c29, c30, c31, c32, c33, c34, c35, c36, c37, c38, c39, c40, c41, c42, c43, c44, c45, c46, c47, c48, c49, c50, c51, c52, c53, c54, c55, c56, c57, c58], df⟩ wr := by
  conv => arg 2; whnf
  refine region_inv (by kernel_rfl) [[], [], [], [1, 2], [3], [], [], [5, 6], [7], [4, 8], [0, 9, 9], [10, 10, 0, 1, 2, 3, 4, 5, 6, 7, 8, 9, 10]] (by kernel_rfl) [0, 1, 2, 3, 4, 5, 6, 7, 8, 9, 10, 11] (by decide +kernel) (by decide +kernel) (by decide +kernel) (fun L a wc => InvO carry_part_dsts [.string (sb Z), .slice (some ac) n cc, .int .i64 k, .pointer (some (ac.add k)), bv x, .slice (some ap) m cp, .int .i64 k, .pointer (some (ap.add k)), .string (sb y), .string (sb (Gf.scale x y)), .string (sb (Gf.sum Z (Gf.scale x y))), .string (sb (Gf.sum Z (Gf.scale x y)))] ⟨#[c0, c1, c2, .pointer (some ⟨P3, 0, none⟩), .pointer (some ⟨P4, 0, none⟩), c5, c6, c7, c8, .string (sb Z), .int .i64 k, c11, c12, c13, c14, c15, c16, c17, c18, c19, c20, c21, c22, c23, c24, c25, c26, c27, c28, c29, c30, c31, c32, c33, c34, c35, c36, c37, c38, c39, c40, c41, c42, c43, c44, c45, c46, c47, c48, c49, c50, c51, c52, c53, c54, c55, c56, c57, c58], df⟩ L a ∧ Hid (Ext wr wc)) ⟨InvO.start, Lib.hid ((Ext.refl wr).drew)⟩ ?_ ?_
  · refine ⟨?_, ?_, ?_, ?_, ?_, ?_, ?_, ?_, ?_, ?_, ?_, ?_, trivial⟩
    · -- 0 move
      rintro L a wc ⟨hv, HO⟩ hL hc hd
      exact wpOp_val rfl rfl (ex_move rfl ((hv.old 11 9 rfl (Bool.eq_false_iff.2 fun h => Bool.false_ne_true (hL.symm.trans (hc 11 h 0 (by decide))))).trans rfl)) ⟨hv.put carry_part_apart 0 rfl (Nat.le_of_ble_eq_true rfl) (Nat.le_of_ble_eq_true rfl) rfl, HO⟩
    · -- 1 load
      rintro L a wc ⟨hv, HO⟩ hL hc hd
      have e3 : wc.cell? ⟨P3, 0, none⟩ = some (.slice (some ac) n cc) := HO.out.cell p3
      exact wpOp_val rfl rfl (ex_load rfl ((hv.fixed 3 (by decide)).trans rfl) (by go_simp)) ⟨hv.put carry_part_apart 1 rfl (Nat.le_of_ble_eq_true rfl) (Nat.le_of_ble_eq_true rfl) rfl, HO⟩
    · -- 2 move
      rintro L a wc ⟨hv, HO⟩ hL hc hd
      exact wpOp_val rfl rfl (ex_move rfl ((hv.fixed 10 (by decide)).trans rfl)) ⟨hv.put carry_part_apart 2 rfl (Nat.le_of_ble_eq_true rfl) (Nat.le_of_ble_eq_true rfl) rfl, HO⟩
    · -- 3 index
      rintro L a wc ⟨hv, HO⟩ hL hc hd
      have b1 : (0 : Int) ≤ (k : Int) := by omega
      have b2 : (k : Int) < (n : Int) := by omega
      exact wpOp_val rfl rfl (ex_index rfl (hv.get 1 rfl rfl (hd 1 (by decide))) (hv.get 2 rfl rfl (hd 2 (by decide))) (by go_simp)) ⟨hv.put carry_part_apart 3 rfl (Nat.le_of_ble_eq_true rfl) (Nat.le_of_ble_eq_true rfl) rfl, HO⟩
    · -- 4 load
      rintro L a wc ⟨hv, HO⟩ hL hc hd
      have eX : wc.cell? (ac.add k) = some (bv x) := HO.out.cell cx
      exact wpOp_val rfl rfl (ex_load rfl (hv.get 3 rfl rfl (hd 3 (by decide))) (by go_simp)) ⟨hv.put carry_part_apart 4 rfl (Nat.le_of_ble_eq_true rfl) (Nat.le_of_ble_eq_true rfl) rfl, HO⟩
    · -- 5 load
      rintro L a wc ⟨hv, HO⟩ hL hc hd
      have e4 : wc.cell? ⟨P4, 0, none⟩ = some (.slice (some ap) m cp) := HO.out.cell p4
      exact wpOp_val rfl rfl (ex_load rfl ((hv.fixed 4 (by decide)).trans rfl) (by go_simp)) ⟨hv.put carry_part_apart 5 rfl (Nat.le_of_ble_eq_true rfl) (Nat.le_of_ble_eq_true rfl) rfl, HO⟩
    · -- 6 move
      rintro L a wc ⟨hv, HO⟩ hL hc hd
      exact wpOp_val rfl rfl (ex_move rfl ((hv.fixed 10 (by decide)).trans rfl)) ⟨hv.put carry_part_apart 6 rfl (Nat.le_of_ble_eq_true rfl) (Nat.le_of_ble_eq_true rfl) rfl, HO⟩
    · -- 7 index
      rintro L a wc ⟨hv, HO⟩ hL hc hd
      have b1 : (0 : Int) ≤ (k : Int) := by omega
      have b2 : (k : Int) < (m : Int) := by omega
      exact wpOp_val rfl rfl (ex_index rfl (hv.get 5 rfl rfl (hd 5 (by decide))) (hv.get 6 rfl rfl (hd 6 (by decide))) (by go_simp)) ⟨hv.put carry_part_apart 7 rfl (Nat.le_of_ble_eq_true rfl) (Nat.le_of_ble_eq_true rfl) rfl, HO⟩
    · -- 8 load
      rintro L a wc ⟨hv, HO⟩ hL hc hd
      have eY : wc.cell? (ap.add k) = some (.string (sb y)) := HO.out.cell cy
      exact wpOp_val rfl rfl (ex_load rfl (hv.get 7 rfl rfl (hd 7 (by decide))) (by go_simp)) ⟨hv.put carry_part_apart 8 rfl (Nat.le_of_ble_eq_true rfl) (Nat.le_of_ble_eq_true rfl) rfl, HO⟩
    · -- 9 call
      rintro L a wc ⟨hv, HO⟩ hL hc hd
      refine wpOp_call (R := fun v w1 => v = .string (sb (Gf.scale x y)) ∧ Ext wc w1) rfl rfl (ex_call rfl rfl (map2c (hv.get 4 rfl rfl (hd 4 (by decide))) (hv.get 8 rfl rfl (hd 8 (by decide)))) (ent_scale _ _)) ((scale_any x (sb y) wc (HT.out.ext HO.out) (by rw [size_sb]; omega)).mono (fun e w' h => ⟨_, h.1, by rw [bl_sb], h.2⟩)) ?_
      rintro v w' ⟨rfl, hx⟩
      exact ⟨hv.put carry_part_apart 9 rfl (Nat.le_of_ble_eq_true rfl) (Nat.le_of_ble_eq_true rfl) rfl, Lib.hid (HO.out.trans hx)⟩
    · -- 10 call
      rintro L a wc ⟨hv, HO⟩ hL hc hd
      refine wpOp_call (R := fun v w1 => v = .string (sb (Gf.sum Z (Gf.scale x y))) ∧ Ext wc w1) rfl rfl (ex_call rfl rfl (map2c (hv.get 0 rfl rfl (hd 0 (by decide))) (hv.get 9 rfl rfl (hd 9 (by decide)))) (ent_sum _ _)) ((sum_any (sb Z) (sb (Gf.scale x y)) wc (by rw [size_sb]; omega) (by rw [size_sb]; unfold Gf.scale; rw [List.length_map]; omega)).mono (fun e w' h => ⟨_, h.1, by rw [bl_sb, bl_sb], h.2⟩)) ?_
      rintro v w' ⟨rfl, hx⟩
      exact ⟨hv.put carry_part_apart 10 rfl (Nat.le_of_ble_eq_true rfl) (Nat.le_of_ble_eq_true rfl) rfl, Lib.hid (HO.out.trans hx)⟩
    · -- 11 assign
      rintro L a wc ⟨hv, HO⟩ hL hc hd
      exact wpOp_val rfl rfl (ex_assign rfl (hv.get 10 rfl rfl (hd 10 (by decide)))) ⟨hv.put carry_part_apart 11 rfl (Nat.le_of_ble_eq_true rfl) (Nat.le_of_ble_eq_true rfl) rfl, HO⟩
  · rintro L a wc ⟨hv, HO⟩ hall
    show K a wc
    have ha := act_lit a
    rw [hv.size, hv.defers] at ha
    have hl : ∀ f : Nat → Value, ((List.range (⟨#[c0, c1, c2, .pointer (some ⟨P3, 0, none⟩), .pointer (some ⟨P4, 0, none⟩), c5, c6, c7, c8, .string (sb Z), .int .i64 k, c11, c12, c13, c14, c15, c16, c17, c18, c19, c20, c21, c22, c23, c24, c25, c26, c27, c28, c29, c30, c31, c32, c33, c34, c35, c36, c37, c38, c39, c40, c41, c42, c43, c44, c45, c46, c47, c48, c49, c50, c51, c52, c53, c54, c55, c56, c57, c58], df⟩ : Act).tmps.size).map f).toArray = #[f 0, f 1, f 2, f 3, f 4, f 5, f 6, f 7, f 8, f 9, f 10, f 11, f 12, f 13, f 14, f 15, f 16, f 17, f 18, f 19, f 20, f 21, f 22, f 23, f 24, f 25, f 26, f 27, f 28, f 29, f 30, f 31, f 32, f 33, f 34, f 35, f 36, f 37, f 38, f 39, f 40, f 41, f 42, f 43, f 44, f 45, f 46, f 47, f 48, f 49, f 50, f 51, f 52, f 53, f 54, f 55, f 56, f 57, f 58] := fun _ => rfl
    rw [hl] at ha
    simp only [hv.fixed 0 (by decide), hv.fixed 1 (by decide), hv.fixed 2 (by decide), hv.fixed 3 (by decide), hv.fixed 4 (by decide), hv.fixed 5 (by decide), hv.fixed 6 (by decide), hv.fixed 7 (by decide), hv.fixed 8 (by decide), hv.fixed 10 (by decide), hv.fixed 11 (by decide), hv.fixed 12 (by decide), hv.fixed 13 (by decide), hv.fixed 14 (by decide), hv.fixed 15 (by decide), hv.fixed 16 (by decide), hv.fixed 17 (by decide), hv.fixed 18 (by decide), hv.fixed 19 (by decide), hv.fixed 20 (by decide), hv.fixed 21 (by decide), hv.fixed 22 (by decide), hv.fixed 23 (by decide), hv.fixed 24 (by decide), hv.fixed 25 (by decide), hv.fixed 26 (by decide), hv.fixed 27 (by decide), hv.fixed 28 (by decide), hv.fixed 40 (by decide), hv.fixed 41 (by decide), hv.fixed 42 (by decide), hv.fixed 43 (by decide), hv.fixed 44 (by decide), hv.fixed 45 (by decide), hv.fixed 46 (by decide), hv.fixed 47 (by decide), hv.fixed 48 (by decide), hv.fixed 49 (by decide), hv.fixed 50 (by decide), hv.fixed 51 (by decide), hv.fixed 52 (by decide), hv.fixed 53 (by decide), hv.fixed 54 (by decide), hv.fixed 55 (by decide), hv.fixed 56 (by decide), hv.fixed 57 (by decide), hv.fixed 58 (by decide), hv.get 11 (d := 9) rfl rfl (hall 11 (by decide))] at ha
    rw [ha]
    exact hK _ _ _ _ _ _ _ _ _ _ _ wc HO.out
end Go.Proofs.YtenafgphaceidaaDoor

/- THE WALK over Carry's closure: the sum of a house. -/
namespace Su
theorem sumLen (s t : List UInt8) : (Gf.sum s t).length = max s.length t.length := by simp [Gf.sum]
theorem scaleLen (c : UInt8) (s : List UInt8) : (Gf.scale c s).length = s.length := by simp [Gf.scale]
/-- What a house has of its own, of the first k pieces. -/
def partTo (src : List Int) (coef : List UInt8) (ps : List (List UInt8)) (a : Int) (z : List UInt8) : Nat → List UInt8
  | 0 => z
  | k + 1 => if src.getD k 0 = a then Gf.sum (partTo src coef ps a z k) (Gf.scale (coef.getD k 0) (ps.getD k [])) else partTo src coef ps a z k
theorem partTo_yes {src : List Int} {coef : List UInt8} {ps : List (List UInt8)} {a : Int} {z : List UInt8} {k : Nat} (h : src.getD k 0 = a) : partTo src coef ps a z (k + 1) = Gf.sum (partTo src coef ps a z k) (Gf.scale (coef.getD k 0) (ps.getD k [])) := if_pos h
theorem partTo_no {src : List Int} {coef : List UInt8} {ps : List (List UInt8)} {a : Int} {z : List UInt8} {k : Nat} (h : ¬ src.getD k 0 = a) : partTo src coef ps a z (k + 1) = partTo src coef ps a z k := if_neg h
theorem partTo_len {src : List Int} {coef : List UInt8} {ps : List (List UInt8)} {a : Int} {z : List UInt8} {M : Nat} (hz : z.length ≤ M) (hp : ∀ p ∈ ps, p.length ≤ M) : ∀ k, (partTo src coef ps a z k).length ≤ M
  | 0 => hz
  | k + 1 => by
    have ih := partTo_len (src := src) (coef := coef) (a := a) hz hp k
    rw [partTo]
    split
    · rw [sumLen, scaleLen]
      have : (ps.getD k []).length ≤ M := by
        rw [List.getD_eq_getElem?_getD]
        cases h : ps[k]? with
        | none => simp
        | some p => exact hp p (List.mem_of_getElem? h)
      omega
    · exact ih
/-- What a house has behind the first k hops. -/
def hopsTo (rec : Int → Option (List UInt8)) (l : List (Int × Int)) (a : Int) (z : List UInt8) : Nat → Option (List UInt8)
  | 0 => some z
  | k + 1 => (hopsTo rec l a z k).bind fun s => if (l.getD k (0, 0)).2 = a then (rec (l.getD k (0, 0)).1).map (Gf.sum s) else some s
theorem hopsTo_pre {rec : Int → Option (List UInt8)} {l : List (Int × Int)} {a : Int} {z V : List UInt8} {k : Nat} (h : hopsTo rec l a z (k + 1) = some V) : ∃ s, hopsTo rec l a z k = some s ∧ (((l.getD k (0, 0)).2 = a ∧ ∃ r, rec (l.getD k (0, 0)).1 = some r ∧ V = Gf.sum s r) ∨ (¬ (l.getD k (0, 0)).2 = a ∧ V = s)) := by
  rw [hopsTo] at h
  cases e : hopsTo rec l a z k with
  | none => rw [e] at h; cases h
  | some s =>
    rw [e] at h
    refine ⟨s, rfl, ?_⟩
    simp only [Option.bind_some] at h
    split at h
    · rename_i h1
      cases e2 : rec (l.getD k (0, 0)).1 with
      | none => rw [e2] at h; cases h
      | some r =>
        rw [e2] at h
        injection h with h
        exact .inl ⟨h1, r, rfl, h.symm⟩
    · rename_i h1
      injection h with h
      exact .inr ⟨h1, h.symm⟩
theorem hopsTo_all {rec : Int → Option (List UInt8)} {l : List (Int × Int)} {a : Int} {z : List UInt8} : ∀ (m : Nat) (V : List UInt8), hopsTo rec l a z m = some V → ∀ k, k ≤ m → ∃ s, hopsTo rec l a z k = some s
  | 0, V, h, k, hk => by obtain rfl : k = 0 := by omega
                         exact ⟨V, h⟩
  | m + 1, V, h, k, hk => by
    by_cases hkm : k = m + 1
    · subst hkm; exact ⟨V, h⟩
    · obtain ⟨s, hs, _⟩ := hopsTo_pre h
      exact hopsTo_all m s hs k (by omega)
/-- The sum of a house; none if it takes too long. -/
def sumF (src : List Int) (l : List (Int × Int)) (coef : List UInt8) (ps : List (List UInt8)) (n : Nat) : Nat → Int → Option (List UInt8)
  | 0, _ => none
  | f + 1, a => hopsTo (sumF src l coef ps n f) l a (partTo src coef ps a (List.replicate n 0) src.length) l.length
theorem sumF_succ (src : List Int) (l : List (Int × Int)) (coef : List UInt8) (ps : List (List UInt8)) (n f : Nat) (a : Int) : sumF src l coef ps n (f + 1) a = hopsTo (sumF src l coef ps n f) l a (partTo src coef ps a (List.replicate n 0) src.length) l.length := rfl
theorem hopsTo_len {rec : Int → Option (List UInt8)} {l : List (Int × Int)} {a : Int} {z : List UInt8} {M : Nat} (hr : ∀ x r, rec x = some r → r.length ≤ M) (hz : z.length ≤ M) : ∀ k V, hopsTo rec l a z k = some V → V.length ≤ M
  | 0, V, h => by injection h with h; rw [← h]; exact hz
  | k + 1, V, h => by
    obtain ⟨s, hs, hc⟩ := hopsTo_pre h
    have ih := hopsTo_len (l := l) (a := a) hr hz k s hs
    rcases hc with ⟨_, r, hrr, rfl⟩ | ⟨_, rfl⟩
    · rw [sumLen]; have := hr _ _ hrr; omega
    · exact ih
theorem sumF_len {src : List Int} {l : List (Int × Int)} {coef : List UInt8} {ps : List (List UInt8)} {n M : Nat} (hn : n ≤ M) (hp : ∀ p ∈ ps, p.length ≤ M) : ∀ f a V, sumF src l coef ps n f a = some V → V.length ≤ M
  | 0, _, _, h => by cases h
  | f + 1, a, V, h => by
    rw [sumF_succ] at h
    exact hopsTo_len (fun x r hx => sumF_len hn hp f x r hx) (partTo_len (by simpa using hn) hp _) _ _ h
end Su
namespace Go.Proofs.YtenafgphaceidaaDoor
open Go.RowKit
theorem enters37 : ∀ args w, (callFunc 37 args).run Tryd.prog w = .ok (.enter 37 args) w := enters_of Tryd.func37 (by kernel_rfl) rfl
/-- What the closure reads. -/
structure CW (w : World) (P12 P4 P6 P7 P5 P14 : Nat) (src : List Int) (l : List (Int × Int)) (coef : List UInt8) (ps : List (List UInt8)) (whole : List UInt8) : Prop where
  tab : Tab w
  p12 : w.cell? ⟨P12, 0, none⟩ = some (.string (sb whole))
  p4 : ∃ S c, w.cell? ⟨P4, 1, none⟩ = some (.slice S src.length c) ∧ Rs RI w (.slice S src.length c) src
  p6 : ∃ A c, w.cell? ⟨P6, 0, none⟩ = some (.slice A coef.length c) ∧ Rd w A (coef.map bv)
  p7 : ∃ A c, w.cell? ⟨P7, 0, none⟩ = some (.slice A ps.length c) ∧ Rd w A (ps.map fun p => .string (sb p))
  p5 : ∃ A c, w.cell? ⟨P5, 0, none⟩ = some (.slice A l.length c) ∧ RL w (.slice A l.length c) l
  p14 : w.cell? ⟨P14, 0, none⟩ = some (.func (.func 37) #[] #[.pointer (some ⟨P12, 0, none⟩), .pointer (some ⟨P4, 0, none⟩), .pointer (some ⟨P6, 0, none⟩), .pointer (some ⟨P7, 0, none⟩), .pointer (some ⟨P5, 0, none⟩), .pointer (some ⟨P14, 0, none⟩)])
theorem CW.ext {w w' : World} {P12 P4 P6 P7 P5 P14 : Nat} {src : List Int} {l : List (Int × Int)} {coef : List UInt8} {ps : List (List UInt8)} {whole : List UInt8} (h : CW w P12 P4 P6 P7 P5 P14 src l coef ps whole) (hx : Ext w w') : CW w' P12 P4 P6 P7 P5 P14 src l coef ps whole where
  tab := h.tab.ext hx
  p12 := hx.cell h.p12
  p4 := by obtain ⟨S, c, h1, h2⟩ := h.p4; exact ⟨S, c, hx.cell h1, Rs.ext RI.ext _ _ _ _ hx h2⟩
  p6 := by obtain ⟨S, c, h1, h2⟩ := h.p6; exact ⟨S, c, hx.cell h1, h2.ext hx⟩
  p7 := by obtain ⟨S, c, h1, h2⟩ := h.p7; exact ⟨S, c, hx.cell h1, h2.ext hx⟩
  p5 := by obtain ⟨S, c, h1, h2⟩ := h.p5; exact ⟨S, c, hx.cell h1, RL.ext _ _ _ _ hx h2⟩
  p14 := hx.cell h.p14
end Go.Proofs.YtenafgphaceidaaDoor

/- THE WALK over Carry's closure. -/
namespace Go.Proofs.YtenafgphaceidaaDoor
open Go.RowKit
set_option maxHeartbeats 4000000 in
set_option maxRecDepth 100000 in
theorem carry1_any (P12 P4 P6 P7 P5 P14 : Nat) (src : List Int) (l : List (Int × Int)) (coef : List UInt8) (ps : List (List UInt8)) (whole : List UInt8) (hc : src.length = coef.length) (hps : src.length = ps.length) (hM : whole.length ≤ 140737488351232) (hp : ∀ p ∈ ps, p.length ≤ 140737488351232) : ∀ (fuel : Nat) (a : Int) (V : List UInt8) (w : World), Su.sumF src l coef ps whole.length fuel a = some V → CW w P12 P4 P6 P7 P5 P14 src l coef ps whole →
    Calls Tryd.prog 37 #[.int .i64 a, .pointer (some ⟨P12, 0, none⟩), .pointer (some ⟨P4, 0, none⟩), .pointer (some ⟨P6, 0, none⟩), .pointer (some ⟨P7, 0, none⟩), .pointer (some ⟨P5, 0, none⟩), .pointer (some ⟨P14, 0, none⟩)] w fun e w' => e = .returned (.string (sb V)) ∧ Ext w w'
  | 0, a, V, w, hw, _ => by cases hw
  | fuel + 1, a, V, w, hw, hcw => by
    have IH := Lib.hid (carry1_any P12 P4 P6 P7 P5 P14 src l coef ps whole hc hps hM hp fuel)
    rw [Su.sumF_succ] at hw
    have HW := Lib.hid hw
    have HC := Lib.hid hcw
    have hlen := fun x r hx => Su.sumF_len (src := src) (l := l) (coef := coef) (n := whole.length) hM hp fuel x r hx
    have hzl : (List.replicate whole.length (0 : UInt8)).length ≤ 140737488351232 := by simpa using hM
    have hpl := fun k => Su.partTo_len (src := src) (coef := coef) (a := a) hzl hp k
    have HLEN := Lib.hid (And.intro hlen (And.intro hpl hp))
    have p12 := hcw.p12
    have hE := @enters37
    obtain ⟨i0, hi, hz0, hz1, hz2⟩ := info_parts info_u8
    have HZ := Lib.hid hz2
    obtain ⟨n, hn⟩ : ∃ n, whole.length = n := ⟨_, rfl⟩
    have HN := Lib.hid hn
    rw [hn] at HW hM HLEN IH
    have hsz : (sb whole).size = n := by rw [size_sb, hn]
    have hS64 : src.length ≤ 9223372036854775807 := by
      obtain ⟨S, c, _, h2⟩ := hcw.p4
      obtain ⟨_, _, _, h3⟩ := h2.form
      exact h3
    have hL64 : l.length ≤ 9223372036854775807 := by
      obtain ⟨S, c, _, h2⟩ := hcw.p5
      obtain ⟨_, _, _, h3⟩ := h2.form
      exact h3
    have HCP := Lib.hid (And.intro hc hps)
    clear hz2 hw hcw hlen hzl hpl hn hc hps hp
    go_enter Tryd.func37, Tryd.ntmps37
    go_wp2_with (refine wpList_make_full _ rfl (.tmp 15) (.tmp 15) 44 rfl w.heap.size 5 i0 (.int .u8 0) 1 Tryd.underlying44 hi hz0 hz1 _ _ _ _ n rfl rfl rfl rfl (by rw [HZ.out]; omega) (by unfold maxLen; omega) (Nat.le_refl _) ?_; intro w1 hown hgrow; have hx1 : Ext w w1 := (Ext.refl w).grown hgrow (fun k h => by cases h); have hcv := str_u8 (n := n) (c := n) (A := some ⟨w.heap.size, 0, none⟩) (w := w1) (l := List.replicate n 0) (by simp) (by
      have := Rd.of_own (w := w1) (B := w.heap.size) (e := 5) (c := n) (A := some ⟨w.heap.size, 0, none⟩) (xs := (List.replicate n (0 : UInt8)).map bv) (by
        have e : (madeCells (Value.int .u8 0).cells (n * 1)).toList = (List.replicate n (0 : UInt8)).map bv := by
          rw [Nat.mul_one, show (Value.int .u8 0).cells = #[.int .u8 0] from rfl, toList_madeCells_one]
          simp [bv]
        rw [e] at hown
        simpa using hown)
      exact this); have HX1 := Lib.hid hx1; have hc4 := (HC.out.ext hx1).p4; obtain ⟨S, cS, p41, hSr⟩ := hc4; have HS := Lib.hid (And.intro p41 hSr); clear hown hgrow hx1 hSr)
    clear p12 hcv p41
    go_loopw [9, 21] (fun vs vi wr => ∃ k : Nat, k ≤ src.length ∧ vi = .int .i64 k ∧ vs = .string (sb (Su.partTo src coef ps a (List.replicate n 0) k)) ∧ Hid (Ext w wr ∧ Ext w1 wr)) (fun _ vi _ => src.length - (intOf vi).toNat)
    case atStart => exact ⟨0, Nat.zero_le _, rfl, rfl, Lib.hid ⟨HX1.out, Ext.refl _⟩⟩
    case round =>
      obtain ⟨k, hk, rfl, rfl, HI⟩ := hrel
      by_cases hlt : k < src.length
      · obtain ⟨ad, u, rfl, hcell, hu⟩ := HS.out.2.at hlt
        obtain ⟨rfl, hlo, hhi⟩ := hu
        have hgd := getD_get (x := (0 : Int)) hlt
        obtain ⟨y, hy⟩ : ∃ y, src[k] = y := ⟨_, rfl⟩
        rw [hy] at hcell hgd hlo hhi
        have hcell2 := HI.out.2.cell hcell
        have HGD := Lib.hid hgd
        clear hcell hgd hy
        by_cases hya : y = a
        · have e1 : (y == a) = true := by rw [hya]; simp
          have hst := Su.partTo_yes (coef := coef) (ps := ps) (z := List.replicate n 0) (HGD.out.trans hya)
          obtain ⟨Ac, cc, q6, hrc⟩ := (HC.out.ext HI.out.1).p6
          obtain ⟨Ap, cp, q7, hrp⟩ := (HC.out.ext HI.out.1).p7
          have hkc : k < coef.length := by have := HCP.out.1; omega
          have hkp : k < ps.length := by have := HCP.out.2; omega
          obtain ⟨ac, rfl, _, hcx⟩ := hrc.at (k := k) (by simpa using hkc)
          obtain ⟨ap, rfl, _, hcy⟩ := hrp.at (k := k) (by simpa using hkp)
          rw [List.getElem_map] at hcx hcy
          rw [getD_get hkc, getD_get hkp] at hst
          have hyl := HLEN.out.2.2 _ (List.getElem_mem hkp)
          obtain ⟨cx, hcxe⟩ : ∃ x, coef[k] = x := ⟨_, rfl⟩
          obtain ⟨py, hpye⟩ : ∃ x, ps[k] = x := ⟨_, rfl⟩
          rw [hcxe] at hcx hst
          rw [hpye] at hcy hst hyl
          obtain ⟨Z, hZ⟩ : ∃ Z, Su.partTo src coef ps a (List.replicate n 0) k = Z := ⟨_, rfl⟩
          have hZl : Z.length ≤ 140737488351232 := by rw [← hZ]; exact HLEN.out.2.1 k
          rw [hZ] at hst ⊢
          have HST := Lib.hid hst
          have HTB := Lib.hid ((HC.out.ext HI.out.1).tab)
          clear hst hya hcxe hpye hZ hrc hrp
          go_wp2_with fail
          refine wp_atEnd' (carry_part wr P6 P7 coef.length ps.length cc cp k ac ap cx py Z hkc hkp hyl hZl HTB q6 q7 hcx hcy _ _ _ _ _ _ _ _ _ _ _ _ _ _ _ _ _ _ _ _ _ _ _ _ _ _ _ _ _ _ _ _ _ _ _ _ _ _ _ _ _ _ _ _ _ _ _ _ _ _ _ _ _ _ _ _ _ ?_)
          intro u29 u30 u31 u32 u33 u34 u35 u36 u37 u38 u39 wx hx
          have HX := Lib.hid hx
          clear hx
          go_wp2_with fail
          clear q6 q7 hcx hcy hcell2
          go_roundw
          case rel => exact ⟨k + 1, by omega, by go_num, by rw [HST.out], Lib.hid ⟨HI.out.1.trans HX.out, HI.out.2.trans HX.out⟩⟩
          case measure => simp [intOf]; omega
        · have e1 : (y == a) = false := by rw [beq_eq_false_iff_ne]; exact hya
          have hst := Su.partTo_no (coef := coef) (ps := ps) (a := a) (z := List.replicate n 0) (k := k) (src := src) (by rw [HGD.out]; exact hya)
          have HST := Lib.hid hst
          clear hst hya
          go_wp2_with fail
          clear hcell2
          go_roundw
          case rel => exact ⟨k + 1, by omega, by go_num, by rw [HST.out], HI⟩
          case measure => simp [intOf]; omega
      · obtain rfl : k = src.length := by omega
        have HX2 := Lib.hid HI.out.1
        obtain ⟨C5, c5, q5, hr5⟩ := (HC.out.ext HI.out.1).p5
        have HR5 := Lib.hid hr5
        obtain ⟨wo, hwo⟩ : ∃ wo, wo = wr := ⟨_, rfl⟩
        rw [← hwo] at HX2 q5 HR5 ⊢
        clear HI hwo hr5
        go_wp2_with fail
        clear q5
        go_loopw [9, 43] (fun vs vi wr => ∃ (k : Nat) (s : List UInt8), k ≤ l.length ∧ vi = .int .i64 k ∧ vs = .string (sb s) ∧ Hid (Ext wo wr ∧ Su.hopsTo (Su.sumF src l coef ps n fuel) l a (Su.partTo src coef ps a (List.replicate n 0) src.length) k = some s)) (fun _ vi _ => l.length - (intOf vi).toNat)
        case atStart => exact ⟨0, _, Nat.zero_le _, rfl, rfl, Lib.hid ⟨Ext.refl _, rfl⟩⟩
        case round =>
          obtain ⟨k, s, hk, rfl, rfl, HI⟩ := hrel
          by_cases hlt : k < l.length
          · obtain ⟨ad, f, t, rfl, hft, k1, k2, kb, kb2⟩ := HR5.out.at hlt
            have k1' := HI.out.1.cell k1
            have k2' := HI.out.1.cell k2
            obtain ⟨s', hs'⟩ := Su.hopsTo_all _ _ HW.out (k + 1) hlt
            obtain ⟨s0, hs0, hcase⟩ := Su.hopsTo_pre hs'
            have hss : s0 = s := by
              have := hs0.symm.trans HI.out.2
              injection this
            subst hss
            rw [hft] at hcase
            simp only at hcase
            have hsl := Su.hopsTo_len HLEN.out.1 (HLEN.out.2.1 src.length) _ _ hs0
            have HXA := Lib.hid ((Ext.refl wr).alloc (.cells #[.int .i64 f, .int .i64 t] 65))
            have HXB := Lib.hid (HX2.out.trans HI.out.1)
            have q14 := ((HC.out.ext HXB.out).ext HXA.out).p14
            have HS1 := Lib.hid hs'
            clear hft k1 k2 hs0 hs'
            rcases hcase with ⟨rfl, r, hr, hV⟩ | ⟨hne, hV⟩
            · have e1 : (t == t) = true := by simp
              have hrl := HLEN.out.1 _ _ hr
              have HR := Lib.hid (And.intro hr hV)
              clear hr hV
              go_wp2_with fail
              refine (IH.out f r _ HR.out.1 ((HC.out.ext HXB.out).ext HXA.out)).mono ?_
              rintro e w6 ⟨rfl, hx6⟩
              have HX6 := Lib.hid hx6
              clear hx6
              go_wp2_with fail
              refine (sum_any (sb s0) (sb r) _ (by rw [size_sb]; exact hsl) (by rw [size_sb]; exact hrl)).mono ?_
              rintro e w7 ⟨rfl, hx7⟩
              have HX7 := Lib.hid (((HI.out.1.trans HXA.out).trans HX6.out).trans hx7)
              clear hx7
              go_wp2_with fail
              clear k1' k2' q14
              go_roundw
              case rel => exact ⟨k + 1, s', by omega, by go_num, by rw [HR.out.2], Lib.hid ⟨HX7.out, HS1.out⟩⟩
              case measure => simp [intOf]; omega
            · have e1 : (t == a) = false := by rw [beq_eq_false_iff_ne]; exact hne
              subst hV
              clear hne
              go_wp2_with fail
              clear k1' k2' q14
              go_roundw
              case rel => exact ⟨k + 1, _, by omega, by go_num, rfl, Lib.hid ⟨HI.out.1.trans HXA.out, HS1.out⟩⟩
              case measure => simp [intOf]; omega
          · obtain rfl : k = l.length := by omega
            have hsV : s = V := by
              have := HI.out.2.symm.trans HW.out
              injection this
            subst hsV
            go_wp2_with fail
            go_ret
            exact ⟨rfl, HX2.out.trans HI.out.1⟩
end Go.Proofs.YtenafgphaceidaaDoor
