/- What the program's functions do, step by step: part C of the texts for this claim; no condition beyond what each theorem states. -/
import Derived.Test.YtenafgphaceidaaDoorRepairBunA
import Derived.Test.YtenafgphaceidaaDoorRepairBunB
/- THE WALK over Valid of package sums. -/
namespace Su
theorem rise {h : Ha} {l : List (Int × Int)} : ∀ i, i < l.length → (∀ k, k ≤ i → ¬ badHop h l k (l.getD k (0, 0))) → ∀ j, j < i → (l.getD j (0, 0)).1 < (l.getD i (0, 0)).1
  | 0, _, _, j, hj => absurd hj (Nat.not_lt_zero j)
  | i + 1, hi, hb, j, hj => by
    have h1 := hb (i + 1) (Nat.le_refl _)
    unfold badHop at h1
    simp only [Nat.add_sub_cancel] at h1
    by_cases hji : j = i
    · subst hji; omega
    · have := rise i (by omega) (fun k hk => hb k (by omega)) j (by omega)
      omega
theorem fresh {h : Ha} {l : List (Int × Int)} {i : Nat} (hi : i < l.length) (hb : ∀ k, k ≤ i → ¬ badHop h l k (l.getD k (0, 0))) : nextOf (l.take i) (l.getD i (0, 0)).1 = none := by
  rw [nextOf_none]
  intro x hx
  obtain ⟨j, hj, rfl⟩ := List.getElem_of_mem hx
  rw [List.length_take] at hj
  have hji : j < i := by omega
  have := rise i hi hb j hji
  rw [List.getElem_take]
  rw [List.getD_eq_getElem?_getD, List.getElem?_eq_getElem (by omega : j < l.length), Option.getD_some] at this
  omega
theorem rise_ge {h : Ha} {l : List (Int × Int)} : ∀ i, i < l.length → (∀ k, k ≤ i → ¬ badHop h l k (l.getD k (0, 0))) → (i : Int) ≤ (l.getD i (0, 0)).1
  | 0, _, hb => by
    have h1 := hb 0 (Nat.le_refl _)
    unfold badHop at h1
    omega
  | i + 1, hi, hb => by
    have h1 := rise_ge i (by omega) fun k hk => hb k (by omega)
    have h2 := rise (i + 1) hi hb i (by omega)
    omega
theorem take_snoc {l : List (Int × Int)} {i : Nat} (hi : i < l.length) : l.take (i + 1) = l.take i ++ [l.getD i (0, 0)] := by
  rw [List.take_succ_eq_append_getElem hi, List.getD_eq_getElem?_getD, List.getElem?_eq_getElem hi]
  rfl
theorem next_in {h : Ha} {l : List (Int × Int)} (ho : hopsOk h l) {a b : Int} (hn : nextOf l a = some b) : (0 ≤ a ∧ a < (h.pr.length : Int)) ∧ 0 ≤ b ∧ b < (h.pr.length : Int) ∧ a ≠ h.tgt ∧ a ≠ b ∧ 0 ≤ price h a b := by
  obtain ⟨k, hk, e⟩ := mem_at (nextOf_some hn)
  have := ho k hk
  rw [e] at this
  unfold badHop at this
  simp only at this
  omega
theorem go_in {h : Ha} {l : List (Int × Int)} (ho : hopsOk h l) {a : Int} (ha : 0 ≤ a ∧ a < (h.pr.length : Int)) : ∀ n, 0 ≤ go l n a ∧ go l n a < (h.pr.length : Int)
  | 0 => ha
  | n + 1 => by
    cases hn : nextOf l (go l n a) with
    | none => rw [go_none hn]; exact go_in ho ha n
    | some b => rw [go_some hn]; have := next_in ho hn; omega
end Su
namespace Go.Proofs.YtenafgphaceidaaDoor
open Go.RowKit
open Go.Maps (Keyed)
open Go.WideMaps Go.ChangeMaps Go.MapKept Go.WideShapes
open Go.WideElems (Fit rd rg pl rd_val elemAt)
theorem hopLaw : Keyed Tryd.prog 3 := Go.Maps.int_keyed Tryd.underlying3
theorem hopZero (w : World) : (zeroValue 3).run Tryd.prog w = .ok (.int .i64 0) w := by kernel_rfl
theorem ownsMap_ext {w w' : World} {H : Type} {P : Program} {k : TypeId} {R : Value → Option (DataW H × List MemPlace)} {b n : Nat} {D : DataW H} (h : w.ownsMap P k R b n D) (hx : Ext w w') : w'.ownsMap P k R b n D := by
  obtain ⟨es, clock, hb, r⟩ := h
  exact ⟨es, clock, hx.heap hb, r⟩
/-- A map from houses to houses says what a function says. -/
def MSays (D : DataW Unit) (nx : Int → Option Int) : Prop := ∀ a : Int, Go.Maps.has D (.int .i64 a) = (nx a).isSome ∧ ∀ z, D.atKey (.int .i64 a) z = (nx a).elim z fun b => .lit (.int .i64 b)
theorem MSays.put {D : DataW Unit} {nx : Int → Option Int} (h : MSays D nx) (hD : Go.Maps.IsMap D) (f t : Int) : MSays (D.put (.int .i64 f) (.lit (.int .i64 t))) (fun a => if a = f then some t else nx a) := by
  have hk : WideAt.IsKeyLit (.int .i64 f) := by simp [WideAt.IsKeyLit]
  intro a
  dsimp only
  by_cases ha : a = f
  · subst ha
    rw [if_pos rfl]
    exact ⟨Go.Maps.has_put_same hD hk _, fun z => Go.Maps.atKey_put_same hD hk _ z⟩
  · have hne : (Lit.int .i64 a) ≠ .int .i64 f := by
      intro h
      injection h with _ h
      exact ha h
    rw [if_neg ha]
    refine ⟨by rw [Go.Maps.has_put_other hne]; exact (h a).1, fun z => ?_⟩
    rw [Go.Maps.atKey_put_other hne]
    exact (h a).2 z
theorem MSays.congr {D : DataW Unit} {nx ny : Int → Option Int} (h : MSays D nx) (e : ∀ a, nx a = ny a) : MSays D ny := fun a => by rw [← e a]; exact h a
theorem MSays.hop {D : DataW Unit} {l : List (Int × Int)} {f t : Int} (h : MSays D (Su.nextOf l)) (hD : Go.Maps.IsMap D) (hn : Su.nextOf l f = none) : MSays (D.put (.int .i64 f) (.lit (.int .i64 t))) (Su.nextOf (l ++ [(f, t)])) :=
  (h.put hD f t).congr fun a => by
    rw [Su.nextOf_snoc]
    by_cases ha : a = f
    · subst ha; simp [hn]
    · rw [if_neg ha, if_neg (fun e => ha e.symm)]; simp
theorem MSays.start (nx : Int → Option Int) (h : ∀ a, nx a = none) : MSays (.map []) nx := fun a => by
  rw [h a]
  exact ⟨rfl, fun _ => rfl⟩
/-- 'v, ok := m[k]' in such a map. -/
theorem wpl_look {ops : Array Oper} {rest : List Oper} {o : Oper} {a : Act} {Q : Exit → Act → World → Prop} {w : World} (hg : o.guard = none) (m x : Operand) (hop : o.op = Op.lookup 72 m x true)
    (b n : Nat) {D : DataW Unit} {nx : Int → Option Int} (hm : a.eval m = .map (some b)) (hown : w.ownsMap Tryd.prog 3 (plainElem Tryd.prog 3) b n D) (hS : MSays D nx) {y : Int} (hx : a.eval x = .int .i64 y) (hlo : -9223372036854775808 ≤ y) (hhi : y ≤ 9223372036854775807)
    {z : Int} {bb : Bool} (hz : (nx y).getD 0 = z) (hb : (nx y).isSome = bb)
    (hK : wpList Tryd.prog ops Q rest (a.put o.dst (.tuple #[.int .i64 z, .bool bb])) w) : wpList Tryd.prog ops Q (o :: rest) a w := by
  refine wpList_lookup_own_ok_int _ hg m x 72 hop 3 3 .i64 hopLaw Tryd.underlying72 Tryd.underlying3 (hopZero _) b n D hm hown _ _ hx (Go.Maps.keyOf_int_mk Tryd.underlying3 (WalkArith.wf_i64 (by omega))) ?_
  intro c hat _
  rw [(hS y).2] at hat
  rw [(hS y).1, hb]
  cases hn : nx y with
  | none =>
    rw [hn] at hat hz
    injection hat with hat
    injection hat with _ hat
    rw [← hat]
    have hz : (0 : Int) = z := hz
    rw [hz]
    exact hK
  | some t =>
    rw [hn] at hat hz
    injection hat with hat
    injection hat with _ hat
    rw [← hat]
    have hz : t = z := hz
    rw [hz]
    exact hK
/-- The map of the hops, of the first i ones. -/
structure VR (W0 wr : World) (b i : Nat) (l : List (Int × Int)) : Prop where
  ext : Ext W0 wr
  own : ∃ D : DataW Unit, wr.ownsMap Tryd.prog 3 (plainElem Tryd.prog 3) b i D ∧ MSays D (Su.nextOf l)
theorem VR.next {W0 wr w : World} {b i : Nat} {l : List (Int × Int)} (h : VR W0 wr b i l) (hx : Ext wr w) : VR W0 w b i l :=
  ⟨h.ext.trans hx, by obtain ⟨D, h1, h2⟩ := h.own; exact ⟨D, ownsMap_ext h1 hx, h2⟩⟩
set_option maxHeartbeats 8000000 in
set_option maxRecDepth 100000 in
theorem uValid_any (h : Su.Ha) (l : List (Int × Int)) (v u : Value) (w : World) (hv : RH w v h) (hu : RL w u l) :
    Calls Tryd.prog 14 #[v, u] w fun e w' => e = .returned (.bool (Su.valid h l)) ∧ Ext w w' := by
  have hvv := hv
  obtain ⟨A, B, c, d, rfl, hG, hS, hl1, hl2, hb1, hb2⟩ := hv.open
  have hx0 := (Ext.refl w).alloc (.cells #[.slice A h.pr.length c, .slice B h.src.length d, .int .i64 h.tgt] 25)
  have HX0 := Lib.hid hx0
  have HG := Lib.hid (Rs.ext (Rs.ext RI.ext) _ _ _ _ hx0 hG)
  have HL := Lib.hid (RL.ext _ _ _ _ hx0 hu)
  have HV := Lib.hid (RH.ext _ _ _ _ hx0 hvv)
  obtain ⟨C, e, rfl, hl3⟩ := hu.form
  clear hv hvv hG hS hx0 hu
  obtain ⟨n, hn⟩ : ∃ n, h.pr.length = n := ⟨_, rfl⟩
  rw [hn] at HX0 HG HV hl1 HL ⊢
  by_cases h0 : Su.check h = 0
  case neg =>
    have e1 : (Su.check h != 0) = true := by rw [bne_iff_ne]; exact h0
    have HC := Lib.hid (Su.valid_err (l := l) h0)
    clear h0
    go_enter Tryd.func14, Tryd.ntmps14
    go_wp2_with fail
    refine (uCheck_any h _ _ HV.out).mono ?_
    rintro ee w1 ⟨rfl, hx1⟩
    have HX1 := Lib.hid (HX0.out.trans hx1)
    clear hx1
    go_wp2_with fail
    go_ret
    exact ⟨ret_bool HC.out.symm, HX1.out⟩
  case pos =>
  have e1 : (Su.check h != 0) = false := by rw [h0]; rfl
  have hkk := Su.ok_of h0
  have HK := Lib.hid (And.intro hkk (And.intro h0 hn))
  have hn12 := hkk.few
  rw [hn] at hn12
  clear h0 hkk
  have hmm := @run_makeMap Tryd.prog
  go_enter Tryd.func14, Tryd.ntmps14
  go_wp2_with fail
  refine (uCheck_any h _ _ HV.out).mono ?_
  rintro ee w1 ⟨rfl, hx1⟩
  have d0 : w1.cell? ⟨w.heap.size, 0, none⟩ = some (.slice A n c) := hx1.cell (by go_simp)
  have HGE := Lib.hid hx1.size
  have HR0 : Hid (VR (w.alloc (.cells #[.slice A n c, .slice B h.src.length d, .int .i64 h.tgt] 25)) (w1.alloc (.map #[] 0)) w1.heap.size 0 []) := Lib.hid ⟨hx1.alloc _, _, World.ownsMap_made (H := Unit) w1 Tryd.prog 3 (plainElem Tryd.prog 3), MSays.start _ fun _ => rfl⟩
  clear hx1
  go_wp2_with fail
  clear d0
  obtain ⟨b, hbb⟩ : ∃ b, w1.heap.size = b := ⟨_, rfl⟩
  rw [hbb] at HR0 HGE ⊢
  clear hbb hmm
  go_loopw [27] (fun vi wr => ∃ i : Nat, i ≤ l.length ∧ i ≤ 12 ∧ vi = .int .i64 i ∧ Hid (VR (w.alloc (.cells #[.slice A n c, .slice B h.src.length d, .int .i64 h.tgt] 25)) wr b i (l.take i) ∧ ∀ k, k < i → ¬ Su.badHop h l k (l.getD k (0, 0)))) (fun vi _ => l.length - (intOf vi).toNat)
  case atStart => exact ⟨0, Nat.zero_le _, Nat.zero_le _, rfl, Lib.hid ⟨HR0.out, fun k hk => absurd hk (Nat.not_lt_zero k)⟩⟩
  case round =>
    obtain ⟨i, hi, hi12, rfl, HI⟩ := hrel
    by_cases hlt : i < l.length
    · obtain ⟨ad, f, t, rfl, hft, k1, k2, kb, kb2⟩ := HL.out.at hlt
      have k1' := HI.out.1.ext.cell k1
      have k2' := HI.out.1.ext.cell k2
      have d0 : wr.cell? ⟨w.heap.size, 0, none⟩ = some (.slice A n c) := HI.out.1.ext.cell (by go_simp)
      have d2 : wr.cell? ⟨w.heap.size, 2, none⟩ = some (.int .i64 h.tgt) := HI.out.1.ext.cell (by go_simp)
      have HX3 := Lib.hid (HI.out.1.ext.alloc (.cells #[.int .i64 f, .int .i64 t] 65))
      have e0 : (wr.alloc (.cells #[.int .i64 f, .int .i64 t] 65)).cell? ⟨w.heap.size, 0, none⟩ = some (.slice A n c) := ((Ext.refl wr).alloc _).cell d0
      have e2 : (wr.alloc (.cells #[.int .i64 f, .int .i64 t] 65)).cell? ⟨w.heap.size, 2, none⟩ = some (.int .i64 h.tgt) := ((Ext.refl wr).alloc _).cell d2
      have HFT := Lib.hid hft
      clear hft k1 k2 d0 d2
      by_cases q0 : f < 0
      case pos =>
        have hc : Su.valid h l = false := Su.valid_hop hlt (by rw [HFT.out]; exact .inl q0)
        have HC := Lib.hid hc
        clear hc
        go_wp2_with fail
        refine wp_atEnd (hop_0 _ f _ n (by go_simp) (by omega) _ _ _ _ _ _ _ _ _ _ _ _ _ _ _ _ _ _ _ _ _ _ _ _ _ _ _ _ _ _ _ _ _ _ _ _ _ _ _ _ _ _ _ _ _ _ _ _ _ _ _ _ _ _ _ _ _ _ _ _ _ _ _ _ _ _ _ _ _ _ _ _ _ _ _ _ _ _ _ _ _ _ _ _ _ _ _ _ _ _ _ _ _ _ _ _ _ _ _ _ _ _ _ _ _ _ _ _ _ _ _ _ _ _ _ _ _ _ _ _ _ _ _ _ _ _ _ _ _ _ _ _ _ _ _ _ _ _ _ _ _ ?_)
        intro u32 u33 u34 u35 u36 u37 u38 u39 u40 u41 u42 u43 u44 u45 u46 u47 u48 u49 u50 u51 u52 u53 u54 u55 u56 u57 u58 u59 u60 u61 u62 u63 u64 u65 u66 u67 u68 u69 u70 u71 u72 u73 u74 u75 u76 u77 u78 u79 u80 u81 u82 u83 u84 u85 u86 u87 u88 u89 u90 u91 u92 wx hx
        have HX5 := Lib.hid (HX3.out.trans hx)
        clear hx
        go_wp2_with fail
        go_ret
        exact ⟨ret_bool HC.out.symm, HX0.out.trans HX5.out⟩
      case neg =>
      by_cases q1 : (n : Int) ≤ f
      case pos =>
        have hc : Su.valid h l = false := Su.valid_hop hlt (by rw [HFT.out]; exact .inr (.inl (by rw [hn]; exact q1)))
        have HC := Lib.hid hc
        clear hc
        go_wp2_with fail
        refine wp_atEnd (hop_1 _ f _ n (by go_simp) (by omega) (by omega) _ _ _ _ _ _ _ _ _ _ _ _ _ _ _ _ _ _ _ _ _ _ _ _ _ _ _ _ _ _ _ _ _ _ _ _ _ _ _ _ _ _ _ _ _ _ _ _ _ _ _ _ _ _ _ _ _ _ _ _ _ _ _ _ _ _ _ _ _ _ _ _ _ _ _ _ _ _ _ _ _ _ _ _ _ _ _ _ _ _ _ _ _ _ _ _ _ _ _ _ _ _ _ _ _ _ _ _ _ _ _ _ _ _ _ _ _ _ _ _ _ _ _ _ _ _ _ _ _ _ _ _ _ _ _ _ _ _ _ _ _ ?_)
        intro u32 u33 u34 u35 u36 u37 u38 u39 u40 u41 u42 u43 u44 u45 u46 u47 u48 u49 u50 u51 u52 u53 u54 u55 u56 u57 u58 u59 u60 u61 u62 u63 u64 u65 u66 u67 u68 u69 u70 u71 u72 u73 u74 u75 u76 u77 u78 u79 u80 u81 u82 u83 u84 u85 u86 u87 u88 u89 u90 u91 u92 wx hx
        have HX5 := Lib.hid (HX3.out.trans hx)
        clear hx
        go_wp2_with fail
        go_ret
        exact ⟨ret_bool HC.out.symm, HX0.out.trans HX5.out⟩
      case neg =>
      by_cases q2 : t < 0
      case pos =>
        have hc : Su.valid h l = false := Su.valid_hop hlt (by rw [HFT.out]; exact .inr (.inr (.inl q2)))
        have HC := Lib.hid hc
        clear hc
        go_wp2_with fail
        refine wp_atEnd (hop_2 _ f t _ n (by go_simp) (by go_simp) (by omega) (by omega) (by omega) _ _ _ _ _ _ _ _ _ _ _ _ _ _ _ _ _ _ _ _ _ _ _ _ _ _ _ _ _ _ _ _ _ _ _ _ _ _ _ _ _ _ _ _ _ _ _ _ _ _ _ _ _ _ _ _ _ _ _ _ _ _ _ _ _ _ _ _ _ _ _ _ _ _ _ _ _ _ _ _ _ _ _ _ _ _ _ _ _ _ _ _ _ _ _ _ _ _ _ _ _ _ _ _ _ _ _ _ _ _ _ _ _ _ _ _ _ _ _ _ _ _ _ _ _ _ _ _ _ _ _ _ _ _ _ _ _ _ _ _ _ ?_)
        intro u32 u33 u34 u35 u36 u37 u38 u39 u40 u41 u42 u43 u44 u45 u46 u47 u48 u49 u50 u51 u52 u53 u54 u55 u56 u57 u58 u59 u60 u61 u62 u63 u64 u65 u66 u67 u68 u69 u70 u71 u72 u73 u74 u75 u76 u77 u78 u79 u80 u81 u82 u83 u84 u85 u86 u87 u88 u89 u90 u91 u92 wx hx
        have HX5 := Lib.hid (HX3.out.trans hx)
        clear hx
        go_wp2_with fail
        go_ret
        exact ⟨ret_bool HC.out.symm, HX0.out.trans HX5.out⟩
      case neg =>
      by_cases q3 : (n : Int) ≤ t
      case pos =>
        have hc : Su.valid h l = false := Su.valid_hop hlt (by rw [HFT.out]; exact .inr (.inr (.inr (.inl (by rw [hn]; exact q3)))))
        have HC := Lib.hid hc
        clear hc
        go_wp2_with fail
        refine wp_atEnd (hop_3 _ f t _ n (by go_simp) (by go_simp) (by omega) (by omega) (by omega) (by omega) _ _ _ _ _ _ _ _ _ _ _ _ _ _ _ _ _ _ _ _ _ _ _ _ _ _ _ _ _ _ _ _ _ _ _ _ _ _ _ _ _ _ _ _ _ _ _ _ _ _ _ _ _ _ _ _ _ _ _ _ _ _ _ _ _ _ _ _ _ _ _ _ _ _ _ _ _ _ _ _ _ _ _ _ _ _ _ _ _ _ _ _ _ _ _ _ _ _ _ _ _ _ _ _ _ _ _ _ _ _ _ _ _ _ _ _ _ _ _ _ _ _ _ _ _ _ _ _ _ _ _ _ _ _ _ _ _ _ _ _ _ ?_)
        intro u32 u33 u34 u35 u36 u37 u38 u39 u40 u41 u42 u43 u44 u45 u46 u47 u48 u49 u50 u51 u52 u53 u54 u55 u56 u57 u58 u59 u60 u61 u62 u63 u64 u65 u66 u67 u68 u69 u70 u71 u72 u73 u74 u75 u76 u77 u78 u79 u80 u81 u82 u83 u84 u85 u86 u87 u88 u89 u90 u91 u92 wx hx
        have HX5 := Lib.hid (HX3.out.trans hx)
        clear hx
        go_wp2_with fail
        go_ret
        exact ⟨ret_bool HC.out.symm, HX0.out.trans HX5.out⟩
      case neg =>
      by_cases q4 : f = t
      case pos =>
        have hc : Su.valid h l = false := Su.valid_hop hlt (by rw [HFT.out]; exact .inr (.inr (.inr (.inr (.inl q4)))))
        have HC := Lib.hid hc
        clear hc
        have u4 : (f == t) = true := by rw [beq_iff_eq]; exact q4
        clear q4
        go_wp2_with fail
        refine wp_atEnd (hop_4 _ f t _ n (by go_simp) (by go_simp) (by omega) (by omega) (by omega) (by omega) u4 _ _ _ _ _ _ _ _ _ _ _ _ _ _ _ _ _ _ _ _ _ _ _ _ _ _ _ _ _ _ _ _ _ _ _ _ _ _ _ _ _ _ _ _ _ _ _ _ _ _ _ _ _ _ _ _ _ _ _ _ _ _ _ _ _ _ _ _ _ _ _ _ _ _ _ _ _ _ _ _ _ _ _ _ _ _ _ _ _ _ _ _ _ _ _ _ _ _ _ _ _ _ _ _ _ _ _ _ _ _ _ _ _ _ _ _ _ _ _ _ _ _ _ _ _ _ _ _ _ _ _ _ _ _ _ _ _ _ _ _ _ ?_)
        intro u32 u33 u34 u35 u36 u37 u38 u39 u40 u41 u42 u43 u44 u45 u46 u47 u48 u49 u50 u51 u52 u53 u54 u55 u56 u57 u58 u59 u60 u61 u62 u63 u64 u65 u66 u67 u68 u69 u70 u71 u72 u73 u74 u75 u76 u77 u78 u79 u80 u81 u82 u83 u84 u85 u86 u87 u88 u89 u90 u91 u92 wx hx
        have HX5 := Lib.hid (HX3.out.trans hx)
        clear hx
        go_wp2_with fail
        go_ret
        exact ⟨ret_bool HC.out.symm, HX0.out.trans HX5.out⟩
      case neg =>
      have u4 : (f == t) = false := by rw [beq_eq_false_iff_ne]; exact q4
      by_cases q5 : f = h.tgt
      case pos =>
        have hc : Su.valid h l = false := Su.valid_hop hlt (by rw [HFT.out]; exact .inr (.inr (.inr (.inr (.inr (.inl q5))))))
        have HC := Lib.hid hc
        clear hc
        have u5 : (f == h.tgt) = true := by rw [beq_iff_eq]; exact q5
        clear q5
        go_wp2_with fail
        refine wp_atEnd (hop_5 _ f t _ n (by go_simp) (by go_simp) (by omega) (by omega) (by omega) (by omega) u4 h.tgt _ e2 u5 _ _ _ _ _ _ _ _ _ _ _ _ _ _ _ _ _ _ _ _ _ _ _ _ _ _ _ _ _ _ _ _ _ _ _ _ _ _ _ _ _ _ _ _ _ _ _ _ _ _ _ _ _ _ _ _ _ _ _ _ _ _ _ _ _ _ _ _ _ _ _ _ _ _ _ _ _ _ _ _ _ _ _ _ _ _ _ _ _ _ _ _ _ _ _ _ _ _ _ _ _ _ _ _ _ _ _ _ _ _ _ _ _ _ _ _ _ _ _ _ _ _ _ _ _ _ _ _ _ _ _ _ _ _ _ _ _ _ _ _ ?_)
        intro u32 u33 u34 u35 u36 u37 u38 u39 u40 u41 u42 u43 u44 u45 u46 u47 u48 u49 u50 u51 u52 u53 u54 u55 u56 u57 u58 u59 u60 u61 u62 u63 u64 u65 u66 u67 u68 u69 u70 u71 u72 u73 u74 u75 u76 u77 u78 u79 u80 u81 u82 u83 u84 u85 u86 u87 u88 u89 u90 u91 u92 wx hx
        have HX5 := Lib.hid (HX3.out.trans hx)
        clear hx
        go_wp2_with fail
        go_ret
        exact ⟨ret_bool HC.out.symm, HX0.out.trans HX5.out⟩
      case neg =>
      have u5 : (f == h.tgt) = false := by rw [beq_eq_false_iff_ne]; exact q5
      obtain ⟨a, rfl⟩ : ∃ a : Nat, f = a := ⟨f.toNat, by omega⟩
      obtain ⟨bb, rfl⟩ : ∃ bb : Nat, t = bb := ⟨t.toNat, by omega⟩
      have ha : a < n := by omega
      have hb : bb < n := by omega
      obtain ⟨ad1, ad2, cc, hA, g1, g2⟩ := price_at HG.out HK.out.1 hn ha hb
      rw [hA] at e0
      have g1 := ((Ext.refl wr).alloc (.cells #[.int .i64 a, .int .i64 bb] 65)).cell (HI.out.1.ext.cell g1)
      have g2 := ((Ext.refl wr).alloc (.cells #[.int .i64 a, .int .i64 bb] 65)).cell (HI.out.1.ext.cell g2)
      obtain ⟨pp, hpp⟩ : ∃ pp, Su.price h a bb = pp := ⟨_, rfl⟩
      rw [hpp] at g2
      clear q0 q1 q2 q3 q4 hA kb kb2
      by_cases q6 : pp < 0
      case pos =>
        have hc : Su.valid h l = false := Su.valid_hop hlt (by rw [HFT.out]; exact .inr (.inr (.inr (.inr (.inr (.inr (.inl (by rw [hpp]; exact q6))))))))
        have HC := Lib.hid hc
        clear hc
        clear hpp
        go_wp2_with fail
        refine wp_atEnd (hop_6 _ a bb _ n (by go_simp) (by go_simp) ha hb u4 h.tgt _ e2 u5 c cc ad1 ad2 pp e0 g1 g2 (by omega) _ _ _ _ _ _ _ _ _ _ _ _ _ _ _ _ _ _ _ _ _ _ _ _ _ _ _ _ _ _ _ _ _ _ _ _ _ _ _ _ _ _ _ _ _ _ _ _ _ _ _ _ _ _ _ _ _ _ _ _ _ _ _ _ _ _ _ _ _ _ _ _ _ _ _ _ _ _ _ _ _ _ _ _ _ _ _ _ _ _ _ _ _ _ _ _ _ _ _ _ _ _ _ _ _ _ _ _ _ _ _ _ _ _ _ _ _ _ _ _ _ _ _ _ _ _ _ _ _ _ _ _ _ _ _ _ _ _ _ _ ?_)
        intro u32 u33 u34 u35 u36 u37 u38 u39 u40 u41 u42 u43 u44 u45 u46 u47 u48 u49 u50 u51 u52 u53 u54 u55 u56 u57 u58 u59 u60 u61 u62 u63 u64 u65 u66 u67 u68 u69 u70 u71 u72 u73 u74 u75 u76 u77 u78 u79 u80 u81 u82 u83 u84 u85 u86 u87 u88 u89 u90 u91 u92 wx hx
        have HX5 := Lib.hid (HX3.out.trans hx)
        clear hx
        go_wp2_with fail
        go_ret
        exact ⟨ret_bool HC.out.symm, HX0.out.trans HX5.out⟩
      case neg =>
      by_cases q7 : 0 < i ∧ (a : Int) ≤ (l.getD (i - 1) (0, 0)).1
      case pos =>
        obtain ⟨j, rfl⟩ : ∃ j, i = j + 1 := ⟨i - 1, by omega⟩
        obtain ⟨ad', f0, t0, e', hf0, m1, _, mb, _⟩ := HL.out.at (i := j) (by omega)
        injection e' with e'
        subst e'
        have m1' := ((Ext.refl wr).alloc (.cells #[.int .i64 a, .int .i64 bb] 65)).cell (HI.out.1.ext.cell m1)
        have q8 := q7.2
        simp only [Nat.add_sub_cancel] at q8
        rw [hf0] at q8
        simp only at q8
        clear m1 hf0
        have hc : Su.valid h l = false := Su.valid_hop hlt (by rw [HFT.out]; exact .inr (.inr (.inr (.inr (.inr (.inr (.inr q7)))))))
        have HC := Lib.hid hc
        clear hc
        clear hpp q7
        go_wp2_with fail
        refine wp_atEnd (hop_7 _ a bb _ n (by go_simp) (by go_simp) ha hb u4 h.tgt _ e2 u5 c cc ad1 ad2 pp e0 g1 g2 (by omega) _ f0 j l.length e ad (by omega) (by omega) hl3 m1' (by omega) _ _ _ _ _ _ _ _ _ _ _ _ _ _ _ _ _ _ _ _ _ _ _ _ _ _ _ _ _ _ _ _ _ _ _ _ _ _ _ _ _ _ _ _ _ _ _ _ _ _ _ _ _ _ _ _ _ _ _ _ _ _ _ _ _ _ _ _ _ _ _ _ _ _ _ _ _ _ _ _ _ _ _ _ _ _ _ _ _ _ _ _ _ _ _ _ _ _ _ _ _ _ _ _ _ _ _ _ _ _ _ _ _ _ _ _ _ _ _ _ _ _ _ _ _ _ _ _ _ _ _ _ _ _ _ _ _ _ ?_)
        intro u32 u33 u34 u35 u36 u37 u38 u39 u40 u41 u42 u43 u44 u45 u46 u47 u48 u49 u50 u51 u52 u53 u54 u55 u56 u57 u58 u59 u60 u61 u62 u63 u64 u65 u66 u67 u68 u69 u70 u71 u72 u73 u74 u75 u76 u77 u78 u79 u80 u81 u82 u83 u84 u85 u86 u87 u88 u89 u90 u91 u92 wx hx
        have HX5 := Lib.hid (HX3.out.trans hx)
        clear hx
        go_wp2_with fail
        go_ret
        exact ⟨ret_bool HC.out.symm, HX0.out.trans HX5.out⟩
      case neg =>
      have hgood : ∀ k, k < i + 1 → ¬ Su.badHop h l k (l.getD k (0, 0)) := fun k hk => by
        by_cases hki : k = i
        · rw [hki, HFT.out]
          rintro (z | z | z | z | z | z | z | z)
          · simp only at z; omega
          · simp only at z; omega
          · simp only at z; omega
          · simp only at z; omega
          · simp only at z; rw [z] at u4; simp at u4
          · exact q5 z
          · simp only at z; omega
          · exact q7 z
        · exact HI.out.2 k (by omega)
      have hfr := Su.fresh hlt (fun k hk => hgood k (by omega))
      have htk := Su.take_snoc hlt
      have hge := Su.rise_ge _ hlt (fun k hk => hgood k (by omega))
      rw [HFT.out] at hfr htk hge
      have h12 : i + 1 ≤ 12 := by simp only at hge; omega
      clear hge
      have hkey : keyOf Tryd.prog 3 (.int .i64 (a : Int)) = some (.int .i64 (a : Int)) := Go.Maps.keyOf_int_mk Tryd.underlying3 (WalkArith.wf_i64 (by omega))
      have hwf : (Lit.int .i64 (bb : Int)).wf = true := WalkArith.wf_i64 (by omega)
      have HGOOD := Lib.hid (And.intro hgood (And.intro hfr htk))
      clear hgood hfr htk hpp
      obtain ⟨D, hD, hS⟩ := HI.out.1.own
      have HD := Lib.hid (And.intro hD hS)
      have HDA := Lib.hid (ownsMap_ext hD ((Ext.refl wr).alloc (.cells #[.int .i64 a, .int .i64 bb] 65)))
      clear hD hS
      have hfin : ∀ (w4 w5 : World), Ext (wr.alloc (.cells #[.int .i64 a, .int .i64 bb] 65)) w4 → w5.ownsMap Tryd.prog 3 (plainElem Tryd.prog 3) b (i + 1) (D.put (.int .i64 (a : Int)) (.lit (.int .i64 (bb : Int)))) → w4.grownBy w5 (some b) → VR (w.alloc (.cells #[.slice A n c, .slice B h.src.length d, .int .i64 h.tgt] 25)) w5 b (i + 1) (l.take (i + 1)) := fun w4 w5 hx h1 h2 => by
        refine ⟨(HX3.out.trans hx).grown h2 (fun k hk => by injection hk with hk; rw [← hk]; exact HGE.out), _, h1, ?_⟩
        rw [HGOOD.out.2.2]
        exact HD.out.2.hop HD.out.1.isMap HGOOD.out.2.1
      have HFIN := Lib.hid hfin
      clear hfin
      rcases Nat.eq_zero_or_pos i with hi0 | hi0
      · subst hi0
        have e00 : ad.add (0 * 2) = ad := by simp [Addr.add]
        rw [e00] at k1' k2'
        clear q7 e00
        go_wp2_with fail
        refine wp_atEnd (hop_8 _ a bb _ n (by go_simp) (by go_simp) ha hb u4 h.tgt _ e2 u5 c cc ad1 ad2 pp e0 g1 g2 (by omega) _ (by omega) _ _ _ _ _ _ _ _ _ _ _ _ _ _ _ _ _ _ _ _ _ _ _ _ _ _ _ _ _ _ _ _ _ _ _ _ _ _ _ _ _ _ _ _ _ _ _ _ _ _ _ _ _ _ _ _ _ _ _ _ _ _ _ _ _ _ _ _ _ _ _ _ _ _ _ _ _ _ _ _ _ _ _ _ _ _ _ _ _ _ _ _ _ _ _ _ _ _ _ _ _ _ _ _ _ _ _ _ _ _ _ _ _ _ _ _ _ _ _ _ _ _ _ _ _ _ _ _ _ _ _ _ _ _ _ _ _ _ _ ?_)
        intro u32 u33 u34 u35 u36 u37 u38 u39 u40 u41 u42 u43 u44 u45 u46 u47 u48 u49 u50 u51 u52 u53 u54 u55 u56 u57 u58 u59 u60 u61 u62 u63 u64 u65 u66 u67 u68 u69 u70 u71 u72 u73 u74 u75 u76 u77 u78 u79 u80 u81 u82 u83 u84 u85 u86 u87 u88 u89 u90 u91 u92 wx hx
        have k0 : wx.cell? ⟨wr.heap.size, 0, none⟩ = some (.int .i64 a) := hx.cell (by go_simp)
        have k1 : wx.cell? ⟨wr.heap.size, 1, none⟩ = some (.int .i64 bb) := hx.cell (by go_simp)
        have HX5 := Lib.hid hx
        clear hx
        go_wp2_with (at_mapUpdate; refine wpList_mapUpdate_own _ rfl _ _ _ 72 rfl 3 3 hopLaw Tryd.underlying72 _ b 0 D rfl (ownsMap_ext HDA.out HX5.out) (by unfold maxLen; omega) _ _ _ rfl rfl hkey (.lit (.int .i64 (bb : Int))) [] (plainElem_int Tryd.underlying3 hwf) ?_; intro w5 hown5 hgrow5)
        have H5 := Lib.hid (HFIN.out _ _ HX5.out hown5 hgrow5)
        clear hown5 hgrow5 k0 k1
        go_roundw
        case rel => exact ⟨0 + 1, by omega, by omega, by go_num, Lib.hid ⟨H5.out, HGOOD.out.1⟩⟩
        case measure => simp [intOf]; omega
      · obtain ⟨j, rfl⟩ : ∃ j, i = j + 1 := ⟨i - 1, by omega⟩
        obtain ⟨ad', f0, t0, e', hf0, m1, _, mb, _⟩ := HL.out.at (i := j) (by omega)
        injection e' with e'
        subst e'
        have m1' := ((Ext.refl wr).alloc (.cells #[.int .i64 a, .int .i64 bb] 65)).cell (HI.out.1.ext.cell m1)
        have q8 : ¬ (a : Int) ≤ f0 := fun z => q7 ⟨hi0, by simp only [Nat.add_sub_cancel]; rw [hf0]; exact z⟩
        clear m1 hf0 q7
        go_wp2_with fail
        refine wp_atEnd (hop_9 _ a bb _ n (by go_simp) (by go_simp) ha hb u4 h.tgt _ e2 u5 c cc ad1 ad2 pp e0 g1 g2 (by omega) _ f0 j l.length e ad (by omega) (by omega) hl3 m1' (by omega) _ _ _ _ _ _ _ _ _ _ _ _ _ _ _ _ _ _ _ _ _ _ _ _ _ _ _ _ _ _ _ _ _ _ _ _ _ _ _ _ _ _ _ _ _ _ _ _ _ _ _ _ _ _ _ _ _ _ _ _ _ _ _ _ _ _ _ _ _ _ _ _ _ _ _ _ _ _ _ _ _ _ _ _ _ _ _ _ _ _ _ _ _ _ _ _ _ _ _ _ _ _ _ _ _ _ _ _ _ _ _ _ _ _ _ _ _ _ _ _ _ _ _ _ _ _ _ _ _ _ _ _ _ _ _ _ _ _ ?_)
        intro u32 u33 u34 u35 u36 u37 u38 u39 u40 u41 u42 u43 u44 u45 u46 u47 u48 u49 u50 u51 u52 u53 u54 u55 u56 u57 u58 u59 u60 u61 u62 u63 u64 u65 u66 u67 u68 u69 u70 u71 u72 u73 u74 u75 u76 u77 u78 u79 u80 u81 u82 u83 u84 u85 u86 u87 u88 u89 u90 u91 u92 wx hx
        have k0 : wx.cell? ⟨wr.heap.size, 0, none⟩ = some (.int .i64 a) := hx.cell (by go_simp)
        have k1 : wx.cell? ⟨wr.heap.size, 1, none⟩ = some (.int .i64 bb) := hx.cell (by go_simp)
        have HX5 := Lib.hid hx
        clear hx
        go_wp2_with (at_mapUpdate; refine wpList_mapUpdate_own _ rfl _ _ _ 72 rfl 3 3 hopLaw Tryd.underlying72 _ b (j + 1) D rfl (ownsMap_ext HDA.out HX5.out) (by unfold maxLen; omega) _ _ _ rfl rfl hkey (.lit (.int .i64 (bb : Int))) [] (plainElem_int Tryd.underlying3 hwf) ?_; intro w5 hown5 hgrow5)
        have H5 := Lib.hid (HFIN.out _ _ HX5.out hown5 hgrow5)
        clear hown5 hgrow5 k0 k1
        go_roundw
        case rel => exact ⟨j + 1 + 1, by omega, by omega, by go_num, Lib.hid ⟨H5.out, HGOOD.out.1⟩⟩
        case measure => simp [intOf]; omega
    · obtain rfl : i = l.length := by omega
      have hops : Su.hopsOk h l := HI.out.2
      have hvr : VR (w.alloc (.cells #[.slice A n c, .slice B h.src.length d, .int .i64 h.tgt] 25)) wr b l.length l := by have := HI.out.1; rwa [List.take_length] at this
      have HOPS := Lib.hid hops
      have HVR := Lib.hid hvr
      clear hops hvr
      obtain ⟨wo, hwo⟩ : ∃ wo, wo = wr := ⟨_, rfl⟩
      rw [← hwo] at HVR ⊢
      clear HI hwo
      have d0 : wo.cell? ⟨w.heap.size, 0, none⟩ = some (.slice A n c) := HVR.out.ext.cell (by go_simp)
      have d1 : wo.cell? ⟨w.heap.size, 1, none⟩ = some (.slice B h.src.length d) := HVR.out.ext.cell (by go_simp)
      have d2 : wo.cell? ⟨w.heap.size, 2, none⟩ = some (.int .i64 h.tgt) := HVR.out.ext.cell (by go_simp)
      go_wp2_with fail
      clear d0 d1 d2
      refine (uSenders_any h _ _ (RH.ext _ _ _ _ HVR.out.ext HV.out) (fun k hk => Nat.le_trans (Su.send_few HK.out.1.src k hk) (by rw [HK.out.2.2]; exact hn12))).mono ?_
      rintro ee w2 ⟨A9, n9, c9, rfl, hr9, hx9⟩
      have hn9 := hr9.len
      have hvr2 := HVR.out.next hx9
      have HN9 := Lib.hid hn9
      have HR9 := Lib.hid hr9
      have h9 : n9 ≤ 8 := by have := HK.out.1.send; omega
      have HVR := Lib.hid hvr2
      clear hr9 hx9 hn9 hvr2
      obtain ⟨D, hD, hS⟩ := HVR.out.own
      have HD := Lib.hid (And.intro hD hS)
      clear hD hS
      go_wp2_with fail
      go_loop [103] (fun vi => ∃ i : Nat, i ≤ n9 ∧ vi = .int .i64 i ∧ Hid (∀ j, j < i → Su.nextOf l ((Su.senders h).getD j 0) ≠ none)) (fun vi => n9 - (intOf vi).toNat)
      case atStart => exact ⟨0, Nat.zero_le _, rfl, Lib.hid fun j hj => absurd hj (Nat.not_lt_zero j)⟩
      case round =>
        obtain ⟨i, hi, rfl, HJ⟩ := hrel
        by_cases hlt : i < n9
        · have hll : i < (Su.senders h).length := by rw [← HN9.out]; exact hlt
          obtain ⟨ad, u, rfl, hc, hu⟩ := HR9.out.at hll
          obtain ⟨rfl, hlo, hhi⟩ := hu
          have hgd := getD_get (x := (0 : Int)) hll
          have hmem := List.getElem_mem hll
          obtain ⟨y, hy⟩ : ∃ y, (Su.senders h)[i] = y := ⟨_, rfl⟩
          rw [hy] at hc hgd hlo hhi hmem
          have HM := Lib.hid (And.intro hgd hmem)
          clear hgd hmem hy
          cases hnx : Su.nextOf l y with
          | none =>
            have hc2 : Su.valid h l = false := Su.valid_send HM.out.2 hnx
            have hz : (Su.nextOf l y).getD 0 = 0 := by rw [hnx]; rfl
            have hb : (Su.nextOf l y).isSome = false := by rw [hnx]; rfl
            have HC := Lib.hid hc2
            have HZ := Lib.hid (And.intro hz hb)
            clear hc2 hz hb hnx
            go_wp2_with (at_lookup; refine wpl_look rfl _ _ rfl b l.length rfl HD.out.1 HD.out.2 rfl hlo hhi HZ.out.1 HZ.out.2 ?_)
            go_ret
            exact ⟨ret_bool HC.out.symm, HX0.out.trans HVR.out.ext⟩
          | some z =>
            have hz : (Su.nextOf l y).getD 0 = z := by rw [hnx]; rfl
            have hb : (Su.nextOf l y).isSome = true := by rw [hnx]; rfl
            have HZ := Lib.hid (And.intro hz (And.intro hb hnx))
            clear hz hb hnx
            go_wp2_with (at_lookup; refine wpl_look rfl _ _ rfl b l.length rfl HD.out.1 HD.out.2 rfl hlo hhi HZ.out.1 HZ.out.2.1 ?_)
            go_round
            case rel => exact ⟨i + 1, by omega, by go_num, Lib.hid fun j hj => by
              by_cases hji : j = i
              · rw [hji, HM.out.1, HZ.out.2.2]; simp
              · exact HJ.out j (by omega)⟩
            case measure => simp [intOf]; omega
        · obtain rfl : i = n9 := by omega
          have hsend : ∀ a ∈ Su.senders h, Su.nextOf l a ≠ none := fun a ha => by
            obtain ⟨j, hj, rfl⟩ := List.getElem_of_mem ha
            have := HJ.out j (by rw [HN9.out]; exact hj)
            rwa [getD_get hj] at this
          have HSEND := Lib.hid hsend
          clear hsend
          go_wp2_with fail
          clear HD
          go_loopw [118] (fun vi wr => ∃ i : Nat, i ≤ l.length ∧ vi = .int .i64 i ∧ Hid (VR (w.alloc (.cells #[.slice A n c, .slice B h.src.length d, .int .i64 h.tgt] 25)) wr b l.length l ∧ ∀ j, j < i → Su.go l n (l.getD j (0, 0)).1 = h.tgt)) (fun vi _ => l.length - (intOf vi).toNat)
          case atStart => exact ⟨0, Nat.zero_le _, rfl, Lib.hid ⟨HVR.out, fun j hj => absurd hj (Nat.not_lt_zero j)⟩⟩
          case round =>
            obtain ⟨i, hi, rfl, HI⟩ := hrel
            by_cases hlt : i < l.length
            · obtain ⟨ad, f, t, rfl, hft, k1, k2, kb, kb2⟩ := HL.out.at hlt
              have k1' := HI.out.1.ext.cell k1
              have k2' := HI.out.1.ext.cell k2
              have hxx := (Ext.refl wr).alloc (.cells #[.int .i64 f, .int .i64 t] 65)
              have HVX := Lib.hid (HI.out.1.next hxx)
              have hf := HOPS.out i hlt
              rw [hft] at hf
              unfold Su.badHop at hf
              simp only at hf
              have hfin : 0 ≤ f ∧ f < (h.pr.length : Int) := by omega
              have HF := Lib.hid (And.intro hft hfin)
              obtain ⟨D, hD, hS⟩ := HVX.out.own
              have HD := Lib.hid (And.intro hD hS)
              have e2 : (wr.alloc (.cells #[.int .i64 f, .int .i64 t] 65)).cell? ⟨w.heap.size, 2, none⟩ = some (.int .i64 h.tgt) := HVX.out.ext.cell (by go_simp)
              clear hft k1 k2 hxx hD hS hf hfin
              go_wp2_with fail
              clear k1' k2'
              go_loop [15, 125] (fun va vk => ∃ (k : Nat) (y : Int), k ≤ n ∧ vk = .int .i64 k ∧ va = .int .i64 y ∧ Hid (Su.go l k f = y)) (fun _ vk => n - (intOf vk).toNat)
              case atStart => exact ⟨0, f, Nat.zero_le _, rfl, rfl, Lib.hid (Su.go_zero _ _)⟩
              case round =>
                obtain ⟨k, y, hk, rfl, rfl, HY⟩ := hrel
                by_cases hlt2 : k < n
                · have hyb := Su.go_in HOPS.out HF.out.2 k
                  rw [HY.out, hn] at hyb
                  obtain ⟨hy1, hy2⟩ := hyb
                  cases hnx : Su.nextOf l y with
                  | none =>
                    have hz : (Su.nextOf l y).getD 0 = 0 := by rw [hnx]; rfl
                    have hb : (Su.nextOf l y).isSome = false := by rw [hnx]; rfl
                    have hg : Su.go l (k + 1) f = y := by rw [Su.go_none (by rw [HY.out]; exact hnx), HY.out]
                    have HZ := Lib.hid (And.intro hz (And.intro hb hg))
                    clear hz hb hnx hg
                    go_wp2_with (at_lookup; refine wpl_look rfl _ _ rfl b l.length rfl HD.out.1 HD.out.2 rfl (by omega) (by omega) HZ.out.1 HZ.out.2.1 ?_)
                    go_round
                    case rel => exact ⟨k + 1, y, by omega, by go_num, rfl, Lib.hid HZ.out.2.2⟩
                    case measure => simp [intOf]; omega
                  | some z =>
                    have hz : (Su.nextOf l y).getD 0 = z := by rw [hnx]; rfl
                    have hb : (Su.nextOf l y).isSome = true := by rw [hnx]; rfl
                    have hg : Su.go l (k + 1) f = z := Su.go_some (by rw [HY.out]; exact hnx)
                    have HZ := Lib.hid (And.intro hz (And.intro hb hg))
                    clear hz hb hnx hg
                    go_wp2_with (at_lookup; refine wpl_look rfl _ _ rfl b l.length rfl HD.out.1 HD.out.2 rfl (by omega) (by omega) HZ.out.1 HZ.out.2.1 ?_)
                    go_round
                    case rel => exact ⟨k + 1, z, by omega, by go_num, rfl, Lib.hid HZ.out.2.2⟩
                    case measure => simp [intOf]; omega
                · obtain rfl : k = n := by omega
                  by_cases hyt : y = h.tgt
                  · have e3 : (y != h.tgt) = false := by rw [hyt]; simp
                    have hg : Su.go l k (l.getD i (0, 0)).1 = h.tgt := by rw [HF.out.1]; show Su.go l k f = h.tgt; rw [HY.out, hyt]
                    have HG2 := Lib.hid hg
                    clear hg hyt
                    go_wp2_with fail
                    clear e2
                    go_roundw
                    case rel => exact ⟨i + 1, by omega, by go_num, Lib.hid ⟨HVX.out, fun j hj => by
                      by_cases hji : j = i
                      · rw [hji]; exact HG2.out
                      · exact HI.out.2 j (by omega)⟩⟩
                    case measure => simp [intOf]; omega
                  · have e3 : (y != h.tgt) = true := by rw [bne_iff_ne]; exact hyt
                    have hc2 : Su.valid h l = false := Su.valid_go (x := l.getD i (0, 0)) (by rw [getD_get hlt]; exact List.getElem_mem _) (by rw [HF.out.1, hn]; show Su.go l k f ≠ h.tgt; rw [HY.out]; exact hyt)
                    have HC := Lib.hid hc2
                    clear hc2 hyt
                    go_wp2_with fail
                    go_ret
                    exact ⟨ret_bool HC.out.symm, HX0.out.trans HVX.out.ext⟩
            · obtain rfl : i = l.length := by omega
              have hc2 : Su.valid h l = true := Su.valid_iff.2 ⟨HK.out.2.1, HOPS.out, HSEND.out, fun x hx => by
                obtain ⟨j, hj, e⟩ := Su.mem_at hx
                rw [← e, hn]
                exact HI.out.2 j hj⟩
              have HC := Lib.hid hc2
              clear hc2
              go_wp2_with fail
              go_ret
              exact ⟨ret_bool HC.out.symm, HX0.out.trans HI.out.1.ext⟩
end Go.Proofs.YtenafgphaceidaaDoor

/- THE WALK over Carry's closure: the sum of a house. -/
namespace Su
theorem sumLen (s t : List UInt8) : (Gf.sum s t).length = max s.length t.length := by simp [Gf.sum]
theorem scaleLen (c : UInt8) (s : List UInt8) : (Gf.scale c s).length = s.length := by simp [Gf.scale]
/-- What a house has of its own, of the first k pieces. -/
def partTo (src : List Int) (coef : List UInt8) (ps : List (List UInt8)) (a : Int) (z : List UInt8) : Nat → List UInt8
  | 0 => z
  | k + 1 => if src.getD k 0 = a then Gf.sum (partTo src coef ps a z k) (Gf.scale (coef.getD k 0) (ps.getD k [])) else partTo src coef ps a z k
theorem partTo_zero (src : List Int) (coef : List UInt8) (ps : List (List UInt8)) (a : Int) (z : List UInt8) : partTo src coef ps a z 0 = z := rfl
theorem partTo_yes {src : List Int} {coef : List UInt8} {ps : List (List UInt8)} {a : Int} {z : List UInt8} {k : Nat} (h : src.getD k 0 = a) : partTo src coef ps a z (k + 1) = Gf.sum (partTo src coef ps a z k) (Gf.scale (coef.getD k 0) (ps.getD k [])) := if_pos h
theorem partTo_no {src : List Int} {coef : List UInt8} {ps : List (List UInt8)} {a : Int} {z : List UInt8} {k : Nat} (h : ¬ src.getD k 0 = a) : partTo src coef ps a z (k + 1) = partTo src coef ps a z k := if_neg h
theorem partTo_len {src : List Int} {coef : List UInt8} {ps : List (List UInt8)} {a : Int} {z : List UInt8} {M : Nat} (hz : z.length ≤ M) (hp : ∀ p ∈ ps, p.length ≤ M) : ∀ k, (partTo src coef ps a z k).length ≤ M
  | 0 => hz
  | k + 1 => by
    have ih := partTo_len (src := src) (coef := coef) (a := a) hz hp k
    rw [partTo]
    split
    · rw [sumLen, scaleLen]
      have : (ps.getD k []).length ≤ M := by
        rw [List.getD_eq_getElem?_getD]
        cases h : ps[k]? with
        | none => simp
        | some p => exact hp p (List.mem_of_getElem? h)
      omega
    · exact ih
/-- What a house has behind the first k hops. -/
def hopsTo (rec : Int → Option (List UInt8)) (l : List (Int × Int)) (a : Int) (z : List UInt8) : Nat → Option (List UInt8)
  | 0 => some z
  | k + 1 => (hopsTo rec l a z k).bind fun s => if (l.getD k (0, 0)).2 = a then (rec (l.getD k (0, 0)).1).map (Gf.sum s) else some s
theorem hopsTo_pre {rec : Int → Option (List UInt8)} {l : List (Int × Int)} {a : Int} {z V : List UInt8} {k : Nat} (h : hopsTo rec l a z (k + 1) = some V) : ∃ s, hopsTo rec l a z k = some s ∧ (((l.getD k (0, 0)).2 = a ∧ ∃ r, rec (l.getD k (0, 0)).1 = some r ∧ V = Gf.sum s r) ∨ (¬ (l.getD k (0, 0)).2 = a ∧ V = s)) := by
  rw [hopsTo] at h
  cases e : hopsTo rec l a z k with
  | none => rw [e] at h; cases h
  | some s =>
    rw [e] at h
    refine ⟨s, rfl, ?_⟩
    simp only [Option.bind_some] at h
    split at h
    · rename_i h1
      cases e2 : rec (l.getD k (0, 0)).1 with
      | none => rw [e2] at h; cases h
      | some r =>
        rw [e2] at h
        injection h with h
        exact .inl ⟨h1, r, rfl, h.symm⟩
    · rename_i h1
      injection h with h
      exact .inr ⟨h1, h.symm⟩
theorem hopsTo_all {rec : Int → Option (List UInt8)} {l : List (Int × Int)} {a : Int} {z : List UInt8} : ∀ (m : Nat) (V : List UInt8), hopsTo rec l a z m = some V → ∀ k, k ≤ m → ∃ s, hopsTo rec l a z k = some s
  | 0, V, h, k, hk => by obtain rfl : k = 0 := by omega
                         exact ⟨V, h⟩
  | m + 1, V, h, k, hk => by
    by_cases hkm : k = m + 1
    · subst hkm; exact ⟨V, h⟩
    · obtain ⟨s, hs, _⟩ := hopsTo_pre h
      exact hopsTo_all m s hs k (by omega)
/-- The sum of a house; none if it takes too long. -/
def sumF (src : List Int) (l : List (Int × Int)) (coef : List UInt8) (ps : List (List UInt8)) (n : Nat) : Nat → Int → Option (List UInt8)
  | 0, _ => none
  | f + 1, a => hopsTo (sumF src l coef ps n f) l a (partTo src coef ps a (List.replicate n 0) src.length) l.length
theorem sumF_succ (src : List Int) (l : List (Int × Int)) (coef : List UInt8) (ps : List (List UInt8)) (n f : Nat) (a : Int) : sumF src l coef ps n (f + 1) a = hopsTo (sumF src l coef ps n f) l a (partTo src coef ps a (List.replicate n 0) src.length) l.length := rfl
theorem hopsTo_len {rec : Int → Option (List UInt8)} {l : List (Int × Int)} {a : Int} {z : List UInt8} {M : Nat} (hr : ∀ x r, rec x = some r → r.length ≤ M) (hz : z.length ≤ M) : ∀ k V, hopsTo rec l a z k = some V → V.length ≤ M
  | 0, V, h => by injection h with h; rw [← h]; exact hz
  | k + 1, V, h => by
    obtain ⟨s, hs, hc⟩ := hopsTo_pre h
    have ih := hopsTo_len (l := l) (a := a) hr hz k s hs
    rcases hc with ⟨_, r, hrr, rfl⟩ | ⟨_, rfl⟩
    · rw [sumLen]; have := hr _ _ hrr; omega
    · exact ih
theorem sumF_len {src : List Int} {l : List (Int × Int)} {coef : List UInt8} {ps : List (List UInt8)} {n M : Nat} (hn : n ≤ M) (hp : ∀ p ∈ ps, p.length ≤ M) : ∀ f a V, sumF src l coef ps n f a = some V → V.length ≤ M
  | 0, _, _, h => by cases h
  | f + 1, a, V, h => by
    rw [sumF_succ] at h
    exact hopsTo_len (fun x r hx => sumF_len hn hp f x r hx) (partTo_len (by simpa using hn) hp _) _ _ h
end Su
namespace Go.Proofs.YtenafgphaceidaaDoor
open Go.RowKit
theorem enters37 : ∀ args w, (callFunc 37 args).run Tryd.prog w = .ok (.enter 37 args) w := enters_of Tryd.func37 (by kernel_rfl) rfl
/-- What the closure reads. -/
structure CW (w : World) (P12 P4 P6 P7 P5 P14 : Nat) (src : List Int) (l : List (Int × Int)) (coef : List UInt8) (ps : List (List UInt8)) (whole : List UInt8) : Prop where
  tab : Tab w
  p12 : w.cell? ⟨P12, 0, none⟩ = some (.string (sb whole))
  p4 : ∃ S c, w.cell? ⟨P4, 1, none⟩ = some (.slice S src.length c) ∧ Rs RI w (.slice S src.length c) src
  p6 : ∃ A c, w.cell? ⟨P6, 0, none⟩ = some (.slice A coef.length c) ∧ Rd w A (coef.map bv)
  p7 : ∃ A c, w.cell? ⟨P7, 0, none⟩ = some (.slice A ps.length c) ∧ Rd w A (ps.map fun p => .string (sb p))
  p5 : ∃ A c, w.cell? ⟨P5, 0, none⟩ = some (.slice A l.length c) ∧ RL w (.slice A l.length c) l
  p14 : w.cell? ⟨P14, 0, none⟩ = some (.func (.func 37) #[] #[.pointer (some ⟨P12, 0, none⟩), .pointer (some ⟨P4, 0, none⟩), .pointer (some ⟨P6, 0, none⟩), .pointer (some ⟨P7, 0, none⟩), .pointer (some ⟨P5, 0, none⟩), .pointer (some ⟨P14, 0, none⟩)])
theorem CW.ext {w w' : World} {P12 P4 P6 P7 P5 P14 : Nat} {src : List Int} {l : List (Int × Int)} {coef : List UInt8} {ps : List (List UInt8)} {whole : List UInt8} (h : CW w P12 P4 P6 P7 P5 P14 src l coef ps whole) (hx : Ext w w') : CW w' P12 P4 P6 P7 P5 P14 src l coef ps whole where
  tab := h.tab.ext hx
  p12 := hx.cell h.p12
  p4 := by obtain ⟨S, c, h1, h2⟩ := h.p4; exact ⟨S, c, hx.cell h1, Rs.ext RI.ext _ _ _ _ hx h2⟩
  p6 := by obtain ⟨S, c, h1, h2⟩ := h.p6; exact ⟨S, c, hx.cell h1, h2.ext hx⟩
  p7 := by obtain ⟨S, c, h1, h2⟩ := h.p7; exact ⟨S, c, hx.cell h1, h2.ext hx⟩
  p5 := by obtain ⟨S, c, h1, h2⟩ := h.p5; exact ⟨S, c, hx.cell h1, RL.ext _ _ _ _ hx h2⟩
  p14 := hx.cell h.p14
end Go.Proofs.YtenafgphaceidaaDoor

/- THE CHEAPEST WAYS, in plain terms: the table that package sums fills. -/
namespace Su
structure Way where
  cost : Int
  half : Int
  frm : Int
def get (W : List Way) (i : Nat) : Way := W.getD i ⟨0, 0, 0⟩
theorem get_set {W : List Way} {i j : Nat} {x : Way} (hi : i < W.length) : get (W.set i x) j = if j = i then x else get W j := by
  unfold get
  rw [List.getD_eq_getElem?_getD, List.getD_eq_getElem?_getD, List.getElem?_set]
  by_cases h : i = j
  · subst h; simp [hi]
  · rw [if_neg h, if_neg (fun e => h e.symm)]
def rep {α : Type} (f : Nat → α → α) : Nat → α → α
  | 0, x => x
  | k + 1, x => f k (rep f k x)
theorem rep_zero {α : Type} (f : Nat → α → α) (x : α) : rep f 0 x = x := rfl
theorem rep_succ {α : Type} (f : Nat → α → α) (k : Nat) (x : α) : rep f (k + 1) x = f k (rep f k x) := rfl
def initStep (s v : Nat) (W : List Way) : List Way := W.set (s * 12 + v) ⟨-1, 0, -1⟩
def oneStep (terms : List Int) (s k : Nat) (W : List Way) : List Way :=
  if s = 2 ^ k then W.set (s * 12 + (terms.getD k 0).toNat) ⟨0, (get W (s * 12 + (terms.getD k 0).toNat)).half, (get W (s * 12 + (terms.getD k 0).toNat)).frm⟩ else W
theorem oneStep_yes {terms : List Int} {s k : Nat} {W : List Way} (h : s = 2 ^ k) : oneStep terms s k W = W.set (s * 12 + (terms.getD k 0).toNat) ⟨0, (get W (s * 12 + (terms.getD k 0).toNat)).half, (get W (s * 12 + (terms.getD k 0).toNat)).frm⟩ := if_pos h
theorem oneStep_no {terms : List Int} {s k : Nat} {W : List Way} (h : ¬ s = 2 ^ k) : oneStep terms s k W = W := if_neg h
/-- Is one sum less than what is known? -/
def better (x c : Int) : Prop := c < 0 ∨ x < c
instance (x c : Int) : Decidable (better x c) := by unfold better; infer_instance
def sum64 (a b : Int) : Int := Go.RowKit.wrap64 (a + b)
def joinStep (s half v : Nat) (W : List Way) : List Way :=
  if 0 ≤ (get W (half * 12 + v)).cost ∧ 0 ≤ (get W ((s - half) * 12 + v)).cost ∧ better (sum64 (get W (half * 12 + v)).cost (get W ((s - half) * 12 + v)).cost) (get W (s * 12 + v)).cost
  then W.set (s * 12 + v) ⟨sum64 (get W (half * 12 + v)).cost (get W ((s - half) * 12 + v)).cost, half, -1⟩ else W
theorem joinStep_yes {s half v : Nat} {W : List Way} (h : 0 ≤ (get W (half * 12 + v)).cost ∧ 0 ≤ (get W ((s - half) * 12 + v)).cost ∧ better (sum64 (get W (half * 12 + v)).cost (get W ((s - half) * 12 + v)).cost) (get W (s * 12 + v)).cost) :
    joinStep s half v W = W.set (s * 12 + v) ⟨sum64 (get W (half * 12 + v)).cost (get W ((s - half) * 12 + v)).cost, half, -1⟩ := if_pos h
theorem joinStep_no {s half v : Nat} {W : List Way} (h : ¬ (0 ≤ (get W (half * 12 + v)).cost ∧ 0 ≤ (get W ((s - half) * 12 + v)).cost ∧ better (sum64 (get W (half * 12 + v)).cost (get W ((s - half) * 12 + v)).cost) (get W (s * 12 + v)).cost)) : joinStep s half v W = W := if_neg h
def halfLoop (s n : Nat) : Nat → Nat → List Way → List Way
  | 0, _, W => W
  | f + 1, half, W => if half = 0 then W else halfLoop s n f ((half - 1) &&& s) (rep (joinStep s half) n W)
theorem halfLoop_end (s n f : Nat) (W : List Way) : halfLoop s n f 0 W = W := by cases f <;> rfl
theorem halfLoop_next {s n f half : Nat} {W : List Way} (h : 0 < half) (hf : half ≤ f) : halfLoop s n f half W = halfLoop s n (f - 1) ((half - 1) &&& s) (rep (joinStep s half) n W) := by
  obtain ⟨g, rfl⟩ : ∃ g, f = g + 1 := ⟨f - 1, by omega⟩
  rw [halfLoop, if_neg (by omega), Nat.add_sub_cancel]
theorem and_small (a s : Nat) : (a &&& s) ≤ a := Nat.and_le_left
def moveStep (h : Ha) (s u v : Nat) (W : List Way) : List Way :=
  if u ≠ v ∧ 0 ≤ price h u v ∧ 0 ≤ (get W (s * 12 + u)).cost ∧ better (sum64 (get W (s * 12 + u)).cost (price h u v)) (get W (s * 12 + v)).cost
  then W.set (s * 12 + v) ⟨sum64 (get W (s * 12 + u)).cost (price h u v), 0, u⟩ else W
theorem moveStep_yes {h : Ha} {s u v : Nat} {W : List Way} (c : u ≠ v ∧ 0 ≤ price h u v ∧ 0 ≤ (get W (s * 12 + u)).cost ∧ better (sum64 (get W (s * 12 + u)).cost (price h u v)) (get W (s * 12 + v)).cost) :
    moveStep h s u v W = W.set (s * 12 + v) ⟨sum64 (get W (s * 12 + u)).cost (price h u v), 0, u⟩ := if_pos c
theorem moveStep_no {h : Ha} {s u v : Nat} {W : List Way} (c : ¬ (u ≠ v ∧ 0 ≤ price h u v ∧ 0 ≤ (get W (s * 12 + u)).cost ∧ better (sum64 (get W (s * 12 + u)).cost (price h u v)) (get W (s * 12 + v)).cost)) : moveStep h s u v W = W := if_neg c
def relax (h : Ha) (s n : Nat) (W : List Way) : List Way := rep (fun _ W => rep (fun u W => rep (fun v W => moveStep h s u v W) n W) n W) n W
def fill (h : Ha) (terms : List Int) (n s : Nat) (W : List Way) : List Way :=
  if s = 0 then rep (initStep s) 12 W
  else relax h s n (halfLoop s n s ((s - 1) &&& s) (rep (oneStep terms s) terms.length (rep (initStep s) 12 W)))
theorem fill_zero {h : Ha} {terms : List Int} {n : Nat} {W : List Way} : fill h terms n 0 W = rep (initStep 0) 12 W := if_pos rfl
theorem fill_pos {h : Ha} {terms : List Int} {n s : Nat} {W : List Way} (hs : ¬ s = 0) : fill h terms n s W = relax h s n (halfLoop s n s ((s - 1) &&& s) (rep (oneStep terms s) terms.length (rep (initStep s) 12 W))) := if_neg hs
def zeros (N : Nat) : List Way := List.replicate (N * 12) ⟨0, 0, 0⟩
def waysTo (h : Ha) (k : Nat) : List Way := rep (fill h (senders h) h.pr.length) k (zeros (2 ^ (senders h).length))
def ways (h : Ha) : List Way := waysTo h (2 ^ (senders h).length)
theorem ways_def (h : Ha) : ways h = waysTo h (2 ^ (senders h).length) := rfl
theorem waysTo_zero (h : Ha) : waysTo h 0 = zeros (2 ^ (senders h).length) := rfl
theorem waysTo_succ (h : Ha) (k : Nat) : waysTo h (k + 1) = fill h (senders h) h.pr.length k (waysTo h k) := rfl
/-! Lengths. -/
theorem initStep_len (s v : Nat) (W : List Way) : (initStep s v W).length = W.length := List.length_set
theorem oneStep_len (t : List Int) (s v : Nat) (W : List Way) : (oneStep t s v W).length = W.length := by unfold oneStep; split <;> simp
theorem joinStep_len (s f v : Nat) (W : List Way) : (joinStep s f v W).length = W.length := by unfold joinStep; split <;> simp
theorem moveStep_len (h : Ha) (s u v : Nat) (W : List Way) : (moveStep h s u v W).length = W.length := by unfold moveStep; split <;> simp
theorem rep_len {f : Nat → List Way → List Way} (hf : ∀ k W, (f k W).length = W.length) : ∀ k W, (rep f k W).length = W.length
  | 0, _ => rfl
  | k + 1, W => by rw [rep_succ, hf, rep_len hf]
theorem halfLoop_len (s n : Nat) : ∀ f half W, (halfLoop s n f half W).length = W.length
  | 0, _, _ => rfl
  | f + 1, half, W => by
    rw [halfLoop]
    split
    · rfl
    · rw [halfLoop_len s n f, rep_len (joinStep_len s half)]
theorem relax_len (h : Ha) (s n : Nat) (W : List Way) : (relax h s n W).length = W.length :=
  rep_len (fun _ W => rep_len (fun u W => rep_len (fun v W => moveStep_len h s u v W) n W) n W) n W
theorem fill_len (h : Ha) (t : List Int) (n s : Nat) (W : List Way) : (fill h t n s W).length = W.length := by
  unfold fill
  split
  · exact rep_len (initStep_len _) _ _
  · rw [relax_len, halfLoop_len, rep_len (oneStep_len t _), rep_len (initStep_len _)]
theorem waysTo_len (h : Ha) (k : Nat) : (waysTo h k).length = 2 ^ (senders h).length * 12 := by
  unfold waysTo
  rw [rep_len (fun s W => fill_len h _ _ s W), zeros, List.length_replicate]
end Su
namespace Go.Proofs.YtenafgphaceidaaDoor
open Go.RowKit
/-- The cells of the table. -/
def wcells : List Su.Way → List Value
  | [] => []
  | x :: W => .int .i64 x.cost :: .int .i64 x.half :: .int .i64 x.frm :: wcells W
theorem wcells_at : ∀ (W : List Su.Way) (i : Nat), i < W.length → (wcells W)[i * 3]? = some (.int .i64 (Su.get W i).cost) ∧ (wcells W)[i * 3 + 1]? = some (.int .i64 (Su.get W i).half) ∧ (wcells W)[i * 3 + 2]? = some (.int .i64 (Su.get W i).frm)
  | [], i, hi => by simp at hi
  | x :: W, 0, _ => ⟨rfl, rfl, rfl⟩
  | x :: W, i + 1, hi => by
    have h := wcells_at W i (by simpa using hi)
    have e : Su.get (x :: W) (i + 1) = Su.get W i := by simp [Su.get]
    rw [e, show (i + 1) * 3 = i * 3 + 1 + 1 + 1 by omega, show i * 3 + 1 + 1 + 1 + 1 = (i * 3 + 1) + 1 + 1 + 1 by omega, show i * 3 + 1 + 1 + 1 + 2 = (i * 3 + 2) + 1 + 1 + 1 by omega]
    simp only [wcells, List.getElem?_cons_succ]
    exact h
theorem wcells_set : ∀ (W : List Su.Way) (i : Nat) (a b c : Int), (((wcells W).set (i * 3) (.int .i64 a)).set (i * 3 + 1) (.int .i64 b)).set (i * 3 + 2) (.int .i64 c) = wcells (W.set i ⟨a, b, c⟩)
  | [], i, a, b, c => by simp [wcells]
  | x :: W, 0, a, b, c => rfl
  | x :: W, i + 1, a, b, c => by
    have h := wcells_set W i a b c
    rw [show (i + 1) * 3 = i * 3 + 1 + 1 + 1 by omega, show i * 3 + 1 + 1 + 1 + 1 = (i * 3 + 1) + 1 + 1 + 1 by omega, show i * 3 + 1 + 1 + 1 + 2 = (i * 3 + 2) + 1 + 1 + 1 by omega]
    simp only [wcells, List.set_cons_succ]
    rw [h]
theorem wcells_one : ∀ (W : List Su.Way) (i : Nat) (a : Int), (wcells W).set (i * 3) (.int .i64 a) = wcells (W.set i ⟨a, (Su.get W i).half, (Su.get W i).frm⟩)
  | [], i, a => by simp [wcells]
  | x :: W, 0, a => rfl
  | x :: W, i + 1, a => by
    have h := wcells_one W i a
    have e : Su.get (x :: W) (i + 1) = Su.get W i := by simp [Su.get]
    rw [e, show (i + 1) * 3 = i * 3 + 1 + 1 + 1 by omega]
    simp only [wcells, List.set_cons_succ]
    rw [h]
theorem wcells_zeros (N : Nat) : wcells (Su.zeros N) = List.replicate (N * 36) (.int .i64 0) := by
  have key : ∀ m, wcells (List.replicate m ⟨0, 0, 0⟩) = List.replicate (m * 3) (.int .i64 0) := by
    intro m
    induction m with
    | zero => rfl
    | succ m ih =>
      rw [List.replicate_succ, wcells, ih, show (m + 1) * 3 = m * 3 + 1 + 1 + 1 by omega, List.replicate_succ, List.replicate_succ, List.replicate_succ]
  rw [Su.zeros, key, show N * 12 * 3 = N * 36 by omega]
end Go.Proofs.YtenafgphaceidaaDoor

/- THE WALK over ways of package sums. -/
namespace Go.Proofs.YtenafgphaceidaaDoor
open Go.RowKit
def wzero : Value := .agg #[.int .i64 0, .int .i64 0, .int .i64 0, .int .i64 0, .int .i64 0, .int .i64 0, .int .i64 0, .int .i64 0, .int .i64 0, .int .i64 0, .int .i64 0, .int .i64 0, .int .i64 0, .int .i64 0, .int .i64 0, .int .i64 0, .int .i64 0, .int .i64 0, .int .i64 0, .int .i64 0, .int .i64 0, .int .i64 0, .int .i64 0, .int .i64 0, .int .i64 0, .int .i64 0, .int .i64 0, .int .i64 0, .int .i64 0, .int .i64 0, .int .i64 0, .int .i64 0, .int .i64 0, .int .i64 0, .int .i64 0, .int .i64 0]
theorem info_ways : (Tryd.prog.info? 78).map (fun i => (i.zero, i.size, i.bytes)) = some (some wzero, 36, 288) := by kernel_rfl
theorem wzero_cells : wzero.cells = (List.replicate 36 (Value.int .i64 0)).toArray := rfl
theorem wzero_at (k : Nat) (hk : k < wzero.cells.size) : wzero.cells[k]! = .int .i64 0 := by
  rw [getElem!_pos wzero.cells k hk]
  have h : ∀ (q : Nat) (a : Array Value) (_ : a = (List.replicate q (Value.int .i64 0)).toArray) (h : k < a.size), a[k] = .int .i64 0 := by
    intro q a e h
    subst e
    simp
  exact h 36 _ wzero_cells hk
theorem made_zero (n : Nat) : (madeCells wzero.cells n).toList = List.replicate n (.int .i64 0) := by
  apply List.ext_getElem
  · simp [madeCells]
  · intro i h1 h2
    simp only [madeCells, Array.toList_map, List.getElem_map, List.getElem_replicate]
    exact wzero_at _ (Nat.mod_lt _ (by decide))
/-- The row of the table. -/
def wrow (g N : Nat) (W : List Su.Way) : LRow := ⟨.slice (some ⟨g, 0, none⟩) N N, 78, 36, N, wcells W⟩
theorem Owns.single {w0 w : World} {r : LRow} (hx : Ext w0 w) (h : r.ok w0 w) : Owns w0 w [r] where
  ext := hx
  ok i r' hr := by
    cases i with
    | zero => simp at hr; subst hr; exact h
    | succ i => simp at hr
  far i j a b hij ha hb := by
    cases i with
    | zero => cases j with
      | zero => exact absurd rfl hij
      | succ j => simp at hb
    | succ i => simp at ha
structure WAt (w : World) (g s v : Nat) (x : Su.Way) : Prop where
  c0 : w.cell? ⟨g, s * 36 + v * 3, none⟩ = some (.int .i64 x.cost)
  c1 : w.cell? ⟨g, s * 36 + v * 3 + 1, none⟩ = some (.int .i64 x.half)
  c2 : w.cell? ⟨g, s * 36 + v * 3 + 2, none⟩ = some (.int .i64 x.frm)
  f0 : w.frozen? ⟨g, s * 36 + v * 3, none⟩ = false
  f1 : w.frozen? ⟨g, s * 36 + v * 3 + 1, none⟩ = false
  f2 : w.frozen? ⟨g, s * 36 + v * 3 + 2, none⟩ = false
theorem ways_at {W0 w : World} {g N : Nat} {W : List Su.Way} (h : Owns W0 w [wrow g N W]) (hl : W.length = N * 12) {s v : Nat} (hs : s < N) (hv : v < 12) : WAt w g s v (Su.get W (s * 12 + v)) := by
  have hj : s * 12 + v < W.length := by rw [hl]; omega
  obtain ⟨k1, k2, k3⟩ := wcells_at W (s * 12 + v) hj
  rw [show (s * 12 + v) * 3 = s * 36 + v * 3 by omega] at k1 k2 k3
  exact ⟨h.cell 0 rfl _ k1, h.cell 0 rfl _ k2, h.cell 0 rfl _ k3, h.frozen 0 rfl _, h.frozen 0 rfl _, h.frozen 0 rfl _⟩
theorem ways_put {W0 w : World} {g N : Nat} {W : List Su.Way} (h : Owns W0 w [wrow g N W]) (s v : Nat) (a b c : Int) :
    Owns W0 (((w.setCell ⟨g, s * 36 + v * 3, none⟩ (.int .i64 a)).setCell ⟨g, s * 36 + v * 3 + 1, none⟩ (.int .i64 b)).setCell ⟨g, s * 36 + v * 3 + 2, none⟩ (.int .i64 c)) [wrow g N (W.set (s * 12 + v) ⟨a, b, c⟩)] := by
  have h3 := ((h.store 0 rfl (s * 36 + v * 3) (.int .i64 a)).store 0 rfl (s * 36 + v * 3 + 1) (.int .i64 b)).store 0 rfl (s * 36 + v * 3 + 2) (.int .i64 c)
  have e := wcells_set W (s * 12 + v) a b c
  rw [show (s * 12 + v) * 3 = s * 36 + v * 3 by omega] at e
  rw [e] at h3
  exact h3
theorem ways_put1 {W0 w : World} {g N : Nat} {W : List Su.Way} (h : Owns W0 w [wrow g N W]) (s v : Nat) (a : Int) :
    Owns W0 (w.setCell ⟨g, s * 36 + v * 3, none⟩ (.int .i64 a)) [wrow g N (W.set (s * 12 + v) ⟨a, (Su.get W (s * 12 + v)).half, (Su.get W (s * 12 + v)).frm⟩)] := by
  have h3 := h.store 0 rfl (s * 36 + v * 3) (.int .i64 a)
  have e := wcells_one W (s * 12 + v) a
  rw [show (s * 12 + v) * 3 = s * 36 + v * 3 by omega] at e
  rw [e] at h3
  exact h3
/-- The box of a haul, in a later world. -/
structure HBox (w w2 : World) (h : Su.Ha) (A B : Option Addr) (n c d : Nat) : Prop where
  d0 : w2.cell? ⟨w.heap.size, 0, none⟩ = some (.slice A n c)
  d1 : w2.cell? ⟨w.heap.size, 1, none⟩ = some (.slice B h.src.length d)
  d2 : w2.cell? ⟨w.heap.size, 2, none⟩ = some (.int .i64 h.tgt)
theorem hbox {w w2 : World} {h : Su.Ha} {A B : Option Addr} {n c d : Nat} (hx : Ext (w.alloc (.cells #[.slice A n c, .slice B h.src.length d, .int .i64 h.tgt] 25)) w2) : HBox w w2 h A B n c d :=
  ⟨hx.cell (by go_simp), hx.cell (by go_simp), hx.cell (by go_simp)⟩
end Go.Proofs.YtenafgphaceidaaDoor
