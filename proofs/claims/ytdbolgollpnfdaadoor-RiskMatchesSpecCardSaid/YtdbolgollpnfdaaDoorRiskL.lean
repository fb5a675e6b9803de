/- THE WALK over looser and its closure. -/
import Derived.Test.YtdbolgollpnfdaaDoorRisk
import Derived.Maps.OwnSet
import Derived.Maps.Views
namespace Go.Proofs.YtdbolgollpnfdaaDoor
open Go.RowKit
open Go.Maps (Keyed)
open Go.WideMaps Go.ChangeMaps Go.MapKept Go.WideShapes
open Go.WideElems (Fit rd rg pl rd_val elemAt)
theorem knownLaw : Keyed Tryd.prog 3 := Go.Maps.int_keyed Tryd.underlying3
theorem knownZero (w : World) : (zeroValue 4).run Tryd.prog w = .ok (.bool false) w := by kernel_rfl
theorem plainElem_bool_inv {H : Type} {P : Program} {e : TypeId} (he : P.underlying e = some .bool) {v : Value} {z : DataW H × List MemPlace} (h : plainElem P e v = some z) : ∃ x, v = .bool x ∧ z = (.lit (.bool x), []) := by
  unfold plainElem at h
  rw [he] at h
  cases v <;> simp at h
  subst h
  exact ⟨_, rfl, rfl⟩
/-- No cell that was there has turned. -/
def Keeps (w w' : World) : Prop := ∀ p v, w.cell? p = some v → w'.cell? p = some v
theorem Ext.keeps {w w' : World} (h : Ext w w') : Keeps w w' := fun _ _ hp => h.cell hp
theorem Keeps.trans {a b c : World} (h : Keeps a b) (k : Keeps b c) : Keeps a c := fun p v hp => k p v (h p v hp)
theorem turned_keeps {w w' : World} {b : Nat} (h : w.mapTurned w' b) : Keeps w w' := by
  obtain ⟨es, clock, es', clock', hb, rfl⟩ := h
  intro p v hp
  by_cases hpb : p.block = b
  · exfalso
    simp [World.cell?, hpb, hb] at hp
  · have h1 : (setBlock w b (.map es' clock')).heap[p.block]? = w.heap[p.block]? := heap_setBlock_other hb _ hpb
    unfold World.cell? at hp ⊢
    rw [h1]
    exact hp
def StableK {α : Type} (R : World → Value → α → Prop) : Prop := ∀ w w' v x, Keeps w w' → R w v x → R w' v x
theorem Rs.keeps {α : Type} {R : World → Value → α → Prop} (hR : StableK R) : StableK (Rs R) := fun w w' v xs hx h => by
  obtain ⟨A, c, rfl, hl, h⟩ := h
  refine ⟨A, c, rfl, hl, fun i x hi => ?_⟩
  obtain ⟨ad, u, h1, h2, h3⟩ := h i x hi
  exact ⟨ad, u, h1, hx _ _ h2, hR w w' u x hx h3⟩
theorem RI.keeps : StableK RI := fun _ _ _ _ _ h => h
/-- What is kept: which sets of pieces do not suffice. -/
structure Known (w0 w : World) (Q b n : Nat) (p : Rk.Pe) : Prop where
  ext : Ext w0 w
  ge : w0.heap.size ≤ b
  cell : w.cell? ⟨Q, 0, none⟩ = some (.map (some b))
  own : ∃ D : DataW Unit, w.ownsMap Tryd.prog 3 (plainElem Tryd.prog 4) b n D ∧ ∀ m : Nat, Go.Maps.has D (.int .i64 (m : Int)) = true → ∀ z, D.atKey (.int .i64 (m : Int)) z = .lit (.bool (!Cd.can p.d p.gl p.gs m))
/-- A box that holds a peril. -/
def Box (w : World) (P : Nat) (p : Rk.Pe) : Prop :=
  ∃ G T C, w.cell? ⟨P, 0, none⟩ = some (.int .i64 p.d) ∧ w.cell? ⟨P, 1, none⟩ = some G ∧ w.cell? ⟨P, 2, none⟩ = some (.int .i64 p.gl) ∧ w.cell? ⟨P, 3, none⟩ = some T ∧ w.cell? ⟨P, 4, none⟩ = some C ∧ Rs (Rs RI) w G p.gs ∧ Rs RI w T p.at' ∧ Rs RI w C p.ch
theorem Box.keeps {w w' : World} {P : Nat} {p : Rk.Pe} (h : Box w P p) (hx : Keeps w w') : Box w' P p := by
  obtain ⟨G, T, C, h0, h1, h2, h3, h4, h5, h6, h7⟩ := h
  exact ⟨G, T, C, hx _ _ h0, hx _ _ h1, hx _ _ h2, hx _ _ h3, hx _ _ h4, Rs.keeps (Rs.keeps RI.keeps) _ _ _ _ hx h5, Rs.keeps RI.keeps _ _ _ _ hx h6, Rs.keeps RI.keeps _ _ _ _ hx h7⟩
theorem Box.ext {w w' : World} {P : Nat} {p : Rk.Pe} (h : Box w P p) (hx : Ext w w') : Box w' P p := h.keeps hx.keeps
theorem ownsMap_ext {w w' : World} {H : Type} {P : Program} {k : TypeId} {R : Value → Option (DataW H × List MemPlace)} {b n : Nat} {D : DataW H} (h : w.ownsMap P k R b n D) (hx : Ext w w') : w'.ownsMap P k R b n D := by
  obtain ⟨es, clock, hb, r⟩ := h
  exact ⟨es, clock, hx.heap hb, r⟩
theorem Known.next {w0 w w' : World} {Q b n : Nat} {p : Rk.Pe} (h : Known w0 w Q b n p) (hx : Ext w w') : Known w0 w' Q b n p where
  ext := h.ext.trans hx
  ge := h.ge
  cell := hx.cell h.cell
  own := by
    obtain ⟨D, h1, h2⟩ := h.own
    exact ⟨D, ownsMap_ext h1 hx, h2⟩
theorem kLooser_any (p : Rk.Pe) (v : Value) (w : World) (hv : RP w v p) :
    Calls Tryd.prog 23 #[v] w fun e w' => ∃ P Q b, e = .returned (.func (.func 33) #[] #[.pointer (some ⟨P, 0, none⟩), .pointer (some ⟨Q, 0, none⟩)]) ∧ Box w' P p ∧ Known w w' Q b 0 p := by
  obtain ⟨G, T, C, rfl, hG, hT, hC⟩ := hv
  have hmm := @run_makeMap Tryd.prog
  go_enter Tryd.func23, Tryd.ntmps23
  go_wp2_with fail
  go_ret
  have hx1 := (Ext.refl w).alloc (.cells #[.int .i64 p.d, G, .int .i64 p.gl, T, C] 27)
  have hx2 := ((Ext.refl (w.alloc (.cells #[.int .i64 p.d, G, .int .i64 p.gl, T, C] 27))).alloc (.map #[] 0)).alloc (.cells #[.map (some (w.heap.size + 1))] 56)
  have hm := World.ownsMap_made (H := Unit) (w.alloc (.cells #[.int .i64 p.d, G, .int .i64 p.gl, T, C] 27)) Tryd.prog 3 (plainElem Tryd.prog 4)
  have hm2 := hm.alloc (.cells #[.map (some (w.heap.size + 1))] 56)
  have hsz : (w.alloc (.cells #[.int .i64 p.d, G, .int .i64 p.gl, T, C] 27)).heap.size = w.heap.size + 1 := by simp
  rw [hsz] at hm2
  refine ⟨w.heap.size, w.heap.size + 1 + 1, w.heap.size + 1, rfl, ?_, ?_⟩
  · refine Box.ext (w := w.alloc (.cells #[.int .i64 p.d, G, .int .i64 p.gl, T, C] 27)) ⟨G, T, C, ?_, ?_, ?_, ?_, ?_, Rs.ext (Rs.ext RI.ext) _ _ _ _ hx1 hG, Rs.ext RI.ext _ _ _ _ hx1 hT, Rs.ext RI.ext _ _ _ _ hx1 hC⟩ hx2
    all_goals go_simp
  · exact ⟨hx1.trans hx2, by omega, by go_simp, _, hm2, fun m h => by cases h⟩
/-- What the map says of a set that it has. -/
def Says (p : Rk.Pe) (D : DataW Unit) : Prop := ∀ m : Nat, Go.Maps.has D (.int .i64 (m : Int)) = true → ∀ z, D.atKey (.int .i64 (m : Int)) z = .lit (.bool (!Cd.can p.d p.gl p.gs m))
theorem Says.put {p : Rk.Pe} {D : DataW Unit} (h : Says p D) (hD : Go.Maps.IsMap D) (k : Nat) : Says p (D.put (.int .i64 (k : Int)) (.lit (.bool (!Cd.can p.d p.gl p.gs k)))) ∧ Go.Maps.has (D.put (.int .i64 (k : Int)) (.lit (.bool (!Cd.can p.d p.gl p.gs k)))) (.int .i64 (k : Int)) = true := by
  have hk : WideAt.IsKeyLit (.int .i64 (k : Int)) := by simp [WideAt.IsKeyLit]
  refine ⟨fun m hm z => ?_, Go.Maps.has_put_same hD hk _⟩
  by_cases hmk : m = k
  · subst hmk
    exact Go.Maps.atKey_put_same hD hk _ z
  · have hne : (Lit.int .i64 (m : Int)) ≠ .int .i64 (k : Int) := by
      intro h
      injection h with _ h
      omega
    rw [Go.Maps.atKey_put_other hne]
    rw [Go.Maps.has_put_other hne] at hm
    exact h m hm z
/-- Behind the look-up, or the store: the map has the set. -/
def Had (w0 w : World) (P Q b n : Nat) (p : Rk.Pe) (k : Nat) : Prop :=
  Ext w0 w ∧ w.cell? ⟨Q, 0, none⟩ = some (.map (some b)) ∧ Box w P p ∧ ∃ D, w.ownsMap Tryd.prog 3 (plainElem Tryd.prog 4) b n D ∧ Says p D ∧ Go.Maps.has D (.int .i64 (k : Int)) = true
set_option maxHeartbeats 2000000 in
theorem kLoses_any (w0 w : World) (P Q b n : Nat) (p : Rk.Pe) (f : Nat) (hT : Tab w0) (hK : Known w0 w Q b n p) (hB : Box w P p) (hn : n < 1000000000) (ho : Rk.Ok p) (hf : f < 4096) :
    Calls Tryd.prog 33 #[.int .i64 f, .pointer (some ⟨P, 0, none⟩), .pointer (some ⟨Q, 0, none⟩)] w fun e w' => e = .returned (.bool (Rk.loses p f)) ∧ Known w0 w' Q b (n + 1) p ∧ Box w' P p := by
  have HT := Lib.hid (hT.ext hK.ext)
  obtain ⟨G, T, C, p0, p1, p2, p3, p4, hG, hAt, hC⟩ := hB
  obtain ⟨A1, c1, rfl, hl1⟩ := hG.form
  obtain ⟨A2, c2, rfl, hl2⟩ := hAt.form
  obtain ⟨A3, c3, rfl, hl3⟩ := hC.form
  have hq := hK.cell
  have HA := Lib.hid hAt
  have HB : Hid (Box w P p) := Lib.hid ⟨_, _, _, p0, p1, p2, p3, p4, hG, hAt, hC⟩
  have HG := Lib.hid hG
  have HK := Lib.hid hK
  have HO := Lib.hid ho
  obtain ⟨D, hD, hS⟩ := hK.own
  have HD := Lib.hid (And.intro hD hS)
  have hlen : p.at'.length ≤ 24 := by have := Cd.check_ok ho.code; have := ho.len; omega
  clear hG hAt hC hK ho hT hD hS
  go_enter Tryd.func33, Tryd.ntmps33
  go_wp2_with fail
  go_loop [5, 13] (fun vs vi => ∃ i : Nat, i ≤ p.at'.length ∧ vi = .int .i64 i ∧ vs = .int .i64 (Rk.leftTo p.at' f i : Nat)) (fun _ vi => p.at'.length - (intOf vi).toNat)
  case atStart => exact ⟨0, Nat.zero_le _, rfl, by rw [Rk.leftTo_zero]; rfl⟩
  case round =>
    obtain ⟨i, hi, rfl, rfl⟩ := hrel
    by_cases hlt : i < p.at'.length
    · obtain ⟨ad, u, rfl, hcell, hu⟩ := HA.out.at hlt
      obtain ⟨rfl, hlo, hhi⟩ := hu
      have hstep := Rk.leftTo_succ p.at' f i
      have hgd : p.at'.getD i (-1) = p.at'[i] := by rw [List.getD_eq_getElem?_getD, List.getElem?_eq_getElem hlt]; rfl
      rw [hgd] at hstep
      have hx := HO.out.at_ok _ (List.getElem_mem hlt)
      have hfew := HO.out.few
      have hlf := Rk.leftTo_lt p.at' f i
      obtain ⟨x, hxe⟩ : ∃ x, p.at'[i] = x := ⟨_, rfl⟩
      rw [hxe] at hcell hlo hhi hstep hx
      by_cases hx0 : 0 ≤ x
      · obtain ⟨d, rfl⟩ : ∃ d : Nat, x = d := ⟨x.toNat, by omega⟩
        have hmm : bits .and .i64 ((f : Int) / 2 ^ d) 1 = ((Cd.bitAt f d : Nat) : Int) := by
          have hle : f / 2 ^ d ≤ f := Nat.div_le_self _ _
          have := odd64 (f / 2 ^ d) (by omega)
          rw [Cd.bitAt, ← this]
          simp
        rw [Int.toNat_natCast] at hstep
        by_cases hb : Cd.bitAt f d = 0
        · rw [hb] at hmm
          rw [if_pos ⟨hx0, hb⟩] at hstep
          have hor : bits .or .i64 ((Rk.leftTo p.at' f i : Nat) : Int) (wrap64 (2 ^ i)) = ((Rk.leftTo p.at' f i ||| 2 ^ i : Nat) : Int) := by
            rw [wrap_pow i (by omega)]
            have h1 : 2 ^ i ≤ 2 ^ 24 := Nat.pow_le_pow_right (by omega) (by omega)
            exact or64 _ _ (by omega) (by omega)
          rw [← hstep] at hor
          clear hstep hlf hxe hgd hb
          go_wp2_with fail
          go_round
          case rel => exact ⟨i + 1, by omega, by go_num, rfl⟩
          case measure => simp [intOf]; omega
        · rw [if_neg (by rintro ⟨_, h⟩; exact hb h)] at hstep
          have eb : (((Cd.bitAt f d : Nat) : Int) == 0) = false := by rw [beq_eq_false_iff_ne]; omega
          clear hlf hxe hgd
          go_wp2_with fail
          go_round
          case rel => exact ⟨i + 1, by omega, by go_num, by rw [hstep]⟩
          case measure => simp [intOf]; omega
      · rw [if_neg (by rintro ⟨h, _⟩; exact hx0 h)] at hstep
        clear hlf hxe hgd
        go_wp2_with fail
        go_round
        case rel => exact ⟨i + 1, by omega, by go_num, by rw [hstep]⟩
        case measure => simp [intOf]; omega
    · obtain rfl : i = p.at'.length := by omega
      have hlf := Rk.leftTo_lt p.at' f p.at'.length
      have h24 : 2 ^ p.at'.length ≤ 2 ^ 24 := Nat.pow_le_pow_right (by omega) hlen
      have hll : Rk.leftTo p.at' f p.at'.length = Rk.left p.at' f := rfl
      rw [hll] at hlf
      rw [hll]
      obtain ⟨m, hm⟩ : ∃ m, Rk.left p.at' f = m := ⟨_, rfl⟩
      have hlo : Rk.loses p f = !Cd.can p.d p.gl p.gs m := by rw [Rk.loses_def, hm]
      rw [hm] at hlf
      rw [hm]
      have hkey : keyOf Tryd.prog 3 (.int .i64 (m : Int)) = some (.int .i64 (m : Int)) := Go.Maps.keyOf_int_mk Tryd.underlying3 (WalkArith.wf_i64 (by omega))
      obtain ⟨v, ps, hrun, hv⟩ := HD.out.1.look_ok knownLaw Tryd.underlying56 (knownZero w) (plainElem_bool Tryd.underlying4 false) hkey
      obtain ⟨x, rfl, hxx⟩ := plainElem_bool_inv Tryd.underlying4 hv
      have HLO := Lib.hid hlo
      have HM := Lib.hid (And.intro hkey hlf)
      clear hlo hll hm hkey hv hxx hlf h24
      by_cases hh : Go.Maps.has D (.int .i64 (m : Int)) = true
      · rw [hh] at hrun
        obtain ⟨v2, ps2, hrun2, hv2⟩ := HD.out.1.lookup knownLaw Tryd.underlying56 (knownZero w) (plainElem_bool Tryd.underlying4 false) HM.out.1
        rw [HD.out.2 m hh] at hv2
        obtain ⟨y, rfl, hyy⟩ := plainElem_bool_inv Tryd.underlying4 hv2
        injection hyy with hyy _
        injection hyy with hyy
        injection hyy with hyy
        subst hyy
        clear hv2
        go_wp2_with fail
        go_ret
        exact ⟨ret_bool HLO.out.symm, ⟨HK.out.ext, HK.out.ge, HK.out.cell, D, HD.out.1.mono (Nat.le_succ n), HD.out.2⟩, HB.out⟩
      · have hh : Go.Maps.has D (.int .i64 (m : Int)) = false := by simpa using hh
        rw [hh] at hrun
        go_wp2_with fail
        clear hrun
        apply region_cut (fun w4 => Had w0 w4 P Q b (n + 1) p m)
        case h =>
          have hgs := HG.out
          go_region_law (go_simp; refine (cRec_any p.d p.gl (m : Int) p.gs _ _ (HT.out.ext (Ext.refl w).drew) (Rs.ext (Rs.ext RI.ext) _ _ _ _ (Ext.refl w).drew HG.out)).mono ?_; rintro e w3 ⟨rfl, hx3⟩; dsimp only; have hx3 := (Ext.refl w).drew.trans hx3; have hq : w3.cell? ⟨Q, 0, none⟩ = some (.map (some b)) := hx3.cell hq; obtain ⟨w4, hrun, hown4, ht4⟩ := (ownsMap_ext HD.out.1 hx3).store knownLaw Tryd.underlying56 (by unfold maxLen; omega) HM.out.1 (plainElem_bool Tryd.underlying4 (!Cd.can p.d p.gl p.gs (m : Int))); have H4 := Lib.hid (And.intro hx3 (And.intro hown4 ht4)); clear hx3 hown4 ht4)
          all_goals exact ⟨rfl, (HK.out.ext.trans H4.out.1).grown H4.out.2.2.grown (fun k hk => by injection hk with hk; subst hk; exact HK.out.ge), turned_keeps H4.out.2.2 _ _ (H4.out.1.cell HK.out.cell), (HB.out.ext H4.out.1).keeps (turned_keeps H4.out.2.2), _, H4.out.2.1, (Says.put HD.out.2 HD.out.1.isMap m).1, (Says.put HD.out.2 HD.out.1.isMap m).2⟩
        case hK =>
          intro w4 h4
          obtain ⟨hx4, hq4, hB4, D4, hD4, hS4, hh4⟩ := h4
          obtain ⟨v2, ps2, hrun2, hv2⟩ := hD4.lookup knownLaw Tryd.underlying56 (knownZero w4) (plainElem_bool Tryd.underlying4 false) HM.out.1
          rw [hS4 m hh4] at hv2
          obtain ⟨y, rfl, hyy⟩ := plainElem_bool_inv Tryd.underlying4 hv2
          injection hyy with hyy _
          injection hyy with hyy
          injection hyy with hyy
          subst hyy
          have H4 := Lib.hid (And.intro hx4 (And.intro hB4 (And.intro hD4 hS4)))
          have HQ := Lib.hid hq4
          clear hv2 hx4 hB4 hD4 hS4 hh4
          go_wp2_with fail
          go_ret
          exact ⟨ret_bool HLO.out.symm, ⟨H4.out.1, HK.out.ge, HQ.out, D4, H4.out.2.2.1, H4.out.2.2.2⟩, H4.out.2.1⟩
end Go.Proofs.YtdbolgollpnfdaaDoor
