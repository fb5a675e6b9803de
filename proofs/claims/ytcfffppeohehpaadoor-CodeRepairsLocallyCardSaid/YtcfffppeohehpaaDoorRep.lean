/- CODES, in plain terms: what a group's parity says, and which losses are repaired. -/
import Derived.Test.YtcfffppeohehpaaDoorVan
import Derived.Test.YtcfffppeohehpaaDoorTrip
import Derived.Test.YtcfffppeohehpaaDoorOnes
namespace Cd
open Gf Go.Proofs.YtcfffppeohehpaaDoor
theorem bit_test (s i : Nat) : bitAt s i = 1 ↔ s.testBit i = true := by
  unfold bitAt
  rw [Nat.testBit_eq_decide_div_mod_eq, decide_eq_true_eq]
theorem bit_01 (s i : Nat) : bitAt s i = 0 ∨ bitAt s i = 1 := by unfold bitAt; omega
theorem bit_or (s i j : Nat) : bitAt (s ||| 2 ^ i) j = 1 ↔ bitAt s j = 1 ∨ j = i := by
  rw [bit_test, bit_test, Nat.testBit_or, Nat.testBit_two_pow, Bool.or_eq_true, decide_eq_true_eq]
  exact or_congr Iff.rfl eq_comm
theorem bit_set : ∀ (g : List Int) (s j : Nat), (∀ i ∈ g, 0 ≤ i) → (bitAt (setOf s g) j = 1 ↔ bitAt s j = 1 ∨ (j : Int) ∈ g)
  | [], s, j, _ => by rw [setOf_nil]; simp
  | i :: g, s, j, h => by
    have e : setOf s (i :: g) = setOf (s ||| 2 ^ i.toNat) g := by unfold setOf; rfl
    rw [e, bit_set g _ j fun x hx => h x (by simp [hx]), bit_or, List.mem_cons, or_assoc]
    have h0 := h i (by simp)
    have : j = i.toNat ↔ (j : Int) = i := by omega
    rw [this]
/-- What no error says of groups: each ascends, in bounds; none has a member of another. -/
theorem check_asc {d : Int} : ∀ {gs : List (List Int)} {s : Nat}, checkG d s gs = 0 → (∀ g ∈ gs, g ≠ [] ∧ (∀ i ∈ g, 0 ≤ i ∧ i < d ∧ bitAt s i.toNat = 0) ∧ g.Pairwise (· < ·)) ∧ gs.Pairwise (fun g h => ∀ i, i ∈ g → i ∉ h)
  | [], _, _ => ⟨fun g h => by (cases h), List.Pairwise.nil⟩
  | g :: r, s, h => by
    by_cases hg : g = []
    · rw [hg, checkG_nil] at h; cases h
    · cases hb : bad d s g with
      | true => rw [checkG_bad hg hb] at h; cases h
      | false =>
        rw [checkG_next hg hb] at h
        obtain ⟨h1, h2⟩ := check_asc h
        have hat : ∀ k, k < g.length → 0 ≤ g.getD k 0 ∧ g.getD k 0 < d ∧ (0 < k → g.getD (k - 1) 0 < g.getD k 0) ∧ bitAt s (g.getD k 0).toNat = 0 := fun k hk => by
          have := badAt_of hb hk
          rw [badAt_def] at this
          simp only [Bool.or_eq_false_iff, Bool.and_eq_false_iff, decide_eq_false_iff_not, beq_eq_false_iff_ne] at this
          have h01 := bit_01 s (g.getD k 0).toNat
          omega
        have hbd : ∀ i ∈ g, 0 ≤ i ∧ i < d ∧ bitAt s i.toNat = 0 := fun i hi => by
          obtain ⟨k, hk, rfl⟩ := List.getElem_of_mem hi
          have := hat k hk
          rw [List.getD_eq_getElem?_getD, List.getElem?_eq_getElem hk] at this
          exact ⟨this.1, this.2.1, this.2.2.2⟩
        have hset := bit_set g s
        refine ⟨fun x hx => ?_, ?_⟩
        · rcases List.mem_cons.1 hx with rfl | hx
          · refine ⟨hg, hbd, ?_⟩
            rw [List.pairwise_iff_getElem]
            intro i j hi hj hij
            have hstep : ∀ k, k + 1 < x.length → x.getD k 0 < x.getD (k + 1) 0 := fun k hk => (hat (k + 1) hk).2.2.1 (by omega)
            have hall : ∀ n, i + 1 + n < x.length → x.getD i 0 < x.getD (i + 1 + n) 0 := by
              intro n
              induction n with
              | zero => intro hn; exact hstep i hn
              | succ n ih => intro hn; exact Int.lt_trans (ih (by omega)) (hstep (i + 1 + n) hn)
            have := hall (j - i - 1) (by omega)
            rw [show i + 1 + (j - i - 1) = j from by omega] at this
            rw [List.getD_eq_getElem?_getD, List.getD_eq_getElem?_getD, List.getElem?_eq_getElem hi, List.getElem?_eq_getElem hj] at this
            exact this
          · obtain ⟨q1, q2, q3⟩ := h1 x hx
            refine ⟨q1, fun i hi => ?_, q3⟩
            obtain ⟨p1, p2, p3⟩ := q2 i hi
            refine ⟨p1, p2, ?_⟩
            rcases bit_01 s i.toNat with h0 | h0
            · exact h0
            · have := (hset i.toNat fun y hy => (hbd y hy).1).2 (.inl h0)
              omega
        · refine List.pairwise_cons.2 ⟨fun x hx i hi hix => ?_, h2⟩
          obtain ⟨p1, p2, p3⟩ := (h1 x hx).2.1 i hix
          have := (hset i.toNat fun y hy => (hbd y hy).1).2 (.inr (by rw [Int.toNat_of_nonneg p1]; exact hi))
          omega
/-- A sum over the members of a group. -/
def xorL (f : Nat → UInt8) : List Int → UInt8
  | [] => 0
  | i :: g => f i.toNat ^^^ xorL f g
theorem xor_group {d : Nat} (f : Nat → UInt8) : ∀ (g : List Int), g.Pairwise (· < ·) → (∀ i ∈ g, 0 ≤ i ∧ i < (d : Int)) → sm d (fun j => if (j : Int) ∈ g then f j else 0) = xorL f g
  | [], _, _ => by rw [xorL]; exact sm_zero fun j _ => by simp
  | i :: g, hp, hb => by
    obtain ⟨h1, h2⟩ := List.pairwise_cons.1 hp
    have hi := hb i (by simp)
    have ih := xor_group f g h2 fun x hx => hb x (by simp [hx])
    have hni : i ∉ g := fun h => Int.lt_irrefl _ (h1 i h)
    have e : sm d (fun j => if (j : Int) ∈ i :: g then f j else 0) = sm d (fun j => (if j = i.toNat then f j else 0) ^^^ (if (j : Int) ∈ g then f j else 0)) := sm_congr fun j _ => by
      by_cases hj : j = i.toNat
      · have hji : (j : Int) = i := by omega
        rw [if_pos hj, if_pos (by rw [hji]; simp), if_neg (by rw [hji]; exact hni), UInt8.xor_zero]
      · have hji : (j : Int) ≠ i := by omega
        rw [if_neg hj, UInt8.zero_xor]
        simp [hji]
    rw [e, sm_add, ih, xorL, sm_one (p := i.toNat) _ (by omega) fun j _ hne => if_neg hne, if_pos rfl]
/-- The pieces of a group, added up, but one: what the statement's loop makes. -/
def sumTo (E : List (List UInt8)) (i : Int) (s0 : List UInt8) (g : List Int) : Nat → List UInt8
  | 0 => s0
  | k + 1 => if g.getD k 0 = i then sumTo E i s0 g k else Gf.sum (sumTo E i s0 g k) (E.getD (g.getD k 0).toNat [])
def xorTo (f : Nat → UInt8) (i : Int) (g : List Int) : Nat → UInt8
  | 0 => 0
  | k + 1 => if g.getD k 0 = i then xorTo f i g k else xorTo f i g k ^^^ f (g.getD k 0).toNat
theorem sumTo_len {E : List (List UInt8)} {i : Int} {s0 : List UInt8} {g : List Int} {L : Nat} (h0 : s0.length = L) (hE : ∀ k, k < g.length → (E.getD (g.getD k 0).toNat []).length = L) : ∀ k, k ≤ g.length → (sumTo E i s0 g k).length = L
  | 0, _ => h0
  | k + 1, hk => by
    have ih := sumTo_len (i := i) h0 hE k (by omega)
    rw [sumTo]
    split
    · exact ih
    · rw [sum_len, ih, hE k (by omega), Nat.max_self]
theorem sumTo_get {E : List (List UInt8)} {i : Int} {s0 : List UInt8} {g : List Int} (x : Nat) : ∀ k, (sumTo E i s0 g k).getD x 0 = s0.getD x 0 ^^^ xorTo (fun j => (E.getD j []).getD x 0) i g k
  | 0 => by rw [sumTo, xorTo, UInt8.xor_zero]
  | k + 1 => by
    rw [sumTo, xorTo]
    split
    · exact sumTo_get x k
    · rw [sum_get, sumTo_get x k, UInt8.xor_assoc]
theorem xorTo_all (f : Nat → UInt8) (i : Int) (g : List Int) (hn : g.Pairwise (· < ·)) : ∀ k, k ≤ g.length → xorTo f i g k ^^^ (if i ∈ g.take k then f i.toNat else 0) = xorL f (g.take k)
  | 0, _ => by simp [xorTo, xorL]
  | k + 1, hk => by
    have ih := xorTo_all f i g hn k (by omega)
    have hkl : k < g.length := by omega
    have hap : ∀ (l : List Int) (y : Int), xorL f (l ++ [y]) = xorL f l ^^^ f y.toNat := by
      intro l y
      induction l with
      | nil => simp [xorL]
      | cons z l ih2 => rw [List.cons_append, xorL, xorL, ih2, UInt8.xor_assoc]
    have hgk : g.getD k 0 = g[k] := by rw [List.getD_eq_getElem?_getD, List.getElem?_eq_getElem hkl]; rfl
    rw [List.take_succ_eq_append_getElem hkl, hap, ← ih, xorTo, hgk]
    have hnk : g[k] ∉ g.take k := fun hm => by
      obtain ⟨j, hj, he⟩ := List.getElem_of_mem hm
      rw [List.length_take] at hj
      rw [List.getElem_take] at he
      have := List.pairwise_iff_getElem.1 hn j k (by omega) hkl (by omega)
      omega
    by_cases hki : g[k] = i
    · rw [if_pos hki]
      subst hki
      rw [if_neg hnk, if_pos (List.mem_append.2 (.inr (List.mem_singleton.2 rfl))), UInt8.xor_zero]
    · rw [if_neg hki]
      have e : (i ∈ g.take k ++ [g[k]]) ↔ i ∈ g.take k := by
        rw [List.mem_append, List.mem_singleton]
        exact ⟨fun h => h.elim id fun h => absurd h.symm hki, .inl⟩
      simp only [e]
      rw [UInt8.xor_assoc, UInt8.xor_assoc]
      exact congrArg _ (UInt8.xor_comm _ _)
variable {d gl : Int} {gs : List (List Int)}
theorem rowsOf_data (h : check d gs gl = 0) {k : Nat} (hk : k < d.toNat) : (rowsOf d gs gl).getD k [] = rowOf d.toNat (unitAt k) := by
  rw [rowsOf_ok h, ← rows_parts, List.append_assoc, List.getD_eq_getElem?_getD, List.getElem?_append_left (by rw [rows1_length]; exact hk)]
  simp [rows1, hk]
theorem rowsOf_group (h : check d gs gl = 0) {k : Nat} (hk : k < gs.length) : (rowsOf d gs gl).getD (d.toNat + k) [] = rowOf d.toNat (inAt (setOf 0 (gs.getD k []))) := by
  rw [rowsOf_ok h, ← rows_parts, List.append_assoc, List.getD_eq_getElem?_getD, List.getElem?_append_right (by rw [rows1_length]; omega), rows1_length, Nat.add_sub_cancel_left, List.getElem?_append_left (by rw [rows2_length]; exact hk)]
  simp [rows2, hk, List.getD_eq_getElem?_getD]
theorem rowsOf_glob (h : check d gs gl = 0) {k : Nat} (hk : k < gl.toNat) : (rowsOf d gs gl).getD (d.toNat + gs.length + k) [] = rowOf d.toNat (gloAt k) := by
  rw [rowsOf_ok h, ← rows_parts, List.getD_eq_getElem?_getD, List.getElem?_append_right (by rw [List.length_append, rows1_length, rows2_length]; omega), List.length_append, rows1_length, rows2_length, Nat.add_sub_cancel_left]
  simp [rows3, hk]
theorem rowOf_get {n i : Nat} (g : Nat → UInt8) (h : i < n) : (rowOf n g).getD i 0 = g i := getD_map_range _ _ h
theorem check_g (h : check d gs gl = 0) : checkG d 0 gs = 0 := by
  have hk := check_ok h
  rw [← check_groups (gl := gl) (by omega) (by omega)]
  exact h
theorem inAt_set {g : List Int} (hg : ∀ i ∈ g, 0 ≤ i) (j : Nat) : inAt (setOf 0 g) j = if (j : Int) ∈ g then 1 else 0 := by
  have h := bit_set g 0 j hg
  have h0 : bitAt 0 j = 0 := by simp [bitAt]
  unfold inAt
  by_cases hj : (j : Int) ∈ g
  · rw [if_pos hj, h.2 (.inr hj)]
    rfl
  · rw [if_neg hj]
    rcases bit_01 (setOf 0 g) j with h1 | h1
    · rw [h1]; rfl
    · rcases h.1 h1 with h2 | h2
      · omega
      · exact absurd h2 hj
theorem ext_getD {l m : List UInt8} (hl : l.length = m.length) (h : ∀ x, x < l.length → l.getD x 0 = m.getD x 0) : l = m := by
  apply List.ext_getElem hl
  intro x h1 h2
  have := h x h1
  rw [List.getD_eq_getElem?_getD, List.getElem?_eq_getElem h1, List.getD_eq_getElem?_getD, List.getElem?_eq_getElem h2] at this
  exact this
/-- EACH MEMBER OF A GROUP IS THE SUM of its local parity and the other members. -/
theorem group_sum (h : check d gs gl = 0) (data : List UInt8) {g : Nat} (hg : g < gs.length) {i : Int} (hi : i ∈ gs.getD g []) :
    sumTo (encode d gl gs data) i ((encode d gl gs data).getD (d.toNat + g) []) (gs.getD g []) (gs.getD g []).length = (encode d gl gs data).getD i.toNat [] := by
  have hk := check_ok h
  have hrl := rowsOf_len h
  obtain ⟨ha, _⟩ := check_asc (check_g h)
  have hmem : gs.getD g [] ∈ gs := by rw [List.getD_eq_getElem?_getD, List.getElem?_eq_getElem hg]; exact List.getElem_mem hg
  obtain ⟨_, hb, hp⟩ := ha _ hmem
  obtain ⟨G, hG⟩ : ∃ G, gs.getD g [] = G := ⟨_, rfl⟩
  have hrow := rowsOf_group h hg
  rw [hG] at hi hb hp hrow ⊢
  have hfit : ∀ k, k < (rowsOf d gs gl).length → _ := fun k hk => encode_fits h data hk
  have hlocal := hfit (d.toNat + g) (by omega)
  have hdat : ∀ k, k < d.toNat → ∀ x, x < sizeN d.toNat data.length → ((encode d gl gs data).getD k []).getD x 0 = dataAt d.toNat data k x := fun k hk x hx => by
    have h1 := (hfit k (by omega)).2 x hx
    rw [h1, rowsOf_data h hk, sm_one (p := k) _ hk fun j hj hne => by rw [rowOf_get _ hj, unitAt_ne hne, zero_mul], rowOf_get _ hk, unitAt_eq, one_mul]
  have hb' : ∀ j ∈ G, 0 ≤ j ∧ j < ((d.toNat : Nat) : Int) := fun j hj => by have := hb j hj; omega
  have hlenE : ∀ k, k < G.length → ((encode d gl gs data).getD (G.getD k 0).toNat []).length = sizeN d.toNat data.length := fun k hkl => by
    have hm := hb' _ (List.getElem_mem hkl)
    rw [List.getD_eq_getElem?_getD (l := G), List.getElem?_eq_getElem hkl]
    exact encode_even h data (by show (G[k]).toNat < _; omega)
  have hl := sumTo_len (i := i) hlocal.1 hlenE G.length (Nat.le_refl _)
  have hi' := hb' i hi
  have hli := encode_even h data (k := i.toNat) (by omega)
  refine ext_getD (by rw [hl, hli]) fun x hx => ?_
  rw [hl] at hx
  have e1 := sumTo_get (E := encode d gl gs data) (i := i) (s0 := (encode d gl gs data).getD (d.toNat + g) []) (g := G) x G.length
  have e2 := xorTo_all (fun j => ((encode d gl gs data).getD j []).getD x 0) i G hp G.length (Nat.le_refl _)
  rw [List.take_length, if_pos hi] at e2
  have e3 : ((encode d gl gs data).getD (d.toNat + g) []).getD x 0 = xorL (fun j => ((encode d gl gs data).getD j []).getD x 0) G := by
    rw [hlocal.2 x hx, hrow, ← xor_group _ G hp hb']
    refine sm_congr fun j hj => ?_
    rw [rowOf_get _ hj, inAt_set (fun y hy => (hb' y hy).1)]
    split
    · rw [one_mul, hdat j hj x hx]
    · rw [zero_mul]
  rw [e1, e3, ← e2]
  rw [UInt8.xor_comm (xorTo _ _ _ _) _, UInt8.xor_assoc, UInt8.xor_self, UInt8.xor_zero]
/-- How many of a group are lost; how many groups have lost one alone. -/
def many (s : Nat) (g : List Int) : Nat := (g.map fun i => bitAt s i.toNat).sum
def alone (s : Nat) (gs : List (List Int)) : Nat := gs.countP fun g => many s g == 1
def lostL (d s : Nat) : List Nat := (List.range d).filter fun i => bitAt s i == 1
theorem many_one {s : Nat} : ∀ {g : List Int}, many s g = 1 → ∃ i ∈ g, bitAt s i.toNat = 1 ∧ ∀ j ∈ g, j ≠ i → bitAt s j.toNat = 0
  | [], h => by simp [many] at h
  | i :: g, h => by
    have e : many s (i :: g) = bitAt s i.toNat + many s g := rfl
    rw [e] at h
    rcases bit_01 s i.toNat with h0 | h1
    · obtain ⟨k, hk, h2, h3⟩ := many_one (s := s) (g := g) (by omega)
      refine ⟨k, by simp [hk], h2, fun j hj hne => ?_⟩
      rcases List.mem_cons.1 hj with rfl | hj
      · exact h0
      · exact h3 j hj hne
    · have hz : many s g = 0 := by omega
      refine ⟨i, by simp, h1, fun j hj hne => ?_⟩
      rcases List.mem_cons.1 hj with rfl | hj
      · exact absurd rfl hne
      · have hall : ∀ (l : List Int), many s l = 0 → ∀ x ∈ l, bitAt s x.toNat = 0 := by
          intro l
          induction l with
          | nil => intro _ x hx; cases hx
          | cons y l ih =>
            intro hl x hx
            have e2 : many s (y :: l) = bitAt s y.toNat + many s l := rfl
            rw [e2] at hl
            rcases List.mem_cons.1 hx with rfl | hx
            · omega
            · exact ih (by omega) x hx
        exact hall g hz j hj
/-- Is a place not the only lost one of a group? -/
def still (s : Nat) (gs : List (List Int)) (i : Nat) : Bool := !gs.any fun g => many s g == 1 && g.contains (i : Int)
theorem filter_lt {α : Type} {p q : α → Bool} {l : List α} {x : α} (hx : x ∈ l) (hp : p x = true) (hq : q x = false) : (l.filter fun a => q a && p a).length < (l.filter p).length := by
  have h1 : l.filter (fun a => q a && p a) = (l.filter p).filter q := by rw [List.filter_filter]
  rw [h1]
  have hmem : x ∈ l.filter p := List.mem_filter.2 ⟨hx, hp⟩
  have h2 := List.length_filter_lt_length_iff_exists (p := q) (l := l.filter p)
  exact h2.2 ⟨x, hmem, by rw [hq]; simp⟩
theorem still_count {s d : Nat} : ∀ {gs : List (List Int)}, (∀ g ∈ gs, ∀ i ∈ g, 0 ≤ i ∧ i < (d : Int)) → gs.Pairwise (fun g h => ∀ i, i ∈ g → i ∉ h) → ((lostL d s).filter (still s gs)).length + alone s gs ≤ (lostL d s).length
  | [], _, _ => by
    have : (lostL d s).filter (still s []) = lostL d s := List.filter_eq_self.2 fun a _ => by simp [still]
    rw [this]
    simp [alone]
  | g :: r, hb, hp => by
    obtain ⟨h1, h2⟩ := List.pairwise_cons.1 hp
    have ih := still_count (s := s) (gs := r) (fun g hg => hb g (by simp [hg])) h2
    have e : ∀ i, still s (g :: r) i = ((!(many s g == 1 && g.contains (i : Int))) && still s r i) := fun i => by simp [still, Bool.not_or]
    have ea : alone s (g :: r) = alone s r + if many s g == 1 then 1 else 0 := by simp [alone, List.countP_cons]
    rw [show still s (g :: r) = fun (i : Nat) => (!(many s g == 1 && g.contains (i : Int))) && still s r i from funext e, ea]
    by_cases hm : many s g = 1
    · rw [if_pos (by simp [hm])]
      obtain ⟨i, hi, hbi, _⟩ := many_one hm
      have hbd := hb g (by simp) i hi
      have hin : i.toNat ∈ lostL d s := List.mem_filter.2 ⟨List.mem_range.2 (by omega), by rw [hbi]; rfl⟩
      have hcast : ((i.toNat : Nat) : Int) = i := Int.toNat_of_nonneg hbd.1
      have hst : still s r i.toNat = true := by
        unfold still
        rw [Bool.not_eq_true', List.any_eq_false]
        intro h hh
        rw [hcast]
        have := h1 h hh i hi
        simp [this]
      have := filter_lt (p := still s r) (q := fun (i : Nat) => !(many s g == 1 && g.contains (i : Int))) hin hst (by rw [hcast]; simp [hm, hi])
      omega
    · rw [if_neg (by simp [hm])]
      have : (fun (i : Nat) => (!(many s g == 1 && g.contains (i : Int))) && still s r i) = still s r := funext fun i => by simp [hm]
      rw [this]
      exact ih
theorem mask_bit {L s : Nat} (hs : s < 2 ^ L) {k : Nat} (hk : k < L) (h : bitAt s k = 0) : bitAt (2 ^ L - 1 - s) k = 1 := by
  rw [bit_test, Nat.sub_sub, Nat.add_comm 1 s, Nat.testBit_two_pow_sub_succ hs]
  have : s.testBit k = false := by
    rw [← Bool.not_eq_true, ← bit_test]
    omega
  simp [hk, this]
theorem high_bit {d s : Nat} (hs : s < 2 ^ d) {k : Nat} (hk : d ≤ k) : bitAt s k = 0 := by
  unfold bitAt
  rw [Nat.div_eq_of_lt (Nat.lt_of_lt_of_le hs (Nat.pow_le_pow_right (by decide) hk))]
theorem pick_mem {rows : List (List UInt8)} {m k : Nat} (hk : k < rows.length) (hb : bitAt m k = 1) : rows.getD k [] ∈ pick rows m := by
  unfold pick pickTo
  refine List.mem_filterMap.2 ⟨k, List.mem_range.2 hk, ?_⟩
  rw [if_pos hb, List.getElem?_eq_getElem hk, List.getD_eq_getElem?_getD, List.getElem?_eq_getElem hk]
  rfl
theorem lost_nodup (d s : Nat) : (lostL d s).Nodup := (List.nodup_range).filter _
/-- A LOSS OF DATA PIECES of which at most as many as there are global pieces are not the only lost one of their group is recoverable. -/
theorem repair (h : check d gs gl = 0) {s : Nat} (hs : s < 2 ^ d.toNat) (hc : (lostL d.toNat s).length ≤ gl.toNat + alone s gs) :
    can d gl gs ((2 ^ (rowsOf d gs gl).length - 1 - s : Nat) : Int) = true := by
  have hk := check_ok h
  have hrl := rowsOf_len h
  obtain ⟨ha, hdis⟩ := check_asc (check_g h)
  obtain ⟨L, hL⟩ : ∃ L, (rowsOf d gs gl).length = L := ⟨_, rfl⟩
  have hdL : d.toNat ≤ L := by omega
  have hsL : s < 2 ^ L := Nat.lt_of_lt_of_le hs (Nat.pow_le_pow_right (by decide) hdL)
  have hmem : ∀ k, k < L → bitAt s k = 0 → SpanL d.toNat (pick (rowsOf d gs gl) (2 ^ L - 1 - s)) (vec ((rowsOf d gs gl).getD k [])) := fun k hk hb =>
    SpanL.mem (pick_mem (by omega) (mask_bit hsL hk hb))
  have hunit0 : ∀ i, i < d.toNat → bitAt s i = 0 → SpanL d.toNat (pick (rowsOf d gs gl) (2 ^ L - 1 - s)) (unit i) := fun i hi hb => by
    refine (hmem i (by omega) hb).congr fun j hj => ?_
    rw [rowsOf_data h hi]
    show _ = (rowOf d.toNat (unitAt i)).getD j 0
    rw [rowOf_get _ hj]
    unfold unit unitAt
    rfl
  have hbd : ∀ g ∈ gs, ∀ i ∈ g, 0 ≤ i ∧ i < ((d.toNat : Nat) : Int) := fun g hg i hi => by
    have := (ha g hg).2.1 i hi
    omega
  have hcount := still_count (s := s) (d := d.toNat) hbd hdis
  rw [can_def, hL]
  refine ⟨h, by omega, (stairs_iff fun r hr => rowsOf_width h (pickTo_mem hr)).2 ?_⟩
  have hall : ∀ i, i < d.toNat → SpanL d.toNat (pick (rowsOf d gs gl) (2 ^ L - 1 - s)) (unit i) := by
    refine kill_all (gl := gl.toNat) (by omega) (fun j hj => ?_) ((lostL d.toNat s).filter (still s gs)) (by omega) ((lost_nodup _ _).filter _) (fun i hi => ?_) fun i hi hni => ?_
    · refine (hmem (d.toNat + gs.length + j) (by omega) (high_bit hs (by omega))).congr fun i hi => ?_
      rw [rowsOf_glob h hj]
      show _ = (rowOf d.toNat (gloAt j)).getD i 0
      rw [rowOf_get _ hi]
      unfold al gloAt
      rfl
    · exact List.mem_range.1 (List.mem_filter.1 (List.mem_filter.1 hi).1).1
    · rcases bit_01 s i with h0 | h1
      · exact hunit0 i hi h0
      · have hlost : i ∈ lostL d.toNat s := List.mem_filter.2 ⟨List.mem_range.2 hi, by rw [h1]; rfl⟩
        have hst : still s gs i = false := by
          rw [← Bool.not_eq_true]
          exact fun hx => hni (List.mem_filter.2 ⟨hlost, hx⟩)
        unfold still at hst
        rw [Bool.not_eq_false', List.any_eq_true] at hst
        obtain ⟨g, hg, hmg⟩ := hst
        rw [Bool.and_eq_true, beq_iff_eq, List.contains_iff_mem] at hmg
        obtain ⟨q, hq, hq1, hq2⟩ := many_one hmg.1
        have hqi : (i : Int) = q := Classical.byContradiction fun hne => by
          have := hq2 _ hmg.2 hne
          rw [Int.toNat_natCast] at this
          omega
        obtain ⟨n, hn, rfl⟩ := List.getElem_of_mem hg
        have hgn : gs.getD n [] = gs[n] := by rw [List.getD_eq_getElem?_getD, List.getElem?_eq_getElem hn]; rfl
        have hv := hmem (d.toNat + n) (by omega) (high_bit hs (by omega))
        rw [rowsOf_group h hn, hgn] at hv
        have hv2 : ∀ j, j < d.toNat → vec (rowOf d.toNat (inAt (setOf 0 gs[n]))) j = if (j : Int) ∈ gs[n] then 1 else 0 := fun j hj => by
          show (rowOf d.toNat (inAt (setOf 0 gs[n]))).getD j 0 = _
          rw [rowOf_get _ hj, inAt_set fun y hy => (hbd _ hg y hy).1]
        refine unit_of hi hv (by rw [hv2 i hi, if_pos hmg.2]; decide) fun j hj hji hvj => ?_
        rw [hv2 j hj] at hvj
        have hjm : (j : Int) ∈ gs[n] := Classical.byContradiction fun hx => hvj (if_neg hx)
        refine hunit0 j hj ?_
        have := hq2 _ hjm (by rw [← hqi]; omega)
        rwa [Int.toNat_natCast] at this
  intro v
  have hsum : SpanL d.toNat (pick (rowsOf d gs gl) (2 ^ L - 1 - s)) (fun i => sm d.toNat fun j => mul (v j) (unit j i)) := InSpan.sum v unit d.toNat hall
  refine hsum.congr fun i hi => ?_
  rw [sm_one (p := i) _ hi fun j _ hne => by rw [unit, if_neg (Ne.symm hne), mul_zero], unit, if_pos rfl, mul_one]
end Cd
