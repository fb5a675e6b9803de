/- PERILS, in plain terms: two domains exchanged. -/
import Derived.Test.YtaemjkfmbnhaoaaDoorRiskV
namespace Rk
open Cd
theorem sumTo_nil : ∀ n, sumTo (fun _ => 0) n = 0
  | 0 => rfl
  | n + 1 => by rw [sumTo, sumTo_nil n]
theorem sumTo_swap (f : Nat → Nat → Nat) : ∀ m n, sumTo (fun i => sumTo (f i) n) m = sumTo (fun j => sumTo (fun i => f i j) m) n
  | 0, n => (sumTo_nil n).symm
  | m + 1, n => by
    rw [sumTo, sumTo_swap f m n, ← sumTo_add]
    rfl
theorem sumTo_point (g : Nat → Nat) (k : Nat) : ∀ n, sumTo (fun j => if j = k then g j else 0) n = if k < n then g k else 0
  | 0 => by rw [if_neg (by omega)]; rfl
  | n + 1 => by
    rw [sumTo, sumTo_point g k n]
    by_cases h : n = k
    · subst h
      rw [if_neg (by omega), if_pos rfl, if_pos (by omega), Nat.zero_add]
    · rw [if_neg h, Nat.add_zero]
      by_cases h2 : k < n
      · rw [if_pos h2, if_pos (by omega)]
      · rw [if_neg h2, if_neg (by omega)]
/-- A sum does not depend on the order. -/
theorem sumTo_invol {g σ : Nat → Nat} {N : Nat} (h1 : ∀ i, i < N → σ i < N) (h2 : ∀ i, i < N → σ (σ i) = i) : sumTo (fun i => g (σ i)) N = sumTo g N := by
  have e1 : sumTo (fun i => g (σ i)) N = sumTo (fun i => sumTo (fun j => if j = σ i then g j else 0) N) N := sumTo_congr fun i hi => by
    rw [sumTo_point, if_pos (h1 i hi)]
  rw [e1, sumTo_swap]
  refine sumTo_congr fun j hj => ?_
  have e2 : sumTo (fun i => if j = σ i then g j else 0) N = sumTo (fun i => if i = σ j then (fun _ => g j) i else 0) N := sumTo_congr fun i hi => by
    by_cases h : j = σ i
    · rw [if_pos h, if_pos (by rw [h, h2 i hi])]
    · rw [if_neg h, if_neg (fun h3 => h (by rw [h3, h2 j hj]))]
  rw [e2, sumTo_point, if_pos (h1 j hj)]
/-- Two numbers exchanged. -/
def sw (a b i : Nat) : Nat := if i = a then b else if i = b then a else i
theorem sw_sw (a b i : Nat) : sw a b (sw a b i) = i := by
  unfold sw
  by_cases h1 : i = a
  · rw [if_pos h1]
    by_cases h2 : b = a
    · rw [if_pos h2]; omega
    · rw [if_neg h2, if_pos rfl, h1]
  · rw [if_neg h1]
    by_cases h2 : i = b
    · rw [if_pos h2, if_pos rfl, h2]
    · rw [if_neg h2, if_neg h1, if_neg h2]
theorem sw_lt {a b n i : Nat} (ha : a < n) (hb : b < n) (h : i < n) : sw a b i < n := by
  unfold sw
  split
  · exact hb
  · split
    · exact ha
    · exact h
theorem sw_ge {a b n i : Nat} (ha : a < n) (hb : b < n) (h : n ≤ i) : sw a b i = i := by
  unfold sw
  rw [if_neg (by omega), if_neg (by omega)]
/-- The number whose bits a function gives. -/
def ofB (g : Nat → Bool) : Nat → Nat
  | 0 => 0
  | k + 1 => ofB g k ||| (if g k then 2 ^ k else 0)
theorem ofB_bit (g : Nat → Bool) (i : Nat) : ∀ k, (ofB g k).testBit i = (decide (i < k) && g i)
  | 0 => by rw [ofB, Nat.zero_testBit]; rfl
  | k + 1 => by
    rw [ofB, Nat.testBit_or, ofB_bit g i k]
    by_cases h : k = i
    · subst h
      rw [show decide (k < k) = false from decide_eq_false (by omega), Bool.false_and, Bool.false_or, show decide (k < k + 1) = true from decide_eq_true (by omega), Bool.true_and]
      cases g k with
      | true => exact Nat.testBit_two_pow_self
      | false => exact Nat.zero_testBit _
    · have e : ((if g k then 2 ^ k else 0 : Nat)).testBit i = false := by
        split
        · rw [Nat.testBit_two_pow]; exact decide_eq_false h
        · exact Nat.zero_testBit _
      rw [e, Bool.or_false]
      by_cases h2 : i < k
      · rw [decide_eq_true h2, decide_eq_true (show i < k + 1 by omega)]
      · rw [decide_eq_false h2, decide_eq_false (show ¬ i < k + 1 by omega)]
theorem ofB_lt (g : Nat → Bool) : ∀ k, ofB g k < 2 ^ k
  | 0 => by rw [ofB]; exact Nat.one_pos
  | k + 1 => by
    have h1 : 2 ^ k < 2 ^ (k + 1) := Nat.pow_lt_pow_right (by omega) (by omega)
    rw [ofB]
    refine Nat.or_lt_two_pow (Nat.lt_trans (ofB_lt g k) h1) ?_
    split
    · exact h1
    · exact Nat.two_pow_pos _
/-- A set of domains, two of them exchanged. -/
def swB (n a b f : Nat) : Nat := ofB (fun i => f.testBit (sw a b i)) n
theorem swB_lt (n a b f : Nat) : swB n a b f < 2 ^ n := ofB_lt _ n
theorem swB_bit {n a b f : Nat} (ha : a < n) (hb : b < n) (hf : f < 2 ^ n) (i : Nat) : (swB n a b f).testBit i = f.testBit (sw a b i) := by
  unfold swB
  rw [ofB_bit]
  by_cases h : i < n
  · rw [decide_eq_true h, Bool.true_and]
  · have h2 : f.testBit i = false := Nat.testBit_lt_two_pow (Nat.lt_of_lt_of_le hf (Nat.pow_le_pow_right (by omega) (by omega)))
    rw [decide_eq_false h, Bool.false_and, sw_ge ha hb (by omega), h2]
theorem swB_swB {n a b f : Nat} (ha : a < n) (hb : b < n) (hf : f < 2 ^ n) : swB n a b (swB n a b f) = f := by
  apply Nat.eq_of_testBit_eq
  intro i
  rw [swB_bit ha hb (swB_lt _ _ _ _), swB_bit ha hb hf, sw_sw]
theorem bitAt_swB {n a b f : Nat} (ha : a < n) (hb : b < n) (hf : f < 2 ^ n) (i : Nat) : bitAt (swB n a b f) i = bitAt f (sw a b i) := by
  rw [bitAt_testBit, bitAt_testBit, swB_bit ha hb hf]
/-- A product. -/
def prodN (F : Nat → Nat) : Nat → Nat
  | 0 => 1
  | k + 1 => prodN F k * F k
theorem prodN_congr {F G : Nat → Nat} : ∀ {k : Nat}, (∀ i, i < k → F i = G i) → prodN F k = prodN G k
  | 0, _ => rfl
  | k + 1, h => by rw [prodN, prodN, prodN_congr fun i hi => h i (by omega), h k (by omega)]
theorem prodN_take {F : Nat → Nat} {a : Nat} : ∀ {k : Nat}, a < k → prodN F k = F a * prodN (fun i => if i = a then 1 else F i) k
  | 0, h => absurd h (by omega)
  | k + 1, h => by
    rw [prodN, prodN]
    by_cases hk : k = a
    · subst hk
      rw [if_pos rfl, Nat.mul_one, Nat.mul_comm, prodN_congr (G := fun i => if i = k then 1 else F i) fun i hi => by rw [if_neg (by omega)]]
    · rw [if_neg hk, prodN_take (show a < k by omega), Nat.mul_assoc]
theorem prodN_sw {F : Nat → Nat} {a b k : Nat} (ha : a < k) (hb : b < k) : prodN (fun i => F (sw a b i)) k = prodN F k := by
  by_cases hab : a = b
  · subst hab
    refine prodN_congr fun i _ => ?_
    unfold sw
    split
    · rename_i h; rw [h]
    · rfl
  · rw [prodN_take ha, prodN_take hb, prodN_take (F := F) ha, prodN_take (F := fun i => if i = a then 1 else F i) hb, if_neg (Ne.symm hab), if_neg (Ne.symm hab)]
    have e1 : sw a b a = b := if_pos rfl
    have e2 : sw a b b = a := by unfold sw; rw [if_neg (Ne.symm hab), if_pos rfl]
    rw [e1, e2, ← Nat.mul_assoc, ← Nat.mul_assoc, Nat.mul_comm (F b)]
    congr 1
    refine prodN_congr fun i _ => ?_
    by_cases h1 : i = b
    · rw [if_pos h1, if_pos h1]
    · rw [if_neg h1, if_neg h1]
      by_cases h2 : i = a
      · rw [if_pos h2, if_pos h2]
      · rw [if_neg h2, if_neg h2]
        unfold sw
        rw [if_neg h2, if_neg h1]
theorem weightTo_prod (ch : List Int) (f : Nat) : ∀ k, weightTo ch f k = prodN (fun i => factor (ch.getD i 0) (bitAt f i)) k
  | 0 => by rw [weightTo_zero]; rfl
  | k + 1 => by rw [weightTo_succ, weightTo_prod ch f k, prodN]
/-- Chances, two of them exchanged; places, too. -/
def swCh (ch : List Int) (a b : Nat) : List Int := (ch.set a (ch.getD b 0)).set b (ch.getD a 0)
def swI (a b : Nat) (d : Int) : Int := if d = (a : Int) then (b : Int) else if d = (b : Int) then (a : Int) else d
theorem swCh_len (ch : List Int) (a b : Nat) : (swCh ch a b).length = ch.length := by simp [swCh]
theorem swCh_get {ch : List Int} {a b : Nat} (ha : a < ch.length) (hb : b < ch.length) (i : Nat) : (swCh ch a b).getD i 0 = ch.getD (sw a b i) 0 := by
  unfold swCh sw
  rw [List.getD_eq_getElem?_getD, List.getElem?_set]
  by_cases h1 : b = i
  · subst h1
    rw [if_pos rfl, if_pos (by simpa using hb)]
    split
    · rename_i h; rw [h]; rfl
    · rw [if_pos rfl]; rfl
  · rw [if_neg h1, List.getElem?_set]
    by_cases h2 : a = i
    · subst h2
      rw [if_pos rfl, if_pos ha, if_pos rfl]; rfl
    · rw [if_neg h2, if_neg (Ne.symm h2), if_neg (Ne.symm h1), List.getD_eq_getElem?_getD]
theorem swI_nat (a b i : Nat) : swI a b (i : Int) = ((sw a b i : Nat) : Int) := by
  unfold swI sw
  by_cases h1 : i = a
  · rw [if_pos (by omega), if_pos h1]
  · rw [if_neg (by omega), if_neg h1]
    by_cases h2 : i = b
    · rw [if_pos (by omega), if_pos h2]
    · rw [if_neg (by omega), if_neg h2]
/-- A peril, two domains exchanged. -/
def swP (p : Pe) (a b : Nat) : Pe := ⟨p.d, p.gs, p.gl, p.at'.map (swI a b), swCh p.ch a b⟩
section
variable {p : Pe} {a b : Nat} (ho : Ok p) (ha : a < p.ch.length) (hb : b < p.ch.length)
include ho ha hb
theorem swP_ch : ∀ c ∈ swCh p.ch a b, 0 ≤ c ∧ c ≤ 16 := fun c hc => by
  have hg : ∀ k, k < p.ch.length → p.ch.getD k 0 ∈ p.ch := fun k hk => by
    rw [List.getD_eq_getElem?_getD, List.getElem?_eq_getElem hk]; exact List.getElem_mem hk
  rcases List.mem_or_eq_of_mem_set hc with h | h
  · rcases List.mem_or_eq_of_mem_set h with h | h
    · exact ho.ch_ok c h
    · rw [h]; exact ho.ch_ok _ (hg b hb)
  · rw [h]; exact ho.ch_ok _ (hg a ha)
theorem swP_check : check (swP p a b) = 0 := by
  refine check_zero ho.code ?_ ?_ ?_ ?_
  · show ¬ 12 < (swCh p.ch a b).length
    rw [swCh_len]; have := ho.few; omega
  · show (((p.at'.map (swI a b)).length : Nat) : Int) = pieces p.d p.gs p.gl
    rw [List.length_map, pieces_ok ho.code]; exact ho.len
  · intro x hx
    obtain ⟨y, hy, rfl⟩ := List.mem_map.1 hx
    have h1 := ho.at_ok y hy
    show ¬ (swI a b y < -1 ∨ (((swCh p.ch a b).length : Nat) : Int) ≤ swI a b y)
    rw [swCh_len]
    unfold swI
    split
    · omega
    · split <;> omega
  · intro c hc
    have := swP_ch ho ha hb c hc
    omega
omit ho in
theorem swP_weight {f : Nat} (hf : f < 2 ^ p.ch.length) : weight (swP p a b).ch f = weight p.ch (swB p.ch.length a b f) := by
  rw [weight_def, weight_def, weightTo_prod, weightTo_prod]
  show prodN _ (swCh p.ch a b).length = _
  rw [swCh_len, ← prodN_sw (F := fun i => factor (p.ch.getD i 0) (bitAt (swB p.ch.length a b f) i)) ha hb]
  refine prodN_congr fun i hi => ?_
  show factor ((swCh p.ch a b).getD i 0) _ = _
  rw [swCh_get ha hb, bitAt_swB ha hb hf, sw_sw]
theorem swP_left {f : Nat} (hf : f < 2 ^ p.ch.length) : left (swP p a b).at' f = left p.at' (swB p.ch.length a b f) := by
  apply Nat.eq_of_testBit_eq
  intro i
  show (leftTo _ f (p.at'.map (swI a b)).length).testBit i = (leftTo _ _ _).testBit i
  rw [leftTo_bit, leftTo_bit, List.length_map]
  congr 1
  apply propext
  have hg : i < p.at'.length → (p.at'.map (swI a b)).getD i (-1) = swI a b (p.at'.getD i (-1)) := fun h => by
    rw [List.getD_eq_getElem?_getD, List.getElem?_map, List.getD_eq_getElem?_getD, List.getElem?_eq_getElem h]; rfl
  have hm : i < p.at'.length → -1 ≤ p.at'.getD i (-1) := fun h => by
    rw [List.getD_eq_getElem?_getD, List.getElem?_eq_getElem h]
    exact (ho.at_ok _ (List.getElem_mem h)).1
  by_cases hi : i < p.at'.length
  · have h1 : (swP p a b).at'.getD i (-1) = swI a b (p.at'.getD i (-1)) := hg hi
    rw [h1]
    have h2 := hm hi
    by_cases h3 : p.at'.getD i (-1) = -1
    · rw [h3]
      have : swI a b (-1) = -1 := by unfold swI; rw [if_neg (by omega), if_neg (by omega)]
      rw [this]
      omega
    · obtain ⟨k, hk⟩ : ∃ k : Nat, p.at'.getD i (-1) = k := ⟨(p.at'.getD i (-1)).toNat, by omega⟩
      rw [hk, swI_nat, Int.toNat_natCast, Int.toNat_natCast, swB_bit ha hb hf]
      constructor
      · rintro ⟨x, _, z⟩; exact ⟨x, by omega, z⟩
      · rintro ⟨x, _, z⟩; exact ⟨x, by omega, z⟩
  · constructor
    · rintro ⟨x, _⟩; exact absurd x hi
    · rintro ⟨x, _⟩; exact absurd x hi
theorem swP_loses {f : Nat} (hf : f < 2 ^ p.ch.length) : loses (swP p a b) f = loses p (swB p.ch.length a b f) := by
  rw [loses_def, loses_def, ← swP_left ho ha hb hf]
  rfl
theorem swP_loss : loss (swP p a b) = loss p := by
  have hl : (swP p a b).ch.length = p.ch.length := swCh_len _ _ _
  rw [loss_def, loss_def, lossTo_sum, lossTo_sum, hl, ← sumTo_invol (σ := swB p.ch.length a b) (g := fun f => if loses p f then weight p.ch f else 0) (fun i _ => swB_lt _ _ _ _) (fun i hi => swB_swB ha hb hi)]
  refine sumTo_congr fun f hf => ?_
  rw [swP_loses ho ha hb hf, swP_weight ha hb hf]
end
theorem cntF_sum : ∀ k n, cntF k n = sumTo (fun i => bitAt n i) k
  | 0, _ => rfl
  | k + 1, n => by
    have h : sumTo (fun i => bitAt n i) (1 + k) = sumTo (fun i => bitAt n i) 1 + sumTo (fun i => bitAt n (1 + i)) k := sumTo_split _ 1 k
    rw [Nat.add_comm k 1, h, Nat.add_comm 1 k, cntF, cntF_sum k (n / 2)]
    have e : bitAt n 0 = n % 2 := by unfold bitAt; rw [Nat.pow_zero, Nat.div_one]
    have e1 : sumTo (fun i => bitAt n i) 1 = n % 2 := by rw [sumTo, sumTo, e, Nat.zero_add]
    rw [e1]
    congr 1
    refine sumTo_congr fun i _ => ?_
    unfold bitAt
    rw [Nat.div_div_eq_div_mul, Nat.pow_add, Nat.pow_one]
theorem cnt_swB {n a b f : Nat} (ha : a < n) (hb : b < n) (hn : n ≤ 16) (hf : f < 2 ^ n) : cnt (swB n a b f) = cnt f := by
  have e : ∀ f, cnt f = sumTo (fun i => bitAt f i) 16 := fun f => by unfold cnt; exact cntF_sum 16 f
  rw [e, e, ← sumTo_invol (σ := sw a b) (g := fun i => bitAt f i) (fun i hi => sw_lt (by omega) (by omega) hi) (fun i _ => sw_sw a b i)]
  exact sumTo_congr fun i _ => bitAt_swB ha hb hf i
theorem swP_least {fst : Nat → Nat → Bool} {p : Pe} {a b : Nat} (h : check p = 0) (ha : a < p.ch.length) (hb : b < p.ch.length) : cnt (least fst (swP p a b)) = cnt (least fst p) := by
  have ho := ok_of h
  have h12 := ho.few
  have hl : (swP p a b).ch.length = p.ch.length := swCh_len _ _ _
  obtain ⟨a1, a2, a3⟩ := least_spec (fst := fst) h
  obtain ⟨b1, b2, b3⟩ := least_spec (fst := fst) (swP_check ho ha hb)
  rw [hl] at b1 b3
  have h1 := b3 (swB p.ch.length a b (least fst p)) (swB_lt _ _ _ _) (by rw [swP_loses ho ha hb (swB_lt _ _ _ _), swB_swB ha hb a1]; exact a2)
  rw [cnt_swB ha hb (by omega) a1] at h1
  have h2 := a3 (swB p.ch.length a b (least fst (swP p a b))) (swB_lt _ _ _ _) (by rw [← swP_loses ho ha hb b1]; exact b2)
  rw [cnt_swB ha hb (by omega) b1] at h2
  omega
theorem sign_neg (x y : Nat) : sign y x = -(sign x y) := by
  unfold sign
  by_cases h1 : x < y
  · rw [if_neg (by omega), if_pos h1, if_pos h1]; rfl
  · by_cases h2 : y < x
    · rw [if_pos h2, if_neg h1, if_pos h2]
    · rw [if_neg h2, if_neg h1, if_neg h1, if_neg h2]; rfl
theorem sign_same (x : Nat) : sign x x = 0 := by unfold sign; rw [if_neg (by omega), if_neg (by omega)]
theorem sign_small (x y : Nat) : -1 ≤ sign x y ∧ sign x y ≤ 1 := by
  unfold sign
  split
  · omega
  · split <;> omega
theorem cmp_swP {p : Pe} {a b : Nat} (h : check p = 0) (ha : a < p.ch.length) (hb : b < p.ch.length) : cmp p (swP p a b) = (0, 0) := by
  have hl : (swP p a b).ch.length = p.ch.length := swCh_len _ _ _
  rw [cmp_ok h (swP_check (ok_of h) ha hb), hl, swP_loss (ok_of h) ha hb, sign_same]
theorem cmp_turn {p q : Pe} (h : check p = 0) : (cmp q p).2 = (cmp p q).2 ∧ (cmp q p).1 = -(cmp p q).1 ∧ -1 ≤ (cmp p q).1 ∧ (cmp p q).1 ≤ 1 := by
  by_cases hq : check q = 0
  · rw [cmp_ok h hq, cmp_ok hq h]
    exact ⟨rfl, sign_neg _ _, sign_small _ _⟩
  · rw [cmp_no2 h hq, cmp_no hq]
    exact ⟨rfl, rfl, by show (-1:Int) ≤ 0; omega, by show (0:Int) ≤ 1; omega⟩
end Rk
