/- PERILS, in plain terms: what is monotone. -/
import Derived.Test.YtaemjkfmbnhaoaaDoorRiskK
namespace Rk
open Cd
theorem bitAt_testBit (s i : Nat) : bitAt s i = (s.testBit i).toNat := by
  unfold bitAt
  rw [Nat.testBit_eq_decide_div_mod_eq]
  rcases Nat.mod_two_eq_zero_or_one (s / 2 ^ i) with h | h <;> rw [h] <;> rfl
theorem bit_one {s i : Nat} : bitAt s i = 1 ↔ s.testBit i = true := by
  rw [bitAt_testBit]; cases s.testBit i <;> simp
theorem bit_zero {s i : Nat} : bitAt s i = 0 ↔ s.testBit i = false := by
  rw [bitAt_testBit]; cases s.testBit i <;> simp
/-- Every element of one set is in the other. -/
def Sub (a b : Nat) : Prop := ∀ i, a.testBit i = true → b.testBit i = true
theorem sub_or (a b : Nat) : Sub a (a ||| b) := fun i h => by rw [Nat.testBit_or, h]; rfl
theorem pickTo_sub {rows : List (List UInt8)} {a b : Nat} (h : Sub a b) {k : Nat} {r : List UInt8} (hr : r ∈ pickTo rows a k) : r ∈ pickTo rows b k := by
  simp only [pickTo, List.mem_filterMap] at hr ⊢
  obtain ⟨i, hi, h2⟩ := hr
  refine ⟨i, hi, ?_⟩
  split at h2
  · rename_i h3
    rw [if_pos (bit_one.2 (h i (bit_one.1 h3)))]
    exact h2
  · cases h2
/-- With more pieces a chunk can still be made again. -/
theorem can_mono {d gl : Int} {gs : List (List Int)} {a b : Nat} (h : Sub a b) (hb : b < 2 ^ (rowsOf d gs gl).length) (hc : can d gl gs (a : Int) = true) : can d gl gs (b : Int) = true := by
  unfold can at hc ⊢
  simp only [decide_eq_true_eq] at hc ⊢
  obtain ⟨h0, _, _, h3⟩ := hc
  refine ⟨h0, by omega, by rw [Go.Proofs.YtaemjkfmbnhaoaaDoor.nat_pow_cast]; omega, ?_⟩
  rw [Int.toNat_natCast] at h3 ⊢
  have hw : ∀ (m : Nat), ∀ r ∈ pick (rowsOf d gs gl) m, r.length = d.toNat := fun m r hr => by
    have := pickTo_mem hr
    rw [rowsOf_ok h0] at this
    exact rows_width this
  rw [Gf.stairs_iff (hw b)]
  rw [Gf.stairs_iff (hw a)] at h3
  exact fun v => (h3 v).mono fun x hx => pickTo_sub h hx
/-- Which pieces a set of domains leaves. -/
theorem leftTo_bit (at' : List Int) (f : Nat) : ∀ k i, (leftTo at' f k).testBit i = decide (i < k ∧ 0 ≤ at'.getD i (-1) ∧ f.testBit (at'.getD i (-1)).toNat = false)
  | 0, i => by rw [leftTo_zero]; simp
  | k + 1, i => by
    rw [leftTo_succ]
    by_cases hik : i = k
    · subst hik
      split
      · rename_i h
        rw [Nat.testBit_or, Nat.testBit_two_pow_self, Bool.or_true]
        symm
        rw [decide_eq_true_eq]
        exact ⟨by omega, h.1, bit_zero.1 h.2⟩
      · rename_i h
        rw [Nat.testBit_lt_two_pow (leftTo_lt at' f i)]
        symm
        rw [decide_eq_false_iff_not]
        rintro ⟨_, h1, h2⟩
        exact h ⟨h1, bit_zero.2 h2⟩
    · have e : (2 ^ k).testBit i = false := by rw [Nat.testBit_two_pow]; simpa using Ne.symm hik
      have e2 : decide (i < k + 1 ∧ 0 ≤ at'.getD i (-1) ∧ f.testBit (at'.getD i (-1)).toNat = false) = decide (i < k ∧ 0 ≤ at'.getD i (-1) ∧ f.testBit (at'.getD i (-1)).toNat = false) := by
        congr 1
        apply propext
        constructor
        · rintro ⟨h1, h2⟩; exact ⟨by omega, h2⟩
        · rintro ⟨h1, h2⟩; exact ⟨by omega, h2⟩
      split
      · rw [Nat.testBit_or, e, Bool.or_false, leftTo_bit at' f k i, e2]
      · rw [leftTo_bit at' f k i, e2]
theorem left_bound {p : Pe} (h : Ok p) (f : Nat) : left p.at' f < 2 ^ (rowsOf p.d p.gs p.gl).length := by
  have h1 := leftTo_lt p.at' f p.at'.length
  have hk := check_ok h.code
  have h2 : (rowsOf p.d p.gs p.gl).length = p.at'.length := by
    rw [rowsOf_ok h.code, rows_len]
    have := h.len
    omega
  rw [h2]
  exact h1
/-- If a set of domains loses the chunk, so does a greater one, and with a piece nowhere. -/
theorem loses_mono {p q : Pe} (hp : Ok p) (hd : q.d = p.d ∧ q.gs = p.gs ∧ q.gl = p.gl) (hl : q.at'.length = p.at'.length) (ha : ∀ i, i < p.at'.length → q.at'.getD i (-1) = p.at'.getD i (-1) ∨ q.at'.getD i (-1) = -1) {f g : Nat} (hfg : Sub f g) (h : loses p f = true) : loses q g = true := by
  rw [loses_def] at h ⊢
  rw [Bool.not_eq_true'] at h ⊢
  rw [hd.1, hd.2.1, hd.2.2]
  cases hc : can p.d p.gl p.gs (left q.at' g : Nat) with
  | false => rfl
  | true =>
    exfalso
    have hs : Sub (left q.at' g) (left p.at' f) := fun i hi => by
      unfold left at hi ⊢
      rw [leftTo_bit] at hi ⊢
      rw [decide_eq_true_eq] at hi ⊢
      obtain ⟨h1, h2, h3⟩ := hi
      rcases ha i (by omega) with h4 | h4
      · rw [h4] at h2 h3
        refine ⟨by omega, h2, ?_⟩
        cases hf : f.testBit (p.at'.getD i (-1)).toNat with
        | false => rfl
        | true => rw [hfg _ hf] at h3; cases h3
      · rw [h4] at h2; omega
    have := can_mono hs (left_bound hp f) hc
    rw [h] at this
    cases this
theorem weightTo_pair {ch : List Int} {d : Nat} (hd : d < ch.length) (f : Nat) (hf : f.testBit d = false) : ∀ j, weightTo (ch.set d 16) (f ||| 2 ^ d) j = weightTo (ch.set d 0) f j
  | 0 => by rw [weightTo_zero, weightTo_zero]
  | j + 1 => by
    rw [weightTo_succ, weightTo_succ, weightTo_pair hd f hf j]
    by_cases hj : j = d
    · subst hj
      rw [getD_set_same hd, getD_set_same hd, bit_zero.2 hf, bit_one.2 (by rw [Nat.testBit_or, Nat.testBit_two_pow_self, Bool.or_true])]
      rw [factor_zero rfl, factor_one (by decide)]
      rfl
    · rw [getD_set_other hj, getD_set_other hj]
      have : bitAt (f ||| 2 ^ d) j = bitAt f j := by
        rw [bitAt_testBit, bitAt_testBit, Nat.testBit_or, Nat.testBit_two_pow]
        simp [Ne.symm hj]
      rw [this]
theorem weightTo_none {ch : List Int} {d : Nat} (hd : d < ch.length) (f : Nat) (hf : f.testBit d = true) : ∀ j, d < j → weightTo (ch.set d 0) f j = 0
  | 0, h => absurd h (by omega)
  | j + 1, h => by
    rw [weightTo_succ]
    by_cases hj : j = d
    · subst hj
      rw [getD_set_same hd, bit_one.2 hf, factor_one (by decide)]
      rfl
    · rw [weightTo_none hd f hf j (by omega), Nat.zero_mul]
theorem sum_pair : ∀ (n d : Nat) (h1 h2 : Nat → Nat), d < n → (∀ f, f < 2 ^ n → f.testBit d = false → h1 f ≤ h2 (f ||| 2 ^ d)) → (∀ f, f < 2 ^ n → f.testBit d = true → h1 f = 0) → sumTo h1 (2 ^ n) ≤ sumTo h2 (2 ^ n)
  | 0, d, _, _, h, _, _ => absurd h (by omega)
  | k + 1, d, h1, h2, hd, ha, hb => by
    have e : 2 ^ (k + 1) = 2 ^ k + 2 ^ k := by rw [Nat.pow_succ]; omega
    have hadd : ∀ f, f < 2 ^ k → 2 ^ k + f = 2 ^ k ||| f := fun f hf => Nat.two_pow_add_eq_or_of_lt hf 1 |> fun h => by simpa using h
    rw [e, sumTo_split, sumTo_split]
    by_cases hk : d = k
    · subst hk
      have z : sumTo (fun i => h1 (2 ^ d + i)) (2 ^ d) = 0 := by
        have : sumTo (fun i => h1 (2 ^ d + i)) (2 ^ d) = sumTo (fun _ => 0) (2 ^ d) := sumTo_congr fun f hf => hb _ (by omega) (by rw [hadd f hf, Nat.testBit_or, Nat.testBit_two_pow_self]; rfl)
        rw [this]
        have : ∀ m, sumTo (fun _ => 0) m = 0 := fun m => by induction m with
          | zero => rfl
          | succ m ih => rw [sumTo, ih]
        exact this _
      rw [z, Nat.add_zero]
      refine Nat.le_trans ?_ (Nat.le_add_left _ _)
      refine sumTo_le fun f hf => ?_
      have := ha f (by omega) (Nat.testBit_lt_two_pow hf)
      rw [hadd f hf, Nat.or_comm]
      exact this
    · refine Nat.add_le_add (sum_pair k d h1 h2 (by omega) (fun f hf => ha f (by omega)) fun f hf => hb f (by omega)) (sum_pair k d _ _ (by omega) (fun f hf hz => ?_) fun f hf hz => ?_)
      · have h3 := ha (2 ^ k + f) (by omega) (by rw [hadd f hf, Nat.testBit_or, hz, Nat.testBit_two_pow]; simp; omega)
        have h4 : f ||| 2 ^ d < 2 ^ k := Nat.or_lt_two_pow hf (Nat.pow_lt_pow_right (by omega) (by omega))
        show h1 (2 ^ k + f) ≤ h2 (2 ^ k + (f ||| 2 ^ d))
        rw [hadd _ h4, ← Nat.or_assoc, ← hadd f hf]
        exact h3
      · exact hb _ (by omega) (by rw [hadd f hf, Nat.testBit_or, hz, Bool.or_true])
theorem or_lt {f d n : Nat} (hf : f < 2 ^ n) (hd : d < n) : f ||| 2 ^ d < 2 ^ n := Nat.or_lt_two_pow hf (Nat.pow_lt_pow_right (by omega) hd)
/-- Loss given that a domain fails is not less than given that it does not. -/
theorem loss_given {p : Pe} (h : check p = 0) {d : Nat} (hd : d < p.ch.length) : loss (given p d false) ≤ loss (given p d true) := by
  have ho := ok_of h
  rw [loss_def, loss_def, given_len, given_len, lossTo_sum, lossTo_sum]
  refine sum_pair p.ch.length d _ _ hd (fun f hf hz => ?_) fun f hf hz => ?_
  · rw [given_loses, given_loses, weight_def, weight_def, given_len, given_len]
    show (if loses p f = true then weightTo (p.ch.set d 0) f p.ch.length else 0) ≤ (if loses p (f ||| 2 ^ d) = true then weightTo (p.ch.set d 16) (f ||| 2 ^ d) p.ch.length else 0)
    rw [weightTo_pair hd f hz]
    by_cases hl : loses p f = true
    · rw [if_pos hl, if_pos (loses_mono ho ⟨rfl, rfl, rfl⟩ rfl (fun _ _ => .inl rfl) (sub_or f (2 ^ d)) hl)]
      exact Nat.le_refl _
    · rw [if_neg hl]
      exact Nat.zero_le _
  · rw [given_loses, weight_def, given_len]
    show (if loses p f = true then weightTo (p.ch.set d 0) f p.ch.length else 0) = 0
    rw [weightTo_none hd f hz _ hd]
    split <;> rfl
/-- p with another chance of a domain. -/
def chanced (p : Pe) (d : Nat) (y : Int) : Pe := ⟨p.d, p.gs, p.gl, p.at', p.ch.set d y⟩
/-- p with other places. -/
def placed (p : Pe) (at' : List Int) : Pe := ⟨p.d, p.gs, p.gl, at', p.ch⟩
theorem chanced_check {p : Pe} (h : check p = 0) (d : Nat) {y : Int} (hy : 0 ≤ y ∧ y ≤ 16) : check (chanced p d y) = 0 := by
  have ho := ok_of h
  have hl : (chanced p d y).ch.length = p.ch.length := List.length_set
  refine Ok.check ⟨ho.code, by rw [hl]; exact ho.few, ho.len, fun x hx => by rw [hl]; exact ho.at_ok x hx, fun c hc => ?_⟩
  rcases List.mem_or_eq_of_mem_set hc with h1 | rfl
  · exact ho.ch_ok c h1
  · exact hy
theorem chance_mono {p : Pe} (h : check p = 0) {d : Nat} (hd : d < p.ch.length) {y : Int} (hy : p.ch[d] ≤ y ∧ y ≤ 16) : loss p ≤ loss (chanced p d y) := by
  have hc := (ok_of h).ch_ok _ (List.getElem_mem hd)
  have h1 := loss_cond (p := p) hd
  have hl : (chanced p d y).ch.length = p.ch.length := List.length_set
  have h2 := loss_cond (p := chanced p d y) (k := d) (by rw [hl]; exact hd)
  have e : ∀ b, given (chanced p d y) d b = given p d b := fun b => by
    show (⟨p.d, p.gs, p.gl, p.at', (p.ch.set d y).set d _⟩ : Pe) = _
    rw [List.set_set]
    rfl
  have e2 : (chanced p d y).ch[d]'(by rw [hl]; exact hd) = y := List.getElem_set_self _
  rw [e, e, e2] at h2
  have h3 := loss_given h hd
  obtain ⟨Y, hY⟩ : ∃ Y, loss (given p d true) = Y := ⟨_, rfl⟩
  obtain ⟨Z, hZ⟩ : ∃ Z, loss (given p d false) = Z := ⟨_, rfl⟩
  rw [hY, hZ] at h1 h2 h3
  obtain ⟨a, ha⟩ : ∃ a : Nat, p.ch[d] = a := ⟨p.ch[d].toNat, by omega⟩
  obtain ⟨b, rfl⟩ : ∃ b : Nat, y = b := ⟨y.toNat, by omega⟩
  rw [ha] at h1 hy
  rw [Int.toNat_natCast] at h1 h2
  obtain ⟨k, rfl⟩ : ∃ k, b = a + k := ⟨b - a, by omega⟩
  obtain ⟨m, hm⟩ : ∃ m, 16 = a + k + m := ⟨16 - (a + k), by omega⟩
  have e3 : 16 - a = k + m := by omega
  have e4 : 16 - (a + k) = m := by omega
  rw [e3, Nat.add_mul] at h1
  rw [e4, Nat.add_mul] at h2
  have h5 : k * Z ≤ k * Y := Nat.mul_le_mul_left _ h3
  omega
theorem place_mono {p : Pe} (h : check p = 0) {at' : List Int} (hl : at'.length = p.at'.length) (ha : ∀ i, i < p.at'.length → at'.getD i (-1) = p.at'.getD i (-1) ∨ at'.getD i (-1) = -1) : loss p ≤ loss (placed p at') := by
  have ho := ok_of h
  rw [loss_def, loss_def, lossTo_sum, lossTo_sum]
  refine sumTo_le fun f _ => ?_
  by_cases hf : loses p f = true
  · rw [if_pos hf, if_pos (loses_mono (q := placed p at') ho ⟨rfl, rfl, rfl⟩ hl ha (fun i h => h) hf)]
    exact Nat.le_refl _
  · rw [if_neg hf]
    exact Nat.zero_le _
theorem place_check {p : Pe} (h : check p = 0) (k : Nat) : check (placed p (p.at'.set k (-1))) = 0 := by
  have ho := ok_of h
  refine Ok.check ⟨ho.code, ho.few, by show ((p.at'.set k (-1)).length : Int) = _; rw [List.length_set]; exact ho.len, fun x hx => ?_, ho.ch_ok⟩
  rcases List.mem_or_eq_of_mem_set hx with h1 | rfl
  · exact ho.at_ok x h1
  · show -1 ≤ (-1 : Int) ∧ (-1 : Int) < (p.ch.length : Int)
    omega
theorem mill_bounds {L M : Nat} (hM : 0 < M) {m : Nat} (hm : m = L * 1000 / M * 1000 + (L * 1000 % M * 1000 + M - 1) / M) : L * 1000000 ≤ m * M ∧ (0 < m → (m - 1) * M < L * 1000000) := by
  have h1 := Nat.div_add_mod (L * 1000) M
  have hr := Nat.mod_lt (L * 1000) hM
  obtain ⟨q, hq⟩ : ∃ q, L * 1000 / M = q := ⟨_, rfl⟩
  obtain ⟨r, hr'⟩ : ∃ r, L * 1000 % M = r := ⟨_, rfl⟩
  rw [hq, hr'] at h1 hm
  rw [hr'] at hr
  have h2 := Nat.div_add_mod (r * 1000 + M - 1) M
  have h3 := Nat.mod_lt (r * 1000 + M - 1) hM
  obtain ⟨s, hs⟩ : ∃ s, (r * 1000 + M - 1) / M = s := ⟨_, rfl⟩
  obtain ⟨t, ht⟩ : ∃ t, (r * 1000 + M - 1) % M = t := ⟨_, rfl⟩
  rw [hs, ht] at h2
  rw [ht] at h3
  rw [hs] at hm
  subst hm
  obtain ⟨u, hu⟩ : ∃ u, M * q = u := ⟨_, rfl⟩
  obtain ⟨x, hx⟩ : ∃ x, M * s = x := ⟨_, rfl⟩
  have e1 : (q * 1000 + s) * M = u * 1000 + x := by
    rw [Nat.add_mul, Nat.mul_comm s M, hx, Nat.mul_right_comm, Nat.mul_comm q M, hu]
  rw [hu] at h1
  rw [hx] at h2
  constructor
  · rw [e1]; omega
  · intro hpos
    have e2 : (q * 1000 + s - 1) * M = u * 1000 + x - M := by rw [Nat.sub_mul, e1, Nat.one_mul]
    rw [e2]
    have : M ≤ u * 1000 + x := by rw [← e1]; exact Nat.le_mul_of_pos_left _ hpos
    omega
theorem mill_mono {p q : Pe} (hp : check p = 0) (hq : check q = 0) (hl : q.ch.length = p.ch.length) (h : loss p ≤ loss q) : mill p ≤ mill q := by
  have hM : 0 < (16 : Nat) ^ p.ch.length := Nat.pow_pos (by omega)
  have h1 := mill_bounds hM (mill_ok hp)
  have hq' := mill_ok hq
  rw [hl] at hq'
  have h2 := mill_bounds hM hq'
  obtain ⟨a, ha⟩ : ∃ a, mill p = a := ⟨_, rfl⟩
  obtain ⟨b, hb⟩ : ∃ b, mill q = b := ⟨_, rfl⟩
  rw [ha] at h1
  rw [hb] at h2
  rw [ha, hb]
  rcases Nat.lt_or_ge b a with h3 | h3
  · exfalso
    have h4 := h1.2 (by omega)
    have h5 : b * 16 ^ p.ch.length ≤ (a - 1) * 16 ^ p.ch.length := Nat.mul_le_mul_right _ (by omega)
    have h6 := h2.1
    omega
  · exact h3
end Rk
