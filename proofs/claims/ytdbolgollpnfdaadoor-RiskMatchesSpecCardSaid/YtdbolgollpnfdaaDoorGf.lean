/- THE FIELD OF 256 ELEMENTS, in plain numbers: products bit by bit, and what the program's and the specification's products come to. No program in sight. -/
import Derived.KernelRfl
namespace Gf

/-- What four high bits of a product are modulo the polynomial. -/
def hiL : List Nat := [0, 29, 58, 39, 116, 105, 78, 83, 232, 245, 210, 207, 156, 129, 166, 187]
def hi (k : Nat) : Nat := hiL.getD k 0
def red (x : Nat) : Nat := (x % 256) ^^^ hi (x / 256 % 16)
/-- The sum of the shifted bytes that the lowest k bits of n choose. -/
def tacc (a n : Nat) : Nat → Nat
  | 0 => 0
  | k + 1 => if n / 2 ^ k % 2 = 1 then tacc a n k ^^^ (a * 2 ^ k) else tacc a n k
def tms (a n : Nat) : Nat := red (tacc a n 4)
/-- The program's product. -/
def mulG (a b : Nat) : Nat := red (tms a (b / 16) * 16) ^^^ tms a (b % 16)

/-- A byte times x. -/
def xt (x : Nat) : Nat := (2 * x) ^^^ (285 * (x / 128))
def xtk : Nat → Nat → Nat
  | 0, x => x
  | n + 1, x => xtk n (xt x)
/-- The product that the laws are proved of: n bits of y. -/
def mulK : Nat → Nat → Nat → Nat
  | 0, _, _ => 0
  | n + 1, x, y => (y % 2 * x) ^^^ mulK n (xt x) (y / 2)
def mulN (a b : Nat) : Nat := mulK 8 a b

theorem all1_of {p : Nat → Bool} {n : Nat} (h : (List.range n).all p = true) {a : Nat} (ha : a < n) : p a = true := by
  rw [List.all_eq_true] at h
  exact h a (by simpa using ha)
theorem all2_of {p : Nat → Nat → Bool} {m n : Nat} (h : ((List.range m).all fun a => (List.range n).all fun b => p a b) = true) {a b : Nat} (ha : a < m) (hb : b < n) : p a b = true := by
  have h1 := all1_of (p := fun a => (List.range n).all fun b => p a b) h ha
  exact all1_of (p := fun b => p a b) h1 hb
theorem eq1_of {f g : Nat → Nat} {n : Nat} (h : ((List.range n).all fun a => Nat.beq (f a) (g a)) = true) {a : Nat} (ha : a < n) : f a = g a :=
  Nat.eq_of_beq_eq_true (all1_of (p := fun a => Nat.beq (f a) (g a)) h ha)
theorem eq2_of {f g : Nat → Nat → Nat} {m n : Nat} (h : ((List.range m).all fun a => (List.range n).all fun b => Nat.beq (f a b) (g a b)) = true) {a b : Nat} (ha : a < m) (hb : b < n) : f a b = g a b :=
  Nat.eq_of_beq_eq_true (all2_of (p := fun a b => Nat.beq (f a b) (g a b)) h ha hb)

theorem xor_lt {x y : Nat} (h : x < 256) (h' : y < 256) : x ^^^ y < 256 := Nat.xor_lt_two_pow (n := 8) h h'
theorem mul_pow_xor (x y k : Nat) : (x ^^^ y) * 2 ^ k = (x * 2 ^ k) ^^^ (y * 2 ^ k) := by
  rw [← Nat.shiftLeft_eq, ← Nat.shiftLeft_eq, ← Nat.shiftLeft_eq, Nat.shiftLeft_xor_distrib]
theorem bit_mul_xor {p q : Nat} (z : Nat) (hp : p < 2) (hq : q < 2) : z * (p ^^^ q) = (z * p) ^^^ (z * q) := by
  have h : (p = 0 ∨ p = 1) ∧ (q = 0 ∨ q = 1) := by omega
  rcases h with ⟨rfl | rfl, rfl | rfl⟩ <;> simp
theorem xor4 (a b c d : Nat) : (a ^^^ b) ^^^ (c ^^^ d) = (a ^^^ c) ^^^ (b ^^^ d) := by
  rw [Nat.xor_assoc, Nat.xor_assoc, ← Nat.xor_assoc b c d, Nat.xor_comm b c, Nat.xor_assoc c b d]

theorem xt_lt {x : Nat} (h : x < 256) : xt x < 256 := of_decide_eq_true (all1_of (p := fun x => decide (xt x < 256)) (n := 256) (by decide +kernel) h)
theorem xt_xor {x y : Nat} (h : x < 256) (h' : y < 256) : xt (x ^^^ y) = xt x ^^^ xt y := by
  unfold xt
  have e1 : 2 * (x ^^^ y) = (2 * x) ^^^ (2 * y) := by have := mul_pow_xor x y 1; simpa [Nat.mul_comm] using this
  have e2 : (x ^^^ y) / 128 = (x / 128) ^^^ (y / 128) := Nat.xor_div_two_pow (n := 7)
  rw [e1, e2, bit_mul_xor 285 (by omega) (by omega), xor4]

/-- f takes sums of bytes to sums. -/
def Lin (f : Nat → Nat) : Prop := ∀ x y, x < 256 → y < 256 → f (x ^^^ y) = f x ^^^ f y
theorem Lin.zero {f : Nat → Nat} (h : Lin f) : f 0 = 0 := by
  have := h 0 0 (by omega) (by omega)
  simpa using this
theorem top_bit {n x : Nat} (hn : n < 8) (hx : x < 256) (h1 : 2 ^ n ≤ x) (h2 : x < 2 ^ (n + 1)) : 2 ^ n ^^^ (x - 2 ^ n) = x := by
  have h : ((List.range 8).all fun n => (List.range 256).all fun x => !(Nat.ble (2 ^ n) x) || !(Nat.ble (x + 1) (2 ^ (n + 1))) || Nat.beq (2 ^ n ^^^ (x - 2 ^ n)) x) = true := by decide +kernel
  have h3 := all2_of (p := fun n x => !(Nat.ble (2 ^ n) x) || !(Nat.ble (x + 1) (2 ^ (n + 1))) || Nat.beq (2 ^ n ^^^ (x - 2 ^ n)) x) h hn hx
  simp only [Nat.ble_eq_true_of_le h1, Nat.ble_eq_true_of_le (show x + 1 ≤ 2 ^ (n + 1) from h2), Bool.not_true, Bool.false_or] at h3
  exact Nat.eq_of_beq_eq_true h3
theorem lin_ext {f g : Nat → Nat} (hf : Lin f) (hg : Lin g) (h : ∀ k, k < 8 → f (2 ^ k) = g (2 ^ k)) {x : Nat} (hx : x < 256) : f x = g x := by
  have key : ∀ n, n ≤ 8 → ∀ x, x < 2 ^ n → f x = g x := by
    intro n
    induction n with
    | zero => intro _ x hx; obtain rfl : x = 0 := by omega
              rw [hf.zero, hg.zero]
    | succ n ih =>
      intro hn x hx
      have hp : 2 ^ (n + 1) ≤ 2 ^ 8 := Nat.pow_le_pow_right (by omega) hn
      have hp' : 2 ^ (n + 1) = 2 * 2 ^ n := by rw [Nat.pow_succ]; omega
      by_cases hlt : x < 2 ^ n
      · exact ih (by omega) x hlt
      · have e := top_bit (n := n) (x := x) (by omega) (by omega) (by omega) hx
        rw [← e, hf _ _ (by omega) (by omega), hg _ _ (by omega) (by omega), h n (by omega), ih (by omega) _ (by omega)]
  exact key 8 (by omega) x (by simpa using hx)

theorem lin_xor {f g : Nat → Nat} (hf : Lin f) (hg : Lin g) : Lin fun x => f x ^^^ g x := fun x y hx hy => by
  show f (x ^^^ y) ^^^ g (x ^^^ y) = (f x ^^^ g x) ^^^ (f y ^^^ g y)
  rw [hf x y hx hy, hg x y hx hy, xor4]
theorem lin_comp {f g : Nat → Nat} (hf : Lin f) (hg : Lin g) (hb : ∀ x, x < 256 → g x < 256) : Lin fun x => f (g x) := fun x y hx hy => by
  show f (g (x ^^^ y)) = f (g x) ^^^ f (g y)
  rw [hg x y hx hy, hf _ _ (hb x hx) (hb y hy)]

theorem mulK_lt : ∀ n x y, x < 256 → mulK n x y < 256
  | 0, _, _, _ => by simp [mulK]
  | n + 1, x, y, h => by
    unfold mulK
    refine xor_lt ?_ (mulK_lt n _ _ (xt_lt h))
    have h2 : y % 2 = 0 ∨ y % 2 = 1 := by omega
    rcases h2 with e | e <;> rw [e] <;> omega
theorem mulN_lt {a b : Nat} (h : a < 256) : mulN a b < 256 := mulK_lt 8 a b h
theorem mulK_lin1 : ∀ n y, Lin fun x => mulK n x y
  | 0, _ => fun _ _ _ _ => by simp [mulK]
  | n + 1, y => by
    have h1 : Lin fun x => y % 2 * x := fun a b _ _ => by
      have h2 : y % 2 = 0 ∨ y % 2 = 1 := by omega
      rcases h2 with e | e <;> simp [e]
    exact lin_xor h1 (lin_comp (f := fun x => mulK n x (y / 2)) (g := xt) (mulK_lin1 n (y / 2)) (fun a b ha hb => xt_xor ha hb) fun x h => xt_lt h)
theorem mulK_xor2 (x : Nat) : ∀ n y z, mulK n x (y ^^^ z) = mulK n x y ^^^ mulK n x z := by
  intro n
  induction n generalizing x with
  | zero => intro y z; simp [mulK]
  | succ n ih =>
    intro y z
    have e1 : (y ^^^ z) % 2 = (y % 2) ^^^ (z % 2) := Nat.xor_mod_two_pow (n := 1)
    have e2 : (y ^^^ z) / 2 = (y / 2) ^^^ (z / 2) := Nat.xor_div_two_pow (n := 1)
    simp only [mulK]
    rw [e1, e2, ih, Nat.mul_comm _ x, bit_mul_xor x (by omega) (by omega), xor4, Nat.mul_comm x, Nat.mul_comm x]
theorem mulN_lin1 (b : Nat) : Lin fun a => mulN a b := mulK_lin1 8 b
theorem mulN_lin2 (a : Nat) : Lin fun b => mulN a b := fun x y _ _ => mulK_xor2 a 8 x y

theorem two_pow_lt {k : Nat} (h : k < 8) : 2 ^ k < 256 := by
  have : 2 ^ k ≤ 2 ^ 7 := Nat.pow_le_pow_right (by omega) (by omega)
  omega
theorem mulN_comm {a b : Nat} (h : a < 256) (h' : b < 256) : mulN a b = mulN b a := by
  refine lin_ext (f := fun a => mulN a b) (g := fun a => mulN b a) (mulN_lin1 b) (mulN_lin2 b) (fun j hj => ?_) h
  refine lin_ext (f := fun b => mulN (2 ^ j) b) (g := fun b => mulN b (2 ^ j)) (mulN_lin2 _) (mulN_lin1 _) (fun k hk => ?_) h'
  exact eq2_of (f := fun j k => mulN (2 ^ j) (2 ^ k)) (g := fun j k => mulN (2 ^ k) (2 ^ j)) (by decide +kernel) hj hk
theorem mulN_assoc {a b c : Nat} (h : a < 256) (h' : b < 256) (h'' : c < 256) : mulN (mulN a b) c = mulN a (mulN b c) := by
  refine lin_ext (f := fun a => mulN (mulN a b) c) (g := fun a => mulN a (mulN b c)) (lin_comp (mulN_lin1 c) (mulN_lin1 b) fun x hx => mulN_lt hx) (mulN_lin1 _) (fun i hi => ?_) h
  refine lin_ext (f := fun b => mulN (mulN (2 ^ i) b) c) (g := fun b => mulN (2 ^ i) (mulN b c)) (lin_comp (mulN_lin1 c) (mulN_lin2 _) fun x _ => mulN_lt (two_pow_lt hi)) (lin_comp (mulN_lin2 _) (mulN_lin1 c) fun x hx => mulN_lt hx) (fun j hj => ?_) h'
  refine lin_ext (f := fun c => mulN (mulN (2 ^ i) (2 ^ j)) c) (g := fun c => mulN (2 ^ i) (mulN (2 ^ j) c)) (mulN_lin2 _) (lin_comp (mulN_lin2 _) (mulN_lin2 _) fun x _ => mulN_lt (two_pow_lt hj)) (fun k hk => ?_) h''
  have := all2_of (p := fun i j => (List.range 8).all fun k => Nat.beq (mulN (mulN (2 ^ i) (2 ^ j)) (2 ^ k)) (mulN (2 ^ i) (mulN (2 ^ j) (2 ^ k)))) (m := 8) (n := 8) (by decide +kernel) hi hj
  exact Nat.eq_of_beq_eq_true (all1_of (p := fun k => Nat.beq (mulN (mulN (2 ^ i) (2 ^ j)) (2 ^ k)) (mulN (2 ^ i) (mulN (2 ^ j) (2 ^ k)))) this hk)

theorem hi_xor {p q : Nat} (hp : p < 16) (hq : q < 16) : hi (p ^^^ q) = hi p ^^^ hi q :=
  eq2_of (f := fun p q => hi (p ^^^ q)) (g := fun p q => hi p ^^^ hi q) (by decide +kernel) hp hq
theorem red_xor (x y : Nat) : red (x ^^^ y) = red x ^^^ red y := by
  unfold red
  have e1 : (x ^^^ y) % 256 = (x % 256) ^^^ (y % 256) := Nat.xor_mod_two_pow (n := 8)
  have e2 : (x ^^^ y) / 256 % 16 = (x / 256 % 16) ^^^ (y / 256 % 16) := by
    rw [show (x ^^^ y) / 256 = (x / 256) ^^^ (y / 256) from Nat.xor_div_two_pow (n := 8)]
    exact Nat.xor_mod_two_pow (n := 4)
  rw [e1, e2, hi_xor (by omega) (by omega), xor4]
theorem tacc_xor1 (n x y : Nat) : ∀ k, tacc (x ^^^ y) n k = tacc x n k ^^^ tacc y n k
  | 0 => by simp [tacc]
  | k + 1 => by
    unfold tacc
    split
    · rw [tacc_xor1 n x y k, mul_pow_xor, xor4]
    · exact tacc_xor1 n x y k
theorem mulG_lin1 (b : Nat) : Lin fun a => mulG a b := fun x y _ _ => by
  have e (n : Nat) : tms (x ^^^ y) n = tms x n ^^^ tms y n := by unfold tms; rw [tacc_xor1, red_xor]
  show mulG (x ^^^ y) b = mulG x b ^^^ mulG y b
  unfold mulG
  rw [e, e, show (16 : Nat) = 2 ^ 4 from rfl, mul_pow_xor, red_xor, xor4]
theorem mulG_eq {a b : Nat} (h : a < 256) (h' : b < 256) : mulG a b = mulN a b := by
  refine lin_ext (f := fun a => mulG a b) (g := fun a => mulN a b) (mulG_lin1 b) (mulN_lin1 b) (fun j hj => ?_) h
  exact eq2_of (f := fun j b => mulG (2 ^ j) b) (g := fun j b => mulN (2 ^ j) b) (by decide +kernel) hj h'

theorem tacc_lt (a n : Nat) (ha : a < 256) : ∀ k, tacc a n k < 2 ^ (8 + k)
  | 0 => by simp [tacc]
  | k + 1 => by
    have ih := tacc_lt a n ha k
    have h1 : a * 2 ^ k < 2 ^ (8 + (k + 1)) := by
      have : a * 2 ^ k < 256 * 2 ^ k := Nat.mul_lt_mul_of_pos_right ha (Nat.two_pow_pos k)
      have e : 2 ^ (8 + (k+1)) = 2 * (256 * 2 ^ k) := by rw [Nat.pow_add, Nat.pow_succ]; omega
      omega
    have h2 : tacc a n k < 2 ^ (8 + (k + 1)) := by
      have : 2 ^ (8 + (k + 1)) = 2 * 2 ^ (8 + k) := by rw [← Nat.add_assoc, Nat.pow_succ]; omega
      omega
    unfold tacc; split
    · exact Nat.xor_lt_two_pow h2 h1
    · exact h2
theorem hi_lt {k : Nat} (h : k < 16) : hi k < 256 := of_decide_eq_true (all1_of (p := fun k => decide (hi k < 256)) (n := 16) (by decide +kernel) h)
theorem red_lt (x : Nat) : red x < 256 := xor_lt (by omega) (hi_lt (by omega))
theorem tms_lt (a n : Nat) : tms a n < 256 := red_lt _

theorem mulN_zero1 (b : Nat) : mulN 0 b = 0 := (mulN_lin1 b).zero
theorem mulN_zero2 (a : Nat) : mulN a 0 = 0 := (mulN_lin2 a).zero
theorem mulN_one2 {a : Nat} (h : a < 256) : mulN a 1 = a := eq1_of (f := fun a => mulN a 1) (g := fun a => a) (n := 256) (by decide +kernel) h
theorem mulN_one1 {a : Nat} (h : a < 256) : mulN 1 a = a := by rw [mulN_comm (by omega) h, mulN_one2 h]

/-- a times itself, n times. -/
def powN (a : Nat) : Nat → Nat
  | 0 => 1
  | n + 1 => mulN (powN a n) a
theorem powN_lt {a : Nat} : ∀ n, powN a n < 256
  | 0 => by simp [powN]
  | n + 1 => mulN_lt (powN_lt n)
theorem powN_add {a : Nat} (h : a < 256) (m : Nat) : ∀ n, powN a (m + n) = mulN (powN a m) (powN a n)
  | 0 => by rw [Nat.add_zero, powN, mulN_one2 (powN_lt m)]
  | n + 1 => by rw [← Nat.add_assoc, powN, powN_add h m n, powN, mulN_assoc (powN_lt m) (powN_lt n) h]
theorem powN_two {a : Nat} (h : a < 256) : ∀ n, powN (mulN a a) n = powN a (2 * n)
  | 0 => rfl
  | n + 1 => by rw [powN, powN_two h n, show 2 * (n + 1) = 2 * n + 1 + 1 from by omega, powN, powN, mulN_assoc (powN_lt _) h h]
theorem powN_mul {a : Nat} (h : a < 256) (m : Nat) : ∀ n, powN (powN a m) n = powN a (m * n)
  | 0 => rfl
  | n + 1 => by rw [powN, powN_mul h m n, Nat.mul_succ, powN_add h]
theorem powN_one : ∀ n, powN 1 n = 1
  | 0 => rfl
  | n + 1 => by rw [powN, powN_one n]; decide +kernel
theorem powN_zero {n : Nat} (h : n ≠ 0) : powN 0 n = 0 := by
  cases n with
  | zero => exact absurd rfl h
  | succ n => exact mulN_zero2 _
/-- By squares. -/
def pow8 (a : Nat) (n : Nat) : Nat → Nat → Nat
  | 0, x => x
  | f + 1, x => pow8 (mulN a a) (n / 2) f (if n % 2 = 1 then mulN x a else x)
theorem pow8_eq : ∀ (f a n x : Nat), a < 256 → x < 256 → n < 2 ^ f → pow8 a n f x = mulN x (powN a n)
  | 0, a, n, x, _, hx, hn => by
    obtain rfl : n = 0 := by simpa using hn
    rw [pow8, powN, mulN_one2 hx]
  | f + 1, a, n, x, ha, hx, hn => by
    have hn2 : n / 2 < 2 ^ f := by rw [Nat.pow_succ] at hn; omega
    have e2 := powN_two ha (n / 2)
    rw [pow8]
    split
    · rename_i h1
      rw [pow8_eq f _ _ _ (mulN_lt ha) (mulN_lt hx) hn2, e2, mulN_assoc hx ha (powN_lt _), mulN_comm ha (powN_lt _), show mulN (powN a (2 * (n / 2))) a = powN a (2 * (n / 2) + 1) from rfl]
      rw [show 2 * (n / 2) + 1 = n from by omega]
    · rename_i h1
      rw [pow8_eq f _ _ _ (mulN_lt ha) hx hn2, e2, show 2 * (n / 2) = n from by omega]
theorem powN_eq8 {a n : Nat} (ha : a < 256) (hn : n < 256) : powN a n = pow8 a n 8 1 := by
  rw [pow8_eq 8 a n 1 ha (by omega) hn, mulN_one1 (powN_lt n)]
theorem powN_255 {a : Nat} (ha : a < 256) (h0 : a ≠ 0) : powN a 255 = 1 := by
  rw [powN_eq8 ha (by omega)]
  have h := all1_of (p := fun a => Nat.beq a 0 || Nat.beq (pow8 a 255 8 1) 1) (n := 256) (by decide +kernel) ha
  rw [Bool.or_eq_true] at h
  rcases h with h | h
  · exact absurd (Nat.eq_of_beq_eq_true h) h0
  · exact Nat.eq_of_beq_eq_true h
def invN (a : Nat) : Nat := powN a 254
theorem invN_lt (a : Nat) : invN a < 256 := powN_lt _
theorem mul_invN {a : Nat} (ha : a < 256) (h0 : a ≠ 0) : mulN a (invN a) = 1 := by
  rw [mulN_comm ha (invN_lt a)]; exact powN_255 ha h0
theorem mulN_eq_zero {a b : Nat} (ha : a < 256) (hb : b < 256) : mulN a b = 0 ↔ a = 0 ∨ b = 0 := by
  constructor
  · intro h
    by_cases h0 : a = 0
    · exact .inl h0
    · right
      have e : mulN (invN a) (mulN a b) = b := by rw [← mulN_assoc (invN_lt a) ha hb, mulN_comm (invN_lt a) ha, mul_invN ha h0, mulN_one1 hb]
      rw [← e, h, mulN_zero2]
  · rintro (rfl | rfl)
    · exact mulN_zero1 b
    · exact mulN_zero2 a
theorem powN_mod {a : Nat} (ha : a < 256) (h0 : a ≠ 0) (n : Nat) : powN a n = powN a (n % 255) := by
  have e : n = 255 * (n / 255) + n % 255 := by omega
  rw [e, powN_add ha, ← powN_mul ha, powN_255 ha h0, powN_one, mulN_one1 (powN_lt _)]
  congr 1; omega
theorem powN_ne_zero {a : Nat} (ha : a < 256) (h0 : a ≠ 0) : ∀ n, powN a n ≠ 0
  | 0 => by simp [powN]
  | n + 1 => by
    intro h
    rcases (mulN_eq_zero (powN_lt n) ha).1 h with h | h
    · exact powN_ne_zero ha h0 n h
    · exact h0 h
/-- The order of 2 is 255. -/
theorem powN_ord {i : Nat} (h : i < 255) (h0 : i ≠ 0) : powN 2 i ≠ 1 := by
  rw [powN_eq8 (by omega) (by omega)]
  have h' := all1_of (p := fun i => Nat.beq i 0 || !(Nat.beq (pow8 2 i 8 1) 1)) (n := 255) (by decide +kernel) h
  rw [Bool.or_eq_true] at h'
  rcases h' with h' | h'
  · exact absurd (Nat.eq_of_beq_eq_true h') h0
  · intro e; rw [e] at h'; simp at h'
theorem powN_inj_le {i j : Nat} (hij : i ≤ j) (hj : j < 255) (h : powN 2 i = powN 2 j) : i = j := by
  by_cases h0 : j - i = 0
  · omega
  · exfalso
    have e : powN 2 j = mulN (powN 2 (j - i)) (powN 2 i) := by rw [← powN_add (by omega), show j - i + i = j from by omega]
    have hne := powN_ne_zero (a := 2) (by omega) (by omega) i
    have e2 : mulN (powN 2 i) (invN (powN 2 i)) = 1 := mul_invN (powN_lt i) hne
    have e3 : mulN (powN 2 j) (invN (powN 2 i)) = powN 2 (j - i) := by rw [e, mulN_assoc (powN_lt _) (powN_lt _) (invN_lt _), e2, mulN_one2 (powN_lt _)]
    rw [← h, e2] at e3
    exact powN_ord (by omega) h0 e3.symm
theorem powN_inj {i j : Nat} (hi : i < 255) (hj : j < 255) (h : powN 2 i = powN 2 j) : i = j := by
  rcases Nat.le_total i j with h1 | h1
  · exact powN_inj_le h1 hj h
  · exact (powN_inj_le h1 hi h.symm).symm
/-- The place of a among the powers of 2, counted from x. -/
def logF (a : Nat) : Nat → Nat → Nat → Nat
  | 0, _, k => k
  | f + 1, x, k => if Nat.beq x a then k else logF a f (xt x) (k + 1)
def logN (a : Nat) : Nat := logF a 255 1 0
theorem logN_ok {a : Nat} (ha : a < 256) (h0 : a ≠ 0) : logN a < 255 ∧ powN 2 (logN a) = a := by
  have h := all1_of (p := fun a => Nat.beq a 0 || (Nat.ble (logN a + 1) 255 && Nat.beq (pow8 2 (logN a) 8 1) a)) (n := 256) (by decide +kernel) ha
  rw [Bool.or_eq_true, Bool.and_eq_true] at h
  rcases h with h | ⟨h, h'⟩
  · exact absurd (Nat.eq_of_beq_eq_true h) h0
  · have h1 : logN a < 255 := Nat.le_of_ble_eq_true h
    exact ⟨h1, by rw [powN_eq8 (by omega) (by omega)]; exact Nat.eq_of_beq_eq_true h'⟩
/-- The same over the walk's numbers. -/
def mulI (a b : Int) : Int := (mulN a.toNat b.toNat : Nat)
theorem mulI_lo (a b : Int) : 0 ≤ mulI a b := by unfold mulI; omega
theorem mulI_hi {a b : Int} (h : a < 256) : mulI a b < 256 := by
  unfold mulI
  have := mulN_lt (a := a.toNat) (b := b.toNat) (by omega)
  omega
theorem mulI_nat (a b : Nat) : mulI a b = (mulN a b : Nat) := rfl
/-- The code of Inv's and Log's error. -/
def noneI (a : Int) : Int := if a = 0 then 1 else 0
/-- Pow's result. -/
def powI (a n : Int) : Int := if a = 0 ∧ n ≠ 0 then 0 else (powN a.toNat (n % 255).toNat : Nat)
theorem powI_lo (a n : Int) : 0 ≤ powI a n := by unfold powI; split <;> omega
theorem powI_hi (a n : Int) : powI a n < 256 := by
  unfold powI
  have := powN_lt (a := a.toNat) (n % 255).toNat
  split <;> omega
/-- Log's first result. -/
def logI (a : Int) : Int := if a = 0 then 0 else (logN a.toNat : Nat)
theorem red_def (x : Nat) : red x = (x % 256) ^^^ hi (x / 256 % 16) := rfl
theorem tms_def (a n : Nat) : tms a n = red (tacc a n 4) := rfl
theorem mulN_def (a b : Nat) : mulN a b = mulK 8 a b := rfl
theorem powN_nil (a : Nat) : powN a 0 = 1 := rfl
theorem powN_succ (a k : Nat) : powN a (k + 1) = mulN (powN a k) a := rfl
theorem powN_step (a k : Nat) : mulI (powN a k : Nat) (a : Nat) = (powN a (k + 1) : Nat) := rfl
theorem powN_step2 (k : Nat) : mulI (powN 2 k : Nat) 2 = (powN 2 (k + 1) : Nat) := rfl
theorem invN_def (a : Nat) : invN a = powN a 254 := rfl
theorem mulI_def (a b : Int) : mulI a b = (mulN a.toNat b.toNat : Nat) := rfl
theorem logI_zero : logI 0 = 0 := rfl
theorem logI_nat {a : Nat} (h : a ≠ 0) : logI (a : Int) = (logN a : Nat) := if_neg (by omega)
theorem noneI_zero : noneI 0 = 1 := rfl
theorem noneI_nat {a : Int} (h : a ≠ 0) : noneI a = 0 := if_neg h
theorem powI_zero {n : Int} (h : n ≠ 0) : powI 0 n = 0 := if_pos ⟨rfl, h⟩
theorem powI_nil : powI 0 0 = 1 := rfl
theorem powI_nat {a : Int} (n : Int) (h : a ≠ 0) : powI a n = (powN a.toNat (n % 255).toNat : Nat) := if_neg fun e => h e.1
/- A walk must not look into these. -/
attribute [irreducible] mulN mulI powN invN logN logI noneI powI red tms hi
end Gf
