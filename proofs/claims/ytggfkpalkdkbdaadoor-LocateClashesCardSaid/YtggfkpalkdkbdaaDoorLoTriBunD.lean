/- What the program's functions do, step by step: part D of the texts for this claim; no condition beyond what each theorem states. -/
import Derived.RangeFuncBound
import Derived.RangeFuncCalls
import Derived.RangeFuncLeaves
import Derived.Shelf.Abstract
import Derived.Shelf.RegionOpen
import Derived.Lib.AppendStr
import Derived.Deep.Cut
import Derived.Deep.DeepCutAuto
import Derived.Test.YtggfkpalkdkbdaaDoorLoTriBunA
import Derived.Test.YtggfkpalkdkbdaaDoorLoTriBunB
import Derived.Test.YtggfkpalkdkbdaaDoorLoTriBunC
/- WHAT THE LAWS OF LOCATE SAY, in plain terms. No program in sight. -/
namespace Lo
open Gf Cd
variable {d gl : Int} {gs : List (List Int)} {n m : Nat} {pieces : List (List UInt8)}
theorem sm_mulr (f : Nat → UInt8) (e : UInt8) (k : Nat) : mul (sm k f) e = sm k fun j => mul (f j) e := by
  rw [mul_comm, sm_mul]
  exact sm_congr fun j _ => mul_comm _ _
/-- What is 0 on the rows of a recoverable set is 0. -/
theorem can_zero {t : Nat} (hc : can d gl gs (t : Int) = true) {E : Nat → UInt8} (hE : ∀ k, k < (rowsOf d gs gl).length → bitAt t k = 1 → sm d.toNat (fun j => mul (((rowsOf d gs gl).getD k []).getD j 0) (E j)) = 0) {i : Nat} (hi : i < d.toNat) : E i = 0 := by
  obtain ⟨h0, _, h3⟩ := can_def.1 hc
  have hw : ∀ r ∈ pick (rowsOf d gs gl) t, r.length = d.toNat := fun r hr => rowsOf_width h0 (pickTo_mem hr)
  obtain ⟨c, hcc⟩ := (stairs_iff hw).mp h3 (unit i)
  have hz : ∀ r ∈ pick (rowsOf d gs gl) t, sm d.toNat (fun j => mul (r.getD j 0) (E j)) = 0 := fun r hr => by
    unfold pick pickTo at hr
    obtain ⟨k, hk, h2⟩ := List.mem_filterMap.mp hr
    split at h2
    · next h3 =>
      have e : (rowsOf d gs gl).getD k [] = r := by rw [List.getD_eq_getElem?_getD, h2]; rfl
      rw [← e]
      exact hE k (List.mem_range.mp hk) h3
    · cases h2
  obtain ⟨L, hL⟩ : ∃ L, pick (rowsOf d gs gl) t = L := ⟨_, rfl⟩
  rw [hL] at hcc hz
  have e1 : E i = sm d.toNat fun j => mul (unit i j) (E j) := by
    rw [sm_one (p := i) _ hi fun j _ hj => by rw [unit, if_neg hj, zero_mul], unit, if_pos rfl, one_mul]
  rw [e1]
  have e2 : sm d.toNat (fun j => mul (unit i j) (E j)) = sm d.toNat fun j => sm L.length fun k => mul (c k) (mul ((L.getD k []).getD j 0) (E j)) :=
    sm_congr fun j hj => by
      rw [hcc j hj, sm_mulr]
      exact sm_congr fun k _ => mul_assoc _ _ _
  rw [e2, sm_swap]
  refine sm_zero fun k hk => ?_
  rw [← sm_mul, hz _ (getD_mem hk), mul_zero]
theorem can_one {t L : Nat} (hc : can d gl gs (t : Int) = true) {D D' : Nat → Nat → UInt8} (h1 : ∀ k, k < (rowsOf d gs gl).length → bitAt t k = 1 → Fits d.toNat L D ((rowsOf d gs gl).getD k []) (pieces.getD k []))
    (h2 : ∀ k, k < (rowsOf d gs gl).length → bitAt t k = 1 → Fits d.toNat L D' ((rowsOf d gs gl).getD k []) (pieces.getD k [])) {i x : Nat} (hi : i < d.toNat) (hx : x < L) : D i x = D' i x := by
  have h := can_zero (E := fun i => D i x ^^^ D' i x) hc (fun k hk hb => by
    have e : sm d.toNat (fun j => mul (((rowsOf d gs gl).getD k []).getD j 0) (D j x ^^^ D' j x)) = sm d.toNat (fun j => mul (((rowsOf d gs gl).getD k []).getD j 0) (D j x) ^^^ mul (((rowsOf d gs gl).getD k []).getD j 0) (D' j x)) := sm_congr fun j _ => mul_xor _ _ _
    rw [e, sm_add, ← (h1 k hk hb).2 x hx, ← (h2 k hk hb).2 x hx, UInt8.xor_self]) hi
  exact xor_eq_zero.mp h
/-- Data fit a row in one way. -/
theorem fits_one {L : Nat} {D D' : Nat → Nat → UInt8} {r p q : List UInt8} (h1 : Fits d.toNat L D r p) (h2 : Fits d.toNat L D' r q) (h : ∀ i x, i < d.toNat → x < L → D i x = D' i x) : p = q := by
  refine ext_len (h1.1.trans h2.1.symm) fun x hx => ?_
  have hxl : x < L := by rw [h1.1] at hx; exact hx
  rw [h1.2 x hxl, h2.2 x hxl]
  exact sm_congr fun i hi => by rw [h i x hi hxl]
/-- Pieces of a chunk of which some were replaced. -/
structure Spoilt (d gl : Int) (gs : List (List Int)) (data : List UInt8) (m : Nat) (pieces : List (List UInt8)) (c : Nat) : Prop where
  ok : check d gs gl = 0
  few : data.length ≤ 4096
  lt : m < 2 ^ (rowsOf d gs gl).length
  len : pieces.length = (rowsOf d gs gl).length
  size : ∀ k, k < (rowsOf d gs gl).length → (pieces.getD k []).length = sizeN d.toNat data.length
  bit : ∀ k, k < (rowsOf d gs gl).length → (bitAt c k = 1 ↔ bitAt m k = 1 ∧ pieces.getD k [] ≠ (encode d gl gs data).getD k [])
  sub : Sub c m
section
variable {data : List UInt8} {c : Nat}
theorem Spoilt.own (h : Spoilt d gl gs data m pieces c) {k : Nat} (hk : k < (rowsOf d gs gl).length) (hm : bitAt m k = 1) (hc : bitAt c k ≠ 1) : pieces.getD k [] = (encode d gl gs data).getD k [] := by
  by_cases e : pieces.getD k [] = (encode d gl gs data).getD k []
  · exact e
  · exact absurd ((h.bit k hk).mpr ⟨hm, e⟩) hc
theorem Spoilt.fits (h : Spoilt d gl gs data m pieces c) {k : Nat} (hk : k < (rowsOf d gs gl).length) (hm : bitAt m k = 1) (hc : bitAt c k ≠ 1) : Fits d.toNat (sizeN d.toNat data.length) (dataAt d.toNat data) ((rowsOf d gs gl).getD k []) (pieces.getD k []) := by
  rw [h.own hk hm hc]
  exact encode_fits h.ok data hk
/-- Wrong pieces that can be noticed do not fit. -/
theorem Spoilt.notice (h : Spoilt d gl gs data m pieces c) (hc : c ≠ 0) (hcan : can d gl gs ((m - c : Nat) : Int) = true) : ¬ FitsSet d gl gs (sizeN d.toNat data.length) pieces m := by
  rintro ⟨D, hD⟩
  have hcl : c < 2 ^ (rowsOf d gs gl).length := Nat.lt_of_le_of_lt (sub_le h.sub) h.lt
  have hex : ∃ k, bitAt c k = 1 := by
    by_cases he : ∃ k, bitAt c k = 1
    · exact he
    · exfalso
      refine hc (bits_eq _ c 0 hcl (Nat.pow_pos (by decide)) fun i => ?_)
      rcases bit_two c i with h1 | h1
      · rw [h1]; simp [bitAt]
      · exact absurd ⟨i, h1⟩ he
  obtain ⟨k, hk⟩ := hex
  have hkl := bit_in hcl hk
  have hone : ∀ i x, i < d.toNat → x < sizeN d.toNat data.length → D i x = dataAt d.toNat data i x := fun i x hi hx =>
    can_one hcan (fun j hj hb => hD j hj (minus_sub h.sub j hb)) (fun j hj hb => h.fits hj (minus_sub h.sub j hb) fun e => by rw [minus_bit h.sub] at hb; have := bit_two m j; omega) hi hx
  exact ((h.bit k hkl).mp hk).2 (fits_one (hD k hkl (h.sub k hk)) (encode_fits h.ok data hkl) hone)
theorem Spoilt.corrupt (h : Spoilt d gl gs data m pieces c) (hc : c ≠ 0) (hcan : can d gl gs ((m - c : Nat) : Int) = true) (hm : can d gl gs (m : Int) = true) : decE d gl gs (data.length : Int) (m : Int) pieces = 14 := by
  have h1 := badArgs_not h.few h.lt h.len
  have h2 : badLen (sizeN d.toNat data.length) m pieces = false := badLen_not fun k hk _ => h.size k (by rw [← h.len]; exact hk)
  cases h4 : badOne m (encode d gl gs (chunkOf d gl gs data.length m pieces)) pieces with
  | true => exact decE_bad h.ok h1 (by rw [Int.toNat_natCast, Int.toNat_natCast]; exact h2) hm (by rw [Int.toNat_natCast, Int.toNat_natCast]; exact h4)
  | false =>
    exfalso
    have hlen : (chunkOf d gl gs data.length m pieces).length = data.length := chunk_len h.ok hm fun k hk _ => h.size k hk
    refine h.notice hc hcan ⟨dataAt d.toNat (chunkOf d gl gs data.length m pieces), fun k hk hb => ?_⟩
    have e : (encode d gl gs (chunkOf d gl gs data.length m pieces)).getD k [] = pieces.getD k [] := by
      by_cases e : (encode d gl gs (chunkOf d gl gs data.length m pieces)).getD k [] = pieces.getD k []
      · exact e
      · have := badOne_iff.mpr ⟨k, by rw [h.len]; exact hk, hb, e⟩
        rw [h4] at this; cases this
    have := encode_fits h.ok (chunkOf d gl gs data.length m pieces) hk
    rw [hlen, e] at this
    exact this
/-- Few wrong pieces are found. -/
theorem Spoilt.locate (h : Spoilt d gl gs data m pieces c) (hN : (rowsOf d gs gl).length ≤ 16) {w : Nat} (hw : num c ≤ w) (hc : Suff (fun t => can d gl gs (t : Int)) m (2 * w)) :
    locP (decO d gl gs data.length pieces) m (rowsOf d gs gl).length w = some (data, c) := by
  have hd := decodes h.ok h.lt h.len h.few fun k hk _ => h.size k (by rw [← h.len]; exact hk)
  have hdec : decO d gl gs data.length pieces (m - c) = some data := by
    have h1 := dec_enc h.ok (m := m - c) (hc c h.sub (by omega)) (pieces := pieces) (data := data) h.few h.len fun k hk hb => h.own hk (minus_sub h.sub k hb) fun e => by rw [minus_bit h.sub] at hb; have := bit_two m k; omega
    unfold decO
    rw [if_pos h1.1, h1.2]
  cases hp : locP (decO d gl gs data.length pieces) m (rowsOf d gs gl).length w with
  | none =>
    unfold locP at hp
    rw [findSome_none] at hp
    have := hp c ((mem_parts h.lt).mpr ⟨h.sub, by rw [num_is (Nat.lt_of_le_of_lt (sub_le h.sub) h.lt) hN]; exact hw⟩)
    rw [hdec] at this; cases this
  | some p =>
    obtain ⟨s, t⟩ := p
    obtain ⟨a1, a2, a3, a4⟩ := locP_some h.lt hN hd hc hp
    have hs := dec_one hd hc a1 h.sub a2 hw a3 hdec
    subst hs
    have ht : t = c := by
      rw [a4]
      refine bits_eq (rowsOf d gs gl).length _ _ (Nat.lt_of_le_of_lt (sub_le (differ_sub h.lt _)) h.lt) (Nat.lt_of_le_of_lt (sub_le h.sub) h.lt) fun i => ?_
      have h1 := differ_bit (ok := okO d gl gs s.length pieces) h.lt s i
      have h2 : bitAt (differ (okO d gl gs s.length pieces) m (rowsOf d gs gl).length s) i = 1 ↔ bitAt c i = 1 := by
        rw [h1]
        rcases Nat.lt_or_ge i (rowsOf d gs gl).length with hi | hi
        · rw [h.bit i hi]
          unfold okO
          rw [decide_eq_true rfl, Bool.true_and, beq_eq_false_iff_ne]
          exact and_congr_right fun _ => ⟨fun e f => e f.symm, fun e f => e f.symm⟩
        · rw [bit_above h.lt hi, bit_above (Nat.lt_of_le_of_lt (sub_le h.sub) h.lt) hi]
          simp
      rcases bit_two (differ (okO d gl gs s.length pieces) m (rowsOf d gs gl).length s) i with e | e
      · rcases bit_two c i with f | f
        · rw [e, f]
        · rw [h2.mpr f] at e; cases e
      · rw [e, h2.mp e]
    rw [ht]
end
section
variable {L : Nat}
/-- Does a set not fit? -/
def badSet (d gl : Int) (gs : List (List Int)) (pieces : List (List UInt8)) (t : Nat) : Bool := !agree (some_ (rowsOf d gs gl) pieces t)
theorem badSet_iff (h : check d gs gl = 0) {t : Nat} (hsz : ∀ k, k < (rowsOf d gs gl).length → bitAt t k = 1 → (pieces.getD k []).length = L) : badSet d gl gs pieces t = false ↔ FitsSet d gl gs L pieces t := by
  unfold badSet
  rw [Bool.not_eq_false', agree_set h hsz]
theorem fits_none : FitsSet d gl gs L pieces 0 := ⟨fun _ _ => 0, fun k _ hb => by simp [bitAt] at hb⟩
/-- A least set that does not fit: each smaller part of it fits. -/
theorem least_less (h : check d gs gl = 0) (hsz : ∀ k, k < (rowsOf d gs gl).length → bitAt m k = 1 → (pieces.getD k []).length = L) {x z : Nat} (hx : Least (badSet d gl gs pieces) m x) (hz : Sub z x) (hn : num z < num x) : FitsSet d gl gs L pieces z := by
  by_cases h0 : z = 0
  · subst h0; exact fits_none
  · have hzm : Sub z m := fun i hi => hx.2.1 i (hz i hi)
    refine (badSet_iff h fun k hk hb => hsz k hk (hzm k hb)).mp ?_
    cases hb : badSet d gl gs pieces z with
    | false => rfl
    | true =>
      rcases hx.2.2.2 z h0 hzm hb with e | e | ⟨e, _⟩
      · rw [e] at hn; omega
      · omega
      · omega
theorem num_minus {x k : Nat} (hx : x < 2 ^ 16) (hk : bitAt x k = 1) : Sub (2 ^ k) x ∧ bitAt (x - 2 ^ k) k = 0 ∧ num (x - 2 ^ k) < num x := by
  have hs : Sub (2 ^ k) x := fun i hi => by
    have hik : i = k := by
      by_cases e : i = k
      · exact e
      · exfalso
        unfold bitAt at hi
        rcases Nat.lt_or_gt_of_ne e with e | e
        · obtain ⟨j, rfl⟩ : ∃ j, k = i + (j + 1) := ⟨k - i - 1, by omega⟩
          rw [Nat.pow_add, Nat.mul_div_cancel_left _ (Nat.pow_pos (by decide)), Nat.pow_succ, Nat.mul_mod_left] at hi
          cases hi
        · rw [Nat.div_eq_of_lt (Nat.pow_lt_pow_right (by decide) e)] at hi
          cases hi
    rw [hik]; exact hk
  have h2 : bitAt (2 ^ k) k = 1 := by
    unfold bitAt
    rw [Nat.div_self (Nat.pow_pos (by decide))]
  have h3 : bitAt (x - 2 ^ k) k = 0 := by rw [minus_bit hs, hk, h2]
  refine ⟨hs, h3, ?_⟩
  have h4 := num_sub (minus_sub hs)
  rcases Nat.lt_or_ge (num (x - 2 ^ k)) (num x) with h5 | h5
  · exact h5
  · have h6 := num_eq hx (minus_sub hs) h5
    rw [h6, hk] at h3; cases h3
/-- A least set that does not fit has at most one piece more than there are data pieces. -/
theorem least_small (h : check d gs gl = 0) (hm : m < 2 ^ 16) (hml : m < 2 ^ (rowsOf d gs gl).length) (hsz : ∀ k, k < (rowsOf d gs gl).length → bitAt m k = 1 → (pieces.getD k []).length = L) {x : Nat} (hx : Least (badSet d gl gs pieces) m x) : num x ≤ d.toNat + 1 := by
  refine Nat.le_of_not_lt fun hbig => ?_
  have hxm := hx.2.1
  have hx16 : x < 2 ^ 16 := Nat.lt_of_le_of_lt (sub_le hxm) hm
  have hxl : x < 2 ^ (rowsOf d gs gl).length := Nat.lt_of_le_of_lt (sub_le hxm) hml
  have hnb : badSet d gl gs pieces x = true := hx.2.2.1
  obtain ⟨l, hl⟩ : ∃ l, els x 16 0 = l := ⟨_, rfl⟩
  have hll : l.length = num x := by rw [← hl]; rfl
  have hmem : ∀ k, k ∈ l ↔ bitAt x k = 1 := fun k => by
    rw [← hl, mem_els]
    exact ⟨fun h => h.2.2, fun h => ⟨Nat.zero_le _, bit_in hx16 h, h⟩⟩
  have hpw : l.Pairwise (· < ·) := by rw [← hl]; exact els_up x 16 0
  have hnd : ∀ (i j : Nat) (hi : i < l.length) (hj : j < l.length), l[i] = l[j] → i = j := fun i j hi hj e => by
    rcases Nat.lt_trichotomy i j with h1 | h1 | h1
    · have := List.pairwise_iff_getElem.mp hpw i j hi hj h1; omega
    · exact h1
    · have := List.pairwise_iff_getElem.mp hpw j i hj hi h1; omega
  have hat : ∀ j, j < l.length → l.getD j 0 ∈ l := fun j hj => getD_mem hj
  obtain ⟨c, ⟨j0, hj0, hc0⟩, hdep⟩ := depend d.toNat (d.toNat + 1) (fun j i => ((rowsOf d gs gl).getD (l.getD j 0) []).getD i 0) (Nat.lt_succ_self _)
  -- the first d + 1 elements fit
  obtain ⟨S, hS⟩ : ∃ S, toSet (l.take (d.toNat + 1)) = S := ⟨_, rfl⟩
  have hup : (l.take (d.toNat + 1)).Pairwise (· < ·) := by rw [← hl]; exact (els_up x 16 0).sublist (List.take_sublist _ _)
  have hSb : ∀ k, bitAt S k = 1 ↔ k ∈ l.take (d.toNat + 1) := fun k => by
    rw [← hS]
    exact els_of _ 16 0 hup (fun z hz => by
      have := List.mem_of_mem_take hz
      rw [← hl, mem_els] at this
      exact ⟨Nat.zero_le _, this.2.1⟩) k (Nat.zero_le _)
  have hSx : Sub S x := fun i hi => (hmem i).mp (List.mem_of_mem_take ((hSb i).mp hi))
  have hSn : num S ≤ d.toNat + 1 := by
    unfold num
    have he : els S 16 0 = l.take (d.toNat + 1) := by
      refine List.Perm.eq_of_pairwise (fun a b _ _ h1 h2 => absurd h1 (by omega)) (els_up _ _ _) hup ?_
      refine (List.perm_ext_iff_of_nodup ((els_up _ _ _).imp fun h => by omega) (hup.imp fun h => by omega)).mpr fun k => ?_
      rw [mem_els]
      constructor
      · exact fun h => (hSb k).mp h.2.2
      · exact fun h => ⟨Nat.zero_le _, bit_in hx16 (hSx k ((hSb k).mpr h)), (hSb k).mpr h⟩
    rw [he, List.length_take]
    omega
  obtain ⟨D1, hD1⟩ := least_less h hsz hx hSx (by omega)
  obtain ⟨k0, hk0⟩ : ∃ k0, l.getD j0 0 = k0 := ⟨_, rfl⟩
  have hk0x : bitAt x k0 = 1 := (hmem k0).mp (by rw [← hk0]; exact hat j0 (by omega))
  obtain ⟨m1, m2, m3⟩ := num_minus hx16 hk0x
  obtain ⟨D, hD⟩ := least_less h hsz hx (minus_sub m1) m3
  have hkl := bit_in hxl hk0x
  have hinS : ∀ j, j < d.toNat + 1 → bitAt S (l.getD j 0) = 1 := fun j hj => by
    rw [hSb, List.getD_eq_getElem?_getD, List.getElem?_eq_getElem (by omega)]
    exact List.mem_take_iff_getElem.mpr ⟨j, by omega, rfl⟩
  have hrow : ∀ j, j < d.toNat + 1 → l.getD j 0 < (rowsOf d gs gl).length := fun j hj => bit_in hxl (hSx _ (hinS j hj))
  -- the bytes of the first d + 1 depend as the rows do
  have hbytes : ∀ y, y < L → sm (d.toNat + 1) (fun j => mul (c j) ((pieces.getD (l.getD j 0) []).getD y 0)) = 0 := fun y hy => by
    have e : sm (d.toNat + 1) (fun j => mul (c j) ((pieces.getD (l.getD j 0) []).getD y 0)) = sm (d.toNat + 1) fun j => sm d.toNat fun i => mul (mul (c j) (((rowsOf d gs gl).getD (l.getD j 0) []).getD i 0)) (D1 i y) := sm_congr fun j hj => by
      rw [(hD1 _ (hrow j hj) (hinS j hj)).2 y hy, sm_mul]
      exact sm_congr fun i _ => (mul_assoc _ _ _).symm
    rw [e, sm_swap]
    refine sm_zero fun i hi => ?_
    rw [← sm_mulr, hdep i hi, zero_mul]
  have hrows : ∀ y, sm (d.toNat + 1) (fun j => mul (c j) (sm d.toNat fun i => mul (((rowsOf d gs gl).getD (l.getD j 0) []).getD i 0) (D i y))) = 0 := fun y => by
    have e : sm (d.toNat + 1) (fun j => mul (c j) (sm d.toNat fun i => mul (((rowsOf d gs gl).getD (l.getD j 0) []).getD i 0) (D i y))) = sm (d.toNat + 1) fun j => sm d.toNat fun i => mul (mul (c j) (((rowsOf d gs gl).getD (l.getD j 0) []).getD i 0)) (D i y) := sm_congr fun j _ => by
      rw [sm_mul]
      exact sm_congr fun i _ => (mul_assoc _ _ _).symm
    rw [e, sm_swap]
    refine sm_zero fun i hi => ?_
    rw [← sm_mulr, hdep i hi, zero_mul]
  have hfit0 : Fits d.toNat L D ((rowsOf d gs gl).getD k0 []) (pieces.getD k0 []) := by
    refine ⟨hsz k0 hkl (hxm k0 hk0x), fun y hy => ?_⟩
    have hsum : sm (d.toNat + 1) (fun j => mul (c j) ((pieces.getD (l.getD j 0) []).getD y 0) ^^^ mul (c j) (sm d.toNat fun i => mul (((rowsOf d gs gl).getD (l.getD j 0) []).getD i 0) (D i y))) = 0 := by
      rw [sm_add, hbytes y hy, hrows y, UInt8.xor_self]
    rw [sm_one (p := j0) _ hj0 fun j hj hne => by
      have hjk : l.getD j 0 ≠ k0 := fun e => by
        rw [← hk0, List.getD_eq_getElem?_getD, List.getElem?_eq_getElem (show j < l.length by omega), List.getD_eq_getElem?_getD, List.getElem?_eq_getElem (show j0 < l.length by omega)] at e
        exact hne (hnd j j0 _ _ e)
      have hb : bitAt (x - 2 ^ k0) (l.getD j 0) = 1 := by
        rw [minus_bit m1, (hmem _).mp (hat j (by omega))]
        rcases bit_two (2 ^ k0) (l.getD j 0) with e | e
        · rw [e]
        · exfalso
          refine hjk ?_
          have h7 := num_minus (x := 2 ^ k0) (k := l.getD j 0) (Nat.lt_of_le_of_lt (sub_le m1) hx16) e
          have h8 := sub_le h7.1
          have h9 : 2 ^ k0 < 2 ^ (l.getD j 0 + 1) := by
            rcases Nat.lt_or_ge (2 ^ k0) (2 ^ (l.getD j 0 + 1)) with e2 | e2
            · exact e2
            · exfalso
              obtain ⟨q, hq⟩ : ∃ q, k0 = l.getD j 0 + (q + 1) := ⟨k0 - l.getD j 0 - 1, by
                have := (Nat.pow_le_pow_iff_right (by decide : 1 < 2)).mp e2; omega⟩
              unfold bitAt at e
              rw [hq, Nat.pow_add, Nat.mul_div_cancel_left _ (Nat.pow_pos (by decide)), Nat.pow_succ, Nat.mul_mod_left] at e
              cases e
          have ha := (Nat.pow_le_pow_iff_right (by decide : 1 < 2)).mp h8
          have hb := (Nat.pow_lt_pow_iff_right (by decide : 1 < 2)).mp h9
          omega
      rw [(hD _ (hrow j hj) hb).2 y hy, UInt8.xor_self], ← mul_xor] at hsum
    have h5 := xor_eq_zero.mp (by
      by_cases e : ((pieces.getD (l.getD j0 0) []).getD y 0 ^^^ sm d.toNat fun i => mul (((rowsOf d gs gl).getD (l.getD j0 0) []).getD i 0) (D i y)) = 0
      · exact e
      · exact absurd hsum (mul_ne_zero hc0 e))
    rw [hk0] at h5
    exact h5
  have hall : FitsSet d gl gs L pieces x := ⟨D, fun k hk hb => by
    by_cases e : k = k0
    · rw [e]; exact hfit0
    · refine hD k hk ?_
      rw [minus_bit m1, hb]
      rcases bit_two (2 ^ k0) k with f | f
      · rw [f]
      · exfalso
        have h7 := (num_minus (x := 2 ^ k0) (k := k) (Nat.lt_of_le_of_lt (sub_le m1) hx16) f)
        have h8 := sub_le h7.1
        have ha := (Nat.pow_le_pow_iff_right (by decide : 1 < 2)).mp h8
        rcases Nat.lt_or_gt_of_ne e with g | g
        · obtain ⟨q, hq⟩ : ∃ q, k0 = k + (q + 1) := ⟨k0 - k - 1, by omega⟩
          unfold bitAt at f
          rw [hq, Nat.pow_add, Nat.mul_div_cancel_left _ (Nat.pow_pos (by decide)), Nat.pow_succ, Nat.mul_mod_left] at f
          cases f
        · omega⟩
  rw [(badSet_iff h fun k hk hb => hsz k hk (hxm k hb)).mpr hall] at hnb
  cases hnb
end
end Lo

/- THE WALK over Clash (package locate). -/
namespace Lo
open Gf Cd
/-- What Clash returns. -/
def ClashOut (d gl : Int) (gs : List (List Int)) (n m : Int) (pieces : List (List UInt8)) (x E : Int) : Prop :=
  (givE d gl gs n m pieces ≠ 0 ∧ x = 0 ∧ E = givE d gl gs n m pieces) ∨ (givE d gl gs n m pieces = 0 ∧ 12 < num m.toNat ∧ x = 0 ∧ E = 2) ∨
  (givE d gl gs n m pieces = 0 ∧ num m.toNat ≤ 12 ∧ ((x = 0 ∧ E = 8 ∧ ∀ z, z ≠ 0 → Sub z m.toNat → badSet d gl gs pieces z = false) ∨ (∃ X : Nat, x = X ∧ E = 0 ∧ Least (badSet d gl gs pieces) m.toNat X)))
end Lo
namespace Go.Proofs.YtggfkpalkdkbdaaDoor
open Go.RowKit Go.Shelf
attribute [local go_sem] Oper.semAt_some
/-- The int in a box. -/
def boxNat (v : Value) (w : World) : Nat :=
  match v with
  | .pointer (some ad) => match w.cell? ad with | some u => (intOf u).toNat | none => 0
  | _ => 0
/-- The round's relation of the search of Clash. -/
def ClR (d gl : Int) (gs : List (List Int)) (pieces : List (List UInt8)) (GA PA RA : Option Addr) (ng Gc pl cp rn rc N M C PB QB FB cn lo : Nat) (w5 : World) (a : Act) (w' : World) : Prop :=
  ∃ (s hi SB : Nat) (u16 u17 u36 u37 u38 u39 u40 u41 u42 u43 u44 u45 u46 u47 u48 u49 u50 u51 u52 u53 u54 u55 u56 u57 u58 u59 u60 : Value) (ds : List Deferred), 1 ≤ s ∧ s ≤ cn + 1 ∧ lo ≤ hi ∧ hi ≤ w'.heap.size ∧ a = ⟨#[.agg #[.int .i64 d, .slice GA ng Gc, .int .i64 gl], .int .i64 (N : Nat), .int .i64 (M : Nat), .slice PA pl cp, .pointer (some ⟨C, 0, none⟩), undef, undef, .pointer (some ⟨PB, 0, none⟩), .int .i64 0, .int .i64 0, .int .i64 0, .int .i64 (cn : Nat), .pointer (some ⟨QB, 0, none⟩), .int .i64 0, .pointer (some ⟨FB, 0, none⟩), .pointer (some ⟨SB, 0, none⟩), u16, u17, .agg #[.int .i64 d, .slice GA ng Gc, .int .i64 gl], .int .i64 (N : Nat), .int .i64 (M : Nat), .slice PA pl cp, .int .i64 0, .int .i64 0, .bool false, undef, .int .i64 (M : Nat), .int .u64 (M : Nat), .int .i64 (cn : Nat), .int .i64 (cn : Nat), .bool false, .tuple #[.slice RA rn rc, .int .i64 0], .agg #[.int .i64 d, .slice GA ng Gc, .int .i64 gl], .tuple #[.slice RA rn rc, .int .i64 0], .slice RA rn rc, .int .i64 0, u36, u37, u38, u39, u40, u41, u42, u43, u44, u45, u46, u47, u48, u49, u50, u51, u52, u53, u54, u55, u56, u57, u58, u59, u60, undef, undef, undef], ds⟩ ∧ Hid (Owns w5 w' [⟨.slice (some ⟨FB, 0, none⟩) 1 1, 3, 1, 1, [.int .i64 0]⟩, ⟨.slice (some ⟨SB, 0, none⟩) 1 1, 3, 1, 1, [.int .i64 (s : Nat)]⟩] ∧ (∀ z, Lo.Sub z M → z ≠ 0 → Lo.num z < s → Lo.badSet d gl gs pieces z = false) ∧ MarksOk lo hi w' ds)
set_option maxHeartbeats 16000000 in
set_option maxRecDepth 100000 in
theorem lClash_any (d gl n m : Int) (gs : List (List Int)) (pieces : List (List UInt8)) (G : Value) (PA : Option Addr) (cp : Nat) (w : World) (hT : Tab w) (hG : Rs (Rs RI) w G gs) (hP : Rs RS w (.slice PA pieces.length cp) pieces) (hN : Cd.check d gs gl = 0 → (Cd.rowsOf d gs gl).length ≤ 14) :
    Calls Tryd.prog 19 #[.agg #[.int .i64 d, G, .int .i64 gl], .int .i64 n, .int .i64 m, .slice PA pieces.length cp] w fun e w' => ∃ x E, e = .returned (.tuple #[.int .i64 x, .int .i64 E]) ∧ Lo.ClashOut d gl gs n m pieces x E ∧ Ext w w' := by
  obtain ⟨GA, Gc, rfl, _⟩ := hG.form
  obtain ⟨ng, hng⟩ : ∃ ng, gs.length = ng := ⟨_, rfl⟩
  rw [hng] at hG ⊢
  obtain ⟨pl, hpl⟩ : ∃ pl, pieces.length = pl := ⟨_, rfl⟩
  rw [hpl] at hP ⊢
  have hB : Owns w ((w.alloc (.cells #[.int .i64 d, .slice GA ng Gc, .int .i64 gl] 24)).alloc (.cells #[.slice PA pl cp] 34)) [⟨.slice (some ⟨w.heap.size, 0, none⟩) 3 3, 24, 1, 3, [.int .i64 d, .slice GA ng Gc, .int .i64 gl]⟩, ⟨.slice (some ⟨(w.alloc (.cells #[.int .i64 d, .slice GA ng Gc, .int .i64 gl] 24)).heap.size, 0, none⟩) 1 1, 34, 1, 1, [.slice PA pl cp]⟩] := ((Owns.start w (L := [no, no]) (by intro r hr; simp at hr; subst hr; exact ⟨rfl, rfl, rfl⟩)).new 0 #[.int .i64 d, .slice GA ng Gc, .int .i64 gl] 24 (by simp [maxLen])).new 1 #[.slice PA pl cp] 34 (by simp [maxLen])
  rw [World.size_alloc] at hB
  have hgv := lGiven_any d gl n m gs pieces _ PA cp _ (Rs.ext (Rs.ext RI.ext) _ _ _ _ hB.ext hG) (by rw [hpl]; exact Rs.ext RS.ext _ _ _ _ hB.ext hP)
  rw [hpl] at hgv
  have HGV := Lib.hid hgv
  have HG := Lib.hid hG
  have HP := Lib.hid (And.intro hP hpl)
  have HT := Lib.hid hT
  have HB := Lib.hid hB
  have HN := Lib.hid hN
  clear hG hP hT hB hN hng hpl hgv
  refine (callsIn_wide (n := 40)).1 ?_
  refine callsIn_of_wp_marks Tryd.func19 rfl trivial ?_ rfl
  simp only [Tryd.ntmps19, List.size_toArray, List.length_cons, List.length_nil, Nat.reduceAdd, Nat.reduceSub, Array.replicate_succ, Array.replicate_zero, List.push_toArray, List.append_toArray, List.nil_append, List.cons_append]
  gi_wp2_with fail
  refine wpIn_wide.2 (wp_scope_straight (wpIn_wide (n := 40).1 ?_))
  obtain ⟨C, hC⟩ : ∃ C, w.heap.size = C := ⟨_, rfl⟩
  obtain ⟨PB, hPB⟩ : ∃ P, C + 1 = P := ⟨_, rfl⟩
  rw [hC, hPB] at HB
  rw [hC]
  try rw [hPB]
  obtain ⟨w1, hw1⟩ : ∃ x, (w.alloc (.cells #[.int .i64 d, .slice GA ng Gc, .int .i64 gl] 24)).alloc (.cells #[.slice PA pl cp] 34) = x := ⟨_, rfl⟩
  rw [hw1] at HB HGV ⊢
  have HCS := Lib.hid (And.intro hC hPB)
  clear hw1 hC hPB
  have b0 : w1.cell? ⟨C, 0, none⟩ = some (.int .i64 d) := HB.out.cell 0 rfl 0 rfl
  have b1 : w1.cell? ⟨C, 1, none⟩ = some (.slice GA ng Gc) := HB.out.cell 0 rfl 1 rfl
  have b2 : w1.cell? ⟨C, 2, none⟩ = some (.int .i64 gl) := HB.out.cell 0 rfl 2 rfl
  have b3 : w1.cell? ⟨PB, 0, none⟩ = some (.slice PA pl cp) := HB.out.cell 1 rfl 0 rfl
  gi_wp2_with fail
  refine ⟨trivial, (callsIn_wide.2 HGV.out).mono ?_⟩
  clear HGV
  rintro e w2 ⟨rfl, hx2⟩
  have HB2 := Lib.hid (HB.out.next hx2)
  clear hx2 b0 b1 b2 b3 HB
  obtain ⟨er, her⟩ : ∃ er, Lo.givE d gl gs n m pieces = er := ⟨_, rfl⟩
  rw [her]
  have HER := Lib.hid her
  clear her
  by_cases h0 : er = 0
  case neg =>
    have hne : (er == 0) = false := by rw [beq_eq_false_iff_ne]; exact h0
    have hne2 : (er != 0) = true := by rw [bne_iff_ne]; exact h0
    have HCO : Hid (Lo.ClashOut d gl gs n m pieces 0 er) := Lib.hid (.inl ⟨by rw [HER.out]; exact h0, rfl, HER.out.symm⟩)
    clear h0
    gi_wp2_with fail
    try rw [Exit.noGoto_ret]
    exact ⟨_, by simp [results, Tryd.f19, go_sem], 0, er, rfl, HCO.out, HB2.out.ext⟩
  case pos =>
    subst h0
    obtain ⟨N, M, rfl, rfl, hwl⟩ := Lo.well HER.out
    have hck := Cd.check_ok hwl.chk
    have hR14 := HN.out hwl.chk
    have hM14 : M < 16384 := Nat.lt_of_lt_of_le hwl.set (show 2 ^ _ ≤ 2 ^ 14 from Nat.pow_le_pow_right (by decide) hR14)
    have HW := Lib.hid (And.intro hwl (And.intro hck hR14))
    obtain ⟨cn, hcn⟩ : ∃ cn, Ones.cnt M = cn := ⟨_, rfl⟩
    have HCN := Lib.hid (And.intro hcn ((cnt_num M).symm.trans hcn))
    have hon := ones_any M w2 hM14
    rw [hcn] at hon
    have HON := Lib.hid hon
    clear hwl hck hR14 hcn hon
    gi_wp2_with fail
    refine ⟨trivial, (callsIn_wide.2 HON.out).mono ?_⟩
    clear HON
    rintro e w' ⟨rfl, rfl⟩
    by_cases h12 : 12 < cn
    · have h12i : (12 : Int) < (cn : Int) := by omega
      have HCO : Hid (Lo.ClashOut d gl gs (N : Int) (M : Int) pieces 0 2) := Lib.hid (.inr (.inl ⟨HER.out, by rw [Int.toNat_natCast, HCN.out.2]; exact h12, rfl, rfl⟩))
      gi_wp2_with fail
      try rw [Exit.noGoto_ret]
      exact ⟨_, by simp [results, Tryd.f19, go_sem], 0, 2, rfl, HCO.out, HB2.out.ext⟩
    · have h12i : ¬ (12 : Int) < (cn : Int) := by omega
      have HRW := Lib.hid (cRows_any d gl gs _ w2 (HT.out.ext HB2.out.ext) (Rs.ext (Rs.ext RI.ext) _ _ _ _ HB2.out.ext HG.out))
      have b0 : w2.cell? ⟨C, 0, none⟩ = some (.int .i64 d) := HB2.out.cell 0 rfl 0 rfl
      have b1 : w2.cell? ⟨C, 1, none⟩ = some (.slice GA ng Gc) := HB2.out.cell 0 rfl 1 rfl
      have b2 : w2.cell? ⟨C, 2, none⟩ = some (.int .i64 gl) := HB2.out.cell 0 rfl 2 rfl
      gi_wp2_with fail
      refine ⟨trivial, (callsIn_wide.2 HRW.out).mono ?_⟩
      clear HRW
      rintro e w4 ⟨v, rfl, hv, hx4⟩
      obtain ⟨RA, rc, rfl, _⟩ := hv.form
      obtain ⟨rn, hrn⟩ : ∃ rn, (Cd.rowsOf d gs gl).length = rn := ⟨_, rfl⟩
      rw [hrn] at hv ⊢
      have HV := Lib.hid (And.intro hv hrn)
      have HB4 := Lib.hid (HB2.out.next hx4)
      rw [HW.out.1.chk]
      have hdec : decide ((12 : Int) < (cn : Int)) = false := decide_eq_false (by omega)
      try rw [hdec]
      clear hx4 b0 b1 b2 hv hrn
      gi_wp2_with fail
      refine wpIn_label ?_
      gi_wp2_with fail
      obtain ⟨w5, hw5⟩ : ∃ x, w4.alloc (.cells #[.slice RA rn rc] 76) = x := ⟨_, rfl⟩
      have hx45 : Ext w4 w5 := by rw [← hw5]; exact (Ext.refl w4).alloc _
      have hs5 : w5.heap.size = w4.heap.size + 1 := by rw [← hw5]; simp
      have hrb : w5.cell? ⟨w4.heap.size, 0, none⟩ = some (.slice RA rn rc) := by rw [← hw5]; exact cell_of_row _ _ 0 _ _ (0, 0) (heap_new _ _)
      rw [hw5]
      have hO7 : Owns w5 ((w5.alloc (.cells #[.int .i64 0] 3)).alloc (.cells #[.int .i64 1] 3)) [⟨.slice (some ⟨w5.heap.size, 0, none⟩) 1 1, 3, 1, 1, [.int .i64 0]⟩, ⟨.slice (some ⟨(w5.alloc (.cells #[.int .i64 0] 3)).heap.size, 0, none⟩) 1 1, 3, 1, 1, [.int .i64 (1 : Nat)]⟩] := ((Owns.start w5 (L := [no, no]) (by intro r hr; simp at hr; subst hr; exact ⟨rfl, rfl, rfl⟩)).new 0 #[.int .i64 0] 3 (by simp [maxLen])).new 1 #[.int .i64 1] 3 (by simp [maxLen])
      obtain ⟨QB, hRB⟩ : ∃ B, w4.heap.size = B := ⟨_, rfl⟩
      obtain ⟨FB, hFB⟩ : ∃ B, QB + 1 = B := ⟨_, rfl⟩
      obtain ⟨SB, hSB⟩ : ∃ B, FB + 1 = B := ⟨_, rfl⟩
      rw [World.size_alloc, hs5, hRB, hFB, hSB] at hO7
      rw [hRB] at hrb
      obtain ⟨w7, hw7⟩ : ∃ x, (w5.alloc (.cells #[.int .i64 0] 3)).alloc (.cells #[.int .i64 1] 3) = x := ⟨_, rfl⟩
      rw [hw7] at hO7 ⊢
      rw [hRB, hFB, hSB]
      have HO7 := Lib.hid hO7
      have HX45 := Lib.hid (And.intro hx45 hrb)
      clear hw5 hx45 hs5 hrb hO7 hRB hFB hSB hw7
      refine wpIn_loop (ClR d gl gs pieces GA PA RA ng Gc pl cp rn rc N M C PB QB FB cn w7.heap.size w5) (fun a w' => cn + 1 - boxNat (a.tmps.getD 15 undef) w') ?_ ?_
      · exact ⟨1, w7.heap.size, SB, _, _, _, _, _, _, _, _, _, _, _, _, _, _, _, _, _, _, _, _, _, _, _, _, _, _, _, [], Nat.le_refl _, by omega, Nat.le_refl _, Nat.le_refl _, rfl, Lib.hid ⟨HO7.out, fun z h1 h2 h3 => by
          have h4 : Lo.num z = 0 := by omega
          have h5 : z = 0 := (Lo.num_eq (a := 0) (b := z) (Nat.lt_of_le_of_lt (Lo.sub_le h1) (Nat.lt_of_lt_of_le hM14 (by decide))) (fun i hi => by rw [show Cd.bitAt 0 i = 0 by simp [Cd.bitAt]] at hi; cases hi) (by omega)).symm
          exact absurd h5 h2, trivial⟩⟩
      · rintro a wr ⟨s, hi, SB, u16, u17, u36, u37, u38, u39, u40, u41, u42, u43, u44, u45, u46, u47, u48, u49, u50, u51, u52, u53, u54, u55, u56, u57, u58, u59, u60, ds, hs1, hs2, hlo, hhi, rfl, HI⟩
        have k0 := HI.out.1.cell 0 rfl 0 rfl
        have k1 := HI.out.1.cell 1 rfl 0 rfl
        have hx57 := HI.out.1.ext
        have k2 := hx57.cell HX45.out.2
        by_cases hle : s ≤ cn
        · have hlei : (s : Int) ≤ (cn : Int) := by omega
          have hMk := HI.out.2.2
          gi_wp2_with fail
          refine ⟨trivial, (callsIn_wide.2 (without_any (M : Int) (cn : Int) wr)).mono ?_⟩
          rintro e w8 ⟨rfl, rfl⟩
          gi_wp2_with fail
          obtain ⟨W2, hW2⟩ : ∃ W2, (wr.alloc (.cells #[.int .i64 (M : Nat)] 3)).alloc (.cells #[.int .i64 (cn : Nat)] 3) = W2 := ⟨_, rfl⟩
          have hx2 : Ext wr W2 := by subst hW2; exact ((Ext.refl wr).alloc _).alloc _
          have hs2' : W2.heap.size = wr.heap.size + 2 := by subst hW2; simp
          have q1 : W2.cell? ⟨wr.heap.size, 0, none⟩ = some (.int .i64 (M : Nat)) := by subst hW2; go_simp
          have q2 : W2.cell? ⟨wr.heap.size + 1, 0, none⟩ = some (.int .i64 (cn : Nat)) := by subst hW2; go_simp
          rw [hW2]
          have hO2 := HI.out.1.next hx2
          have HX2 := Lib.hid (And.intro hx2 hO2)
          have hMrn : M < 2 ^ rn := by have := HW.out.1.set; rw [HV.out.2] at this; exact this
          have hrn14 : rn ≤ 14 := by rw [← HV.out.2]; exact HW.out.2.2
          have hseq := without1_seq 39 wr.heap.size (wr.heap.size + 1) M rn cn W2 hMrn hrn14 q1 q2
          have HMR := Lib.hid (And.intro hMrn hrn14)
          have hs5r := hO2.ext.size
          have hMk2 := hMk.ext hx2
          clear hW2 hx2 q1 q2 k0 k1 k2 hx57 hMrn
          refine wpIn_rangeV rfl (by decide) (gf := 55) (lb := #[.pointer (some ⟨wr.heap.size, 0, none⟩), .pointer (some ⟨wr.heap.size + 1, 0, none⟩)]) rfl trivial (enters_of Tryd.func55 (by kernel_rfl) rfl) hseq K2.trans (fun W l o o' hl ho hc => ⟨by simp [World.putObj], fun a v e => cell_kept e (grownBy_putObj' W l o') (fun r er => by cases er; exact ⟨_, ho, hc⟩)⟩) (fun x W l o o' hl hv ho hc => hv) (fun _ => rfl)
            (fun pre W => (∀ x ∈ pre, ¬ (Lo.num x.2 = s ∧ Lo.badSet d gl gs pieces x.2 = true)) ∧ Below W2.heap.size W2 W ∧ MarksOk w7.heap.size hi W ds)
            (fun c pre W => ∃ y : Nat × Nat, (c = .exit 0 ∧ (∃ pre', pre = pre' ++ [y] ∧ ∀ x ∈ pre', ¬ (Lo.num x.2 = s ∧ Lo.badSet d gl gs pieces x.2 = true)) ∧ Lo.Sub y.2 M ∧ Lo.num y.2 = s ∧ Lo.badSet d gl gs pieces y.2 = true) ∧ W.cell? ⟨FB, 0, none⟩ = some (.int .i64 (y.2 : Nat)) ∧ Below w5.heap.size w5 W ∧ MarksOk w7.heap.size hi W ds)
            (fun _ _ _ => trivial)
            (OwnFrom.and (ownFrom_pure _ _) (OwnFrom.and (ownFrom_below (Nat.le_refl _) (Nat.le_refl _)) (ownFrom_marks (by omega))))
            (fun c s W W' row hs hg hr => by
              obtain ⟨y, h1, h2, h3, h4⟩ := hs
              exact ⟨y, h1, cell_kept h2 hg (fun r e => (hr r e).2), h3.grown hg h3.size (fun k e => Nat.le_trans hs5r (hr k e).1), ownFrom_marks (β := List (Nat × Nat)) (B := W2.heap.size) (by omega) s W W' row h4 hg hr⟩)
            ⟨by simp, Below.refl _ _, hMk2⟩
            (fun x => { tmps := #[.agg #[.int .i64 d, .slice GA ng Gc, .int .i64 gl], .int .i64 (N : Nat), .int .i64 (M : Nat), .slice PA pl cp, .pointer (some ⟨C, 0, none⟩), undef, undef, .pointer (some ⟨PB, 0, none⟩), .int .i64 0, .int .i64 0, .int .i64 0, .int .i64 (cn : Nat), .pointer (some ⟨QB, 0, none⟩), .int .i64 0, .pointer (some ⟨FB, 0, none⟩), .pointer (some ⟨SB, 0, none⟩), u16, .int .i64 (x.2 : Nat), .agg #[.int .i64 d, .slice GA ng Gc, .int .i64 gl], .int .i64 (N : Nat), .int .i64 (M : Nat), .slice PA pl cp, .int .i64 0, .int .i64 0, .bool false, undef, .int .i64 (M : Nat), .int .u64 (M : Nat), .int .i64 (cn : Nat), .int .i64 (cn : Nat), .bool false, .tuple #[.slice RA rn rc, .int .i64 0], .agg #[.int .i64 d, .slice GA ng Gc, .int .i64 gl], .tuple #[.slice RA rn rc, .int .i64 0], .slice RA rn rc, .int .i64 0, .int .i64 (s : Nat), .int .i64 (cn : Nat), .bool true, u39, u40, .int .i64 (M : Nat), .int .i64 (cn : Nat), .func (.func 55) #[] #[.pointer (some ⟨wr.heap.size, 0, none⟩), .pointer (some ⟨wr.heap.size + 1, 0, none⟩)], .int .i64 (x.1 : Nat), .int .i64 (x.2 : Nat), u46, u47, u48, u49, u50, u51, u52, u53, u54, u55, u56, u57, u58, u59, u60, undef, undef, undef], defers := [] }) ?assign ?body ?done ?stop
          case assign =>
            intro l x W K hK
            unfold encP
            gi_wp2
            exact hK
          case body =>
            rintro l pre ⟨x1, tt⟩ W ⟨hpre, hB, hMkW⟩ hV _
            have hsub : Lo.Sub tt M := hV.1
            have hX : Ext wr W := HX2.out.1.trans hB
            have hOW := HI.out.1.next hX
            have k1 := hOW.cell 1 rfl 0 rfl
            have k2 := hOW.ext.cell HX45.out.2
            have hx4W := HX45.out.1.trans hOW.ext
            have k3 := hx4W.cell (HB4.out.cell 1 rfl 0 rfl)
            have hxW := HB4.out.ext.trans hx4W
            have htt : tt < 16384 := Nat.lt_of_le_of_lt (Lo.sub_le hsub) hM14
            have HI0 := Lib.hid (And.intro hpre (And.intro hB hMkW))
            have HSU := Lib.hid hsub
            have HOW := Lib.hid (And.intro hOW hX)
            have HXW := Lib.hid (And.intro hxW hx4W)
            clear hpre hB hMkW hV hX hOW hx4W hxW hsub
            by_cases hnum : Ones.cnt tt = s
            · have HC := Lib.hid hnum
              have HQ : Hid ((((s : Nat) : Int) == ((s : Nat) : Int)) = true) := Lib.hid (by simp)
              obtain ⟨bb, hbb⟩ : ∃ bb, Lo.agree (Lo.some_ (Cd.rowsOf d gs gl) pieces tt) = bb := ⟨_, rfl⟩
              have HBB := Lib.hid (And.intro hbb ((cnt_num tt).symm.trans hnum))
              have HSO : Hid (∀ w1, Ext W w1 → Calls Tryd.prog 41 #[.slice RA rn rc, .slice PA pl cp, .int .i64 (tt : Nat)] w1 fun e w' => ∃ v, e = .returned v ∧ (RRo w' v (Lo.some_ (Cd.rowsOf d gs gl) pieces tt) ∧ (Lo.some_ (Cd.rowsOf d gs gl) pieces tt = [] → v = .slice none 0 0)) ∧ Ext w1 w') := Lib.hid fun w1 hx => by
                have h := lSome_any (Cd.rowsOf d gs gl) pieces tt RA PA rn rc pl cp w1 (Rs.ext (Rs.ext RB.ext) _ _ _ _ (HXW.out.2.trans hx) HV.out.1) HV.out.2 (Rs.ext RS.ext _ _ _ _ (HXW.out.1.trans hx) HP.out.1) HP.out.2 (by have := HW.out.1.len; rw [HP.out.2, HV.out.2] at this; omega) (by omega) (by have := HMR.out.2; omega)
                refine h.mono ?_
                rintro e w' ⟨v, rfl, h1, h2, h3⟩
                exact ⟨v, rfl, ⟨h1, h2⟩, h3⟩
              have HAG : Hid (∀ v w1, Ext W w1 → (RRo w1 v (Lo.some_ (Cd.rowsOf d gs gl) pieces tt) ∧ (Lo.some_ (Cd.rowsOf d gs gl) pieces tt = [] → v = .slice none 0 0)) → Calls Tryd.prog 40 #[v] w1 fun e w' => ∃ u, e = .returned u ∧ u = .bool bb ∧ Ext w1 w') := Lib.hid fun v w1 hx hG => by
                have h := lAgree_any _ d.toNat (Cd.sizeN d.toNat N) v w1 (HT.out.ext (HXW.out.1.trans hx)) hG.1 hG.2 (Nat.le_trans (Lo.some_len _ _ _) (by have := HW.out.1.r24; omega)) (HW.out.1.wide HSU.out) (by have := HW.out.2; omega) (by have := HW.out.2; omega) (by have h5 := Cd.size_le (d := d.toNat) (by have := HW.out.2; omega) N; have := HW.out.1.n4; omega)
                rw [HBB.out.1] at h
                refine h.mono ?_
                rintro e w' ⟨rfl, h3⟩
                exact ⟨_, rfl, rfl, h3⟩
              clear hbb hnum
              gi_wp2_with fail
              refine wpIn_atEnd' (cl_yes (fun v w' => RRo w' v (Lo.some_ (Cd.rowsOf d gs gl) pieces tt) ∧ (Lo.some_ (Cd.rowsOf d gs gl) pieces tt = [] → v = .slice none 0 0)) QB PB rn rc pl cp RA PA bb _ l SB tt s s W htt HC HQ k1 k2 k3 HSO HAG _ _ _ _ _ _ _ _ _ _ _ _ _ _ _ _ _ _ _ _ _ _ _ _ _ _ _ _ _ _ _ _ _ _ _ _ _ _ _ _ _ _ _ _ _ _ _ _ _ _ _ _ _ _ _ _ _ _ _ _ _ _ ?_)
              rintro u46 u47 u48 u49 u50 u51 u52 u53 u54 u55 u56 u57 wx hx
              have HX := Lib.hid hx
              clear k1 k2 k3
              cases bb with
              | true =>
                clear hx
                gi_wp2_with fail
                refine ⟨HX.out.keepsOthers, K2.of_ext HX.out, fun y hy => ?_, HI0.out.2.1.trans (Below.mono HX.out HI0.out.2.1.size), HI0.out.2.2.ext HX.out⟩
                rcases List.mem_append.1 hy with hy | hy
                · exact HI0.out.1 y hy
                · rw [List.mem_singleton.1 hy]
                  rintro ⟨_, h⟩
                  unfold Lo.badSet at h
                  simp only at h
                  rw [HBB.out.1] at h
                  cases h
              | false =>
                have hOx := HOW.out.1.next hx
                have k0 := hOx.cell 0 rfl 0 rfl
                have f0 : wx.frozen? ⟨FB, 0, none⟩ = false := hOx.frozen 0 rfl 0
                have HS := Lib.hid (hOx.store 0 rfl 0 (.int .i64 (tt : Nat)))
                clear hx hOx
                gi_wp2_with fail
                refine ⟨HX.out.keepsOthers.trans (KeepsOthers.setCell _ _ _), (x1, tt), ⟨rfl, ⟨pre, rfl, HI0.out.1⟩, HSU.out, HBB.out.2, ?_⟩, HS.out.cell 0 rfl 0 rfl, HS.out.ext, ?_⟩
                · unfold Lo.badSet
                  simp only
                  rw [HBB.out.1]
                  rfl
                · exact (HI0.out.2.2.ext HX.out).kept (Nat.le_refl _) (fun D _ _ h => (KeepsOthers.setCell _ _ _).same D _ h rfl)
            · obtain ⟨ct, hct⟩ : ∃ ct, Ones.cnt tt = ct := ⟨_, rfl⟩
              rw [hct] at hnum
              have HC := Lib.hid hct
              have HQ : Hid ((((ct : Nat) : Int) == ((s : Nat) : Int)) = false) := Lib.hid (by rw [beq_eq_false_iff_ne]; omega)
              have HNN := Lib.hid hnum
              clear hnum hct
              gi_wp2_with fail
              refine wpIn_atEnd' (cl_no _ l SB tt ct s W htt HC HQ k1 _ _ _ _ _ _ _ _ _ _ _ _ _ _ _ _ _ _ _ _ _ _ _ _ _ _ _ _ _ _ _ _ _ _ _ _ _ _ _ _ _ _ _ _ _ _ _ _ _ _ _ _ _ _ _ _ _ _ _ _ _ _ _ _ ?_)
              rintro u46 u47 u48 u49 u50 u51 u52 u53 u54 u55 u56 u57 wx hx
              have HX := Lib.hid hx
              clear k1 k2 k3 hx
              gi_wp2_with fail
              refine ⟨HX.out.keepsOthers, K2.of_ext HX.out, fun y hy => ?_, HI0.out.2.1.trans (Below.mono HX.out HI0.out.2.1.size), HI0.out.2.2.ext HX.out⟩
              rcases List.mem_append.1 hy with hy | hy
              · exact HI0.out.1 y hy
              · rw [List.mem_singleton.1 hy]
                rintro ⟨h, _⟩
                exact HNN.out (HC.out.symm.trans ((cnt_num tt).trans h))
          case done =>
            rintro D xs W hD rfl ⟨hall, hB, hMkW⟩ hK
            have hX : Ext wr W := HX2.out.1.trans hB
            have hOW := HI.out.1.next hX
            have k1 := hOW.cell 1 rfl 0 rfl
            have hnew := hOW.new 1 #[.int .i64 ((s : Int) + 1)] 3 (by simp [maxLen])
            have hnx := Lo.clash_next (bad := Lo.badSet d gl gs pieces) (m := M) (N := rn) (s := s) HMR.out.1 (by have := HMR.out.2; omega) HI.out.2.1 (fun z hz => hall (M - z, z) (List.mem_map.2 ⟨z, by rw [HCN.out.2] at hz; exact hz, rfl⟩))
            have hDl := (Array.getElem?_eq_some_iff.1 hK).1
            have HDO := Lib.hid (And.intro hnew (And.intro hnx (And.intro hMkW hK)))
            have hwr : IntKind.i64.wrap ((s : Int) + 1) = (s : Int) + 1 := by rw [IntKind.wrap_i64]; omega
            have hcs : ((s + 1 : Nat) : Int) = (s : Int) + 1 := rfl
            have hk1r := HI.out.1.cell 1 rfl 0 rfl
            clear hall hB hMkW hK hX hOW hnew hnx
            gi_wp2_with fail
            have hko : KeepsOthers W (W.alloc (.cells #[.int .i64 ((s : Int) + 1)] 3)) := ((Ext.refl W).alloc _).keepsOthers
            refine ⟨⟨s + 1, D + 1, W.heap.size, _, _, _, _, _, _, _, _, _, _, _, _, _, _, _, _, _, _, _, _, _, _, _, _, _, _, _, _, by omega, by omega, by omega, ?_, rfl, Lib.hid ⟨HDO.out.1, HDO.out.2.1, HDO.out.2.2.1.push (fun D2 _ _ h => hko.same D2 _ h rfl) (by omega) (by omega) (hko.same D _ HDO.out.2.2.2 rfl)⟩⟩, ?_⟩
            · simp; omega
            · have hn1 := HDO.out.1.cell 1 rfl 0 rfl
              have e1 : boxNat (.pointer (some ⟨W.heap.size, 0, none⟩)) (W.alloc (.cells #[.int .i64 ((s : Int) + 1)] 3)) = s + 1 := by
                unfold boxNat
                simp only [hn1]
                show ((s : Int) + 1).toNat = s + 1
                omega
              have e2 : boxNat (.pointer (some ⟨SB, 0, none⟩)) wr = s := by
                unfold boxNat
                simp only [hk1r]
                show ((s : Nat) : Int).toNat = s
                omega
              show cn + 1 - boxNat (.pointer (some ⟨W.heap.size, 0, none⟩)) _ < cn + 1 - boxNat (.pointer (some ⟨SB, 0, none⟩)) wr
              rw [e1, e2]
              omega
          case stop =>
            rintro D c' pre W hD hS ⟨y, ⟨rfl, ⟨pre', hpp, hpre⟩, hsub, hns, hbad⟩, hcell, hBw, hMkW⟩ hK
            have hne0 : y.2 ≠ 0 := fun e => by rw [e, Lo.num_zero] at hns; omega
            have hlt := Lo.clash_hit (bad := Lo.badSet d gl gs pieces) (m := M) (N := rn) (s := s) (t := y.2) (pre := pre'.map (·.2)) HMR.out.1 (by have := HMR.out.2; omega) (by
              have h := hS.map (·.2)
              rw [hpp, List.map_append] at h
              unfold Lo.pairs at h
              rw [List.map_map] at h
              rw [HCN.out.2]
              have e : (fun x : Nat × Nat => x.2) ∘ (fun t => (M - t, t)) = id := rfl
              rw [e, List.map_id] at h
              exact h) HI.out.2.1 (fun z hz => by
              obtain ⟨q, hq, rfl⟩ := List.mem_map.1 hz
              exact hpre q hq) hns hbad (by omega)
            have HCO : Hid (Lo.ClashOut d gl gs (N : Int) (M : Int) pieces (y.2 : Nat) 0) := Lib.hid (.inr (.inr ⟨HER.out, by rw [Int.toNat_natCast, HCN.out.2]; omega, .inr ⟨y.2, rfl, rfl, by rw [Int.toNat_natCast]; exact hlt⟩⟩))
            have hne : (((y.2 : Nat) : Int) == 0) = false := by rw [beq_eq_false_iff_ne]; omega
            have HEND := Lib.hid (And.intro hBw (And.intro hMkW hK))
            have hDl := (Array.getElem?_eq_some_iff.1 hK).1
            clear hS hpp hpre hsub hns hbad hBw hMkW hK hlt hne0
            gi_wp2_with fail
            try rw [Exit.noGoto_ret]
            refine leaves_marks (HEND.out.2.1.push (fun _ _ _ h => h) (by omega) (by omega) HEND.out.2.2) fun w' hw' => ?_
            exact ⟨.tuple #[.int .i64 (y.2 : Nat), .int .i64 0], by simp [results, Tryd.f19, go_sem], (y.2 : Nat), 0, rfl, HCO.out, HB4.out.ext.trans (HX45.out.1.trans (show Ext w5 w' from Below.trans HEND.out.1 (Below.mono hw' HO7.out.ext.size)))⟩
        · have hlei : ¬ (s : Int) ≤ (cn : Int) := by omega
          have HCO : Hid (Lo.ClashOut d gl gs (N : Int) (M : Int) pieces 0 8) := Lib.hid (.inr (.inr ⟨HER.out, by rw [Int.toNat_natCast, HCN.out.2]; omega, .inl ⟨rfl, rfl, fun z h1 h2 => HI.out.2.1 z (by rw [Int.toNat_natCast] at h2; exact h2) h1 (by rw [Int.toNat_natCast] at h2; have := Lo.num_sub h2; rw [HCN.out.2] at this; omega)⟩⟩))
          gi_wp2_with fail
          try rw [Exit.noGoto_ret]
          refine leaves_marks HI.out.2.2 fun w' hw' => ?_
          exact ⟨.tuple #[.int .i64 0, .int .i64 8], by simp [results, Tryd.f19, go_sem], 0, 8, rfl, HCO.out, HB4.out.ext.trans (HX45.out.1.trans (show Ext w5 w' from Below.trans hx57 (Below.mono hw' HO7.out.ext.size)))⟩
end Go.Proofs.YtggfkpalkdkbdaaDoor

/- THE WALK over Decode. -/
namespace Go.Proofs.YtggfkpalkdkbdaaDoor
open Go.RowKit
theorem StairsOut.toRd {w0 w : World} {P n : Nat} {rs ps : List (List UInt8)} (h : StairsOut w0 w P rs ps n) (hw : ∀ r ∈ rs, r.length ≤ 9223372036854775807) (hl : rs.length ≤ 9223372036854775807) : StairsRd w P rs ps n := by
  obtain ⟨A, B, cA, cB, b0, b1, b2, hpl, h1, h2⟩ := h.look
  refine ⟨A, B, cA, cB, b0, by rw [hpl]; exact b1, b2, ⟨A, cA, rfl, hl, fun i x hx => ?_⟩, ⟨B, cB, rfl, by omega, fun i x hx => ?_⟩⟩
  · obtain ⟨hi, rfl⟩ := List.getElem?_eq_some_iff.1 hx
    obtain ⟨ad, g, cg, e1, e2, e3⟩ := h1 i hi
    exact ⟨ad, _, e1, e2, Rs.of_rd e3 (hw _ (List.getElem_mem hi))⟩
  · obtain ⟨hi, rfl⟩ := List.getElem?_eq_some_iff.1 hx
    obtain ⟨bd, e1, e2⟩ := h2 i hi
    exact ⟨bd, _, e1, e2, rfl⟩
theorem strCells_sb (p : List UInt8) : Lib.strCells (sb p) = p.map bv := rfl
/-- What Decode is given, with its first error. -/
theorem cDecode_no (d gl n m : Int) (gs : List (List Int)) (pieces : List (List UInt8)) (G : Value) (PA : Option Addr) (cp : Nat) (w : World) (hT : Tab w) (hG : Rs (Rs RI) w G gs) (h0 : Cd.check d gs gl ≠ 0) :
    Calls Tryd.prog 23 #[.agg #[.int .i64 d, G, .int .i64 gl], .int .i64 n, .int .i64 m, .slice PA pieces.length cp] w fun e w' => e = .returned (.tuple #[.string (sb []), .int .i64 (Cd.check d gs gl)]) ∧ Ext w w' := by
  have hx0 := (Ext.refl w).alloc (.cells #[.int .i64 d, G, .int .i64 gl] 24)
  have HX := Lib.hid (And.intro hx0 (Rs.ext (Rs.ext RI.ext) _ _ _ _ hx0 hG))
  have HT := Lib.hid (hT.ext hx0)
  obtain ⟨A, c, rfl, hl⟩ := hG.form
  have e1 : (Cd.check d gs gl != 0) = true := by rw [bne_iff_ne]; exact h0
  clear hG hx0 hT h0
  go_enter Tryd.func23, Tryd.ntmps23
  go_wp2_with fail
  refine (cRows_any d gl gs _ _ HT.out HX.out.2).mono ?_
  rintro e w1 ⟨v, rfl, hv, hx1⟩
  have HX1 := Lib.hid (HX.out.1.trans hx1)
  clear hx1 hv
  go_wp2_with fail
  go_ret2
  exact ⟨rfl, HX1.out⟩
theorem toList_sb (l : List UInt8) : (sb l).toList = l := by rw [ByteArray.toList_eq]; rfl
theorem sb_same {e p : List UInt8} (h : e = p) : (!(sb e).toList == (sb p).toList) = false := by subst h; simp
theorem sb_other {e p : List UInt8} (h : e ≠ p) : (!(sb e).toList == (sb p).toList) = true := by rw [toList_sb, toList_sb]; simp [h]
set_option maxRecDepth 100000 in
set_option maxHeartbeats 4000000 in
theorem cDecode_arg (d gl n m : Int) (gs : List (List Int)) (pieces : List (List UInt8)) (G : Value) (PA : Option Addr) (cp : Nat) (w : World) (hT : Tab w) (hG : Rs (Rs RI) w G gs) (h0 : Cd.check d gs gl = 0) (hb : Cd.badArgs d gl gs n m pieces = true) :
    Calls Tryd.prog 23 #[.agg #[.int .i64 d, G, .int .i64 gl], .int .i64 n, .int .i64 m, .slice PA pieces.length cp] w fun e w' => e = .returned (.tuple #[.string (sb []), .int .i64 1]) ∧ Ext w w' := by
  have hx0 := (Ext.refl w).alloc (.cells #[.int .i64 d, G, .int .i64 gl] 24)
  have HX := Lib.hid (And.intro hx0 (Rs.ext (Rs.ext RI.ext) _ _ _ _ hx0 hG))
  have HT := Lib.hid (hT.ext hx0)
  obtain ⟨A, c, rfl, hl⟩ := hG.form
  have e1 : (Cd.check d gs gl != 0) = false := by rw [h0]; rfl
  have hk := Cd.check_ok h0
  have hrl := Cd.rowsOf_len h0
  unfold Cd.badArgs at hb
  rw [decide_eq_true_eq] at hb
  obtain ⟨L, hL⟩ : ∃ L, (Cd.rowsOf d gs gl).length = L := ⟨_, rfl⟩
  rw [hL] at hb hrl
  have hw2 := wrap_pow L (by omega)
  obtain ⟨M, hM⟩ : ∃ M, 2 ^ L = M := ⟨_, rfl⟩
  rw [hM] at hb hw2
  obtain ⟨N, hN⟩ : ∃ N, pieces.length = N := ⟨_, rfl⟩
  rw [hN] at hb ⊢
  have five : n < 0 ∨ (¬ n < 0 ∧ 4096 < n) ∨ (¬ n < 0 ∧ ¬ 4096 < n ∧ m < 0) ∨ (¬ n < 0 ∧ ¬ 4096 < n ∧ ¬ m < 0 ∧ (M : Int) ≤ m) ∨ (¬ n < 0 ∧ ¬ 4096 < n ∧ ¬ m < 0 ∧ ¬ (M : Int) ≤ m ∧ N ≠ L) := by omega
  have HLL := Lib.hid hL
  have hL24 : L ≤ 24 := by omega
  clear hG hx0 hT h0 hb hM hL hN hrl
  rcases five with g | ⟨g1, g⟩ | ⟨g1, g2, g⟩ | ⟨g1, g2, g3, g⟩ | ⟨g1, g2, g3, g4, g⟩
  all_goals
    go_enter Tryd.func23, Tryd.ntmps23
    go_wp2_with fail
    refine (cRows_any d gl gs _ _ HT.out HX.out.2).mono ?_
    rintro e w1 ⟨v, rfl, hv, hx1⟩
    have HX1 := Lib.hid (HX.out.1.trans hx1)
    obtain ⟨RA, cR, rfl, _⟩ := hv.form
    rw [HLL.out]
    clear hx1 hv
  · go_wp2_with fail
    go_ret2
    exact ⟨rfl, HX1.out⟩
  · go_wp2_with fail
    go_ret2
    exact ⟨rfl, HX1.out⟩
  · go_wp2_with fail
    go_ret2
    exact ⟨rfl, HX1.out⟩
  · have e2 : (wrap64 (2 ^ L) ≤ m) = True := by rw [hw2]; exact eq_true (by omega)
    clear hw2 g
    go_wp2_with fail
    go_ret2
    exact ⟨rfl, HX1.out⟩
  · have e2 : (wrap64 (2 ^ L) ≤ m) = False := by rw [hw2]; exact eq_false (by omega)
    have e3 : ((N : Int) != (L : Int)) = true := by rw [bne_iff_ne]; omega
    clear hw2 g4 g
    go_wp2_with fail
    go_ret2
    exact ⟨rfl, HX1.out⟩
theorem dec_facts {d gl : Int} {n m : Nat} {gs : List (List Int)} {pieces : List (List UInt8)} (h : Cd.badArgs d gl gs (n : Int) (m : Int) pieces = false) : n ≤ 4096 ∧ m < 2 ^ (Cd.rowsOf d gs gl).length ∧ pieces.length = (Cd.rowsOf d gs gl).length := by
  unfold Cd.badArgs at h
  rw [decide_eq_false_iff_not] at h
  obtain ⟨M, hM⟩ : ∃ M, 2 ^ (Cd.rowsOf d gs gl).length = M := ⟨_, rfl⟩
  rw [hM] at h ⊢
  omega
theorem pow_le_false {m L : Nat} (h : m < 2 ^ L) (hL : L ≤ 24) : (wrap64 (2 ^ L) ≤ (m : Int)) = False := by
  rw [wrap_pow L (by omega)]
  obtain ⟨M, hM⟩ : ∃ M, 2 ^ L = M := ⟨_, rfl⟩
  rw [hM] at h ⊢
  exact eq_false (by omega)
set_option maxRecDepth 100000 in
set_option maxHeartbeats 8000000 in
theorem cDecode_in (d gl n m : Nat) (gs : List (List Int)) (pieces : List (List UInt8)) (G : Value) (PA : Option Addr) (cp : Nat) (w : World) (hT : Tab w) (hG : Rs (Rs RI) w G gs) (h0 : Cd.check d gs gl = 0) (hb : Cd.badArgs d gl gs n m pieces = false)
    (hP : Rs RS w (.slice PA pieces.length cp) pieces) (hpm : ∀ p ∈ pieces, p.length ≤ 140737488351232) :
    Calls Tryd.prog 23 #[.agg #[.int .i64 d, G, .int .i64 gl], .int .i64 n, .int .i64 m, .slice PA pieces.length cp] w fun e w' => e = .returned (.tuple #[.string (sb (Cd.decS d gl gs n m pieces)), .int .i64 (Cd.decE d gl gs n m pieces)]) ∧ Ext w w' := by
  have hx0 := (Ext.refl w).alloc (.cells #[.int .i64 d, G, .int .i64 gl] 24)
  have HX := Lib.hid (And.intro hx0 (Rs.ext (Rs.ext RI.ext) _ _ _ _ hx0 hG))
  have HT := Lib.hid (hT.ext hx0)
  have HP := Lib.hid (Rs.ext RS.ext _ _ _ _ hx0 hP)
  have HPM := Lib.hid hpm
  obtain ⟨A, c, rfl, hl⟩ := hG.form
  have e1 : (Cd.check (d : Int) gs (gl : Int) != 0) = false := by rw [h0]; rfl
  have hk := Cd.check_ok h0
  have hrl := Cd.rowsOf_len h0
  obtain ⟨L, hL⟩ : ∃ L, (Cd.rowsOf (d : Int) gs (gl : Int)).length = L := ⟨_, rfl⟩
  rw [hL] at hrl
  have hL24 : L ≤ 24 := by omega
  have hL0 : 0 < L := by omega
  have hfacts := dec_facts hb
  rw [hL] at hfacts
  obtain ⟨hn4, hmL, hpl⟩ := hfacts
  have hm24 : m < 16777216 := Nat.lt_of_lt_of_le hmL (Nat.pow_le_pow_right (by decide) hL24)
  have e2 : (wrap64 (2 ^ L) ≤ (m : Int)) = False := pow_le_false hmL hL24
  have hso := Cd.sizeOf_nat (d := d) (gl := gl) (gs := gs) hn4 h0
  have hszle := Cd.size_le (d := d) (by omega) n
  obtain ⟨sz, hsz⟩ : ∃ sz, Cd.sizeN d n = sz := ⟨_, rfl⟩
  rw [hsz] at hso hszle
  have HF := Lib.hid (And.intro h0 (And.intro hb (And.intro hL (And.intro hpl hsz))))
  have HSO := Lib.hid hso
  have HML := Lib.hid hmL
  have hd1 : 1 ≤ d := by omega
  have hd16 : d ≤ 16 := by omega
  rw [hpl]
  clear hG hx0 hT h0 hP hpm hb hrl hL hmL hpl hso hsz
  go_enter Tryd.func23, Tryd.ntmps23
  go_wp2_with fail
  refine (cRows_any d gl gs _ _ HT.out HX.out.2).mono ?_
  rintro e w1 ⟨v, rfl, hv, hx1⟩
  obtain ⟨RA, cR, rfl, _⟩ := hv.form
  have hc0 : w1.cell? ⟨w.heap.size, 0, none⟩ = some (.int .i64 d) := hx1.cell (by go_simp)
  have hc1 : w1.cell? ⟨w.heap.size, 1, none⟩ = some (.slice A gs.length c) := hx1.cell (by go_simp)
  have hc2 : w1.cell? ⟨w.heap.size, 2, none⟩ = some (.int .i64 gl) := hx1.cell (by go_simp)
  have HC1 := Lib.hid (And.intro hc0 (And.intro hc1 hc2))
  have HX1 := Lib.hid (HX.out.1.trans hx1)
  have HT1 := Lib.hid (HT.out.ext hx1)
  have HG1 := Lib.hid (Rs.ext (Rs.ext RI.ext) _ _ _ _ hx1 HX.out.2)
  have HP1 := Lib.hid (Rs.ext RS.ext _ _ _ _ hx1 HP.out)
  have HV := Lib.hid hv
  rw [HF.out.2.2.1]
  clear hx1 hv
  go_wp2_with fail
  clear hc0 hc1 hc2
  refine (cSize_any d gl n gs _ _ HG1.out).mono ?_
  rintro e w2 ⟨rfl, hx2⟩
  rw [HSO.out]
  have HX2 := Lib.hid (HX1.out.trans hx2)
  have HX12 := Lib.hid hx2
  have HT2 := Lib.hid (HT1.out.ext hx2)
  have HP2 := Lib.hid (Rs.ext RS.ext _ _ _ _ hx2 HP1.out)
  have HV2 := Lib.hid (Rs.ext (Rs.ext RB.ext) _ _ _ _ hx2 HV.out)
  clear hx2
  go_wp2_with fail
  go_loop [60] (fun vk => ∃ k : Nat, k ≤ L ∧ vk = .int .i64 k ∧ Hid (∀ j, j < k → Cd.bitAt m j = 1 → (pieces.getD j []).length = sz)) (fun vk => L - (intOf vk).toNat)
  case atStart => exact ⟨0, Nat.zero_le _, rfl, fun j hj => absurd hj (by omega)⟩
  case round =>
    obtain ⟨k, hk2, rfl, HI⟩ := hrel
    by_cases hlt : k < L
    · obtain ⟨pd, u, rfl, hpc, hu⟩ := HP2.out.at (i := k) (by rw [HF.out.2.2.2.1]; exact hlt)
      have hu' : u = sv (pieces[k]'(by rw [HF.out.2.2.2.1]; exact hlt)) := hu
      subst hu'
      have hgp : pieces.getD k [] = pieces[k]'(by rw [HF.out.2.2.2.1]; exact hlt) := by rw [List.getD_eq_getElem?_getD, List.getElem?_eq_getElem (by rw [HF.out.2.2.2.1]; exact hlt)]; rfl
      have hpk := HPM.out _ (List.getElem_mem (show k < pieces.length by rw [HF.out.2.2.2.1]; exact hlt))
      have hmm : bits .and .i64 ((m : Int) / 2 ^ k) 1 = ((Cd.bitAt m k : Nat) : Int) := by
        have hle : m / 2 ^ k ≤ m := Nat.div_le_self _ _
        have := odd64 (m / 2 ^ k) (by omega)
        rw [Cd.bitAt, ← this]
        simp
      obtain ⟨p, hp⟩ : ∃ p, pieces[k]'(by rw [HF.out.2.2.2.1]; exact hlt) = p := ⟨_, rfl⟩
      rw [hp] at hpc hgp hpk
      have HGP := Lib.hid hgp
      clear hgp hp hu
      by_cases hb : Cd.bitAt m k = 1
      · have HB := Lib.hid hb
        rw [hb] at hmm
        by_cases hps : p.length = sz
        · have e5 : ((p.length : Int) != (sz : Int)) = false := by rw [hps]; simp
          have HPS := Lib.hid hps
          clear hb hps
          go_wp2_with fail
          go_round
          case rel => exact ⟨k + 1, by omega, by go_num, fun j hj hbj => by
            by_cases hjk : j = k
            · rw [hjk, HGP.out, HPS.out]
            · exact HI.out j (by omega) hbj⟩
          case measure => simp [intOf]; omega
        · have e5 : ((p.length : Int) != (sz : Int)) = true := by rw [bne_iff_ne]; omega
          have hbl : Cd.badLen (Cd.sizeN ((d : Int)).toNat ((n : Int)).toNat) ((m : Int)).toNat pieces = true := by
            rw [Int.toNat_natCast, Int.toNat_natCast, Int.toNat_natCast, Cd.badLen_iff]
            exact ⟨k, by rw [HF.out.2.2.2.1]; exact hlt, hb, by rw [HGP.out, HF.out.2.2.2.2]; exact hps⟩
          have he := Cd.decE_len HF.out.1 HF.out.2.1 hbl
          have hs := Cd.decS_no (d := (d : Int)) (gl := (gl : Int)) (gs := gs) (n := (n : Int)) (m := (m : Int)) (pieces := pieces) (by rw [he]; decide)
          have HE := Lib.hid (And.intro hs he)
          clear hb hps hbl he hs
          go_wp2_with fail
          go_ret2
          exact ⟨by rw [HE.out.1, HE.out.2]; rfl, HX2.out⟩
      · have eb : (((Cd.bitAt m k : Nat) : Int) == 1) = false := by rw [beq_eq_false_iff_ne]; omega
        have HB := Lib.hid hb
        clear hb
        go_wp2_with fail
        go_round
        case rel => exact ⟨k + 1, by omega, by go_num, fun j hj hbj => by
          by_cases hjk : j = k
          · rw [hjk] at hbj; exact absurd hbj HB.out
          · exact HI.out j (by omega) hbj⟩
        case measure => simp [intOf]; omega
    · obtain rfl : k = L := by omega
      have hbl : Cd.badLen (Cd.sizeN ((d : Int)).toNat ((n : Int)).toNat) ((m : Int)).toNat pieces = false := by
        rw [Int.toNat_natCast, Int.toNat_natCast, Int.toNat_natCast, ← Bool.not_eq_true, Cd.badLen_iff]
        rintro ⟨j, h1, h2, h3⟩
        rw [HF.out.2.2.2.2] at h3
        exact h3 (HI.out j (by rw [← HF.out.2.2.2.1]; exact h1) h2)
      have hcol := cCollect_pieces d m (Cd.rowsOf (d : Int) gs (gl : Int)) pieces _ PA cp w2 HT2.out HV2.out (fun r hr => Cd.rowsOf_width HF.out.1 hr) hd1 hd16 (by rw [HF.out.2.2.1]; exact hL0) (by rw [HF.out.2.2.1]; exact hL24) (by rw [HF.out.2.2.1]; exact HML.out) HP2.out (by rw [HF.out.2.2.1]; exact HF.out.2.2.2.1) HPM.out
      rw [HF.out.2.2.1, HF.out.2.2.2.1] at hcol
      have HCOL := Lib.hid hcol
      have HBL := Lib.hid hbl
      clear hcol hbl
      go_wp2_with fail
      refine HCOL.out.mono ?_
      rintro e w3 ⟨P, rfl, hS⟩
      have hgood := Cd.col_good HF.out.1 m pieces
      have hcd := Cd.can_def (d := (d : Int)) (gl := (gl : Int)) (gs := gs) (m := m)
      rw [Int.toNat_natCast] at hgood hcd
      have HX3 := Lib.hid (HX2.out.trans hS.ext)
      by_cases hc : Cd.can (d : Int) (gl : Int) gs (m : Int) = true
      · have hlen : (Cd.col d (Cd.rowsOf (d : Int) gs (gl : Int)) m pieces).1.length = d := by rw [hgood.2]; exact (hcd.1 hc).2.2
        rw [if_pos hlen]
        have hst : Gf.Stairs d (Cd.col d (Cd.rowsOf (d : Int) gs (gl : Int)) m pieces).1 := hgood.1
        have htri := Cd.col_tri HF.out.1 hc pieces
        rw [Int.toNat_natCast] at htri
        have hcl : (Cd.col d (Cd.rowsOf (d : Int) gs (gl : Int)) m pieces).2.length = d := by
          have h1 : (Cd.col d (Cd.rowsOf (d : Int) gs (gl : Int)) m pieces).2.length = (Cd.col d (Cd.rowsOf (d : Int) gs (gl : Int)) m pieces).1.length := Cd.colTo_len _ _ _
          rw [h1, hlen]
        have hev : Cd.Even sz (Cd.col d (Cd.rowsOf (d : Int) gs (gl : Int)) m pieces).2 := Cd.colTo_even m pieces (fun j hj hbj => HI.out j (by rw [← HF.out.2.2.1]; exact hj) hbj) _ (Nat.le_refl _)
        have hsv := fun j hj => Cd.solved_even (L := sz) HF.out.1 hc (pieces := pieces) (fun j hj hbj => HI.out j (by rw [← HF.out.2.2.1]; exact hj) hbj) (i := j) hj
        have hsl := Cd.solved_len (d : Int) (gl : Int) gs m pieces
        rw [Int.toNat_natCast] at hsv hsl
        have hsd : Cd.solved (d : Int) (gl : Int) gs m pieces = Cd.sol (Cd.byOrd (Cd.col d (Cd.rowsOf (d : Int) gs (gl : Int)) m pieces).1 (Cd.ordTo (Cd.col d (Cd.rowsOf (d : Int) gs (gl : Int)) m pieces).1 d)) (Cd.byOrd (Cd.col d (Cd.rowsOf (d : Int) gs (gl : Int)) m pieces).2 (Cd.ordTo (Cd.col d (Cd.rowsOf (d : Int) gs (gl : Int)) m pieces).1 d)) d := by
          rw [Cd.solved, Int.toNat_natCast]
        have hsorted := cSorted_any w3 P d _ _ (HT2.out.ext hS.ext) (hS.toRd (fun r hr => by rw [hst.len r hr]; omega) (by rw [hlen]; omega)) hd16 hst hlen hcl (fun q hq => by rw [hev q hq]; omega) htri
        rw [← hsd] at hsorted
        have HSORT := Lib.hid hsorted
        have HCAN := Lib.hid hc
        have HSV := Lib.hid (And.intro hsv hsl)
        have HS3 := Lib.hid hS.ext
        clear hgood hcd hc hlen hst htri hcl hev hsv hsl hsd hsorted hS
        go_wp2_with fail
        refine HSORT.out.mono ?_
        rintro e w4 ⟨sv4, rfl, hv4, hx4⟩
        obtain ⟨SA, cS, rfl, _⟩ := hv4.form
        rw [HSV.out.2]
        have HV4 := Lib.hid hv4
        have HX4 := Lib.hid (HX3.out.trans hx4)
        have HS4 := Lib.hid (HS3.out.trans hx4)
        clear hv4 hx4
        go_wp2_with fail
        obtain ⟨Z, hZ⟩ : ∃ Z, Cd.solved (d : Int) (gl : Int) gs m pieces = Z := ⟨_, rfl⟩
        have hsv := HSV.out
        rw [hZ] at hsv
        have hv5 := HV4.out
        rw [hZ] at hv5
        have HZ := Lib.hid hZ
        have HSZ := Lib.hid hsv
        have HV5 := Lib.hid hv5
        clear hsv hv5 hZ
        obtain ⟨i0, hi, hz0, hz1, hz2⟩ := info_parts info_u8
        have hszd : d * sz ≤ 65536 := by
          have := Nat.mul_le_mul hd16 (show sz ≤ 4096 by omega)
          omega
        go_loopw [16, 86] (fun vf vx wr => ∃ (i : Nat) (v : Value), i ≤ d ∧ vx = .int .i64 i ∧ vf = v ∧ Hid (wr.ownsRow w4.heap.size 5 1 v (i * sz) (((Z.take i).flatten).map bv) ∧ Ext w4 wr)) (fun _ vx _ => d - (intOf vx).toNat)
        case atStart => exact ⟨0, _, Nat.zero_le _, rfl, rfl, by rw [Nat.zero_mul]; exact ⟨World.ownsRow_nil _ _ _ _, Ext.refl _⟩⟩
        case round =>
          obtain ⟨i, v, hi2, rfl, rfl, HJ⟩ := hrel
          by_cases hli : i < d
          · obtain ⟨zd, u, rfl, hzc, hu⟩ := HV5.out.at (i := i) (by rw [HSZ.out.2]; exact hli)
            have hu' : u = sv (Z[i]'(by rw [HSZ.out.2]; exact hli)) := hu
            subst hu'
            have hzl := HSZ.out.1 i hli
            have hgz : Z.getD i [] = Z[i]'(by rw [HSZ.out.2]; exact hli) := by rw [List.getD_eq_getElem?_getD, List.getElem?_eq_getElem (by rw [HSZ.out.2]; exact hli)]; rfl
            rw [hgz] at hzl
            have hfl : ((Z.take (i + 1)).flatten).map bv = ((Z.take i).flatten).map bv ++ Lib.strCells (sb (Z[i]'(by rw [HSZ.out.2]; exact hli))) := by
              rw [List.take_succ_eq_append_getElem (by rw [HSZ.out.2]; exact hli), List.flatten_append, List.map_append, strCells_sb]
              simp
            have hzc2 := HJ.out.2.cell hzc
            obtain ⟨z, hz⟩ : ∃ z, Z[i]'(by rw [HSZ.out.2]; exact hli) = z := ⟨_, rfl⟩
            rw [hz] at hzl hfl hzc2
            have hss : (sb z).size = sz := by rw [size_sb, hzl]
            have him : (i + 1) * sz ≤ d * sz := Nat.mul_le_mul_right sz hli
            rw [Nat.succ_mul] at him
            have HFL := Lib.hid (And.intro hfl hss)
            clear hfl hss hgz hz hzc hu hzl
            go_wp2_with (refine Lib.wpList_append_own_string _ rfl (.tmp 90) (.tmp 91) 48 9 rfl w4.heap.size 5 i0 Tryd.underlying48 Tryd.underlying9 hi hz0 hz1 hz2 _ (i * sz) _ rfl HJ.out.1 (sb z) rfl (by rw [HFL.out.2]; unfold maxLen; omega) (by rw [HFL.out.2]; omega) HJ.out.2.size ?_; intro v' w' ho hg _)
            go_roundw
            case rel => exact ⟨i + 1, v', by omega, by go_num, rfl, by have h9 := ho; rw [HFL.out.2] at h9; rw [HFL.out.1, Nat.succ_mul]; exact ⟨h9, HJ.out.2.grown hg (fun k hk => own_ge HJ.out.1 k hk)⟩⟩
            case measure => simp [intOf]; omega
          · obtain rfl : i = d := by omega
            have hfull : (Z.take i).flatten = Z.flatten := by rw [← HSZ.out.2, List.take_length]
            have hown := HJ.out.1
            rw [hfull] at hown
            obtain ⟨FA, cF, rfl⟩ := own_form hown
            have hge := Cd.size_ge (d := i) (by omega) n
            rw [HF.out.2.2.2.2] at hge
            obtain ⟨N, hN⟩ : ∃ N, i * sz = N := ⟨_, rfl⟩
            rw [hN] at hown hge hszd
            rw [hN]
            have hNc : N ≤ cF := by
              rcases hown.2 with ⟨h1, h2⟩ | ⟨g, cap, cur, h1, _, _, h2, _⟩
              · injection h1 with _ h3 h4
                omega
              · injection h1 with _ _ h4
                omega
            have HOW := Lib.hid hown
            have HFU := Lib.hid hfull
            have HX5 := Lib.hid (HX4.out.trans HJ.out.2)
            clear hown hfull hN
            have hc0 : wr.cell? ⟨w.heap.size, 0, none⟩ = some (.int .i64 i) := HJ.out.2.cell (HS4.out.cell (HX12.out.cell HC1.out.1))
            have hc1 : wr.cell? ⟨w.heap.size, 1, none⟩ = some (.slice A gs.length c) := HJ.out.2.cell (HS4.out.cell (HX12.out.cell HC1.out.2.1))
            have hc2 : wr.cell? ⟨w.heap.size, 2, none⟩ = some (.int .i64 gl) := HJ.out.2.cell (HS4.out.cell (HX12.out.cell HC1.out.2.2))
            go_wp2_with fail
            have q1 : (n : Int) ≤ (cF : Int) := by omega
            have q2 : n ≤ cF := by omega
            have htk : (Z.flatten).length = N := by have h := HOW.out.1; rw [List.length_map, Nat.mul_one] at h; exact h
            have hcv := fun (A : Option Addr) (hA : A = FA) => str_u8 (w := wr.drew) (A := A) (c := cF) (n := n) (l := Z.flatten.take n) (by rw [List.length_take, htk]; omega) (by
              subst hA
              have h1 := (own_rd HOW.out).ext (Ext.refl wr).drew
              intro k x hx
              rw [List.map_take] at hx
              exact h1 k x (by rw [List.getElem?_take] at hx; split at hx; exact hx; cases hx))
            have hcv2 := hcv FA rfl
            have HTK := Lib.hid htk
            have HGW := Lib.hid (Rs.ext (Rs.ext RI.ext) _ _ _ _ (HX12.out.trans (HS4.out.trans HJ.out.2)) HG1.out)
            have HTW := Lib.hid (HT2.out.ext (HS4.out.trans HJ.out.2))
            clear hcv htk
            go_region_law (go_simp; refine (cEncode_any (i : Int) (gl : Int) gs (Z.flatten.take n) _ _ (HTW.out.ext (Ext.refl wr).drew) (Rs.ext (Rs.ext RI.ext) _ _ _ _ (Ext.refl wr).drew HGW.out) (by rw [List.length_take]; omega)).mono ?_; rintro e w6 ⟨v6, rfl, hv6, hx6⟩; dsimp only; have HV6 := Lib.hid hv6; have HX6 := Lib.hid hx6; clear hv6 hx6)
            all_goals
              obtain ⟨EA, cE, rfl, _⟩ := HV6.out.form
              have hE : Cd.encL (i : Int) (gl : Int) gs (Z.flatten.take n) = Cd.encode (i : Int) (gl : Int) gs (Z.flatten.take n) := Cd.encL_ok HF.out.1 (by rw [List.length_take]; omega)
              have hEl : (Cd.encode (i : Int) (gl : Int) gs (Z.flatten.take n)).length = k := by rw [Cd.encode_len]; exact HF.out.2.2.1
              have hv6 := HV6.out
              rw [hE] at hv6 ⊢
              obtain ⟨E, hEE⟩ : ∃ E, Cd.encode (i : Int) (gl : Int) gs (Z.flatten.take n) = E := ⟨_, rfl⟩
              rw [hEE] at hv6 hEl ⊢
              rw [hEl] at hv6 ⊢
              have HE6 := Lib.hid (And.intro hv6 (And.intro hEl hEE))
              have HX26 := Lib.hid (HS4.out.trans (HJ.out.2.drew.trans HX6.out))
              have HP6 := Lib.hid (Rs.ext RS.ext _ _ _ _ HX26.out HP2.out)
              clear hE hEl hv6 hEE hc0 hc1 hc2 hcv2 HV6
              go_wp2_with fail
              go_loop [105] (fun vk => ∃ j : Nat, j ≤ k ∧ vk = .int .i64 j ∧ Hid (∀ x, x < j → Cd.bitAt m x = 1 → E.getD x [] = pieces.getD x [])) (fun vk => k - (intOf vk).toNat)
              case atStart => exact ⟨0, Nat.zero_le _, rfl, fun j hj => absurd hj (by omega)⟩
              case round =>
                obtain ⟨j, hj2, rfl, HY⟩ := hrel
                by_cases hltj : j < k
                · obtain ⟨pd, u, rfl, hpc, hu⟩ := HP6.out.at (i := j) (by rw [HF.out.2.2.2.1]; exact hltj)
                  have hu' : u = sv (pieces[j]'(by rw [HF.out.2.2.2.1]; exact hltj)) := hu
                  subst hu'
                  have hgp : pieces.getD j [] = pieces[j]'(by rw [HF.out.2.2.2.1]; exact hltj) := by rw [List.getD_eq_getElem?_getD, List.getElem?_eq_getElem (by rw [HF.out.2.2.2.1]; exact hltj)]; rfl
                  obtain ⟨ed, u2, rfl, hec, hu2⟩ := HE6.out.1.at (i := j) (by rw [HE6.out.2.1]; exact hltj)
                  have hu2' : u2 = sv (E[j]'(by rw [HE6.out.2.1]; exact hltj)) := hu2
                  subst hu2'
                  have hge2 : E.getD j [] = E[j]'(by rw [HE6.out.2.1]; exact hltj) := by rw [List.getD_eq_getElem?_getD, List.getElem?_eq_getElem (by rw [HE6.out.2.1]; exact hltj)]; rfl
                  have hmm : bits .and .i64 ((m : Int) / 2 ^ j) 1 = ((Cd.bitAt m j : Nat) : Int) := by
                    have hle : m / 2 ^ j ≤ m := Nat.div_le_self _ _
                    have := odd64 (m / 2 ^ j) (by omega)
                    rw [Cd.bitAt, ← this]
                    simp
                  obtain ⟨p, hp⟩ : ∃ p, pieces[j]'(by rw [HF.out.2.2.2.1]; exact hltj) = p := ⟨_, rfl⟩
                  obtain ⟨e, he⟩ : ∃ e, E[j]'(by rw [HE6.out.2.1]; exact hltj) = e := ⟨_, rfl⟩
                  rw [hp] at hpc hgp
                  rw [he] at hec hge2
                  have HGP := Lib.hid (And.intro hgp hge2)
                  clear hgp hp hu he hge2 hu2
                  by_cases hb : Cd.bitAt m j = 1
                  · have HB := Lib.hid hb
                    rw [hb] at hmm
                    by_cases hep : e = p
                    · have HEP := Lib.hid hep
                      have hs := sb_same hep
                      clear hb hep
                      go_wp2_with fail
                      go_round
                      case rel => exact ⟨j + 1, by omega, by go_num, fun x hx hbx => by
                        by_cases hxj : x = j
                        · rw [hxj, HGP.out.1, HGP.out.2, HEP.out]
                        · exact HY.out x (by omega) hbx⟩
                      case measure => simp [intOf]; omega
                    · have hs := sb_other hep
                      have hbo : Cd.badOne ((m : Int)).toNat (Cd.encode (i : Int) (gl : Int) gs (Cd.chunkOf (i : Int) (gl : Int) gs ((n : Int)).toNat ((m : Int)).toNat pieces)) pieces = true := by
                        rw [Int.toNat_natCast, Int.toNat_natCast, Cd.chunkOf, HZ.out, HE6.out.2.2, Cd.badOne_iff]
                        exact ⟨j, by rw [HF.out.2.2.2.1]; exact hltj, hb, by rw [HGP.out.1, HGP.out.2]; exact hep⟩
                      have he := Cd.decE_bad HF.out.1 HF.out.2.1 HBL.out HCAN.out hbo
                      have hs2 := Cd.decS_no (d := (i : Int)) (gl := (gl : Int)) (gs := gs) (n := (n : Int)) (m := (m : Int)) (pieces := pieces) (by rw [he]; decide)
                      have HE := Lib.hid (And.intro hs2 he)
                      clear hb hep hbo he hs2
                      go_wp2_with fail
                      go_ret2
                      exact ⟨by rw [HE.out.1, HE.out.2]; rfl, HX5.out.drew.trans HX6.out⟩
                  · have eb : (((Cd.bitAt m j : Nat) : Int) == 1) = false := by rw [beq_eq_false_iff_ne]; omega
                    have HB := Lib.hid hb
                    clear hb
                    go_wp2_with fail
                    go_round
                    case rel => exact ⟨j + 1, by omega, by go_num, fun x hx hbx => by
                      by_cases hxj : x = j
                      · rw [hxj] at hbx; exact absurd hbx HB.out
                      · exact HY.out x (by omega) hbx⟩
                    case measure => simp [intOf]; omega
                · obtain rfl : j = k := by omega
                  have hbo : Cd.badOne ((m : Int)).toNat (Cd.encode (i : Int) (gl : Int) gs (Cd.chunkOf (i : Int) (gl : Int) gs ((n : Int)).toNat ((m : Int)).toNat pieces)) pieces = false := by
                    rw [Int.toNat_natCast, Int.toNat_natCast, Cd.chunkOf, HZ.out, HE6.out.2.2, ← Bool.not_eq_true, Cd.badOne_iff]
                    rintro ⟨x, h1, h2, h3⟩
                    exact h3 (HY.out x (by rw [← HF.out.2.2.2.1]; exact h1) h2)
                  have he := Cd.decE_ok HF.out.1 HF.out.2.1 HBL.out HCAN.out hbo
                  have hs2 := Cd.decS_ok he
                  rw [Int.toNat_natCast, Int.toNat_natCast, Cd.chunkOf, HZ.out] at hs2
                  have HE := Lib.hid (And.intro hs2 he)
                  have hcv6 := str_u8 (w := w6) (A := FA) (c := cF) (n := n) (l := Z.flatten.take n) (by rw [List.length_take, HTK.out]; omega) (by
                    have h1 := (own_rd HOW.out).ext ((Ext.refl wr).drew.trans HX6.out)
                    intro k x hx
                    rw [List.map_take] at hx
                    exact h1 k x (by rw [List.getElem?_take] at hx; split at hx; exact hx; cases hx))
                  clear hbo he hs2
                  go_wp2_with fail
                  go_ret2
                  exact ⟨by rw [HE.out.1, HE.out.2]; rfl, HX5.out.drew.trans HX6.out⟩
      · have hlen : ¬ (Cd.col d (Cd.rowsOf (d : Int) gs (gl : Int)) m pieces).1.length = d := fun h => hc (hcd.2 ⟨HF.out.1, by rw [HF.out.2.2.1]; exact HML.out, by rw [← hgood.2]; exact h⟩)
        rw [if_neg hlen]
        have hc2 : Cd.can (d : Int) (gl : Int) gs (m : Int) = false := by simpa using hc
        have he := Cd.decE_lost HF.out.1 HF.out.2.1 HBL.out hc2
        have hs := Cd.decS_no (d := (d : Int)) (gl := (gl : Int)) (gs := gs) (n := (n : Int)) (m := (m : Int)) (pieces := pieces) (by rw [he]; decide)
        have HE := Lib.hid (And.intro hs he)
        clear hS hgood hcd hc hlen hc2 he hs
        go_wp2_with fail
        go_ret2
        exact ⟨by rw [HE.out.1, HE.out.2]; rfl, HX3.out⟩
end Go.Proofs.YtggfkpalkdkbdaaDoor

/- `Decode`, whatever is given. -/
namespace Go.Proofs.YtggfkpalkdkbdaaDoor
open Go.RowKit
/-- `Decode`, whatever is given. -/
theorem cDecode_any (d gl n m : Int) (gs : List (List Int)) (pieces : List (List UInt8)) (G : Value) (PA : Option Addr) (cp : Nat) (w : World) (hT : Tab w) (hG : Rs (Rs RI) w G gs)
    (hP : Rs RS w (.slice PA pieces.length cp) pieces) (hpm : ∀ p ∈ pieces, p.length ≤ 140737488351232) :
    Calls Tryd.prog 23 #[.agg #[.int .i64 d, G, .int .i64 gl], .int .i64 n, .int .i64 m, .slice PA pieces.length cp] w fun e w' => e = .returned (.tuple #[.string (sb (Cd.decS d gl gs n m pieces)), .int .i64 (Cd.decE d gl gs n m pieces)]) ∧ Ext w w' := by
  by_cases h0 : Cd.check d gs gl = 0
  · cases hb : Cd.badArgs d gl gs n m pieces with
    | true =>
      have he := Cd.decE_arg h0 hb
      rw [Cd.decS_no (by rw [he]; decide), he]
      exact cDecode_arg d gl n m gs pieces G PA cp w hT hG h0 hb
    | false =>
      have hk := Cd.check_ok h0
      have hb2 := hb
      unfold Cd.badArgs at hb2
      rw [decide_eq_false_iff_not] at hb2
      obtain ⟨d', rfl⟩ : ∃ k : Nat, d = k := ⟨d.toNat, by omega⟩
      obtain ⟨gl', rfl⟩ : ∃ k : Nat, gl = k := ⟨gl.toNat, by omega⟩
      obtain ⟨n', rfl⟩ : ∃ k : Nat, n = k := ⟨n.toNat, by omega⟩
      obtain ⟨m', rfl⟩ : ∃ k : Nat, m = k := ⟨m.toNat, by omega⟩
      exact cDecode_in d' gl' n' m' gs pieces G PA cp w hT hG h0 hb hP hpm
  · have he := Cd.decE_no (n := n) (m := m) (pieces := pieces) h0
    rw [Cd.decS_no (by rw [he]; exact h0), he]
    exact cDecode_no d gl n m gs pieces G PA cp w hT hG h0
end Go.Proofs.YtggfkpalkdkbdaaDoor

/- THE WALK over Locate (package locate). -/
namespace Lo
open Gf Cd
/-- What Locate returns. -/
def locR (d gl : Int) (gs : List (List Int)) (n m : Int) (pieces : List (List UInt8)) (wrong : Int) : List UInt8 × Int × Int :=
  if givE d gl gs n m pieces ≠ 0 then ([], 0, givE d gl gs n m pieces)
  else if corE d gl gs m wrong ≠ 0 then ([], 0, corE d gl gs m wrong)
  else if corB d gl gs m wrong = false then ([], 0, 4)
  else match locP (decO d gl gs n.toNat pieces) m.toNat (rowsOf d gs gl).length wrong.toNat with
    | some (s, t) => (s, ((t : Nat) : Int), 0)
    | none => ([], 0, 17)
section
variable {d gl n m wrong : Int} {gs : List (List Int)} {pieces : List (List UInt8)}
theorem locR_bad (h : givE d gl gs n m pieces ≠ 0) : locR d gl gs n m pieces wrong = ([], 0, givE d gl gs n m pieces) := if_pos h
theorem locR_cor (h : givE d gl gs n m pieces = 0) (h2 : corE d gl gs m wrong ≠ 0) : locR d gl gs n m pieces wrong = ([], 0, corE d gl gs m wrong) := by unfold locR; rw [if_neg (by rw [h]; simp), if_pos h2]
theorem locR_state (h : givE d gl gs n m pieces = 0) (h2 : corE d gl gs m wrong = 0) (h3 : corB d gl gs m wrong = false) : locR d gl gs n m pieces wrong = ([], 0, 4) := by unfold locR; rw [if_neg (by rw [h]; simp), if_neg (by rw [h2]; simp), if_pos h3]
theorem locR_some (h : givE d gl gs n m pieces = 0) (h2 : corE d gl gs m wrong = 0) (h3 : corB d gl gs m wrong = true) {s : List UInt8} {t : Nat} (h4 : locP (decO d gl gs n.toNat pieces) m.toNat (rowsOf d gs gl).length wrong.toNat = some (s, t)) : locR d gl gs n m pieces wrong = (s, ((t : Nat) : Int), 0) := by
  unfold locR; rw [if_neg (by rw [h]; simp), if_neg (by rw [h2]; simp), if_neg (by rw [h3]; simp), h4]
theorem locR_none (h : givE d gl gs n m pieces = 0) (h2 : corE d gl gs m wrong = 0) (h3 : corB d gl gs m wrong = true) (h4 : locP (decO d gl gs n.toNat pieces) m.toNat (rowsOf d gs gl).length wrong.toNat = none) : locR d gl gs n m pieces wrong = ([], 0, 17) := by
  unfold locR; rw [if_neg (by rw [h]; simp), if_neg (by rw [h2]; simp), if_neg (by rw [h3]; simp), h4]
theorem locP_miss {α : Type} {dec : Nat → Option α} {m N w : Nat} (h : ∀ z ∈ parts m N w, dec (m - z) = none) : locP dec m N w = none := by
  unfold locP
  rw [List.findSome?_eq_none_iff]
  intro z hz
  rw [h z hz]; rfl
theorem locP_hit {α : Type} {dec : Nat → Option α} {m N w : Nat} {pre : List Nat} {t : Nat} {s : α} (hp : pre ++ [t] <+: parts m N w) (h : ∀ z ∈ pre, dec (m - z) = none) (h2 : dec (m - t) = some s) : locP dec m N w = some (s, t) := by
  unfold locP
  obtain ⟨r, hr⟩ := hp
  rw [← hr, List.findSome?_append, List.findSome?_append]
  have h1 : pre.findSome? (fun t => (dec (m - t)).map fun s => (s, t)) = none := by
    rw [List.findSome?_eq_none_iff]
    intro z hz
    rw [h z hz]; rfl
  rw [h1]
  simp [h2]
/-- A number of errors that Corrects lets by. -/
theorem cor_fine (h : corE d gl gs m wrong = 0) : ∃ k : Nat, wrong = k ∧ k ≤ 2 := by
  by_cases h1 : chkE d gl gs m = 0
  · by_cases h2 : wrong < 0 ∨ 2 < wrong
    · have := (cor_range h1 h2).2; omega
    · exact ⟨wrong.toNat, by omega, by omega⟩
  · have := (cor_bad (wrong := wrong) h1).2; omega
end
end Lo
namespace Go.Proofs.YtggfkpalkdkbdaaDoor
open Go.RowKit Go.Shelf
attribute [local go_sem] Oper.semAt_some
theorem results_cells3L {P : Program} {fn : Func} {a b c : Tmp} {t1 t2 t3 : TypeId} (h : fn.results = #[.cell a t1, .cell b t2, .cell c t3]) {tmps : Array Value} {p1 p2 p3 : Addr} {v1 v2 v3 : Value} {w : World} (ha : tmps.getD a undef = .pointer (some p1)) (hb : tmps.getD b undef = .pointer (some p2)) (hc : tmps.getD c undef = .pointer (some p3))
    (h1 : (loadVar t1 p1).run P w = .ok v1 w) (h2 : (loadVar t2 p2).run P w = .ok v2 w) (h3 : (loadVar t3 p3).run P w = .ok v3 w) : (results fn tmps).run P w = .ok (.tuple #[v1, v2, v3]) w := by
  rw [Array.getD_eq_getD_getElem?] at ha hb hc
  simp [results, h, asAddr, ha, hb, hc, h1, h2, h3]
set_option maxHeartbeats 16000000 in
set_option maxRecDepth 100000 in
theorem lLocate_any (d gl n m wrong : Int) (gs : List (List Int)) (pieces : List (List UInt8)) (G : Value) (PA : Option Addr) (cp : Nat) (w : World) (hT : Tab w) (hG : Rs (Rs RI) w G gs) (hP : Rs RS w (.slice PA pieces.length cp) pieces) (hpm : ∀ p ∈ pieces, p.length ≤ 140737488351232) (hN : Cd.check d gs gl = 0 → (Cd.rowsOf d gs gl).length ≤ 14) :
    Calls Tryd.prog 15 #[.agg #[.int .i64 d, G, .int .i64 gl], .int .i64 n, .int .i64 m, .slice PA pieces.length cp, .int .i64 wrong] w fun e w' => e = .returned (.tuple #[.string (sb (Lo.locR d gl gs n m pieces wrong).1), .int .i64 (Lo.locR d gl gs n m pieces wrong).2.1, .int .i64 (Lo.locR d gl gs n m pieces wrong).2.2]) ∧ Ext w w' := by
  obtain ⟨GA, Gc, rfl, _⟩ := hG.form
  obtain ⟨ng, hng⟩ : ∃ ng, gs.length = ng := ⟨_, rfl⟩
  rw [hng] at hG ⊢
  obtain ⟨pl, hpl⟩ : ∃ pl, pieces.length = pl := ⟨_, rfl⟩
  rw [hpl] at hP ⊢
  have hB : Owns w ((((((w.alloc (.cells #[.int .i64 d, .slice GA ng Gc, .int .i64 gl] 24)).alloc (.cells #[.int .i64 n] 3)).alloc (.cells #[.slice PA pl cp] 34)).alloc (.cells #[.string ⟨#[]⟩] 9)).alloc (.cells #[.int .i64 0] 3)).alloc (.cells #[.int .i64 0] 27)) [⟨.slice (some ⟨w.heap.size, 0, none⟩) 3 3, 24, 1, 3, [.int .i64 d, .slice GA ng Gc, .int .i64 gl]⟩, ⟨.slice (some ⟨(w.alloc (.cells #[.int .i64 d, .slice GA ng Gc, .int .i64 gl] 24)).heap.size, 0, none⟩) 1 1, 3, 1, 1, [.int .i64 n]⟩, ⟨.slice (some ⟨((w.alloc (.cells #[.int .i64 d, .slice GA ng Gc, .int .i64 gl] 24)).alloc (.cells #[.int .i64 n] 3)).heap.size, 0, none⟩) 1 1, 34, 1, 1, [.slice PA pl cp]⟩, ⟨.slice (some ⟨(((w.alloc (.cells #[.int .i64 d, .slice GA ng Gc, .int .i64 gl] 24)).alloc (.cells #[.int .i64 n] 3)).alloc (.cells #[.slice PA pl cp] 34)).heap.size, 0, none⟩) 1 1, 9, 1, 1, [.string ⟨#[]⟩]⟩, ⟨.slice (some ⟨((((w.alloc (.cells #[.int .i64 d, .slice GA ng Gc, .int .i64 gl] 24)).alloc (.cells #[.int .i64 n] 3)).alloc (.cells #[.slice PA pl cp] 34)).alloc (.cells #[.string ⟨#[]⟩] 9)).heap.size, 0, none⟩) 1 1, 3, 1, 1, [.int .i64 0]⟩, ⟨.slice (some ⟨(((((w.alloc (.cells #[.int .i64 d, .slice GA ng Gc, .int .i64 gl] 24)).alloc (.cells #[.int .i64 n] 3)).alloc (.cells #[.slice PA pl cp] 34)).alloc (.cells #[.string ⟨#[]⟩] 9)).alloc (.cells #[.int .i64 0] 3)).heap.size, 0, none⟩) 1 1, 27, 1, 1, [.int .i64 0]⟩] := (((((((Owns.start w (L := [no, no, no, no, no, no]) (by intro r hr; simp at hr; subst hr; exact ⟨rfl, rfl, rfl⟩)).new 0 #[.int .i64 d, .slice GA ng Gc, .int .i64 gl] 24 (by simp [maxLen])).new 1 #[.int .i64 n] 3 (by simp [maxLen])).new 2 #[.slice PA pl cp] 34 (by simp [maxLen])).new 3 #[.string ⟨#[]⟩] 9 (by simp [maxLen])).new 4 #[.int .i64 0] 3 (by simp [maxLen])).new 5 #[.int .i64 0] 27 (by simp [maxLen]))
  simp only [World.size_alloc] at hB
  have hgv := lGiven_any d gl n m gs pieces _ PA cp _ (Rs.ext (Rs.ext RI.ext) _ _ _ _ hB.ext hG) (by rw [hpl]; exact Rs.ext RS.ext _ _ _ _ hB.ext hP)
  rw [hpl] at hgv
  have HGV := Lib.hid hgv
  have HG := Lib.hid hG
  have HP := Lib.hid (And.intro hP (And.intro hpl hpm))
  have HT := Lib.hid hT
  have HB := Lib.hid hB
  have HN := Lib.hid hN
  clear hG hP hT hB hN hng hpl hgv hpm
  refine (callsIn_wide (n := 40)).1 ?_
  refine callsIn_of_wp_marks Tryd.func15 rfl trivial ?_ rfl
  simp only [Tryd.ntmps15, List.size_toArray, List.length_cons, List.length_nil, Nat.reduceAdd, Nat.reduceSub, Array.replicate_succ, Array.replicate_zero, List.push_toArray, List.append_toArray, List.nil_append, List.cons_append]
  gi_wp2_with fail
  refine ⟨trivial, (callsIn_wide.2 HGV.out).mono ?_⟩
  clear HGV
  rintro e w2 ⟨rfl, hx2⟩
  obtain ⟨C, hC⟩ : ∃ C, w.heap.size = C := ⟨_, rfl⟩
  obtain ⟨NB, hNB⟩ : ∃ B, C + 1 = B := ⟨_, rfl⟩
  obtain ⟨PB, hPB⟩ : ∃ B, NB + 1 = B := ⟨_, rfl⟩
  obtain ⟨SR, hSR⟩ : ∃ B, PB + 1 = B := ⟨_, rfl⟩
  obtain ⟨BR, hBR⟩ : ∃ B, SR + 1 = B := ⟨_, rfl⟩
  obtain ⟨ER, hER⟩ : ∃ B, BR + 1 = B := ⟨_, rfl⟩
  rw [hC, hNB, hPB, hSR, hBR, hER] at HB
  rw [hC, hNB, hPB, hSR, hBR, hER]
  have HSZ := Lib.hid (And.intro hC (And.intro hNB (And.intro hPB (And.intro hSR (And.intro hBR hER)))))
  have hHBS := HB.out.ext.size
  have HB2 := Lib.hid (HB.out.next hx2)
  have hw1 := Nat.lt_of_lt_of_le ((HB.out.row 5 rfl).lt ER rfl).2 hx2.size
  have HER2 := Lib.hid hw1
  clear hx2 HB hC hNB hPB hSR hBR hER hHBS hw1
  obtain ⟨er, her⟩ : ∃ er, Lo.givE d gl gs n m pieces = er := ⟨_, rfl⟩
  rw [her]
  have HGE := Lib.hid her
  clear her
  by_cases h0 : er = 0
  case neg =>
    have hne : (er == 0) = false := by rw [beq_eq_false_iff_ne]; exact h0
    have hne2 : (er != 0) = true := by rw [bne_iff_ne]; exact h0
    have HR : Hid (Lo.locR d gl gs n m pieces wrong = ([], 0, er)) := Lib.hid (by rw [Lo.locR_bad (by rw [HGE.out]; exact h0), HGE.out])
    clear h0
    have hS := (((HB2.out.store 3 rfl 0 (.string ⟨#[]⟩)).store 4 rfl 0 (.int .i64 0)).store 5 rfl 0 (.int .i64 er))
    have b30 : w2.cell? ⟨SR, 0, none⟩ = some (.string ⟨#[]⟩) := HB2.out.cell 3 rfl 0 rfl
    have b40 : w2.cell? ⟨BR, 0, none⟩ = some (.int .i64 0) := HB2.out.cell 4 rfl 0 rfl
    have b50 : w2.cell? ⟨ER, 0, none⟩ = some (.int .i64 0) := HB2.out.cell 5 rfl 0 rfl
    have f3 : w2.frozen? ⟨SR, 0, none⟩ = false := HB2.out.frozen 3 rfl 0
    have f4 : w2.frozen? ⟨BR, 0, none⟩ = false := HB2.out.frozen 4 rfl 0
    have f5 : w2.frozen? ⟨ER, 0, none⟩ = false := HB2.out.frozen 5 rfl 0
    have nSRBR : SR ≠ BR := by have := HSZ.out; omega
    have nSRER : SR ≠ ER := by have := HSZ.out; omega
    have nBRSR : BR ≠ SR := by have := HSZ.out; omega
    have nBRER : BR ≠ ER := by have := HSZ.out; omega
    have nERSR : ER ≠ SR := by have := HSZ.out; omega
    have nERBR : ER ≠ BR := by have := HSZ.out; omega
    have HS := Lib.hid hS
    clear hS
    gi_wp2_with fail
    try rw [Exit.noGoto_ret]
    have r3 := HS.out.cell 3 rfl 0 rfl
    have r4 := HS.out.cell 4 rfl 0 rfl
    have r5 := HS.out.cell 5 rfl 0 rfl
    refine ⟨_, results_cells3L (v1 := .string ⟨#[]⟩) (v2 := .int .i64 0) (v3 := .int .i64 er) rfl rfl rfl rfl ?_ ?_ ?_, ?_⟩
    · go_simp
    · go_simp
    · go_simp
    exact ⟨by rw [HR.out]; rfl, HS.out.ext⟩
  case pos =>
    subst h0
    have HCR := Lib.hid (lCorrects_any d gl gs m wrong _ w2 (HT.out.ext HB2.out.ext) (Rs.ext (Rs.ext RI.ext) _ _ _ _ HB2.out.ext HG.out) HN.out)
    have b00 : w2.cell? ⟨C, 0, none⟩ = some (.int .i64 d) := HB2.out.cell 0 rfl 0 rfl
    have b01 : w2.cell? ⟨C, 1, none⟩ = some (.slice GA ng Gc) := HB2.out.cell 0 rfl 1 rfl
    have b02 : w2.cell? ⟨C, 2, none⟩ = some (.int .i64 gl) := HB2.out.cell 0 rfl 2 rfl
    gi_wp2_with fail
    refine ⟨trivial, (callsIn_wide.2 HCR.out).mono ?_⟩
    clear HCR
    rintro e w3 ⟨rfl, hx3⟩
    have HER3 := Lib.hid (Nat.lt_of_lt_of_le HER2.out hx3.size)
    replace HB2 := Lib.hid (HB2.out.next hx3)
    clear b00 b01 b02 hx3
    obtain ⟨ce, hce⟩ : ∃ ce, Lo.corE d gl gs m wrong = ce := ⟨_, rfl⟩
    obtain ⟨cb, hcb⟩ : ∃ cb, Lo.corB d gl gs m wrong = cb := ⟨_, rfl⟩
    rw [hce, hcb]
    have HCE := Lib.hid (And.intro hce hcb)
    clear hce hcb
    by_cases h1 : ce = 0
    case neg =>
      have hne : (ce == 0) = false := by rw [beq_eq_false_iff_ne]; exact h1
      have hne2 : (ce != 0) = true := by rw [bne_iff_ne]; exact h1
      have HR : Hid (Lo.locR d gl gs n m pieces wrong = ([], 0, ce)) := Lib.hid (by rw [Lo.locR_cor HGE.out (by rw [HCE.out.1]; exact h1), HCE.out.1])
      clear h1
      have hS := (((HB2.out.store 3 rfl 0 (.string ⟨#[]⟩)).store 4 rfl 0 (.int .i64 0)).store 5 rfl 0 (.int .i64 ce))
      have b30 : w3.cell? ⟨SR, 0, none⟩ = some (.string ⟨#[]⟩) := HB2.out.cell 3 rfl 0 rfl
      have b40 : w3.cell? ⟨BR, 0, none⟩ = some (.int .i64 0) := HB2.out.cell 4 rfl 0 rfl
      have b50 : w3.cell? ⟨ER, 0, none⟩ = some (.int .i64 0) := HB2.out.cell 5 rfl 0 rfl
      have f3 : w3.frozen? ⟨SR, 0, none⟩ = false := HB2.out.frozen 3 rfl 0
      have f4 : w3.frozen? ⟨BR, 0, none⟩ = false := HB2.out.frozen 4 rfl 0
      have f5 : w3.frozen? ⟨ER, 0, none⟩ = false := HB2.out.frozen 5 rfl 0
      have nSRBR : SR ≠ BR := by have := HSZ.out; omega
      have nSRER : SR ≠ ER := by have := HSZ.out; omega
      have nBRSR : BR ≠ SR := by have := HSZ.out; omega
      have nBRER : BR ≠ ER := by have := HSZ.out; omega
      have nERSR : ER ≠ SR := by have := HSZ.out; omega
      have nERBR : ER ≠ BR := by have := HSZ.out; omega
      have HS := Lib.hid hS
      clear hS
      gi_wp2_with fail
      try rw [Exit.noGoto_ret]
      have r3 := HS.out.cell 3 rfl 0 rfl
      have r4 := HS.out.cell 4 rfl 0 rfl
      have r5 := HS.out.cell 5 rfl 0 rfl
      refine ⟨_, results_cells3L (v1 := .string ⟨#[]⟩) (v2 := .int .i64 0) (v3 := .int .i64 ce) rfl rfl rfl rfl ?_ ?_ ?_, ?_⟩
      · go_simp
      · go_simp
      · go_simp
      exact ⟨by rw [HR.out]; rfl, HS.out.ext⟩
    case pos =>
      subst h1
      cases cb with
      | false =>
        have HR : Hid (Lo.locR d gl gs n m pieces wrong = ([], 0, 4)) := Lib.hid (Lo.locR_state HGE.out HCE.out.1 HCE.out.2)
        have hS := (((HB2.out.store 3 rfl 0 (.string ⟨#[]⟩)).store 4 rfl 0 (.int .i64 0)).store 5 rfl 0 (.int .i64 4))
        have b30 : w3.cell? ⟨SR, 0, none⟩ = some (.string ⟨#[]⟩) := HB2.out.cell 3 rfl 0 rfl
        have b40 : w3.cell? ⟨BR, 0, none⟩ = some (.int .i64 0) := HB2.out.cell 4 rfl 0 rfl
        have b50 : w3.cell? ⟨ER, 0, none⟩ = some (.int .i64 0) := HB2.out.cell 5 rfl 0 rfl
        have f3 : w3.frozen? ⟨SR, 0, none⟩ = false := HB2.out.frozen 3 rfl 0
        have f4 : w3.frozen? ⟨BR, 0, none⟩ = false := HB2.out.frozen 4 rfl 0
        have f5 : w3.frozen? ⟨ER, 0, none⟩ = false := HB2.out.frozen 5 rfl 0
        have nSRBR : SR ≠ BR := by have := HSZ.out; omega
        have nSRER : SR ≠ ER := by have := HSZ.out; omega
        have nBRSR : BR ≠ SR := by have := HSZ.out; omega
        have nBRER : BR ≠ ER := by have := HSZ.out; omega
        have nERSR : ER ≠ SR := by have := HSZ.out; omega
        have nERBR : ER ≠ BR := by have := HSZ.out; omega
        have HS := Lib.hid hS
        clear hS
        gi_wp2_with fail
        try rw [Exit.noGoto_ret]
        have r3 := HS.out.cell 3 rfl 0 rfl
        have r4 := HS.out.cell 4 rfl 0 rfl
        have r5 := HS.out.cell 5 rfl 0 rfl
        refine ⟨_, results_cells3L (v1 := .string ⟨#[]⟩) (v2 := .int .i64 0) (v3 := .int .i64 4) rfl rfl rfl rfl ?_ ?_ ?_, ?_⟩
        · go_simp
        · go_simp
        · go_simp
        exact ⟨by rw [HR.out]; rfl, HS.out.ext⟩
      | true =>
        obtain ⟨K, rfl, hK2⟩ := Lo.cor_fine HCE.out.1
        obtain ⟨N, M, rfl, rfl, hwl⟩ := Lo.well HGE.out
        have hck := Cd.check_ok hwl.chk
        have hR14 := HN.out hwl.chk
        obtain ⟨rn, hrn⟩ : ∃ rn, (Cd.rowsOf d gs gl).length = rn := ⟨_, rfl⟩
        have hMrn := hwl.set
        rw [hrn] at hR14 hMrn
        have HW := Lib.hid (And.intro hwl (And.intro hck (And.intro hrn (And.intro hMrn hR14))))
        clear hwl hck hR14 hrn hMrn
        gi_wp2_with fail
        refine ⟨trivial, (callsIn_wide.2 (without_any (M : Int) (K : Int) w3)).mono ?_⟩
        rintro e w8 ⟨rfl, rfl⟩
        gi_wp2_with fail
        obtain ⟨W2, hW2⟩ : ∃ W2, (w3.alloc (.cells #[.int .i64 (M : Nat)] 3)).alloc (.cells #[.int .i64 (K : Nat)] 3) = W2 := ⟨_, rfl⟩
        have hx2 : Ext w3 W2 := by subst hW2; exact ((Ext.refl w3).alloc _).alloc _
        have hs2 : W2.heap.size = w3.heap.size + 2 := by subst hW2; simp
        have q1 : W2.cell? ⟨w3.heap.size, 0, none⟩ = some (.int .i64 (M : Nat)) := by subst hW2; go_simp
        have q2 : W2.cell? ⟨w3.heap.size + 1, 0, none⟩ = some (.int .i64 (K : Nat)) := by subst hW2; go_simp
        rw [hW2]
        have HX2 := Lib.hid hx2
        have hseq := without1_seq 39 w3.heap.size (w3.heap.size + 1) M rn K W2 HW.out.2.2.2.1 HW.out.2.2.2.2 q1 q2
        have hwz := HB2.out.ext.size
        have hsr : SR < w3.heap.size ∧ BR < w3.heap.size ∧ ER < w3.heap.size := by have := HSZ.out; have := HER3.out; omega
        clear hW2 hx2 q1 q2
        refine wpIn_rangeV rfl (by decide) (gf := 55) (lb := #[.pointer (some ⟨w3.heap.size, 0, none⟩), .pointer (some ⟨w3.heap.size + 1, 0, none⟩)]) rfl trivial (enters_of Tryd.func55 (by kernel_rfl) rfl) hseq K2.trans (fun W l o o' hl ho hc => ⟨by simp [World.putObj], fun a v e => cell_kept e (grownBy_putObj' W l o') (fun r er => by cases er; exact ⟨_, ho, hc⟩)⟩) (fun x W l o o' hl hv ho hc => hv) (fun _ => rfl)
          (fun pre W => (∀ x ∈ pre, Lo.decO d gl gs N pieces x.1 = none) ∧ Below W2.heap.size W2 W)
          (fun c pre W => ∃ (y : Nat × Nat) (s : List UInt8), (c = .ret ∧ (∃ pre', pre = pre' ++ [y] ∧ ∀ x ∈ pre', Lo.decO d gl gs N pieces x.1 = none) ∧ Lo.decO d gl gs N pieces y.1 = some s) ∧ W.cell? ⟨SR, 0, none⟩ = some (.string (sb s)) ∧ W.cell? ⟨BR, 0, none⟩ = some (.int .i64 (y.2 : Nat)) ∧ W.cell? ⟨ER, 0, none⟩ = some (.int .i64 0) ∧ Below w.heap.size w W)
          (fun _ _ _ => trivial)
          (OwnFrom.and (ownFrom_pure _ _) (ownFrom_below (Nat.le_refl _) (Nat.le_refl _)))
          (fun c s W W' row hs hg hr => by
            obtain ⟨y, s1, h1, h2, h3, h4, h5⟩ := hs
            exact ⟨y, s1, h1, cell_kept h2 hg (fun r e => (hr r e).2), cell_kept h3 hg (fun r e => (hr r e).2), cell_kept h4 hg (fun r e => (hr r e).2), h5.grown hg h5.size (fun k e => Nat.le_trans (by omega) (hr k e).1)⟩)
          ⟨by simp, Below.refl _ _⟩
          (fun x => { tmps := #[.agg #[.int .i64 d, .slice GA ng Gc, .int .i64 gl], .int .i64 (N : Nat), .int .i64 (M : Nat), .slice PA pl cp, .int .i64 (K : Nat), .pointer (some ⟨C, 0, none⟩), .pointer (some ⟨NB, 0, none⟩), undef, .pointer (some ⟨PB, 0, none⟩), undef, .pointer (some ⟨SR, 0, none⟩), .pointer (some ⟨BR, 0, none⟩), .pointer (some ⟨ER, 0, none⟩), .int .i64 0, .bool true, .int .i64 0, .int .i64 (x.1 : Nat), .int .i64 (x.2 : Nat), undef, undef, .agg #[.int .i64 d, .slice GA ng Gc, .int .i64 gl], .int .i64 (N : Nat), .int .i64 (M : Nat), .slice PA pl cp, .int .i64 0, .int .i64 0, .bool false, undef, .tuple #[.bool true, .int .i64 0], .agg #[.int .i64 d, .slice GA ng Gc, .int .i64 gl], .int .i64 (M : Nat), .int .i64 (K : Nat), .tuple #[.bool true, .int .i64 0], .bool true, .int .i64 0, .int .i64 0, .bool false, .bool false, .bool true, .bool false, .bool false, undef, undef, undef, .int .i64 (M : Nat), .int .i64 (K : Nat), .func (.func 55) #[] #[.pointer (some ⟨w3.heap.size, 0, none⟩), .pointer (some ⟨w3.heap.size + 1, 0, none⟩)], .int .i64 (x.1 : Nat), .int .i64 (x.2 : Nat), undef, undef, undef, undef, undef, undef, undef, undef, undef, undef, undef, undef], defers := [] }) ?assign ?body ?done ?stop
        case assign =>
          intro l x W K hK
          unfold encP
          gi_wp2
          exact hK
        case body =>
          rintro l pre ⟨x1, tt⟩ W ⟨hpre, hB⟩ hV _
          have hX : Ext w3 W := HX2.out.trans hB
          have hOW := HB2.out.next hX
          have hdc := cDecode_any d gl (N : Int) (x1 : Int) gs pieces _ PA cp W (HT.out.ext hOW.ext) (Rs.ext (Rs.ext RI.ext) _ _ _ _ hOW.ext HG.out) (Rs.ext RS.ext _ _ _ _ hOW.ext (by rw [HP.out.2.1]; exact HP.out.1)) HP.out.2.2
          rw [HP.out.2.1] at hdc
          have HDC := Lib.hid hdc
          have b00 : W.cell? ⟨C, 0, none⟩ = some (.int .i64 d) := hOW.cell 0 rfl 0 rfl
          have b01 : W.cell? ⟨C, 1, none⟩ = some (.slice GA ng Gc) := hOW.cell 0 rfl 1 rfl
          have b02 : W.cell? ⟨C, 2, none⟩ = some (.int .i64 gl) := hOW.cell 0 rfl 2 rfl
          have b10 : W.cell? ⟨NB, 0, none⟩ = some (.int .i64 N) := hOW.cell 1 rfl 0 rfl
          have b20 : W.cell? ⟨PB, 0, none⟩ = some (.slice PA pl cp) := hOW.cell 2 rfl 0 rfl
          have HI := Lib.hid (And.intro hpre (And.intro hB hOW))
          clear hpre hB hV hX hOW hdc
          gi_wp2_with fail
          refine ⟨trivial, (CallsIn.inRound l (callsIn_wide.2 HDC.out)).mono ?_⟩
          rintro e w9 ⟨rfl, hx9⟩
          have HX9 := Lib.hid hx9
          obtain ⟨de, hde⟩ : ∃ de, Cd.decE d gl gs (N : Int) (x1 : Int) pieces = de := ⟨_, rfl⟩
          obtain ⟨ds, hds⟩ : ∃ ds, Cd.decS d gl gs (N : Int) (x1 : Int) pieces = ds := ⟨_, rfl⟩
          rw [hde, hds]
          have HD := Lib.hid (And.intro hde hds)
          clear b00 b01 b02 b10 b20 hde hds HDC
          by_cases hd0 : de = 0
          · have hdo : Lo.decO d gl gs N pieces x1 = some ds := by unfold Lo.decO; rw [HD.out.1, HD.out.2, if_pos hd0]
            subst hd0
            have hO9 := HI.out.2.2.next hx9
            have hS := (((hO9.store 3 rfl 0 (.string (sb ds))).store 4 rfl 0 (.int .i64 (tt : Nat))).store 5 rfl 0 (.int .i64 0))
            have HS := Lib.hid (And.intro hS hdo)
            have hz : ((0 : Int) == 0) = true := rfl
            have b30 : w9.cell? ⟨SR, 0, none⟩ = some (.string ⟨#[]⟩) := hO9.cell 3 rfl 0 rfl
            have b40 : w9.cell? ⟨BR, 0, none⟩ = some (.int .i64 0) := hO9.cell 4 rfl 0 rfl
            have b50 : w9.cell? ⟨ER, 0, none⟩ = some (.int .i64 0) := hO9.cell 5 rfl 0 rfl
            have f3 : w9.frozen? ⟨SR, 0, none⟩ = false := hO9.frozen 3 rfl 0
            have f4 : w9.frozen? ⟨BR, 0, none⟩ = false := hO9.frozen 4 rfl 0
            have f5 : w9.frozen? ⟨ER, 0, none⟩ = false := hO9.frozen 5 rfl 0
            have nSRBR : SR ≠ BR := by have := HSZ.out; omega
            have nSRER : SR ≠ ER := by have := HSZ.out; omega
            have nBRSR : BR ≠ SR := by have := HSZ.out; omega
            have nBRER : BR ≠ ER := by have := HSZ.out; omega
            have nERSR : ER ≠ SR := by have := HSZ.out; omega
            have nERBR : ER ≠ BR := by have := HSZ.out; omega
            clear hx9 hO9 hS hdo
            gi_wp2_with fail
            exact ⟨HX9.out.keepsOthers.trans (((KeepsOthers.setCell _ _ _).trans (KeepsOthers.setCell _ _ _)).trans (KeepsOthers.setCell _ _ _)), (x1, tt), ds, ⟨rfl, ⟨pre, rfl, HI.out.1⟩, HS.out.2⟩, HS.out.1.cell 3 rfl 0 rfl, HS.out.1.cell 4 rfl 0 rfl, HS.out.1.cell 5 rfl 0 rfl, HS.out.1.ext⟩
          · have hdo : Lo.decO d gl gs N pieces x1 = none := by unfold Lo.decO; rw [HD.out.1, if_neg hd0]
            have HN0 := Lib.hid hdo
            have hz : (de == 0) = false := by rw [beq_eq_false_iff_ne]; exact hd0
            clear hx9 hdo hd0
            gi_wp2_with fail
            exact ⟨HX9.out.keepsOthers, K2.of_ext HX9.out, fun y hy => by
              rcases List.mem_append.1 hy with hy | hy
              · exact HI.out.1 y hy
              · rw [List.mem_singleton.1 hy]; exact HN0.out, HI.out.2.1.trans (Below.mono HX9.out HI.out.2.1.size)⟩
        case done =>
          rintro D xs W hD rfl ⟨hall, hB⟩ hK
          have hOW := HB2.out.next (HX2.out.trans hB)
          have HR : Hid (Lo.locR d gl gs (N : Int) (M : Int) pieces (K : Int) = ([], 0, 17)) := Lib.hid (Lo.locR_none HGE.out HCE.out.1 HCE.out.2 (by
            rw [Int.toNat_natCast, Int.toNat_natCast, Int.toNat_natCast, HW.out.2.2.1]
            exact Lo.locP_miss fun z hz => hall (M - z, z) (List.mem_map.2 ⟨z, hz, rfl⟩)))
          have HS := Lib.hid (((hOW.store 3 rfl 0 (.string ⟨#[]⟩)).store 4 rfl 0 (.int .i64 0)).store 5 rfl 0 (.int .i64 17))
          have HKK := Lib.hid hK
          have hDl := (Array.getElem?_eq_some_iff.1 hK).1
          have b30 : W.cell? ⟨SR, 0, none⟩ = some (.string ⟨#[]⟩) := hOW.cell 3 rfl 0 rfl
          have b40 : W.cell? ⟨BR, 0, none⟩ = some (.int .i64 0) := hOW.cell 4 rfl 0 rfl
          have b50 : W.cell? ⟨ER, 0, none⟩ = some (.int .i64 0) := hOW.cell 5 rfl 0 rfl
          have f3 : W.frozen? ⟨SR, 0, none⟩ = false := hOW.frozen 3 rfl 0
          have f4 : W.frozen? ⟨BR, 0, none⟩ = false := hOW.frozen 4 rfl 0
          have f5 : W.frozen? ⟨ER, 0, none⟩ = false := hOW.frozen 5 rfl 0
          have nSRBR : SR ≠ BR := by have := HSZ.out; omega
          have nSRER : SR ≠ ER := by have := HSZ.out; omega
          have nBRSR : BR ≠ SR := by have := HSZ.out; omega
          have nBRER : BR ≠ ER := by have := HSZ.out; omega
          have nERSR : ER ≠ SR := by have := HSZ.out; omega
          have nERBR : ER ≠ BR := by have := HSZ.out; omega
          clear hOW hB hall hK
          gi_wp2_with fail
          try rw [Exit.noGoto_ret]
          have hko : KeepsOthers W (((W.setCell ⟨SR, 0, none⟩ (.string ⟨#[]⟩)).setCell ⟨BR, 0, none⟩ (.int .i64 0)).setCell ⟨ER, 0, none⟩ (.int .i64 17)) := ((KeepsOthers.setCell _ _ _).trans (KeepsOthers.setCell _ _ _)).trans (KeepsOthers.setCell _ _ _)
          have hMk : MarksOk w3.heap.size (D + 1) (((W.setCell ⟨SR, 0, none⟩ (.string ⟨#[]⟩)).setCell ⟨BR, 0, none⟩ (.int .i64 0)).setCell ⟨ER, 0, none⟩ (.int .i64 17)) [{ target := .collected D, args := #[] }] := ⟨⟨D, rfl, by omega, Nat.lt_succ_self _, hko.same D _ HKK.out rfl, fun d' hd' => by cases hd'⟩, trivial⟩
          refine leaves_marks hMk fun w' hw' => ?_
          have r3 := (Below.cell hw' (p := ⟨SR, 0, none⟩) hsr.1).trans (HS.out.cell 3 rfl 0 rfl)
          have r4 := (Below.cell hw' (p := ⟨BR, 0, none⟩) hsr.2.1).trans (HS.out.cell 4 rfl 0 rfl)
          have r5 := (Below.cell hw' (p := ⟨ER, 0, none⟩) hsr.2.2).trans (HS.out.cell 5 rfl 0 rfl)
          refine ⟨_, results_cells3L (v1 := .string ⟨#[]⟩) (v2 := .int .i64 0) (v3 := .int .i64 17) rfl rfl rfl rfl ?_ ?_ ?_, ?_⟩
          · go_simp
          · go_simp
          · go_simp
          exact ⟨by rw [HR.out]; rfl, HS.out.ext.below.trans (Below.mono hw' hwz)⟩
        case stop =>
          rintro D c pre W hD hS ⟨y, s, ⟨rfl, ⟨pre', hpp, hpre⟩, hdy⟩, h3, h4, h5, hBw⟩ hK
          have hpx : pre'.map (·.2) ++ [y.2] <+: Lo.parts M rn K ∧ (∀ x ∈ pre' ++ [y], x.1 = M - x.2) := by
            have h := hS.map (·.2)
            rw [hpp, List.map_append] at h
            unfold Lo.pairs at h
            rw [List.map_map] at h
            have e : (fun x : Nat × Nat => x.2) ∘ (fun t => (M - t, t)) = id := rfl
            rw [e, List.map_id] at h
            refine ⟨h, fun x hx => ?_⟩
            rw [← hpp] at hx
            obtain ⟨t, _, rfl⟩ := List.mem_map.1 (hS.subset hx)
            rfl
          have HR : Hid (Lo.locR d gl gs (N : Int) (M : Int) pieces (K : Int) = (s, ((y.2 : Nat) : Int), 0)) := Lib.hid (Lo.locR_some HGE.out HCE.out.1 HCE.out.2 (by
            rw [Int.toNat_natCast, Int.toNat_natCast, Int.toNat_natCast, HW.out.2.2.1]
            exact Lo.locP_hit hpx.1 (fun z hz => by
              obtain ⟨q, hq, rfl⟩ := List.mem_map.1 hz
              rw [← hpx.2 q (List.mem_append_left _ hq)]
              exact hpre q hq) (by rw [← hpx.2 y (by simp)]; exact hdy)))
          have HE := Lib.hid (And.intro h3 (And.intro h4 (And.intro h5 (And.intro hBw hK))))
          have hDl := (Array.getElem?_eq_some_iff.1 hK).1
          clear hS hpp hpre hdy h3 h4 h5 hBw hK hpx
          gi_wp2_with fail
          try rw [Exit.noGoto_ret]
          have hMk : MarksOk w3.heap.size (D + 1) W [{ target := .collected D, args := #[] }] := ⟨⟨D, rfl, by omega, Nat.lt_succ_self _, HE.out.2.2.2.2, fun d' hd' => by cases hd'⟩, trivial⟩
          refine leaves_marks hMk fun w' hw' => ?_
          have r3 := (Below.cell hw' (p := ⟨SR, 0, none⟩) hsr.1).trans HE.out.1
          have r4 := (Below.cell hw' (p := ⟨BR, 0, none⟩) hsr.2.1).trans HE.out.2.1
          have r5 := (Below.cell hw' (p := ⟨ER, 0, none⟩) hsr.2.2).trans HE.out.2.2.1
          refine ⟨_, results_cells3L (v1 := .string (sb s)) (v2 := .int .i64 (y.2 : Nat)) (v3 := .int .i64 0) rfl rfl rfl rfl ?_ ?_ ?_, ?_⟩
          · go_simp
          · go_simp
          · go_simp
          exact ⟨by rw [HR.out], HE.out.2.2.2.1.trans (Below.mono hw' hwz)⟩
end Go.Proofs.YtggfkpalkdkbdaaDoor

/- THE EXAMPLES of the document's chapter on locating, worked out. -/
namespace Lo
open Gf Cd
def exG : List (List Int) := [[0, 1], [2, 3]]
def exL : List (List UInt8) := [[1, 2], [3, 4], [5, 6], [7, 0], [2, 6], [2, 6], [43, 18]]
def exOne : List (List UInt8) := exL.set 2 [9, 9]
def exTwo : List (List UInt8) := exOne.set 3 [9, 9]
def exA : List (List UInt8) := exL.set 4 [2, 7]
def exB : List (List UInt8) := exL.set 6 [0, 0]
theorem ex_det2 : detB 4 1 exG 127 2 = true ∧ detE 4 1 exG 127 2 = 0 := by decide +kernel
theorem ex_det3 : detB 4 1 exG 127 3 = false ∧ detE 4 1 exG 127 3 = 0 := by decide +kernel
theorem ex_cor1 : corB 4 1 exG 127 1 = true ∧ corE 4 1 exG 127 1 = 0 := by decide +kernel
theorem ex_cor63 : corB 4 1 exG 63 1 = false ∧ corE 4 1 exG 63 1 = 0 := by decide +kernel
theorem ex_fit : fitB 4 1 exG 7 19 exL = true ∧ givE 4 1 exG 7 19 exL = 0 := by decide +kernel
theorem ex_fitA : fitB 4 1 exG 7 19 exA = false ∧ givE 4 1 exG 7 19 exA = 0 := by decide +kernel
theorem ex_one : locR 4 1 exG 7 127 exOne 1 = ([1, 2, 3, 4, 5, 6, 7], 4, 0) := by decide +kernel
theorem ex_two : (locR 4 1 exG 7 127 exTwo 1).2.2 = 17 := by decide +kernel
end Lo

/- THE EXAMPLES of Clash, worked out. -/
namespace Lo
open Gf Cd
def ltB (a b : Nat) : Bool := decide (num a < num b) || (num a == num b && befF 16 a b)
theorem ltB_iff {a b : Nat} (ha : a < 2 ^ 16) (hb : b < 2 ^ 16) : ltB a b = true ↔ Lt a b := by
  unfold ltB Lt
  rw [Bool.or_eq_true, Bool.and_eq_true, decide_eq_true_iff, beq_iff_eq, befF_iff 16 a b ha hb]
def leastB (bad : Nat → Bool) (x : Nat) : Bool := x != 0 && decide (x < 128) && bad x && (List.range 128).all fun z => z == 0 || !bad z || z == x || ltB x z
theorem sub127 {z : Nat} (h : z < 128) : Sub z 127 := by
  rw [← and_sub]
  have := Nat.and_two_pow_sub_one_eq_mod z 7
  rw [show (2 : Nat) ^ 7 - 1 = 127 from rfl, show (2 : Nat) ^ 7 = 128 from rfl] at this
  rw [this]; exact Nat.mod_eq_of_lt h
theorem leastB_least {bad : Nat → Bool} {x : Nat} (h : leastB bad x = true) : Least bad 127 x := by
  unfold leastB at h
  rw [Bool.and_eq_true, Bool.and_eq_true, Bool.and_eq_true, bne_iff_ne, decide_eq_true_iff, List.all_eq_true] at h
  obtain ⟨⟨⟨h1, h2⟩, h3⟩, h4⟩ := h
  refine ⟨h1, sub127 h2, h3, fun z hz hs hb => ?_⟩
  have hz2 : z < 128 := by have := sub_le hs; omega
  have h5 := h4 z (List.mem_range.2 hz2)
  rw [Bool.or_eq_true, Bool.or_eq_true, Bool.or_eq_true, beq_iff_eq, beq_iff_eq, hb] at h5
  rcases h5 with ((h5 | h5) | h5) | h5
  · exact absurd h5 hz
  · cases h5
  · exact .inl h5
  · exact .inr ((ltB_iff (by omega) (by omega)).1 h5)
theorem cl_ex {d gl : Int} {gs : List (List Int)} {pieces : List (List UInt8)} {x E : Int} {X : Nat} (hg : givE d gl gs 7 127 pieces = 0) (h : leastB (badSet d gl gs pieces) X = true) (hc : ClashOut d gl gs 7 127 pieces x E) : x = X ∧ E = 0 := by
  have hl := leastB_least h
  rcases hc with ⟨h1, _⟩ | ⟨_, h1, _⟩ | ⟨_, _, h1 | ⟨Y, rfl, rfl, h1⟩⟩
  · exact absurd hg h1
  · exact absurd h1 (by decide +kernel)
  · have := h1.2.2 X hl.1 hl.2.1
    rw [hl.2.2.1] at this
    cases this
  · rw [Least.one h1 hl]; exact ⟨rfl, rfl⟩
theorem cl_exN {d gl : Int} {gs : List (List Int)} {pieces : List (List UInt8)} {x E : Int} (hg : givE d gl gs 7 127 pieces = 0) (h : ((List.range 128).all fun z => z == 0 || !badSet d gl gs pieces z) = true) (hc : ClashOut d gl gs 7 127 pieces x E) : E = 8 := by
  rcases hc with ⟨h1, _⟩ | ⟨_, h1, _⟩ | ⟨_, _, h1 | ⟨Y, rfl, rfl, h1⟩⟩
  · exact absurd hg h1
  · exact absurd h1 (by decide +kernel)
  · exact h1.2.1
  · rw [List.all_eq_true] at h
    have hy : Y < 128 := by have := sub_le h1.2.1; have e : (127 : Int).toNat = 127 := rfl; rw [e] at this; omega
    have h2 := h Y (List.mem_range.2 hy)
    rw [Bool.or_eq_true, beq_iff_eq, h1.2.2.1] at h2
    rcases h2 with h2 | h2
    · exact absurd h2 h1.1
    · cases h2
theorem ex_givA : givE 4 1 exG 7 127 exA = 0 := by decide +kernel
theorem ex_givB : givE 4 1 exG 7 127 exB = 0 := by decide +kernel
theorem ex_givL : givE 4 1 exG 7 127 exL = 0 := by decide +kernel
theorem ex_clA : leastB (badSet 4 1 exG exA) 19 = true := by decide +kernel
theorem ex_clB : leastB (badSet 4 1 exG exB) 79 = true := by decide +kernel
theorem ex_clL : ((List.range 128).all fun z => z == 0 || !badSet 4 1 exG exL z) = true := by decide +kernel
end Lo

/- example, with, and the drawn regions of sanity (quietuslaw09). -/
namespace Go.Proofs.YtggfkpalkdkbdaaDoor
open Go.RowKit
theorem ex_extract9 {P : Program} {o : Oper} {a : Act} {w : World} {i : Nat} {x : Operand} {vs : Array Value} {v : Value} (ho : o.op = .extract x i) (hx : a.eval x = .tuple vs) (hi : vs[i]? = some v) : (execOp a.eval o).run P w = .ok (.value v) w := by
  unfold execOp
  simp only [ho, hx, Instr.extract, hi, Sem.run_bind, Sem.run_pure, Result.andThen_ok]
/-- The cells of a block. -/
def Cells (w : World) (B : Nat) (cs : List Value) : Prop := ∀ (i : Nat) v, cs[i]? = some v → w.cell? ⟨B, i, none⟩ = some v
theorem Cells.ext {w w' : World} {B : Nat} {cs : List Value} (h : Cells w B cs) (hx : Ext w w') : Cells w' B cs := fun i v hi => hx.cell (h i v hi)
theorem cells_new (w : World) (cs : Array Value) (t : TypeId) : Cells (w.alloc (.cells cs t)) w.heap.size cs.toList := fun i v hi => cell_of_row _ _ i cs t (0, 0) (heap_new _ _) |>.trans (by simpa using hi)
theorem Rs.two {α : Type} {R : World → Value → α → Prop} {w : World} {g c : Nat} {u0 u1 : Value} {x0 x1 : α} (h0 : w.cell? ⟨g, 0, none⟩ = some u0) (r0 : R w u0 x0) (h1 : w.cell? ⟨g, 1, none⟩ = some u1) (r1 : R w u1 x1) : Rs R w (.slice (some ⟨g, 0, none⟩) 2 c) [x0, x1] :=
  ⟨some ⟨g, 0, none⟩, c, rfl, by simp, fun i x hi => by
    match i, hi with
    | 0, hi => simp at hi; subst hi; exact ⟨_, u0, rfl, h0, r0⟩
    | 1, hi => simp at hi; subst hi; exact ⟨_, u1, rfl, h1, r1⟩
    | i + 2, hi => simp at hi⟩
theorem rt_lit {W : World} {g c : Nat} {l : List (List UInt8)} (h : Cells W g (l.map sv)) (hl : l.length ≤ 1000) : Rs RS W (.slice (some ⟨g, 0, none⟩) l.length c) l :=
  ⟨some ⟨g, 0, none⟩, c, rfl, by omega, fun i x hi => ⟨⟨g, 0, none⟩, sv x, rfl, by rw [Addr.add_lit, Nat.zero_add]; exact h i _ (by rw [List.getElem?_map, hi]; rfl), rfl⟩⟩
theorem results_cell_tmp9 {P : Program} {fn : Func} {a b : Tmp} {t : TypeId} (h : fn.results = #[.cell a t, .tmp b]) {tmps : Array Value} {ad : Addr} {v : Value} {w : World} (ha : tmps.getD a undef = .pointer (some ad)) (hl : (loadVar t ad).run P w = .ok v w) :
    (results fn tmps).run P w = .ok (.tuple #[v, tmps.getD b undef]) w := by
  rw [Array.getD_eq_getD_getElem?] at ha
  simp [results, h, asAddr, ha, hl]
set_option maxRecDepth 100000 in
theorem example9_any (w : World) :
    Calls Tryd.prog 27 #[] w fun e w' => ∃ GA gc LA lc, e = .returned (.tuple #[.agg #[.int .i64 4, .slice GA 2 gc, .int .i64 1], .slice LA 7 lc]) ∧ Rs (Rs RI) w' (.slice GA 2 gc) Lo.exG ∧ Rs RS w' (.slice LA 7 lc) Lo.exL ∧ Ext w w' := by
  go_enter Tryd.func27, Tryd.ntmps27
  go_wp2_with fail
  refine bodyPost_ret (results_cell_tmp9 (v := .agg #[.int .i64 4, .slice (some ⟨w.heap.size + 1 + 1 + 1, 0, none⟩) 2 2, .int .i64 1]) rfl rfl ?_) rfl ?_
  · go_simp
  refine ⟨some ⟨w.heap.size + 1 + 1 + 1, 0, none⟩, 2, some ⟨w.heap.size + 1 + 1 + 1 + 1 + 1, 0, none⟩, 7, rfl, ?_, ?_, (((((Ext.refl w).alloc _).alloc _).alloc _).alloc _).alloc _ |>.alloc _⟩
  · refine Rs.two (u0 := .slice (some ⟨w.heap.size + 1, 0, none⟩) 2 2) (u1 := .slice (some ⟨w.heap.size + 1 + 1, 0, none⟩) 2 2) (by go_simp) ?_ (by go_simp) ?_
    · exact Rs.two (u0 := .int .i64 0) (u1 := .int .i64 1) (by go_simp) ⟨rfl, by decide, by decide⟩ (by go_simp) ⟨rfl, by decide, by decide⟩
    · exact Rs.two (u0 := .int .i64 2) (u1 := .int .i64 3) (by go_simp) ⟨rfl, by decide, by decide⟩ (by go_simp) ⟨rfl, by decide, by decide⟩
  · refine rt_lit (l := Lo.exL) ?_ (by decide)
    have h := cells_new (((((w.alloc (.cells #[.int .i64 4, .slice (some ⟨w.heap.size + 1 + 1 + 1, 0, none⟩) 2 2, .int .i64 1] 24)).alloc (.cells #[.int .i64 0, .int .i64 1] 3)).alloc (.cells #[.int .i64 2, .int .i64 3] 3)).alloc (.cells #[.slice (some ⟨w.heap.size + 1, 0, none⟩) 2 2, .slice (some ⟨w.heap.size + 1 + 1, 0, none⟩) 2 2] 63)).alloc (.cells #[.int .i64 4, .slice (some ⟨w.heap.size + 1 + 1 + 1, 0, none⟩) 2 2, .int .i64 1] 24)) #[.string ⟨#[1, 2]⟩, .string ⟨#[3, 4]⟩, .string ⟨#[5, 6]⟩, .string ⟨#[7, 0]⟩, .string ⟨#[2, 6]⟩, .string ⟨#[2, 6]⟩, .string ⟨#[43, 18]⟩] 9
    simp only [World.size_alloc] at h
    exact h
set_option maxRecDepth 100000 in
theorem with9_any (l : List (List UInt8)) (A : Addr) (n c k : Nat) (s : List UInt8) (w : World) (hA : Rs RS w (.slice (some A) n c) l) (hl : l.length = n) (hk : k < n) (hn : n ≤ 1000) :
    Calls Tryd.prog 28 #[.slice (some A) n c, .int .i64 (k : Nat), .string (sb s)] w fun e w' => ∃ A' c', e = .returned (.slice A' n c') ∧ Rs RS w' (.slice A' n c') (l.set k s) ∧ Ext w w' := by
  have hO0 : Owns w (w.alloc (.cells #[] 9)) [⟨.slice (some ⟨w.heap.size, 0, none⟩) 0 0, 9, 1, 0, []⟩] := (Owns.start w (L := [no]) (by intro r hr; simp at hr; subst hr; exact ⟨rfl, rfl, rfl⟩)).new 0 #[] 9 (by simp [maxLen])
  have hnews : ∀ (j : Nat) (u : Value), (l.map sv)[j]? = some u → (w.alloc (.cells #[] 9)).cell? (A.add j) = some u := fun j u hj => by
    rw [List.getElem?_map] at hj
    obtain ⟨x, hx, rfl⟩ := Option.map_eq_some_iff.1 hj
    obtain ⟨hjl, rfl⟩ := List.getElem?_eq_some_iff.1 hx
    obtain ⟨ad, u, e, hc, hu⟩ := hA.at (i := j) hjl
    injection e with e
    subst e
    have hu : u = sv _ := hu
    subst hu
    exact hO0.ext.cell hc
  have hone : ∀ u ∈ l.map sv, u.oneCell' = true := by intro u hu; obtain ⟨b, _, rfl⟩ := List.mem_map.1 hu; rfl
  have HN := Lib.hid (And.intro hnews hone)
  have HO0 := Lib.hid hO0
  have HL := Lib.hid hl
  have v1 : (0 : Int) ≤ (k : Int) := by omega
  have v2 : (k : Int) < (n : Int) := by omega
  clear hnews hone hO0 hA hl
  go_enter Tryd.func28, Tryd.ntmps28
  go_wp2_with (refine wpl_append_all 34 9 rfl (.tmp 8) (.tmp 9) rfl Tryd.underlying34 info_str rfl HO0.out 0 rfl rfl rfl ((List.length_map _).trans HL.out) HN.out.1 HN.out.2 (by omega) (by omega) (by decide) ?_; intro g1 c1 w3 hO3 _; have h1 : Owns w w3 [⟨.slice (some ⟨g1, 0, none⟩) n c1, 9, 1, n, l.map sv⟩] := (by simpa using hO3); have b0 : w3.cell? ⟨g1, k, none⟩ = some (sv (l.getD k [])) := h1.cell 0 rfl k (by rw [List.getElem?_map, List.getD_eq_getElem?_getD, List.getElem?_eq_getElem (by rw [HL.out]; exact hk)]; rfl); have f0 : w3.frozen? ⟨g1, k, none⟩ = false := h1.frozen 0 rfl k)
  go_ret
  have h2 := h1.store 0 rfl k (.string (sb s))
  have h3 : Rd (w3.setCell ⟨g1, k, none⟩ (.string (sb s))) (some ⟨g1, 0, none⟩) ((l.set k s).map sv) := by rw [List.map_set]; exact h2.rd 0 rfl
  have h4 := Rs.of_rdS (c := c1) h3 (by rw [List.length_set, HL.out]; omega)
  rw [List.length_set, HL.out] at h4
  exact ⟨some ⟨g1, 0, none⟩, c1, rfl, h4, h2.ext⟩
noncomputable def sn11_code : Code := ((Tryd.f10.body.bind (regionOf 11)).getD .skip)
def sn11_dsts : List (Option Nat) := [some 78, some 79, some 80, some 81, some 77, some 82, some 83, some 21, some 22]
theorem sn11_apart : apartD sn11_dsts = true := by decide +kernel
set_option maxRecDepth 1000000 in
set_option maxHeartbeats 16000000 in
theorem sn11 (wr : World) (C lc gc : Nat) (GA LA : Option Addr) (l2 : List (List UInt8)) (k0 : wr.cell? ⟨C, 0, none⟩ = some (.int .i64 4)) (k1 : wr.cell? ⟨C, 1, none⟩ = some (.slice GA 2 gc)) (k2 : wr.cell? ⟨C, 2, none⟩ = some (.int .i64 1))
  (HW : Hid (∀ w1 : World, Ext wr w1 → Calls Tryd.prog 28 #[.slice LA 7 lc, .int .i64 4, .string ⟨#[2, 7]⟩] w1 fun e w' => ∃ A c, e = .returned (.slice A 7 c) ∧ Rs RS w' (.slice A 7 c) l2 ∧ Ext w1 w'))
  (HC : Hid (∀ (w1 : World) (A : Option Addr) (c : Nat), Ext wr w1 → Rs RS w1 (.slice A 7 c) l2 → Calls Tryd.prog 17 #[.agg #[.int .i64 4, .slice GA 2 gc, .int .i64 1], .int .i64 7, .int .i64 19, .slice A 7 c] w1 fun e w' => e = .returned (.tuple #[.bool false, .int .i64 0]) ∧ Ext w1 w')) (c0 c3 c4 c5 c6 c7 c8 c9 c10 c11 c12 c13 c14 c15 c16 c17 c18 c19 c20 c21 c22 c23 c24 c25 c26 c27 c28 c29 c30 c31 c32 c33 c34 c35 c36 c37 c38 c39 c40 c41 c42 c43 c44 c45 c46 c47 c48 c49 c50 c51 c52 c53 c54 c55 c56 c57 c58 c59 c60 c61 c62 c63 c64 c65 c66 c67 c68 c69 c70 c71 c72 c73 c74 c75 c76 c77 c78 c79 c80 c81 c82 c83 c84 c85 c86 c87 c88 c89 c90 c91 c92 c93 c94 c95 c96 c97 c98 c99 c100 c101 c102 c103 c104 c105 c106 c107 c108 c109 c110 c111 c112 c113 c114 c115 c116 c117 c118 c119 c120 c121 c122 c123 c124 c125 c126 c127 c128 c129 c130 c131 c132 c133 c134 c135 c136 c137 c138 c139 c140 c141 c142 c143 c144 c145 c146 c147 c148 c149 c150 c151 c152 c153 c154 c155 c156 c157 c158 c159 c160 c161 c162 c163 c164 c165 c166 c167 c168 c169 c170 c171 c172 c173 c174 c175 c176 c177 c178 c179 c180 : Value) (df : List Deferred) (K : Act → World → Prop)
    (hK : ∀  (u77 u78 u79 u80 u81 u82 u83 : Value) (wx : World), Ext wr wx → K ⟨#[c0, .pointer (some ⟨C, 0, none⟩), .slice LA 7 lc, c3, c4, c5, c6, c7, c8, c9, c10, c11, c12, c13, c14, c15, c16, c17, c18, c19, c20, .bool false, .int .i64 0, c23, c24, c25, c26, c27, c28, c29, c30, c31, c32, c33, c34, c35, c36, c37, c38, c39, c40, c41, c42, c43, c44, c45, c46, c47, c48, c49, c50, c51, c52, c53, c54, c55, c56, c57, c58, c59, c60, c61, c62, c63, c64, c65, c66, c67, c68, c69, c70, c71, c72, c73, c74, c75, c76, u77, u78, u79, u80, u81, u82, u83, c84, c85, c86, c87, c88, c89, c90, c91, c92, c93, c94, c95, c96, c97, c98, c99, c100, c101, c102, c103, c104, c105, c106, c107, c108, c109, c110, c111, c112, c113, c114, c115, c116, c117, c118, c119, c120, c121, c122, c123, c124, c125, c126, c127, c128, c129, c130, c131, c132, c133, c134, c135, c136, c137, c138, c139, c140, c141, c142, c143, c144, c145, c146, c147, c148, c149, c150, c151, c152, c153, c154, c155, c156, c157, c158, c159, c160, c161, c162, c163, c164, c165, c166, c167, c168, c169, c170, c171, c172, c173, c174, c175, c176, c177, c178, c179, c180], df⟩ wx) :
    Code.wp Tryd.prog sn11_code (AtEnd K) ⟨#[c0, .pointer (some ⟨C, 0, none⟩), .slice LA 7 lc, c3, c4, c5, c6, c7, c8, c9, c10, c11, c12, c13, c14, c15, c16, c17, c18, c19, c20, c21, c22, c23, c24, c25, c26, c27, c28, c29, c30, c31, c32, c33, c34, c35, c36, c37, c38, c39, c40, c41, c42, c43, c44, c45, c46, c47, c48, c49, c50, c51, c52, c53, c54, c55, c56, c57, c58, c59, c60, c61, c62, c63, c64, c65, c66, c67, c68, c69, c70, c71, c72, c73, c74, c75, c76, c77, c78, c79, c80, c81, c82, c83, c84, c85, c86, c87, c88, c89, c90, c91, c92, c93, c94, c95, c96, c97, c98, c99, c100, c101, c102, c103, c104, c105, c106, c107, c108, c109, c110, c111, c112, c113, c114, c115, c116, c117, c118, c119, c120, c121, c122, c123, c124, c125, c126, c127, c128, c129, c130, c131, c132, c133, c134, c135, c136, c137, c138, c139, c140, c141, c142, c143, c144, c145, c146, c147, c148, c149, c150, c151, c152, c153, c154, c155, c156, c157, c158, c159, c160, c161, c162, c163, c164, c165, c166, c167, c168, c169, c170, c171, c172, c173, c174, c175, c176, c177, c178, c179, c180], df⟩ wr := by
  conv => arg 2; whnf
  refine region_inv (by kernel_rfl) [[], [], [1], [0, 2, 2], [3], [4], [4], [5, 3, 0, 1, 2, 3, 4, 5], [6, 7, 0, 1, 2, 3, 4, 5, 6, 7]] (by kernel_rfl) [0, 1, 2, 3, 4, 5, 6, 7, 8] (by decide +kernel) (by decide +kernel) (by decide +kernel) (fun L a wc => ∃ (VA : Option Addr) (vc : Nat), Inv sn11_dsts [.agg #[.int .i64 4, .slice GA 2 gc, .int .i64 1], .slice LA 7 lc, .slice VA 7 vc, .tuple #[.bool false, .int .i64 0], .tuple #[.bool false, .int .i64 0], .bool false, .int .i64 0, .bool false, .int .i64 0] ⟨#[c0, .pointer (some ⟨C, 0, none⟩), .slice LA 7 lc, c3, c4, c5, c6, c7, c8, c9, c10, c11, c12, c13, c14, c15, c16, c17, c18, c19, c20, c21, c22, c23, c24, c25, c26, c27, c28, c29, c30, c31, c32, c33, c34, c35, c36, c37, c38, c39, c40, c41, c42, c43, c44, c45, c46, c47, c48, c49, c50, c51, c52, c53, c54, c55, c56, c57, c58, c59, c60, c61, c62, c63, c64, c65, c66, c67, c68, c69, c70, c71, c72, c73, c74, c75, c76, c77, c78, c79, c80, c81, c82, c83, c84, c85, c86, c87, c88, c89, c90, c91, c92, c93, c94, c95, c96, c97, c98, c99, c100, c101, c102, c103, c104, c105, c106, c107, c108, c109, c110, c111, c112, c113, c114, c115, c116, c117, c118, c119, c120, c121, c122, c123, c124, c125, c126, c127, c128, c129, c130, c131, c132, c133, c134, c135, c136, c137, c138, c139, c140, c141, c142, c143, c144, c145, c146, c147, c148, c149, c150, c151, c152, c153, c154, c155, c156, c157, c158, c159, c160, c161, c162, c163, c164, c165, c166, c167, c168, c169, c170, c171, c172, c173, c174, c175, c176, c177, c178, c179, c180], df⟩ L a ∧ Hid (Ext wr wc ∧ (L 2 = true → Rs RS wc (.slice VA 7 vc) l2))) ⟨none, 0, Inv.start, Lib.hid ⟨(Ext.refl wr).drew, fun h => by cases h⟩⟩ ?_ ?_
  · refine ⟨?_, ?_, ?_, ?_, ?_, ?_, ?_, ?_, ?_, trivial⟩
    ·
      rintro L a wc ⟨VA, vc, hv, HO⟩ hL hc hd
      have h0 : wc.cell? ⟨C, 0, none⟩ = some (.int .i64 4) := HO.out.1.cell k0
      have h1 : wc.cell? ⟨C, 1, none⟩ = some (.slice GA 2 gc) := HO.out.1.cell k1
      have h2 : wc.cell? ⟨C, 2, none⟩ = some (.int .i64 1) := HO.out.1.cell k2
      exact wpOp_val rfl rfl (ex_load rfl ((hv.fixed 1 (by decide)).trans rfl) (by go_simp)) ⟨VA, vc, hv.put sn11_apart 0 rfl (lb rfl) (lb rfl) rfl, HO⟩
    ·
      rintro L a wc ⟨VA, vc, hv, HO⟩ hL hc hd
      exact wpOp_val rfl rfl (ex_move rfl ((hv.fixed 2 (by decide)).trans rfl)) ⟨VA, vc, hv.put sn11_apart 1 rfl (lb rfl) (lb rfl) rfl, HO⟩
    ·
      rintro L a wc ⟨VA, vc, hv, HO⟩ hL hc hd
      refine wpOp_call (R := fun v w1 => ∃ A c, v = .slice A 7 c ∧ Rs RS w1 (.slice A 7 c) l2 ∧ Ext wc w1) rfl rfl (ex_call rfl rfl (by simp only [List.map_toArray, List.map_cons, List.map_nil, (hv.get 1 rfl rfl (hd 1 (by decide)))]; rfl) (enters_of Tryd.func28 (by kernel_rfl) rfl _ _)) ((HW.out wc HO.out.1).mono (fun e w' h => by obtain ⟨A, c, rfl, h1, h2⟩ := h; exact ⟨_, rfl, A, c, rfl, h1, h2⟩)) ?_
      rintro v w' ⟨A2, c2, rfl, hr, hx⟩
      exact ⟨A2, c2, hv.put sn11_apart 2 rfl (lb rfl) (lb rfl) rfl, Lib.hid ⟨HO.out.1.trans hx, fun _ => hr⟩⟩
    ·
      rintro L a wc ⟨VA, vc, hv, HO⟩ hL hc hd
      refine wpOp_call (R := fun v w1 => v = .tuple #[.bool false, .int .i64 0] ∧ Ext wc w1) rfl rfl (ex_call rfl rfl (by simp only [List.map_toArray, List.map_cons, List.map_nil, (hv.get 0 rfl rfl (hd 0 (by decide))), (hv.get 2 rfl rfl (hd 2 (by decide)))]; rfl) (enters_of Tryd.func17 (by kernel_rfl) rfl _ _)) ((HC.out wc VA vc HO.out.1 (HO.out.2 (hd 2 (by decide)))).mono (fun e w' h => ⟨_, h.1, rfl, h.2⟩)) ?_
      rintro v w' ⟨rfl, hx⟩
      exact ⟨VA, vc, hv.put sn11_apart 3 rfl (lb rfl) (lb rfl) rfl, Lib.hid ⟨HO.out.1.trans hx, fun h => Rs.ext RS.ext _ _ _ _ hx (HO.out.2 h)⟩⟩
    ·
      rintro L a wc ⟨VA, vc, hv, HO⟩ hL hc hd
      exact wpOp_val rfl rfl (ex_move rfl (hv.get 3 rfl rfl (hd 3 (by decide)))) ⟨VA, vc, hv.put sn11_apart 4 rfl (lb rfl) (lb rfl) rfl, HO⟩
    ·
      rintro L a wc ⟨VA, vc, hv, HO⟩ hL hc hd
      exact wpOp_val rfl rfl (ex_extract9 rfl (hv.get 4 rfl rfl (hd 4 (by decide))) rfl) ⟨VA, vc, hv.put sn11_apart 5 rfl (lb rfl) (lb rfl) rfl, HO⟩
    ·
      rintro L a wc ⟨VA, vc, hv, HO⟩ hL hc hd
      exact wpOp_val rfl rfl (ex_extract9 rfl (hv.get 4 rfl rfl (hd 4 (by decide))) rfl) ⟨VA, vc, hv.put sn11_apart 6 rfl (lb rfl) (lb rfl) rfl, HO⟩
    ·
      rintro L a wc ⟨VA, vc, hv, HO⟩ hL hc hd
      exact wpOp_val rfl rfl (ex_assign rfl (hv.get 5 rfl rfl (hd 5 (by decide)))) ⟨VA, vc, hv.put sn11_apart 7 rfl (lb rfl) (lb rfl) rfl, HO⟩
    ·
      rintro L a wc ⟨VA, vc, hv, HO⟩ hL hc hd
      exact wpOp_val rfl rfl (ex_assign rfl (hv.get 6 rfl rfl (hd 6 (by decide)))) ⟨VA, vc, hv.put sn11_apart 8 rfl (lb rfl) (lb rfl) rfl, HO⟩
  · rintro L a wc ⟨VA, vc, hv, HO⟩ hall
    show K a wc
    have ha := act_lit a
    rw [hv.size, hv.defers] at ha
    have hl : ∀ f : Nat → Value, ((List.range (⟨#[c0, .pointer (some ⟨C, 0, none⟩), .slice LA 7 lc, c3, c4, c5, c6, c7, c8, c9, c10, c11, c12, c13, c14, c15, c16, c17, c18, c19, c20, c21, c22, c23, c24, c25, c26, c27, c28, c29, c30, c31, c32, c33, c34, c35, c36, c37, c38, c39, c40, c41, c42, c43, c44, c45, c46, c47, c48, c49, c50, c51, c52, c53, c54, c55, c56, c57, c58, c59, c60, c61, c62, c63, c64, c65, c66, c67, c68, c69, c70, c71, c72, c73, c74, c75, c76, c77, c78, c79, c80, c81, c82, c83, c84, c85, c86, c87, c88, c89, c90, c91, c92, c93, c94, c95, c96, c97, c98, c99, c100, c101, c102, c103, c104, c105, c106, c107, c108, c109, c110, c111, c112, c113, c114, c115, c116, c117, c118, c119, c120, c121, c122, c123, c124, c125, c126, c127, c128, c129, c130, c131, c132, c133, c134, c135, c136, c137, c138, c139, c140, c141, c142, c143, c144, c145, c146, c147, c148, c149, c150, c151, c152, c153, c154, c155, c156, c157, c158, c159, c160, c161, c162, c163, c164, c165, c166, c167, c168, c169, c170, c171, c172, c173, c174, c175, c176, c177, c178, c179, c180], df⟩ : Act).tmps.size).map f).toArray = #[f 0, f 1, f 2, f 3, f 4, f 5, f 6, f 7, f 8, f 9, f 10, f 11, f 12, f 13, f 14, f 15, f 16, f 17, f 18, f 19, f 20, f 21, f 22, f 23, f 24, f 25, f 26, f 27, f 28, f 29, f 30, f 31, f 32, f 33, f 34, f 35, f 36, f 37, f 38, f 39, f 40, f 41, f 42, f 43, f 44, f 45, f 46, f 47, f 48, f 49, f 50, f 51, f 52, f 53, f 54, f 55, f 56, f 57, f 58, f 59, f 60, f 61, f 62, f 63, f 64, f 65, f 66, f 67, f 68, f 69, f 70, f 71, f 72, f 73, f 74, f 75, f 76, f 77, f 78, f 79, f 80, f 81, f 82, f 83, f 84, f 85, f 86, f 87, f 88, f 89, f 90, f 91, f 92, f 93, f 94, f 95, f 96, f 97, f 98, f 99, f 100, f 101, f 102, f 103, f 104, f 105, f 106, f 107, f 108, f 109, f 110, f 111, f 112, f 113, f 114, f 115, f 116, f 117, f 118, f 119, f 120, f 121, f 122, f 123, f 124, f 125, f 126, f 127, f 128, f 129, f 130, f 131, f 132, f 133, f 134, f 135, f 136, f 137, f 138, f 139, f 140, f 141, f 142, f 143, f 144, f 145, f 146, f 147, f 148, f 149, f 150, f 151, f 152, f 153, f 154, f 155, f 156, f 157, f 158, f 159, f 160, f 161, f 162, f 163, f 164, f 165, f 166, f 167, f 168, f 169, f 170, f 171, f 172, f 173, f 174, f 175, f 176, f 177, f 178, f 179, f 180] := fun _ => rfl
    rw [hl] at ha
    simp only [hv.fixed 0 (by decide), hv.fixed 1 (by decide), hv.fixed 2 (by decide), hv.fixed 3 (by decide), hv.fixed 4 (by decide), hv.fixed 5 (by decide), hv.fixed 6 (by decide), hv.fixed 7 (by decide), hv.fixed 8 (by decide), hv.fixed 9 (by decide), hv.fixed 10 (by decide), hv.fixed 11 (by decide), hv.fixed 12 (by decide), hv.fixed 13 (by decide), hv.fixed 14 (by decide), hv.fixed 15 (by decide), hv.fixed 16 (by decide), hv.fixed 17 (by decide), hv.fixed 18 (by decide), hv.fixed 19 (by decide), hv.fixed 20 (by decide), hv.fixed 23 (by decide), hv.fixed 24 (by decide), hv.fixed 25 (by decide), hv.fixed 26 (by decide), hv.fixed 27 (by decide), hv.fixed 28 (by decide), hv.fixed 29 (by decide), hv.fixed 30 (by decide), hv.fixed 31 (by decide), hv.fixed 32 (by decide), hv.fixed 33 (by decide), hv.fixed 34 (by decide), hv.fixed 35 (by decide), hv.fixed 36 (by decide), hv.fixed 37 (by decide), hv.fixed 38 (by decide), hv.fixed 39 (by decide), hv.fixed 40 (by decide), hv.fixed 41 (by decide), hv.fixed 42 (by decide), hv.fixed 43 (by decide), hv.fixed 44 (by decide), hv.fixed 45 (by decide), hv.fixed 46 (by decide), hv.fixed 47 (by decide), hv.fixed 48 (by decide), hv.fixed 49 (by decide), hv.fixed 50 (by decide), hv.fixed 51 (by decide), hv.fixed 52 (by decide), hv.fixed 53 (by decide), hv.fixed 54 (by decide), hv.fixed 55 (by decide), hv.fixed 56 (by decide), hv.fixed 57 (by decide), hv.fixed 58 (by decide), hv.fixed 59 (by decide), hv.fixed 60 (by decide), hv.fixed 61 (by decide), hv.fixed 62 (by decide), hv.fixed 63 (by decide), hv.fixed 64 (by decide), hv.fixed 65 (by decide), hv.fixed 66 (by decide), hv.fixed 67 (by decide), hv.fixed 68 (by decide), hv.fixed 69 (by decide), hv.fixed 70 (by decide), hv.fixed 71 (by decide), hv.fixed 72 (by decide), hv.fixed 73 (by decide), hv.fixed 74 (by decide), hv.fixed 75 (by decide), hv.fixed 76 (by decide), hv.fixed 84 (by decide), hv.fixed 85 (by decide), hv.fixed 86 (by decide), hv.fixed 87 (by decide), hv.fixed 88 (by decide), hv.fixed 89 (by decide), hv.fixed 90 (by decide), hv.fixed 91 (by decide), hv.fixed 92 (by decide), hv.fixed 93 (by decide), hv.fixed 94 (by decide), hv.fixed 95 (by decide), hv.fixed 96 (by decide), hv.fixed 97 (by decide), hv.fixed 98 (by decide), hv.fixed 99 (by decide), hv.fixed 100 (by decide), hv.fixed 101 (by decide), hv.fixed 102 (by decide), hv.fixed 103 (by decide), hv.fixed 104 (by decide), hv.fixed 105 (by decide), hv.fixed 106 (by decide), hv.fixed 107 (by decide), hv.fixed 108 (by decide), hv.fixed 109 (by decide), hv.fixed 110 (by decide), hv.fixed 111 (by decide), hv.fixed 112 (by decide), hv.fixed 113 (by decide), hv.fixed 114 (by decide), hv.fixed 115 (by decide), hv.fixed 116 (by decide), hv.fixed 117 (by decide), hv.fixed 118 (by decide), hv.fixed 119 (by decide), hv.fixed 120 (by decide), hv.fixed 121 (by decide), hv.fixed 122 (by decide), hv.fixed 123 (by decide), hv.fixed 124 (by decide), hv.fixed 125 (by decide), hv.fixed 126 (by decide), hv.fixed 127 (by decide), hv.fixed 128 (by decide), hv.fixed 129 (by decide), hv.fixed 130 (by decide), hv.fixed 131 (by decide), hv.fixed 132 (by decide), hv.fixed 133 (by decide), hv.fixed 134 (by decide), hv.fixed 135 (by decide), hv.fixed 136 (by decide), hv.fixed 137 (by decide), hv.fixed 138 (by decide), hv.fixed 139 (by decide), hv.fixed 140 (by decide), hv.fixed 141 (by decide), hv.fixed 142 (by decide), hv.fixed 143 (by decide), hv.fixed 144 (by decide), hv.fixed 145 (by decide), hv.fixed 146 (by decide), hv.fixed 147 (by decide), hv.fixed 148 (by decide), hv.fixed 149 (by decide), hv.fixed 150 (by decide), hv.fixed 151 (by decide), hv.fixed 152 (by decide), hv.fixed 153 (by decide), hv.fixed 154 (by decide), hv.fixed 155 (by decide), hv.fixed 156 (by decide), hv.fixed 157 (by decide), hv.fixed 158 (by decide), hv.fixed 159 (by decide), hv.fixed 160 (by decide), hv.fixed 161 (by decide), hv.fixed 162 (by decide), hv.fixed 163 (by decide), hv.fixed 164 (by decide), hv.fixed 165 (by decide), hv.fixed 166 (by decide), hv.fixed 167 (by decide), hv.fixed 168 (by decide), hv.fixed 169 (by decide), hv.fixed 170 (by decide), hv.fixed 171 (by decide), hv.fixed 172 (by decide), hv.fixed 173 (by decide), hv.fixed 174 (by decide), hv.fixed 175 (by decide), hv.fixed 176 (by decide), hv.fixed 177 (by decide), hv.fixed 178 (by decide), hv.fixed 179 (by decide), hv.fixed 180 (by decide), hv.get 7 (d := 21) rfl rfl (hall 7 (by decide)), hv.get 8 (d := 22) rfl rfl (hall 8 (by decide))] at ha
    rw [ha]
    exact hK _ _ _ _ _ _ _ wc HO.out.1
noncomputable def sn12_code : Code := ((Tryd.f10.body.bind (regionOf 12)).getD .skip)
def sn12_dsts : List (Option Nat) := [some 85, some 86, some 87, some 88, some 84, some 89, some 90, some 23, some 24]
theorem sn12_apart : apartD sn12_dsts = true := by decide +kernel
set_option maxRecDepth 1000000 in
set_option maxHeartbeats 16000000 in
theorem sn12 (wr : World) (C lc gc : Nat) (GA LA : Option Addr) (l2 : List (List UInt8)) (k0 : wr.cell? ⟨C, 0, none⟩ = some (.int .i64 4)) (k1 : wr.cell? ⟨C, 1, none⟩ = some (.slice GA 2 gc)) (k2 : wr.cell? ⟨C, 2, none⟩ = some (.int .i64 1))
  (HW : Hid (∀ w1 : World, Ext wr w1 → Calls Tryd.prog 28 #[.slice LA 7 lc, .int .i64 4, .string ⟨#[2, 7]⟩] w1 fun e w' => ∃ A c, e = .returned (.slice A 7 c) ∧ Rs RS w' (.slice A 7 c) l2 ∧ Ext w1 w'))
  (HC : Hid (∀ (w1 : World) (A : Option Addr) (c : Nat), Ext wr w1 → Rs RS w1 (.slice A 7 c) l2 → Calls Tryd.prog 19 #[.agg #[.int .i64 4, .slice GA 2 gc, .int .i64 1], .int .i64 7, .int .i64 127, .slice A 7 c] w1 fun e w' => e = .returned (.tuple #[.int .i64 19, .int .i64 0]) ∧ Ext w1 w')) (c0 c3 c4 c5 c6 c7 c8 c9 c10 c11 c12 c13 c14 c15 c16 c17 c18 c19 c20 c21 c22 c23 c24 c25 c26 c27 c28 c29 c30 c31 c32 c33 c34 c35 c36 c37 c38 c39 c40 c41 c42 c43 c44 c45 c46 c47 c48 c49 c50 c51 c52 c53 c54 c55 c56 c57 c58 c59 c60 c61 c62 c63 c64 c65 c66 c67 c68 c69 c70 c71 c72 c73 c74 c75 c76 c77 c78 c79 c80 c81 c82 c83 c84 c85 c86 c87 c88 c89 c90 c91 c92 c93 c94 c95 c96 c97 c98 c99 c100 c101 c102 c103 c104 c105 c106 c107 c108 c109 c110 c111 c112 c113 c114 c115 c116 c117 c118 c119 c120 c121 c122 c123 c124 c125 c126 c127 c128 c129 c130 c131 c132 c133 c134 c135 c136 c137 c138 c139 c140 c141 c142 c143 c144 c145 c146 c147 c148 c149 c150 c151 c152 c153 c154 c155 c156 c157 c158 c159 c160 c161 c162 c163 c164 c165 c166 c167 c168 c169 c170 c171 c172 c173 c174 c175 c176 c177 c178 c179 c180 : Value) (df : List Deferred) (K : Act → World → Prop)
    (hK : ∀  (u84 u85 u86 u87 u88 u89 u90 : Value) (wx : World), Ext wr wx → K ⟨#[c0, .pointer (some ⟨C, 0, none⟩), .slice LA 7 lc, c3, c4, c5, c6, c7, c8, c9, c10, c11, c12, c13, c14, c15, c16, c17, c18, c19, c20, c21, c22, .int .i64 19, .int .i64 0, c25, c26, c27, c28, c29, c30, c31, c32, c33, c34, c35, c36, c37, c38, c39, c40, c41, c42, c43, c44, c45, c46, c47, c48, c49, c50, c51, c52, c53, c54, c55, c56, c57, c58, c59, c60, c61, c62, c63, c64, c65, c66, c67, c68, c69, c70, c71, c72, c73, c74, c75, c76, c77, c78, c79, c80, c81, c82, c83, u84, u85, u86, u87, u88, u89, u90, c91, c92, c93, c94, c95, c96, c97, c98, c99, c100, c101, c102, c103, c104, c105, c106, c107, c108, c109, c110, c111, c112, c113, c114, c115, c116, c117, c118, c119, c120, c121, c122, c123, c124, c125, c126, c127, c128, c129, c130, c131, c132, c133, c134, c135, c136, c137, c138, c139, c140, c141, c142, c143, c144, c145, c146, c147, c148, c149, c150, c151, c152, c153, c154, c155, c156, c157, c158, c159, c160, c161, c162, c163, c164, c165, c166, c167, c168, c169, c170, c171, c172, c173, c174, c175, c176, c177, c178, c179, c180], df⟩ wx) :
    Code.wp Tryd.prog sn12_code (AtEnd K) ⟨#[c0, .pointer (some ⟨C, 0, none⟩), .slice LA 7 lc, c3, c4, c5, c6, c7, c8, c9, c10, c11, c12, c13, c14, c15, c16, c17, c18, c19, c20, c21, c22, c23, c24, c25, c26, c27, c28, c29, c30, c31, c32, c33, c34, c35, c36, c37, c38, c39, c40, c41, c42, c43, c44, c45, c46, c47, c48, c49, c50, c51, c52, c53, c54, c55, c56, c57, c58, c59, c60, c61, c62, c63, c64, c65, c66, c67, c68, c69, c70, c71, c72, c73, c74, c75, c76, c77, c78, c79, c80, c81, c82, c83, c84, c85, c86, c87, c88, c89, c90, c91, c92, c93, c94, c95, c96, c97, c98, c99, c100, c101, c102, c103, c104, c105, c106, c107, c108, c109, c110, c111, c112, c113, c114, c115, c116, c117, c118, c119, c120, c121, c122, c123, c124, c125, c126, c127, c128, c129, c130, c131, c132, c133, c134, c135, c136, c137, c138, c139, c140, c141, c142, c143, c144, c145, c146, c147, c148, c149, c150, c151, c152, c153, c154, c155, c156, c157, c158, c159, c160, c161, c162, c163, c164, c165, c166, c167, c168, c169, c170, c171, c172, c173, c174, c175, c176, c177, c178, c179, c180], df⟩ wr := by
  conv => arg 2; whnf
  refine region_inv (by kernel_rfl) [[], [], [1], [0, 2, 2], [3], [4], [4], [5, 3, 0, 1, 2, 3, 4, 5], [6, 7, 0, 1, 2, 3, 4, 5, 6, 7]] (by kernel_rfl) [0, 1, 2, 3, 4, 5, 6, 7, 8] (by decide +kernel) (by decide +kernel) (by decide +kernel) (fun L a wc => ∃ (VA : Option Addr) (vc : Nat), Inv sn12_dsts [.agg #[.int .i64 4, .slice GA 2 gc, .int .i64 1], .slice LA 7 lc, .slice VA 7 vc, .tuple #[.int .i64 19, .int .i64 0], .tuple #[.int .i64 19, .int .i64 0], .int .i64 19, .int .i64 0, .int .i64 19, .int .i64 0] ⟨#[c0, .pointer (some ⟨C, 0, none⟩), .slice LA 7 lc, c3, c4, c5, c6, c7, c8, c9, c10, c11, c12, c13, c14, c15, c16, c17, c18, c19, c20, c21, c22, c23, c24, c25, c26, c27, c28, c29, c30, c31, c32, c33, c34, c35, c36, c37, c38, c39, c40, c41, c42, c43, c44, c45, c46, c47, c48, c49, c50, c51, c52, c53, c54, c55, c56, c57, c58, c59, c60, c61, c62, c63, c64, c65, c66, c67, c68, c69, c70, c71, c72, c73, c74, c75, c76, c77, c78, c79, c80, c81, c82, c83, c84, c85, c86, c87, c88, c89, c90, c91, c92, c93, c94, c95, c96, c97, c98, c99, c100, c101, c102, c103, c104, c105, c106, c107, c108, c109, c110, c111, c112, c113, c114, c115, c116, c117, c118, c119, c120, c121, c122, c123, c124, c125, c126, c127, c128, c129, c130, c131, c132, c133, c134, c135, c136, c137, c138, c139, c140, c141, c142, c143, c144, c145, c146, c147, c148, c149, c150, c151, c152, c153, c154, c155, c156, c157, c158, c159, c160, c161, c162, c163, c164, c165, c166, c167, c168, c169, c170, c171, c172, c173, c174, c175, c176, c177, c178, c179, c180], df⟩ L a ∧ Hid (Ext wr wc ∧ (L 2 = true → Rs RS wc (.slice VA 7 vc) l2))) ⟨none, 0, Inv.start, Lib.hid ⟨(Ext.refl wr).drew, fun h => by cases h⟩⟩ ?_ ?_
  · refine ⟨?_, ?_, ?_, ?_, ?_, ?_, ?_, ?_, ?_, trivial⟩
    ·
      rintro L a wc ⟨VA, vc, hv, HO⟩ hL hc hd
      have h0 : wc.cell? ⟨C, 0, none⟩ = some (.int .i64 4) := HO.out.1.cell k0
      have h1 : wc.cell? ⟨C, 1, none⟩ = some (.slice GA 2 gc) := HO.out.1.cell k1
      have h2 : wc.cell? ⟨C, 2, none⟩ = some (.int .i64 1) := HO.out.1.cell k2
      exact wpOp_val rfl rfl (ex_load rfl ((hv.fixed 1 (by decide)).trans rfl) (by go_simp)) ⟨VA, vc, hv.put sn12_apart 0 rfl (lb rfl) (lb rfl) rfl, HO⟩
    ·
      rintro L a wc ⟨VA, vc, hv, HO⟩ hL hc hd
      exact wpOp_val rfl rfl (ex_move rfl ((hv.fixed 2 (by decide)).trans rfl)) ⟨VA, vc, hv.put sn12_apart 1 rfl (lb rfl) (lb rfl) rfl, HO⟩
    ·
      rintro L a wc ⟨VA, vc, hv, HO⟩ hL hc hd
      refine wpOp_call (R := fun v w1 => ∃ A c, v = .slice A 7 c ∧ Rs RS w1 (.slice A 7 c) l2 ∧ Ext wc w1) rfl rfl (ex_call rfl rfl (by simp only [List.map_toArray, List.map_cons, List.map_nil, (hv.get 1 rfl rfl (hd 1 (by decide)))]; rfl) (enters_of Tryd.func28 (by kernel_rfl) rfl _ _)) ((HW.out wc HO.out.1).mono (fun e w' h => by obtain ⟨A, c, rfl, h1, h2⟩ := h; exact ⟨_, rfl, A, c, rfl, h1, h2⟩)) ?_
      rintro v w' ⟨A2, c2, rfl, hr, hx⟩
      exact ⟨A2, c2, hv.put sn12_apart 2 rfl (lb rfl) (lb rfl) rfl, Lib.hid ⟨HO.out.1.trans hx, fun _ => hr⟩⟩
    ·
      rintro L a wc ⟨VA, vc, hv, HO⟩ hL hc hd
      refine wpOp_call (R := fun v w1 => v = .tuple #[.int .i64 19, .int .i64 0] ∧ Ext wc w1) rfl rfl (ex_call rfl rfl (by simp only [List.map_toArray, List.map_cons, List.map_nil, (hv.get 0 rfl rfl (hd 0 (by decide))), (hv.get 2 rfl rfl (hd 2 (by decide)))]; rfl) (enters_of Tryd.func19 (by kernel_rfl) rfl _ _)) ((HC.out wc VA vc HO.out.1 (HO.out.2 (hd 2 (by decide)))).mono (fun e w' h => ⟨_, h.1, rfl, h.2⟩)) ?_
      rintro v w' ⟨rfl, hx⟩
      exact ⟨VA, vc, hv.put sn12_apart 3 rfl (lb rfl) (lb rfl) rfl, Lib.hid ⟨HO.out.1.trans hx, fun h => Rs.ext RS.ext _ _ _ _ hx (HO.out.2 h)⟩⟩
    ·
      rintro L a wc ⟨VA, vc, hv, HO⟩ hL hc hd
      exact wpOp_val rfl rfl (ex_move rfl (hv.get 3 rfl rfl (hd 3 (by decide)))) ⟨VA, vc, hv.put sn12_apart 4 rfl (lb rfl) (lb rfl) rfl, HO⟩
    ·
      rintro L a wc ⟨VA, vc, hv, HO⟩ hL hc hd
      exact wpOp_val rfl rfl (ex_extract9 rfl (hv.get 4 rfl rfl (hd 4 (by decide))) rfl) ⟨VA, vc, hv.put sn12_apart 5 rfl (lb rfl) (lb rfl) rfl, HO⟩
    ·
      rintro L a wc ⟨VA, vc, hv, HO⟩ hL hc hd
      exact wpOp_val rfl rfl (ex_extract9 rfl (hv.get 4 rfl rfl (hd 4 (by decide))) rfl) ⟨VA, vc, hv.put sn12_apart 6 rfl (lb rfl) (lb rfl) rfl, HO⟩
    ·
      rintro L a wc ⟨VA, vc, hv, HO⟩ hL hc hd
      exact wpOp_val rfl rfl (ex_assign rfl (hv.get 5 rfl rfl (hd 5 (by decide)))) ⟨VA, vc, hv.put sn12_apart 7 rfl (lb rfl) (lb rfl) rfl, HO⟩
    ·
      rintro L a wc ⟨VA, vc, hv, HO⟩ hL hc hd
      exact wpOp_val rfl rfl (ex_assign rfl (hv.get 6 rfl rfl (hd 6 (by decide)))) ⟨VA, vc, hv.put sn12_apart 8 rfl (lb rfl) (lb rfl) rfl, HO⟩
  · rintro L a wc ⟨VA, vc, hv, HO⟩ hall
    show K a wc
    have ha := act_lit a
    rw [hv.size, hv.defers] at ha
    have hl : ∀ f : Nat → Value, ((List.range (⟨#[c0, .pointer (some ⟨C, 0, none⟩), .slice LA 7 lc, c3, c4, c5, c6, c7, c8, c9, c10, c11, c12, c13, c14, c15, c16, c17, c18, c19, c20, c21, c22, c23, c24, c25, c26, c27, c28, c29, c30, c31, c32, c33, c34, c35, c36, c37, c38, c39, c40, c41, c42, c43, c44, c45, c46, c47, c48, c49, c50, c51, c52, c53, c54, c55, c56, c57, c58, c59, c60, c61, c62, c63, c64, c65, c66, c67, c68, c69, c70, c71, c72, c73, c74, c75, c76, c77, c78, c79, c80, c81, c82, c83, c84, c85, c86, c87, c88, c89, c90, c91, c92, c93, c94, c95, c96, c97, c98, c99, c100, c101, c102, c103, c104, c105, c106, c107, c108, c109, c110, c111, c112, c113, c114, c115, c116, c117, c118, c119, c120, c121, c122, c123, c124, c125, c126, c127, c128, c129, c130, c131, c132, c133, c134, c135, c136, c137, c138, c139, c140, c141, c142, c143, c144, c145, c146, c147, c148, c149, c150, c151, c152, c153, c154, c155, c156, c157, c158, c159, c160, c161, c162, c163, c164, c165, c166, c167, c168, c169, c170, c171, c172, c173, c174, c175, c176, c177, c178, c179, c180], df⟩ : Act).tmps.size).map f).toArray = #[f 0, f 1, f 2, f 3, f 4, f 5, f 6, f 7, f 8, f 9, f 10, f 11, f 12, f 13, f 14, f 15, f 16, f 17, f 18, f 19, f 20, f 21, f 22, f 23, f 24, f 25, f 26, f 27, f 28, f 29, f 30, f 31, f 32, f 33, f 34, f 35, f 36, f 37, f 38, f 39, f 40, f 41, f 42, f 43, f 44, f 45, f 46, f 47, f 48, f 49, f 50, f 51, f 52, f 53, f 54, f 55, f 56, f 57, f 58, f 59, f 60, f 61, f 62, f 63, f 64, f 65, f 66, f 67, f 68, f 69, f 70, f 71, f 72, f 73, f 74, f 75, f 76, f 77, f 78, f 79, f 80, f 81, f 82, f 83, f 84, f 85, f 86, f 87, f 88, f 89, f 90, f 91, f 92, f 93, f 94, f 95, f 96, f 97, f 98, f 99, f 100, f 101, f 102, f 103, f 104, f 105, f 106, f 107, f 108, f 109, f 110, f 111, f 112, f 113, f 114, f 115, f 116, f 117, f 118, f 119, f 120, f 121, f 122, f 123, f 124, f 125, f 126, f 127, f 128, f 129, f 130, f 131, f 132, f 133, f 134, f 135, f 136, f 137, f 138, f 139, f 140, f 141, f 142, f 143, f 144, f 145, f 146, f 147, f 148, f 149, f 150, f 151, f 152, f 153, f 154, f 155, f 156, f 157, f 158, f 159, f 160, f 161, f 162, f 163, f 164, f 165, f 166, f 167, f 168, f 169, f 170, f 171, f 172, f 173, f 174, f 175, f 176, f 177, f 178, f 179, f 180] := fun _ => rfl
    rw [hl] at ha
    simp only [hv.fixed 0 (by decide), hv.fixed 1 (by decide), hv.fixed 2 (by decide), hv.fixed 3 (by decide), hv.fixed 4 (by decide), hv.fixed 5 (by decide), hv.fixed 6 (by decide), hv.fixed 7 (by decide), hv.fixed 8 (by decide), hv.fixed 9 (by decide), hv.fixed 10 (by decide), hv.fixed 11 (by decide), hv.fixed 12 (by decide), hv.fixed 13 (by decide), hv.fixed 14 (by decide), hv.fixed 15 (by decide), hv.fixed 16 (by decide), hv.fixed 17 (by decide), hv.fixed 18 (by decide), hv.fixed 19 (by decide), hv.fixed 20 (by decide), hv.fixed 21 (by decide), hv.fixed 22 (by decide), hv.fixed 25 (by decide), hv.fixed 26 (by decide), hv.fixed 27 (by decide), hv.fixed 28 (by decide), hv.fixed 29 (by decide), hv.fixed 30 (by decide), hv.fixed 31 (by decide), hv.fixed 32 (by decide), hv.fixed 33 (by decide), hv.fixed 34 (by decide), hv.fixed 35 (by decide), hv.fixed 36 (by decide), hv.fixed 37 (by decide), hv.fixed 38 (by decide), hv.fixed 39 (by decide), hv.fixed 40 (by decide), hv.fixed 41 (by decide), hv.fixed 42 (by decide), hv.fixed 43 (by decide), hv.fixed 44 (by decide), hv.fixed 45 (by decide), hv.fixed 46 (by decide), hv.fixed 47 (by decide), hv.fixed 48 (by decide), hv.fixed 49 (by decide), hv.fixed 50 (by decide), hv.fixed 51 (by decide), hv.fixed 52 (by decide), hv.fixed 53 (by decide), hv.fixed 54 (by decide), hv.fixed 55 (by decide), hv.fixed 56 (by decide), hv.fixed 57 (by decide), hv.fixed 58 (by decide), hv.fixed 59 (by decide), hv.fixed 60 (by decide), hv.fixed 61 (by decide), hv.fixed 62 (by decide), hv.fixed 63 (by decide), hv.fixed 64 (by decide), hv.fixed 65 (by decide), hv.fixed 66 (by decide), hv.fixed 67 (by decide), hv.fixed 68 (by decide), hv.fixed 69 (by decide), hv.fixed 70 (by decide), hv.fixed 71 (by decide), hv.fixed 72 (by decide), hv.fixed 73 (by decide), hv.fixed 74 (by decide), hv.fixed 75 (by decide), hv.fixed 76 (by decide), hv.fixed 77 (by decide), hv.fixed 78 (by decide), hv.fixed 79 (by decide), hv.fixed 80 (by decide), hv.fixed 81 (by decide), hv.fixed 82 (by decide), hv.fixed 83 (by decide), hv.fixed 91 (by decide), hv.fixed 92 (by decide), hv.fixed 93 (by decide), hv.fixed 94 (by decide), hv.fixed 95 (by decide), hv.fixed 96 (by decide), hv.fixed 97 (by decide), hv.fixed 98 (by decide), hv.fixed 99 (by decide), hv.fixed 100 (by decide), hv.fixed 101 (by decide), hv.fixed 102 (by decide), hv.fixed 103 (by decide), hv.fixed 104 (by decide), hv.fixed 105 (by decide), hv.fixed 106 (by decide), hv.fixed 107 (by decide), hv.fixed 108 (by decide), hv.fixed 109 (by decide), hv.fixed 110 (by decide), hv.fixed 111 (by decide), hv.fixed 112 (by decide), hv.fixed 113 (by decide), hv.fixed 114 (by decide), hv.fixed 115 (by decide), hv.fixed 116 (by decide), hv.fixed 117 (by decide), hv.fixed 118 (by decide), hv.fixed 119 (by decide), hv.fixed 120 (by decide), hv.fixed 121 (by decide), hv.fixed 122 (by decide), hv.fixed 123 (by decide), hv.fixed 124 (by decide), hv.fixed 125 (by decide), hv.fixed 126 (by decide), hv.fixed 127 (by decide), hv.fixed 128 (by decide), hv.fixed 129 (by decide), hv.fixed 130 (by decide), hv.fixed 131 (by decide), hv.fixed 132 (by decide), hv.fixed 133 (by decide), hv.fixed 134 (by decide), hv.fixed 135 (by decide), hv.fixed 136 (by decide), hv.fixed 137 (by decide), hv.fixed 138 (by decide), hv.fixed 139 (by decide), hv.fixed 140 (by decide), hv.fixed 141 (by decide), hv.fixed 142 (by decide), hv.fixed 143 (by decide), hv.fixed 144 (by decide), hv.fixed 145 (by decide), hv.fixed 146 (by decide), hv.fixed 147 (by decide), hv.fixed 148 (by decide), hv.fixed 149 (by decide), hv.fixed 150 (by decide), hv.fixed 151 (by decide), hv.fixed 152 (by decide), hv.fixed 153 (by decide), hv.fixed 154 (by decide), hv.fixed 155 (by decide), hv.fixed 156 (by decide), hv.fixed 157 (by decide), hv.fixed 158 (by decide), hv.fixed 159 (by decide), hv.fixed 160 (by decide), hv.fixed 161 (by decide), hv.fixed 162 (by decide), hv.fixed 163 (by decide), hv.fixed 164 (by decide), hv.fixed 165 (by decide), hv.fixed 166 (by decide), hv.fixed 167 (by decide), hv.fixed 168 (by decide), hv.fixed 169 (by decide), hv.fixed 170 (by decide), hv.fixed 171 (by decide), hv.fixed 172 (by decide), hv.fixed 173 (by decide), hv.fixed 174 (by decide), hv.fixed 175 (by decide), hv.fixed 176 (by decide), hv.fixed 177 (by decide), hv.fixed 178 (by decide), hv.fixed 179 (by decide), hv.fixed 180 (by decide), hv.get 7 (d := 23) rfl rfl (hall 7 (by decide)), hv.get 8 (d := 24) rfl rfl (hall 8 (by decide))] at ha
    rw [ha]
    exact hK _ _ _ _ _ _ _ wc HO.out.1
noncomputable def sn13_code : Code := ((Tryd.f10.body.bind (regionOf 13)).getD .skip)
def sn13_dsts : List (Option Nat) := [some 92, some 93, some 94, some 95, some 91, some 96, some 97, some 25, some 26]
theorem sn13_apart : apartD sn13_dsts = true := by decide +kernel
set_option maxRecDepth 1000000 in
set_option maxHeartbeats 16000000 in
theorem sn13 (wr : World) (C lc gc : Nat) (GA LA : Option Addr) (l2 : List (List UInt8)) (k0 : wr.cell? ⟨C, 0, none⟩ = some (.int .i64 4)) (k1 : wr.cell? ⟨C, 1, none⟩ = some (.slice GA 2 gc)) (k2 : wr.cell? ⟨C, 2, none⟩ = some (.int .i64 1))
  (HW : Hid (∀ w1 : World, Ext wr w1 → Calls Tryd.prog 28 #[.slice LA 7 lc, .int .i64 6, .string ⟨#[0, 0]⟩] w1 fun e w' => ∃ A c, e = .returned (.slice A 7 c) ∧ Rs RS w' (.slice A 7 c) l2 ∧ Ext w1 w'))
  (HC : Hid (∀ (w1 : World) (A : Option Addr) (c : Nat), Ext wr w1 → Rs RS w1 (.slice A 7 c) l2 → Calls Tryd.prog 19 #[.agg #[.int .i64 4, .slice GA 2 gc, .int .i64 1], .int .i64 7, .int .i64 127, .slice A 7 c] w1 fun e w' => e = .returned (.tuple #[.int .i64 79, .int .i64 0]) ∧ Ext w1 w')) (c0 c3 c4 c5 c6 c7 c8 c9 c10 c11 c12 c13 c14 c15 c16 c17 c18 c19 c20 c21 c22 c23 c24 c25 c26 c27 c28 c29 c30 c31 c32 c33 c34 c35 c36 c37 c38 c39 c40 c41 c42 c43 c44 c45 c46 c47 c48 c49 c50 c51 c52 c53 c54 c55 c56 c57 c58 c59 c60 c61 c62 c63 c64 c65 c66 c67 c68 c69 c70 c71 c72 c73 c74 c75 c76 c77 c78 c79 c80 c81 c82 c83 c84 c85 c86 c87 c88 c89 c90 c91 c92 c93 c94 c95 c96 c97 c98 c99 c100 c101 c102 c103 c104 c105 c106 c107 c108 c109 c110 c111 c112 c113 c114 c115 c116 c117 c118 c119 c120 c121 c122 c123 c124 c125 c126 c127 c128 c129 c130 c131 c132 c133 c134 c135 c136 c137 c138 c139 c140 c141 c142 c143 c144 c145 c146 c147 c148 c149 c150 c151 c152 c153 c154 c155 c156 c157 c158 c159 c160 c161 c162 c163 c164 c165 c166 c167 c168 c169 c170 c171 c172 c173 c174 c175 c176 c177 c178 c179 c180 : Value) (df : List Deferred) (K : Act → World → Prop)
    (hK : ∀  (u91 u92 u93 u94 u95 u96 u97 : Value) (wx : World), Ext wr wx → K ⟨#[c0, .pointer (some ⟨C, 0, none⟩), .slice LA 7 lc, c3, c4, c5, c6, c7, c8, c9, c10, c11, c12, c13, c14, c15, c16, c17, c18, c19, c20, c21, c22, c23, c24, .int .i64 79, .int .i64 0, c27, c28, c29, c30, c31, c32, c33, c34, c35, c36, c37, c38, c39, c40, c41, c42, c43, c44, c45, c46, c47, c48, c49, c50, c51, c52, c53, c54, c55, c56, c57, c58, c59, c60, c61, c62, c63, c64, c65, c66, c67, c68, c69, c70, c71, c72, c73, c74, c75, c76, c77, c78, c79, c80, c81, c82, c83, c84, c85, c86, c87, c88, c89, c90, u91, u92, u93, u94, u95, u96, u97, c98, c99, c100, c101, c102, c103, c104, c105, c106, c107, c108, c109, c110, c111, c112, c113, c114, c115, c116, c117, c118, c119, c120, c121, c122, c123, c124, c125, c126, c127, c128, c129, c130, c131, c132, c133, c134, c135, c136, c137, c138, c139, c140, c141, c142, c143, c144, c145, c146, c147, c148, c149, c150, c151, c152, c153, c154, c155, c156, c157, c158, c159, c160, c161, c162, c163, c164, c165, c166, c167, c168, c169, c170, c171, c172, c173, c174, c175, c176, c177, c178, c179, c180], df⟩ wx) :
    Code.wp Tryd.prog sn13_code (AtEnd K) ⟨#[c0, .pointer (some ⟨C, 0, none⟩), .slice LA 7 lc, c3, c4, c5, c6, c7, c8, c9, c10, c11, c12, c13, c14, c15, c16, c17, c18, c19, c20, c21, c22, c23, c24, c25, c26, c27, c28, c29, c30, c31, c32, c33, c34, c35, c36, c37, c38, c39, c40, c41, c42, c43, c44, c45, c46, c47, c48, c49, c50, c51, c52, c53, c54, c55, c56, c57, c58, c59, c60, c61, c62, c63, c64, c65, c66, c67, c68, c69, c70, c71, c72, c73, c74, c75, c76, c77, c78, c79, c80, c81, c82, c83, c84, c85, c86, c87, c88, c89, c90, c91, c92, c93, c94, c95, c96, c97, c98, c99, c100, c101, c102, c103, c104, c105, c106, c107, c108, c109, c110, c111, c112, c113, c114, c115, c116, c117, c118, c119, c120, c121, c122, c123, c124, c125, c126, c127, c128, c129, c130, c131, c132, c133, c134, c135, c136, c137, c138, c139, c140, c141, c142, c143, c144, c145, c146, c147, c148, c149, c150, c151, c152, c153, c154, c155, c156, c157, c158, c159, c160, c161, c162, c163, c164, c165, c166, c167, c168, c169, c170, c171, c172, c173, c174, c175, c176, c177, c178, c179, c180], df⟩ wr := by
  conv => arg 2; whnf
  refine region_inv (by kernel_rfl) [[], [], [1], [0, 2, 2], [3], [4], [4], [5, 3, 0, 1, 2, 3, 4, 5], [6, 7, 0, 1, 2, 3, 4, 5, 6, 7]] (by kernel_rfl) [0, 1, 2, 3, 4, 5, 6, 7, 8] (by decide +kernel) (by decide +kernel) (by decide +kernel) (fun L a wc => ∃ (VA : Option Addr) (vc : Nat), Inv sn13_dsts [.agg #[.int .i64 4, .slice GA 2 gc, .int .i64 1], .slice LA 7 lc, .slice VA 7 vc, .tuple #[.int .i64 79, .int .i64 0], .tuple #[.int .i64 79, .int .i64 0], .int .i64 79, .int .i64 0, .int .i64 79, .int .i64 0] ⟨#[c0, .pointer (some ⟨C, 0, none⟩), .slice LA 7 lc, c3, c4, c5, c6, c7, c8, c9, c10, c11, c12, c13, c14, c15, c16, c17, c18, c19, c20, c21, c22, c23, c24, c25, c26, c27, c28, c29, c30, c31, c32, c33, c34, c35, c36, c37, c38, c39, c40, c41, c42, c43, c44, c45, c46, c47, c48, c49, c50, c51, c52, c53, c54, c55, c56, c57, c58, c59, c60, c61, c62, c63, c64, c65, c66, c67, c68, c69, c70, c71, c72, c73, c74, c75, c76, c77, c78, c79, c80, c81, c82, c83, c84, c85, c86, c87, c88, c89, c90, c91, c92, c93, c94, c95, c96, c97, c98, c99, c100, c101, c102, c103, c104, c105, c106, c107, c108, c109, c110, c111, c112, c113, c114, c115, c116, c117, c118, c119, c120, c121, c122, c123, c124, c125, c126, c127, c128, c129, c130, c131, c132, c133, c134, c135, c136, c137, c138, c139, c140, c141, c142, c143, c144, c145, c146, c147, c148, c149, c150, c151, c152, c153, c154, c155, c156, c157, c158, c159, c160, c161, c162, c163, c164, c165, c166, c167, c168, c169, c170, c171, c172, c173, c174, c175, c176, c177, c178, c179, c180], df⟩ L a ∧ Hid (Ext wr wc ∧ (L 2 = true → Rs RS wc (.slice VA 7 vc) l2))) ⟨none, 0, Inv.start, Lib.hid ⟨(Ext.refl wr).drew, fun h => by cases h⟩⟩ ?_ ?_
  · refine ⟨?_, ?_, ?_, ?_, ?_, ?_, ?_, ?_, ?_, trivial⟩
    ·
      rintro L a wc ⟨VA, vc, hv, HO⟩ hL hc hd
      have h0 : wc.cell? ⟨C, 0, none⟩ = some (.int .i64 4) := HO.out.1.cell k0
      have h1 : wc.cell? ⟨C, 1, none⟩ = some (.slice GA 2 gc) := HO.out.1.cell k1
      have h2 : wc.cell? ⟨C, 2, none⟩ = some (.int .i64 1) := HO.out.1.cell k2
      exact wpOp_val rfl rfl (ex_load rfl ((hv.fixed 1 (by decide)).trans rfl) (by go_simp)) ⟨VA, vc, hv.put sn13_apart 0 rfl (lb rfl) (lb rfl) rfl, HO⟩
    ·
      rintro L a wc ⟨VA, vc, hv, HO⟩ hL hc hd
      exact wpOp_val rfl rfl (ex_move rfl ((hv.fixed 2 (by decide)).trans rfl)) ⟨VA, vc, hv.put sn13_apart 1 rfl (lb rfl) (lb rfl) rfl, HO⟩
    ·
      rintro L a wc ⟨VA, vc, hv, HO⟩ hL hc hd
      refine wpOp_call (R := fun v w1 => ∃ A c, v = .slice A 7 c ∧ Rs RS w1 (.slice A 7 c) l2 ∧ Ext wc w1) rfl rfl (ex_call rfl rfl (by simp only [List.map_toArray, List.map_cons, List.map_nil, (hv.get 1 rfl rfl (hd 1 (by decide)))]; rfl) (enters_of Tryd.func28 (by kernel_rfl) rfl _ _)) ((HW.out wc HO.out.1).mono (fun e w' h => by obtain ⟨A, c, rfl, h1, h2⟩ := h; exact ⟨_, rfl, A, c, rfl, h1, h2⟩)) ?_
      rintro v w' ⟨A2, c2, rfl, hr, hx⟩
      exact ⟨A2, c2, hv.put sn13_apart 2 rfl (lb rfl) (lb rfl) rfl, Lib.hid ⟨HO.out.1.trans hx, fun _ => hr⟩⟩
    ·
      rintro L a wc ⟨VA, vc, hv, HO⟩ hL hc hd
      refine wpOp_call (R := fun v w1 => v = .tuple #[.int .i64 79, .int .i64 0] ∧ Ext wc w1) rfl rfl (ex_call rfl rfl (by simp only [List.map_toArray, List.map_cons, List.map_nil, (hv.get 0 rfl rfl (hd 0 (by decide))), (hv.get 2 rfl rfl (hd 2 (by decide)))]; rfl) (enters_of Tryd.func19 (by kernel_rfl) rfl _ _)) ((HC.out wc VA vc HO.out.1 (HO.out.2 (hd 2 (by decide)))).mono (fun e w' h => ⟨_, h.1, rfl, h.2⟩)) ?_
      rintro v w' ⟨rfl, hx⟩
      exact ⟨VA, vc, hv.put sn13_apart 3 rfl (lb rfl) (lb rfl) rfl, Lib.hid ⟨HO.out.1.trans hx, fun h => Rs.ext RS.ext _ _ _ _ hx (HO.out.2 h)⟩⟩
    ·
      rintro L a wc ⟨VA, vc, hv, HO⟩ hL hc hd
      exact wpOp_val rfl rfl (ex_move rfl (hv.get 3 rfl rfl (hd 3 (by decide)))) ⟨VA, vc, hv.put sn13_apart 4 rfl (lb rfl) (lb rfl) rfl, HO⟩
    ·
      rintro L a wc ⟨VA, vc, hv, HO⟩ hL hc hd
      exact wpOp_val rfl rfl (ex_extract9 rfl (hv.get 4 rfl rfl (hd 4 (by decide))) rfl) ⟨VA, vc, hv.put sn13_apart 5 rfl (lb rfl) (lb rfl) rfl, HO⟩
    ·
      rintro L a wc ⟨VA, vc, hv, HO⟩ hL hc hd
      exact wpOp_val rfl rfl (ex_extract9 rfl (hv.get 4 rfl rfl (hd 4 (by decide))) rfl) ⟨VA, vc, hv.put sn13_apart 6 rfl (lb rfl) (lb rfl) rfl, HO⟩
    ·
      rintro L a wc ⟨VA, vc, hv, HO⟩ hL hc hd
      exact wpOp_val rfl rfl (ex_assign rfl (hv.get 5 rfl rfl (hd 5 (by decide)))) ⟨VA, vc, hv.put sn13_apart 7 rfl (lb rfl) (lb rfl) rfl, HO⟩
    ·
      rintro L a wc ⟨VA, vc, hv, HO⟩ hL hc hd
      exact wpOp_val rfl rfl (ex_assign rfl (hv.get 6 rfl rfl (hd 6 (by decide)))) ⟨VA, vc, hv.put sn13_apart 8 rfl (lb rfl) (lb rfl) rfl, HO⟩
  · rintro L a wc ⟨VA, vc, hv, HO⟩ hall
    show K a wc
    have ha := act_lit a
    rw [hv.size, hv.defers] at ha
    have hl : ∀ f : Nat → Value, ((List.range (⟨#[c0, .pointer (some ⟨C, 0, none⟩), .slice LA 7 lc, c3, c4, c5, c6, c7, c8, c9, c10, c11, c12, c13, c14, c15, c16, c17, c18, c19, c20, c21, c22, c23, c24, c25, c26, c27, c28, c29, c30, c31, c32, c33, c34, c35, c36, c37, c38, c39, c40, c41, c42, c43, c44, c45, c46, c47, c48, c49, c50, c51, c52, c53, c54, c55, c56, c57, c58, c59, c60, c61, c62, c63, c64, c65, c66, c67, c68, c69, c70, c71, c72, c73, c74, c75, c76, c77, c78, c79, c80, c81, c82, c83, c84, c85, c86, c87, c88, c89, c90, c91, c92, c93, c94, c95, c96, c97, c98, c99, c100, c101, c102, c103, c104, c105, c106, c107, c108, c109, c110, c111, c112, c113, c114, c115, c116, c117, c118, c119, c120, c121, c122, c123, c124, c125, c126, c127, c128, c129, c130, c131, c132, c133, c134, c135, c136, c137, c138, c139, c140, c141, c142, c143, c144, c145, c146, c147, c148, c149, c150, c151, c152, c153, c154, c155, c156, c157, c158, c159, c160, c161, c162, c163, c164, c165, c166, c167, c168, c169, c170, c171, c172, c173, c174, c175, c176, c177, c178, c179, c180], df⟩ : Act).tmps.size).map f).toArray = #[f 0, f 1, f 2, f 3, f 4, f 5, f 6, f 7, f 8, f 9, f 10, f 11, f 12, f 13, f 14, f 15, f 16, f 17, f 18, f 19, f 20, f 21, f 22, f 23, f 24, f 25, f 26, f 27, f 28, f 29, f 30, f 31, f 32, f 33, f 34, f 35, f 36, f 37, f 38, f 39, f 40, f 41, f 42, f 43, f 44, f 45, f 46, f 47, f 48, f 49, f 50, f 51, f 52, f 53, f 54, f 55, f 56, f 57, f 58, f 59, f 60, f 61, f 62, f 63, f 64, f 65, f 66, f 67, f 68, f 69, f 70, f 71, f 72, f 73, f 74, f 75, f 76, f 77, f 78, f 79, f 80, f 81, f 82, f 83, f 84, f 85, f 86, f 87, f 88, f 89, f 90, f 91, f 92, f 93, f 94, f 95, f 96, f 97, f 98, f 99, f 100, f 101, f 102, f 103, f 104, f 105, f 106, f 107, f 108, f 109, f 110, f 111, f 112, f 113, f 114, f 115, f 116, f 117, f 118, f 119, f 120, f 121, f 122, f 123, f 124, f 125, f 126, f 127, f 128, f 129, f 130, f 131, f 132, f 133, f 134, f 135, f 136, f 137, f 138, f 139, f 140, f 141, f 142, f 143, f 144, f 145, f 146, f 147, f 148, f 149, f 150, f 151, f 152, f 153, f 154, f 155, f 156, f 157, f 158, f 159, f 160, f 161, f 162, f 163, f 164, f 165, f 166, f 167, f 168, f 169, f 170, f 171, f 172, f 173, f 174, f 175, f 176, f 177, f 178, f 179, f 180] := fun _ => rfl
    rw [hl] at ha
    simp only [hv.fixed 0 (by decide), hv.fixed 1 (by decide), hv.fixed 2 (by decide), hv.fixed 3 (by decide), hv.fixed 4 (by decide), hv.fixed 5 (by decide), hv.fixed 6 (by decide), hv.fixed 7 (by decide), hv.fixed 8 (by decide), hv.fixed 9 (by decide), hv.fixed 10 (by decide), hv.fixed 11 (by decide), hv.fixed 12 (by decide), hv.fixed 13 (by decide), hv.fixed 14 (by decide), hv.fixed 15 (by decide), hv.fixed 16 (by decide), hv.fixed 17 (by decide), hv.fixed 18 (by decide), hv.fixed 19 (by decide), hv.fixed 20 (by decide), hv.fixed 21 (by decide), hv.fixed 22 (by decide), hv.fixed 23 (by decide), hv.fixed 24 (by decide), hv.fixed 27 (by decide), hv.fixed 28 (by decide), hv.fixed 29 (by decide), hv.fixed 30 (by decide), hv.fixed 31 (by decide), hv.fixed 32 (by decide), hv.fixed 33 (by decide), hv.fixed 34 (by decide), hv.fixed 35 (by decide), hv.fixed 36 (by decide), hv.fixed 37 (by decide), hv.fixed 38 (by decide), hv.fixed 39 (by decide), hv.fixed 40 (by decide), hv.fixed 41 (by decide), hv.fixed 42 (by decide), hv.fixed 43 (by decide), hv.fixed 44 (by decide), hv.fixed 45 (by decide), hv.fixed 46 (by decide), hv.fixed 47 (by decide), hv.fixed 48 (by decide), hv.fixed 49 (by decide), hv.fixed 50 (by decide), hv.fixed 51 (by decide), hv.fixed 52 (by decide), hv.fixed 53 (by decide), hv.fixed 54 (by decide), hv.fixed 55 (by decide), hv.fixed 56 (by decide), hv.fixed 57 (by decide), hv.fixed 58 (by decide), hv.fixed 59 (by decide), hv.fixed 60 (by decide), hv.fixed 61 (by decide), hv.fixed 62 (by decide), hv.fixed 63 (by decide), hv.fixed 64 (by decide), hv.fixed 65 (by decide), hv.fixed 66 (by decide), hv.fixed 67 (by decide), hv.fixed 68 (by decide), hv.fixed 69 (by decide), hv.fixed 70 (by decide), hv.fixed 71 (by decide), hv.fixed 72 (by decide), hv.fixed 73 (by decide), hv.fixed 74 (by decide), hv.fixed 75 (by decide), hv.fixed 76 (by decide), hv.fixed 77 (by decide), hv.fixed 78 (by decide), hv.fixed 79 (by decide), hv.fixed 80 (by decide), hv.fixed 81 (by decide), hv.fixed 82 (by decide), hv.fixed 83 (by decide), hv.fixed 84 (by decide), hv.fixed 85 (by decide), hv.fixed 86 (by decide), hv.fixed 87 (by decide), hv.fixed 88 (by decide), hv.fixed 89 (by decide), hv.fixed 90 (by decide), hv.fixed 98 (by decide), hv.fixed 99 (by decide), hv.fixed 100 (by decide), hv.fixed 101 (by decide), hv.fixed 102 (by decide), hv.fixed 103 (by decide), hv.fixed 104 (by decide), hv.fixed 105 (by decide), hv.fixed 106 (by decide), hv.fixed 107 (by decide), hv.fixed 108 (by decide), hv.fixed 109 (by decide), hv.fixed 110 (by decide), hv.fixed 111 (by decide), hv.fixed 112 (by decide), hv.fixed 113 (by decide), hv.fixed 114 (by decide), hv.fixed 115 (by decide), hv.fixed 116 (by decide), hv.fixed 117 (by decide), hv.fixed 118 (by decide), hv.fixed 119 (by decide), hv.fixed 120 (by decide), hv.fixed 121 (by decide), hv.fixed 122 (by decide), hv.fixed 123 (by decide), hv.fixed 124 (by decide), hv.fixed 125 (by decide), hv.fixed 126 (by decide), hv.fixed 127 (by decide), hv.fixed 128 (by decide), hv.fixed 129 (by decide), hv.fixed 130 (by decide), hv.fixed 131 (by decide), hv.fixed 132 (by decide), hv.fixed 133 (by decide), hv.fixed 134 (by decide), hv.fixed 135 (by decide), hv.fixed 136 (by decide), hv.fixed 137 (by decide), hv.fixed 138 (by decide), hv.fixed 139 (by decide), hv.fixed 140 (by decide), hv.fixed 141 (by decide), hv.fixed 142 (by decide), hv.fixed 143 (by decide), hv.fixed 144 (by decide), hv.fixed 145 (by decide), hv.fixed 146 (by decide), hv.fixed 147 (by decide), hv.fixed 148 (by decide), hv.fixed 149 (by decide), hv.fixed 150 (by decide), hv.fixed 151 (by decide), hv.fixed 152 (by decide), hv.fixed 153 (by decide), hv.fixed 154 (by decide), hv.fixed 155 (by decide), hv.fixed 156 (by decide), hv.fixed 157 (by decide), hv.fixed 158 (by decide), hv.fixed 159 (by decide), hv.fixed 160 (by decide), hv.fixed 161 (by decide), hv.fixed 162 (by decide), hv.fixed 163 (by decide), hv.fixed 164 (by decide), hv.fixed 165 (by decide), hv.fixed 166 (by decide), hv.fixed 167 (by decide), hv.fixed 168 (by decide), hv.fixed 169 (by decide), hv.fixed 170 (by decide), hv.fixed 171 (by decide), hv.fixed 172 (by decide), hv.fixed 173 (by decide), hv.fixed 174 (by decide), hv.fixed 175 (by decide), hv.fixed 176 (by decide), hv.fixed 177 (by decide), hv.fixed 178 (by decide), hv.fixed 179 (by decide), hv.fixed 180 (by decide), hv.get 7 (d := 25) rfl rfl (hall 7 (by decide)), hv.get 8 (d := 26) rfl rfl (hall 8 (by decide))] at ha
    rw [ha]
    exact hK _ _ _ _ _ _ _ wc HO.out.1
end Go.Proofs.YtggfkpalkdkbdaaDoor

/- THE WALK over sanity (quietuslaw09). -/
namespace Lo
theorem ex_rows : (Cd.rowsOf 4 exG 1).length ≤ 14 := by decide +kernel
end Lo
namespace Go.Proofs.YtggfkpalkdkbdaaDoor
open Go.RowKit
set_option maxHeartbeats 16000000 in
set_option maxRecDepth 100000 in
theorem sanity9_any (w : World) (hT : Tab w) : Calls Tryd.prog 10 #[] w fun e w' => e = .returned (.bool true) ∧ Ext w w' := by
  have HT0 := Lib.hid hT
  clear hT
  go_enter Tryd.func10, Tryd.ntmps10
  go_upto_region 2 with fail
  refine (example9_any w).mono ?_
  rintro e w1 ⟨GA, gc, LA, lc, rfl, hG, hL, hx1⟩
  have hxa := (Ext.refl w1).alloc (.cells #[.int .i64 4, .slice GA 2 gc, .int .i64 1] 24)
  obtain ⟨LB, uL, rfl, _, _⟩ := hL.at (i := 0) (by decide)
  have hcn := cells_new w1 #[.int .i64 4, .slice GA 2 gc, .int .i64 1] 24
  have HG1 := Lib.hid (Rs.ext (Rs.ext RI.ext) _ _ _ _ hxa hG)
  have HL1 := Lib.hid (Rs.ext RS.ext _ _ _ _ hxa hL)
  have HX01 := Lib.hid (hx1.trans hxa)
  have HCN := Lib.hid hcn
  clear hG hL hx1 hcn
  go_upto_region 2 with fail
  obtain ⟨C, hC⟩ : ∃ C, w1.heap.size = C := ⟨_, rfl⟩
  rw [hC] at HCN
  rw [hC]
  obtain ⟨wa, hwa⟩ : ∃ x, w1.alloc (.cells #[.int .i64 4, .slice GA 2 gc, .int .i64 1] 24) = x := ⟨_, rfl⟩
  rw [hwa] at HG1 HL1 HX01 HCN ⊢
  have HG := Lib.hid HG1.out
  have HL := Lib.hid HL1.out
  have HT := Lib.hid (HT0.out.ext HX01.out)
  have HK : Hid (wa.cell? ⟨C, 0, none⟩ = some (.int .i64 4) ∧ wa.cell? ⟨C, 1, none⟩ = some (.slice GA 2 gc) ∧ wa.cell? ⟨C, 2, none⟩ = some (.int .i64 1)) := Lib.hid ⟨HCN.out 0 _ rfl, HCN.out 1 _ rfl, HCN.out 2 _ rfl⟩
  have HX := Lib.hid (Ext.refl wa)
  clear hxa hwa hC HG1 HL1 HCN HT0
  have hc := with9_any Lo.exL LB 7 lc 2 [9, 9] wa HL.out rfl (by decide) (by decide)
  have HC := Lib.hid hc
  clear hc
  go_upto_region 3 with fail
  refine HC.out.mono ?_
  clear HC
  rintro e w2 ⟨A1, d1, rfl, hl1, hx⟩
  have H1 : Hid (Rs RS w2 (.slice A1 7 d1) Lo.exOne) := Lib.hid hl1
  have HX2 := Lib.hid hx
  replace HX := Lib.hid (HX.out.trans hx)
  clear hx
  obtain ⟨A1, uA, rfl, _, _⟩ := hl1.at (i := 0) (by decide)
  clear hl1
  have hc := with9_any Lo.exOne A1 7 d1 3 [9, 9] w2 H1.out rfl (by decide) (by decide)
  have HC := Lib.hid hc
  clear hc
  go_upto_region 4 with fail
  refine HC.out.mono ?_
  clear HC
  rintro e w3 ⟨A2, d2, rfl, hl2, hx⟩
  have H2 : Hid (Rs RS w3 (.slice A2 7 d2) Lo.exTwo) := Lib.hid hl2
  replace H1 := Lib.hid (Rs.ext RS.ext _ _ _ _ hx H1.out)
  have HX3 := Lib.hid (Ext.refl w3)
  clear hl2 HX2
  replace HX := Lib.hid (HX.out.trans hx)
  clear hx
  have hc := lDetects_any 4 1 Lo.exG 127 2 _ w3 (HT.out.ext HX.out) (Rs.ext (Rs.ext RI.ext) _ _ _ _ HX.out HG.out) (fun _ => Lo.ex_rows)
  rw [Lo.ex_det2.1, Lo.ex_det2.2] at hc
  have HC := Lib.hid hc
  have k0 : w3.cell? ⟨C, 0, none⟩ = some (.int .i64 4) := HX.out.cell HK.out.1
  have k1 : w3.cell? ⟨C, 1, none⟩ = some (.slice GA 2 gc) := HX.out.cell HK.out.2.1
  have k2 : w3.cell? ⟨C, 2, none⟩ = some (.int .i64 1) := HX.out.cell HK.out.2.2
  clear hc
  go_wp2_with fail
  refine HC.out.mono ?_
  clear HC
  rintro e w4 ⟨rfl, hx⟩
  clear k0 k1 k2
  replace HX3 := Lib.hid (HX3.out.trans hx)
  replace HX := Lib.hid (HX.out.trans hx)
  clear hx
  have hc := lDetects_any 4 1 Lo.exG 127 3 _ w4 (HT.out.ext HX.out) (Rs.ext (Rs.ext RI.ext) _ _ _ _ HX.out HG.out) (fun _ => Lo.ex_rows)
  rw [Lo.ex_det3.1, Lo.ex_det3.2] at hc
  have HC := Lib.hid hc
  have k0 : w4.cell? ⟨C, 0, none⟩ = some (.int .i64 4) := HX.out.cell HK.out.1
  have k1 : w4.cell? ⟨C, 1, none⟩ = some (.slice GA 2 gc) := HX.out.cell HK.out.2.1
  have k2 : w4.cell? ⟨C, 2, none⟩ = some (.int .i64 1) := HX.out.cell HK.out.2.2
  clear hc
  go_wp2_with fail
  refine HC.out.mono ?_
  clear HC
  rintro e w5 ⟨rfl, hx⟩
  clear k0 k1 k2
  replace HX3 := Lib.hid (HX3.out.trans hx)
  replace HX := Lib.hid (HX.out.trans hx)
  clear hx
  have hc := lCorrects_any 4 1 Lo.exG 127 1 _ w5 (HT.out.ext HX.out) (Rs.ext (Rs.ext RI.ext) _ _ _ _ HX.out HG.out) (fun _ => Lo.ex_rows)
  rw [Lo.ex_cor1.1, Lo.ex_cor1.2] at hc
  have HC := Lib.hid hc
  have k0 : w5.cell? ⟨C, 0, none⟩ = some (.int .i64 4) := HX.out.cell HK.out.1
  have k1 : w5.cell? ⟨C, 1, none⟩ = some (.slice GA 2 gc) := HX.out.cell HK.out.2.1
  have k2 : w5.cell? ⟨C, 2, none⟩ = some (.int .i64 1) := HX.out.cell HK.out.2.2
  clear hc
  go_wp2_with fail
  refine HC.out.mono ?_
  clear HC
  rintro e w6 ⟨rfl, hx⟩
  clear k0 k1 k2
  replace HX3 := Lib.hid (HX3.out.trans hx)
  replace HX := Lib.hid (HX.out.trans hx)
  clear hx
  have hc := lCorrects_any 4 1 Lo.exG 63 1 _ w6 (HT.out.ext HX.out) (Rs.ext (Rs.ext RI.ext) _ _ _ _ HX.out HG.out) (fun _ => Lo.ex_rows)
  rw [Lo.ex_cor63.1, Lo.ex_cor63.2] at hc
  have HC := Lib.hid hc
  have k0 : w6.cell? ⟨C, 0, none⟩ = some (.int .i64 4) := HX.out.cell HK.out.1
  have k1 : w6.cell? ⟨C, 1, none⟩ = some (.slice GA 2 gc) := HX.out.cell HK.out.2.1
  have k2 : w6.cell? ⟨C, 2, none⟩ = some (.int .i64 1) := HX.out.cell HK.out.2.2
  clear hc
  go_wp2_with fail
  refine HC.out.mono ?_
  clear HC
  rintro e w7 ⟨rfl, hx⟩
  clear k0 k1 k2
  replace HX3 := Lib.hid (HX3.out.trans hx)
  replace HX := Lib.hid (HX.out.trans hx)
  clear hx
  have hc := lLocate_any 4 1 7 127 1 Lo.exG Lo.exOne _ (some A1) d1 w7 (HT.out.ext HX.out) (Rs.ext (Rs.ext RI.ext) _ _ _ _ HX.out HG.out) (Rs.ext RS.ext _ _ _ _ HX3.out H1.out) (by decide) (fun _ => Lo.ex_rows)
  rw [Lo.ex_one] at hc
  have HC := Lib.hid hc
  have k0 : w7.cell? ⟨C, 0, none⟩ = some (.int .i64 4) := HX.out.cell HK.out.1
  have k1 : w7.cell? ⟨C, 1, none⟩ = some (.slice GA 2 gc) := HX.out.cell HK.out.2.1
  have k2 : w7.cell? ⟨C, 2, none⟩ = some (.int .i64 1) := HX.out.cell HK.out.2.2
  clear hc
  go_wp2_with fail
  refine HC.out.mono ?_
  clear HC
  rintro e w8 ⟨rfl, hx⟩
  clear k0 k1 k2
  replace HX3 := Lib.hid (HX3.out.trans hx)
  replace HX := Lib.hid (HX.out.trans hx)
  clear hx
  obtain ⟨s2, hs2⟩ : ∃ s, sb (Lo.locR 4 1 Lo.exG 7 127 Lo.exTwo 1).1 = s := ⟨_, rfl⟩
  obtain ⟨z2, hz2⟩ : ∃ s, (Lo.locR 4 1 Lo.exG 7 127 Lo.exTwo 1).2.1 = s := ⟨_, rfl⟩
  have hc := lLocate_any 4 1 7 127 1 Lo.exG Lo.exTwo _ A2 d2 w8 (HT.out.ext HX.out) (Rs.ext (Rs.ext RI.ext) _ _ _ _ HX.out HG.out) (Rs.ext RS.ext _ _ _ _ HX3.out H2.out) (by decide) (fun _ => Lo.ex_rows)
  rw [hs2, hz2, Lo.ex_two] at hc
  have HC := Lib.hid hc
  have k0 : w8.cell? ⟨C, 0, none⟩ = some (.int .i64 4) := HX.out.cell HK.out.1
  have k1 : w8.cell? ⟨C, 1, none⟩ = some (.slice GA 2 gc) := HX.out.cell HK.out.2.1
  have k2 : w8.cell? ⟨C, 2, none⟩ = some (.int .i64 1) := HX.out.cell HK.out.2.2
  clear hc
  clear hs2 hz2
  go_wp2_with fail
  refine HC.out.mono ?_
  clear HC
  rintro e w9 ⟨rfl, hx⟩
  clear k0 k1 k2
  replace HX3 := Lib.hid (HX3.out.trans hx)
  replace HX := Lib.hid (HX.out.trans hx)
  clear hx
  have hc := lFits_any 4 1 7 19 Lo.exG Lo.exL _ (some LB) lc w9 (HT.out.ext HX.out) (Rs.ext (Rs.ext RI.ext) _ _ _ _ HX.out HG.out) (Rs.ext RS.ext _ _ _ _ HX.out HL.out)
  rw [Lo.ex_fit.1, Lo.ex_fit.2] at hc
  have HC := Lib.hid hc
  have k0 : w9.cell? ⟨C, 0, none⟩ = some (.int .i64 4) := HX.out.cell HK.out.1
  have k1 : w9.cell? ⟨C, 1, none⟩ = some (.slice GA 2 gc) := HX.out.cell HK.out.2.1
  have k2 : w9.cell? ⟨C, 2, none⟩ = some (.int .i64 1) := HX.out.cell HK.out.2.2
  clear hc
  go_wp2_with fail
  refine HC.out.mono ?_
  clear HC
  rintro e w10 ⟨rfl, hx⟩
  clear k0 k1 k2
  replace HX3 := Lib.hid (HX3.out.trans hx)
  replace HX := Lib.hid (HX.out.trans hx)
  clear hx
  have HW : Hid (∀ w1 : World, Ext w10 w1 → Calls Tryd.prog 28 #[.slice (some LB) 7 lc, .int .i64 4, .string ⟨#[2, 7]⟩] w1 fun e w' => ∃ A c, e = .returned (.slice A 7 c) ∧ Rs RS w' (.slice A 7 c) Lo.exA ∧ Ext w1 w') := Lib.hid fun w1 h => with9_any Lo.exL LB 7 lc 4 [2, 7] w1 (Rs.ext RS.ext _ _ _ _ (HX.out.trans h) HL.out) rfl (by decide) (by decide)
  have HC : Hid (∀ (w1 : World) (A : Option Addr) (c : Nat), Ext w10 w1 → Rs RS w1 (.slice A 7 c) Lo.exA → Calls Tryd.prog 17 #[.agg #[.int .i64 4, .slice GA 2 gc, .int .i64 1], .int .i64 7, .int .i64 19, .slice A 7 c] w1 fun e w' => e = .returned (.tuple #[.bool false, .int .i64 0]) ∧ Ext w1 w') := Lib.hid fun w1 A c h hr => by
    have hc := lFits_any 4 1 7 19 Lo.exG Lo.exA _ A c w1 (HT.out.ext (HX.out.trans h)) (Rs.ext (Rs.ext RI.ext) _ _ _ _ (HX.out.trans h) HG.out) hr
    rw [Lo.ex_fitA.1, Lo.ex_fitA.2] at hc
    exact hc
  have k0 : w10.cell? ⟨C, 0, none⟩ = some (.int .i64 4) := HX.out.cell HK.out.1
  have k1 : w10.cell? ⟨C, 1, none⟩ = some (.slice GA 2 gc) := HX.out.cell HK.out.2.1
  have k2 : w10.cell? ⟨C, 2, none⟩ = some (.int .i64 1) := HX.out.cell HK.out.2.2
  go_upto_region 11 with fail
  refine wp_atEnd' (sn11 w10 C lc gc GA (some LB) Lo.exA k0 k1 k2 HW HC _ _ _ _ _ _ _ _ _ _ _ _ _ _ _ _ _ _ _ _ _ _ _ _ _ _ _ _ _ _ _ _ _ _ _ _ _ _ _ _ _ _ _ _ _ _ _ _ _ _ _ _ _ _ _ _ _ _ _ _ _ _ _ _ _ _ _ _ _ _ _ _ _ _ _ _ _ _ _ _ _ _ _ _ _ _ _ _ _ _ _ _ _ _ _ _ _ _ _ _ _ _ _ _ _ _ _ _ _ _ _ _ _ _ _ _ _ _ _ _ _ _ _ _ _ _ _ _ _ _ _ _ _ _ _ _ _ _ _ _ _ _ _ _ _ _ _ _ _ _ _ _ _ _ _ _ _ _ _ _ _ _ _ _ _ _ _ _ _ _ _ _ _ _ _ _ _ _ _ _ _ ?_)
  rintro u77 u78 u79 u80 u81 u82 u83 w11 hx
  clear k0 k1 k2 HW HC
  replace HX3 := Lib.hid (HX3.out.trans hx)
  replace HX := Lib.hid (HX.out.trans hx)
  clear hx
  have HW : Hid (∀ w1 : World, Ext w11 w1 → Calls Tryd.prog 28 #[.slice (some LB) 7 lc, .int .i64 4, .string ⟨#[2, 7]⟩] w1 fun e w' => ∃ A c, e = .returned (.slice A 7 c) ∧ Rs RS w' (.slice A 7 c) Lo.exA ∧ Ext w1 w') := Lib.hid fun w1 h => with9_any Lo.exL LB 7 lc 4 [2, 7] w1 (Rs.ext RS.ext _ _ _ _ (HX.out.trans h) HL.out) rfl (by decide) (by decide)
  have HC : Hid (∀ (w1 : World) (A : Option Addr) (c : Nat), Ext w11 w1 → Rs RS w1 (.slice A 7 c) Lo.exA → Calls Tryd.prog 19 #[.agg #[.int .i64 4, .slice GA 2 gc, .int .i64 1], .int .i64 7, .int .i64 127, .slice A 7 c] w1 fun e w' => e = .returned (.tuple #[.int .i64 19, .int .i64 0]) ∧ Ext w1 w') := Lib.hid fun w1 A c h hr => by
    have hc := lClash_any 4 1 7 127 Lo.exG Lo.exA _ A c w1 (HT.out.ext (HX.out.trans h)) (Rs.ext (Rs.ext RI.ext) _ _ _ _ (HX.out.trans h) HG.out) hr (fun _ => Lo.ex_rows)
    refine hc.mono ?_
    rintro e w' ⟨x, E, rfl, h1, h2⟩
    obtain ⟨rfl, rfl⟩ := Lo.cl_ex Lo.ex_givA Lo.ex_clA h1
    exact ⟨rfl, h2⟩
  have k0 : w11.cell? ⟨C, 0, none⟩ = some (.int .i64 4) := HX.out.cell HK.out.1
  have k1 : w11.cell? ⟨C, 1, none⟩ = some (.slice GA 2 gc) := HX.out.cell HK.out.2.1
  have k2 : w11.cell? ⟨C, 2, none⟩ = some (.int .i64 1) := HX.out.cell HK.out.2.2
  go_upto_region 12 with fail
  refine wp_atEnd' (sn12 w11 C lc gc GA (some LB) Lo.exA k0 k1 k2 HW HC _ _ _ _ _ _ _ _ _ _ _ _ _ _ _ _ _ _ _ _ _ _ _ _ _ _ _ _ _ _ _ _ _ _ _ _ _ _ _ _ _ _ _ _ _ _ _ _ _ _ _ _ _ _ _ _ _ _ _ _ _ _ _ _ _ _ _ _ _ _ _ _ _ _ _ _ _ _ _ _ _ _ _ _ _ _ _ _ _ _ _ _ _ _ _ _ _ _ _ _ _ _ _ _ _ _ _ _ _ _ _ _ _ _ _ _ _ _ _ _ _ _ _ _ _ _ _ _ _ _ _ _ _ _ _ _ _ _ _ _ _ _ _ _ _ _ _ _ _ _ _ _ _ _ _ _ _ _ _ _ _ _ _ _ _ _ _ _ _ _ _ _ _ _ _ _ _ _ _ _ _ ?_)
  rintro u84 u85 u86 u87 u88 u89 u90 w12 hx
  clear k0 k1 k2 HW HC
  replace HX3 := Lib.hid (HX3.out.trans hx)
  replace HX := Lib.hid (HX.out.trans hx)
  clear hx
  have HW : Hid (∀ w1 : World, Ext w12 w1 → Calls Tryd.prog 28 #[.slice (some LB) 7 lc, .int .i64 6, .string ⟨#[0, 0]⟩] w1 fun e w' => ∃ A c, e = .returned (.slice A 7 c) ∧ Rs RS w' (.slice A 7 c) Lo.exB ∧ Ext w1 w') := Lib.hid fun w1 h => with9_any Lo.exL LB 7 lc 6 [0, 0] w1 (Rs.ext RS.ext _ _ _ _ (HX.out.trans h) HL.out) rfl (by decide) (by decide)
  have HC : Hid (∀ (w1 : World) (A : Option Addr) (c : Nat), Ext w12 w1 → Rs RS w1 (.slice A 7 c) Lo.exB → Calls Tryd.prog 19 #[.agg #[.int .i64 4, .slice GA 2 gc, .int .i64 1], .int .i64 7, .int .i64 127, .slice A 7 c] w1 fun e w' => e = .returned (.tuple #[.int .i64 79, .int .i64 0]) ∧ Ext w1 w') := Lib.hid fun w1 A c h hr => by
    have hc := lClash_any 4 1 7 127 Lo.exG Lo.exB _ A c w1 (HT.out.ext (HX.out.trans h)) (Rs.ext (Rs.ext RI.ext) _ _ _ _ (HX.out.trans h) HG.out) hr (fun _ => Lo.ex_rows)
    refine hc.mono ?_
    rintro e w' ⟨x, E, rfl, h1, h2⟩
    obtain ⟨rfl, rfl⟩ := Lo.cl_ex Lo.ex_givB Lo.ex_clB h1
    exact ⟨rfl, h2⟩
  have k0 : w12.cell? ⟨C, 0, none⟩ = some (.int .i64 4) := HX.out.cell HK.out.1
  have k1 : w12.cell? ⟨C, 1, none⟩ = some (.slice GA 2 gc) := HX.out.cell HK.out.2.1
  have k2 : w12.cell? ⟨C, 2, none⟩ = some (.int .i64 1) := HX.out.cell HK.out.2.2
  go_upto_region 13 with fail
  refine wp_atEnd' (sn13 w12 C lc gc GA (some LB) Lo.exB k0 k1 k2 HW HC _ _ _ _ _ _ _ _ _ _ _ _ _ _ _ _ _ _ _ _ _ _ _ _ _ _ _ _ _ _ _ _ _ _ _ _ _ _ _ _ _ _ _ _ _ _ _ _ _ _ _ _ _ _ _ _ _ _ _ _ _ _ _ _ _ _ _ _ _ _ _ _ _ _ _ _ _ _ _ _ _ _ _ _ _ _ _ _ _ _ _ _ _ _ _ _ _ _ _ _ _ _ _ _ _ _ _ _ _ _ _ _ _ _ _ _ _ _ _ _ _ _ _ _ _ _ _ _ _ _ _ _ _ _ _ _ _ _ _ _ _ _ _ _ _ _ _ _ _ _ _ _ _ _ _ _ _ _ _ _ _ _ _ _ _ _ _ _ _ _ _ _ _ _ _ _ _ _ _ _ _ ?_)
  rintro u91 u92 u93 u94 u95 u96 u97 w13 hx
  clear k0 k1 k2 HW HC
  replace HX3 := Lib.hid (HX3.out.trans hx)
  replace HX := Lib.hid (HX.out.trans hx)
  clear hx
  have hc := lClash_any 4 1 7 127 Lo.exG Lo.exL _ (some LB) lc w13 (HT.out.ext HX.out) (Rs.ext (Rs.ext RI.ext) _ _ _ _ HX.out HG.out) (Rs.ext RS.ext _ _ _ _ HX.out HL.out) (fun _ => Lo.ex_rows)
  have HC := Lib.hid hc
  have k0 : w13.cell? ⟨C, 0, none⟩ = some (.int .i64 4) := HX.out.cell HK.out.1
  have k1 : w13.cell? ⟨C, 1, none⟩ = some (.slice GA 2 gc) := HX.out.cell HK.out.2.1
  have k2 : w13.cell? ⟨C, 2, none⟩ = some (.int .i64 1) := HX.out.cell HK.out.2.2
  clear hc
  go_wp2_with fail
  refine HC.out.mono ?_
  clear HC
  rintro e w14 ⟨x, E, rfl, hco, hx⟩
  clear k0 k1 k2
  obtain rfl := Lo.cl_exN Lo.ex_givL Lo.ex_clL hco
  replace HX := Lib.hid (HX.out.trans hx)
  have hsb : sb [1, 2, 3, 4, 5, 6, 7] = ⟨#[1, 2, 3, 4, 5, 6, 7]⟩ := rfl
  rw [hsb]
  clear hx hco hsb
  go_wp2_with fail
  go_ret
  exact ⟨rfl, HX01.out.trans HX.out⟩
end Go.Proofs.YtggfkpalkdkbdaaDoor
