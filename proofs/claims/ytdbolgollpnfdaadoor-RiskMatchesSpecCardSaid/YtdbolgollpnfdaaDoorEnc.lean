/- CODES, in plain terms: pieces that fit data, and how they are solved for it. No program in sight. -/
import Derived.Test.YtdbolgollpnfdaaDoorCodeT
namespace Cd
open Gf Go.Proofs.YtdbolgollpnfdaaDoor
/-- The bytes p are what a row makes of data pieces D, L bytes each. -/
def Fits (d L : Nat) (D : Nat → Nat → UInt8) (r p : List UInt8) : Prop := p.length = L ∧ ∀ x, x < L → p.getD x 0 = sm d fun i => mul (r.getD i 0) (D i x)
theorem sum_get (s t : List UInt8) (x : Nat) : (sum s t).getD x 0 = s.getD x 0 ^^^ t.getD x 0 := by
  rcases Nat.lt_or_ge x (max s.length t.length) with h | h
  · exact getD_map_range _ _ h
  · have h1 : s.length ≤ x := by omega
    have h2 : t.length ≤ x := by omega
    rw [getD_out (l := s) h1, getD_out (l := t) h2, getD_out (by simp [sum]; omega)]
    rfl
theorem sum_len (s t : List UInt8) : (sum s t).length = max s.length t.length := by simp [sum]
theorem scale_len (c : UInt8) (s : List UInt8) : (scale c s).length = s.length := by simp [scale]
theorem scale_get (c : UInt8) (s : List UInt8) {x : Nat} (h : x < s.length) : (scale c s).getD x 0 = mul c (s.getD x 0) := by
  unfold scale
  rw [List.getD_eq_getElem?_getD, List.getElem?_map, List.getD_eq_getElem?_getD, List.getElem?_eq_getElem h]
  rfl
theorem Fits.plus {d L : Nat} {D : Nat → Nat → UInt8} {r p x q : List UInt8} (h : Fits d L D r p) (hx : Fits d L D x q) (f : UInt8) {t : List UInt8} (ht : ∀ i, i < d → t.getD i 0 = r.getD i 0 ^^^ mul f (x.getD i 0)) :
    Fits d L D t (sum p (scale f q)) := by
  refine ⟨by rw [sum_len, scale_len, h.1, hx.1]; simp, fun k hk => ?_⟩
  rw [sum_get, scale_get _ _ (by rw [hx.1]; exact hk), h.2 k hk, hx.2 k hk, sm_mul, ← sm_add]
  refine sm_congr fun i hi => ?_
  rw [ht i hi, xor_mul, mul_assoc]
theorem Fits.congr {d L : Nat} {D : Nat → Nat → UInt8} {r p t : List UInt8} (h : Fits d L D r p) (ht : ∀ i, i < d → t.getD i 0 = r.getD i 0) : Fits d L D t p :=
  ⟨h.1, fun k hk => by rw [h.2 k hk]; exact sm_congr fun i hi => by rw [ht i hi]⟩
theorem Fits.scaled {d L : Nat} {D : Nat → Nat → UInt8} {r p : List UInt8} (h : Fits d L D r p) (c : UInt8) : Fits d L D (r.map (mul c)) (scale c p) := by
  refine ⟨by rw [scale_len, h.1], fun k hk => ?_⟩
  rw [scale_get _ _ (by rw [h.1]; exact hk), h.2 k hk, sm_mul]
  refine sm_congr fun i hi => ?_
  rw [getD_map_mul, mul_assoc]
theorem Fits.red {d L : Nat} {D : Nat → Nat → UInt8} {r p x q : List UInt8} (h : Fits d L D r p) (hx : Fits d L D x q) (hr : r.length = d) : Fits d L D (redRow r x) (redPart p r x q) := by
  by_cases hf : r.getD (firstNZ x) 0 = 0
  · rw [redPart_zero hf, redRow_same hf]; exact h
  · rw [redPart_nz hf]
    exact h.plus hx _ fun i hi => redRow_get r x (by omega)
theorem Fits.redTo {d L : Nat} {D : Nat → Nat → UInt8} {S Ps : List (List UInt8)} {r p : List UInt8} (h : Fits d L D r p) (hr : r.length = d) (hS : ∀ k, k < S.length → Fits d L D (S.getD k []) (Ps.getD k [])) :
    ∀ k, k ≤ S.length → Fits d L D (redTo S Ps r p k).1 (redTo S Ps r p k).2
  | 0, _ => h
  | k + 1, hk => (Fits.redTo h hr hS k (by omega)).red (hS k (by omega)) (by rw [redTo_length, hr])
theorem getD_app {α : Type} (l : List α) (x y : α) (k : Nat) : (l ++ [x]).getD k y = if k = l.length then x else l.getD k y := by
  rw [List.getD_eq_getElem?_getD, List.getD_eq_getElem?_getD, List.getElem?_append]
  split
  · rename_i h
    rw [if_neg (by omega)]
  · rename_i h
    split
    · rename_i h2
      rw [h2]; simp
    · rename_i h2
      rw [List.getElem?_eq_none (by simp; omega), List.getElem?_eq_none (by omega)]
theorem Fits.add {d L : Nat} {D : Nat → Nat → UInt8} {S Ps : List (List UInt8)} {l p : List UInt8} (hl : l.length = d) (hp : Ps.length = S.length) (h : Fits d L D l p) (hS : ∀ k, k < S.length → Fits d L D (S.getD k []) (Ps.getD k [])) :
    ∀ k, k < (addTo S Ps l p).1.length → Fits d L D ((addTo S Ps l p).1.getD k []) ((addTo S Ps l p).2.getD k []) := by
  cases ha : addRow S l with
  | none => rw [addTo_none ha]; exact hS
  | some t =>
    rw [addTo_some ha]
    intro k hk
    rw [getD_app, getD_app, hp]
    by_cases hk2 : k = S.length
    · rw [if_pos hk2, if_pos hk2]
      have h1 := Fits.redTo h hl hS S.length (Nat.le_refl _)
      rw [redTo_full] at h1
      unfold addRow at ha
      split at ha
      · cases ha
      · injection ha with ha
        subst ha
        exact h1.scaled _
    · rw [if_neg hk2, if_neg hk2]
      exact hS k (by simp at hk; omega)
theorem addTo_len {S Ps : List (List UInt8)} {l p : List UInt8} (hp : Ps.length = S.length) : (addTo S Ps l p).2.length = (addTo S Ps l p).1.length := by
  cases ha : addRow S l with
  | none => rw [addTo_none ha]; exact hp
  | some t => rw [addTo_some ha]; simp [hp]
/-- All parts have L bytes. -/
def Even (L : Nat) (Ps : List (List UInt8)) : Prop := ∀ p ∈ Ps, p.length = L
theorem Even.get {L : Nat} {Ps : List (List UInt8)} (h : Even L Ps) {k : Nat} (hk : k < Ps.length) : (Ps.getD k []).length = L := by
  rw [List.getD_eq_getElem?_getD, List.getElem?_eq_getElem hk]
  exact h _ (List.getElem_mem hk)
theorem redTo_even {L : Nat} {S Ps : List (List UInt8)} {l p : List UInt8} (hp : Ps.length = S.length) (h : Even L Ps) (hl : p.length = L) : ∀ k, k ≤ S.length → (redTo S Ps l p k).2.length = L
  | 0, _ => hl
  | k + 1, hk => by
    have ih := redTo_even (l := l) hp h hl k (by omega)
    rw [redTo]
    show (redPart _ _ _ _).length = L
    by_cases hf : (redTo S Ps l p k).1.getD (firstNZ (S.getD k [])) 0 = 0
    · rw [redPart_zero hf]; exact ih
    · rw [redPart_nz hf, sum_len, scale_len, ih, h.get (by omega)]; simp
theorem addTo_even {L : Nat} {S Ps : List (List UInt8)} {l p : List UInt8} (hp : Ps.length = S.length) (h : Even L Ps) (hl : p.length = L) : Even L (addTo S Ps l p).2 := by
  cases ha : addRow S l with
  | none => rw [addTo_none ha]; exact h
  | some t =>
    rw [addTo_some ha]
    intro q hq
    rcases List.mem_append.1 hq with hq | hq
    · exact h q hq
    · obtain rfl := List.mem_singleton.1 hq
      show (scale _ _).length = L
      rw [scale_len]
      exact redTo_even hp h hl _ (Nat.le_refl _)
/-- collect's stairs and their parts, after k rows. -/
def colTo (n : Nat) (rows : List (List UInt8)) (m : Nat) (pieces : List (List UInt8)) : Nat → List (List UInt8) × List (List UInt8)
  | 0 => ([], [])
  | k + 1 => if bitAt m k = 1 ∧ (colTo n rows m pieces k).1.length < n then addTo (colTo n rows m pieces k).1 (colTo n rows m pieces k).2 (rows.getD k []) (pieces.getD k []) else colTo n rows m pieces k
def col (n : Nat) (rows : List (List UInt8)) (m : Nat) (pieces : List (List UInt8)) : List (List UInt8) × List (List UInt8) := colTo n rows m pieces rows.length
theorem colTo_yes {n : Nat} {rows : List (List UInt8)} {m : Nat} {pieces : List (List UInt8)} {k : Nat} (h : bitAt m k = 1) (h2 : (colTo n rows m pieces k).1.length < n) : colTo n rows m pieces (k + 1) = addTo (colTo n rows m pieces k).1 (colTo n rows m pieces k).2 (rows.getD k []) (pieces.getD k []) := if_pos ⟨h, h2⟩
theorem colTo_no {n : Nat} {rows : List (List UInt8)} {m : Nat} {pieces : List (List UInt8)} {k : Nat} (h : ¬ (bitAt m k = 1 ∧ (colTo n rows m pieces k).1.length < n)) : colTo n rows m pieces (k + 1) = colTo n rows m pieces k := if_neg h
theorem colTo_rows {n : Nat} {rows : List (List UInt8)} (m : Nat) (pieces : List (List UInt8)) : ∀ k, k ≤ rows.length → (colTo n rows m pieces k).1 = stairs n (pickTo rows m k)
  | 0, _ => rfl
  | k + 1, hk => by
    have ih := colTo_rows (n := n) (rows := rows) m pieces k (by omega)
    by_cases hb : bitAt m k = 1
    · rw [pickTo_yes (show k < rows.length by omega) hb, stairs_snoc, ← ih]
      by_cases hl : (colTo n rows m pieces k).1.length < n
      · rw [colTo_yes hb hl, addTo_step hl, List.getD_eq_getElem?_getD, List.getElem?_eq_getElem (show k < rows.length by omega)]
        rfl
      · rw [colTo_no (fun h => hl h.2), Gf.step, if_neg hl]
    · rw [pickTo_no hb, colTo_no (fun h => hb h.1), ih]
theorem colTo_len {n : Nat} {rows : List (List UInt8)} (m : Nat) (pieces : List (List UInt8)) : ∀ k, (colTo n rows m pieces k).2.length = (colTo n rows m pieces k).1.length
  | 0 => rfl
  | k + 1 => by
    have ih := colTo_len (n := n) (rows := rows) m pieces k
    rw [colTo]
    split
    · exact addTo_len ih
    · exact ih
theorem colTo_even {n L : Nat} {rows : List (List UInt8)} (m : Nat) (pieces : List (List UInt8)) (h : ∀ k, k < rows.length → bitAt m k = 1 → (pieces.getD k []).length = L) : ∀ k, k ≤ rows.length → Even L (colTo n rows m pieces k).2
  | 0, _ => fun p hp => by cases hp
  | k + 1, hk => by
    have ih := colTo_even (n := n) m pieces h k (by omega)
    rw [colTo]
    split
    · rename_i hc
      exact addTo_even (colTo_len m pieces k) ih (h k (by omega) hc.1)
    · exact ih
theorem colTo_fits {n L : Nat} {D : Nat → Nat → UInt8} {rows : List (List UInt8)} (m : Nat) (pieces : List (List UInt8)) (hr : ∀ r ∈ rows, r.length = n) (h : ∀ k, k < rows.length → bitAt m k = 1 → Fits n L D (rows.getD k []) (pieces.getD k [])) :
    ∀ k, k ≤ rows.length → ∀ j, j < (colTo n rows m pieces k).1.length → Fits n L D ((colTo n rows m pieces k).1.getD j []) ((colTo n rows m pieces k).2.getD j [])
  | 0, _ => fun j hj => by cases hj
  | k + 1, hk => by
    have ih := colTo_fits (n := n) m pieces hr h k (by omega)
    rw [colTo]
    split
    · rename_i hc
      refine Fits.add ?_ (colTo_len m pieces k) (h k (by omega) hc.1) ih
      rw [List.getD_eq_getElem?_getD, List.getElem?_eq_getElem (show k < rows.length by omega)]
      exact hr _ (List.getElem_mem _)
    · exact ih

/- The rows in the order of their first places. -/
theorem nodup_few : ∀ (n : Nat) (l : List Nat), l.Nodup → (∀ x ∈ l, x < n) → l.length ≤ n
  | 0, l, _, h => by
    cases l with
    | nil => simp
    | cons x r => exact absurd (h x (by simp)) (by omega)
  | n + 1, l, hn, h => by
    by_cases hm : n ∈ l
    · have h1 := nodup_few n (l.erase n) (hn.erase n) fun x hx => by
        have h2 := (hn.mem_erase_iff).1 hx
        have := h x h2.2
        omega
      rw [List.length_erase_of_mem hm] at h1
      omega
    · have := nodup_few n l hn fun x hx => by
        have := h x hx
        have : x ≠ n := fun e => hm (e ▸ hx)
        omega
      omega
theorem nodup_all {n : Nat} {l : List Nat} (hn : l.Nodup) (h : ∀ x ∈ l, x < n) (hl : l.length = n) {y : Nat} (hy : y < n) : y ∈ l := by
  by_cases hm : y ∈ l
  · exact hm
  · have := nodup_few n (y :: l) (List.nodup_cons.2 ⟨hm, hn⟩) fun x hx => by
      rcases List.mem_cons.1 hx with h1 | h1
      · rw [h1]; exact hy
      · exact h x h1
    simp at this
    omega
theorem firsts_nodup {n : Nat} {S : List (List UInt8)} (h : Stairs n S) : (S.map firstNZ).Nodup := by
  rw [List.nodup_iff_pairwise_ne, List.pairwise_map]
  have h2 : S.Pairwise fun x y => y ∈ S ∧ y.getD (firstNZ x) 0 = 0 := by
    rw [List.pairwise_iff_getElem]
    intro i j hi hj hij
    exact ⟨List.getElem_mem hj, List.pairwise_iff_getElem.1 h.tri i j hi hj hij⟩
  refine h2.imp ?_
  rintro x y ⟨hy, h1⟩ he
  rw [he, h.one y hy] at h1
  exact absurd h1 (by decide)
theorem Stairs.at {n : Nat} {S : List (List UInt8)} (h : Stairs n S) (hn : S.length = n) {a : Nat} (ha : a < n) : ∃ k, k < S.length ∧ firstNZ (S.getD k []) = a := by
  have h1 := nodup_all (firsts_nodup h) (fun x hx => by
    obtain ⟨y, hy, rfl⟩ := List.mem_map.1 hx
    exact h.nz y hy) (by rw [List.length_map, hn]) ha
  obtain ⟨y, hy, rfl⟩ := List.mem_map.1 h1
  obtain ⟨k, hk, rfl⟩ := List.getElem_of_mem hy
  exact ⟨k, hk, by rw [List.getD_eq_getElem?_getD, List.getElem?_eq_getElem hk]; rfl⟩
theorem Stairs.one_at {n : Nat} {S : List (List UInt8)} (h : Stairs n S) {i j : Nat} (hi : i < S.length) (hj : j < S.length) (he : firstNZ (S.getD i []) = firstNZ (S.getD j [])) : i = j := by
  have h1 := firsts_nodup h
  rw [List.nodup_iff_pairwise_ne, List.pairwise_map, List.pairwise_iff_getElem] at h1
  have e1 : S.getD i [] = S[i] := by rw [List.getD_eq_getElem?_getD, List.getElem?_eq_getElem hi]; rfl
  have e2 : S.getD j [] = S[j] := by rw [List.getD_eq_getElem?_getD, List.getElem?_eq_getElem hj]; rfl
  rw [e1, e2] at he
  rcases Nat.lt_trichotomy i j with h2 | h2 | h2
  · exact absurd he (h1 i j hi hj h2)
  · exact h2
  · exact absurd he.symm (h1 j i hj hi h2)
/-- The numbers under k of the rows whose first place is a. -/
def atTo (S : List (List UInt8)) (a k : Nat) : List Nat := (List.range k).filter fun i => firstNZ (S.getD i []) == a
/-- The numbers of the rows, by their first places. -/
def ordTo (S : List (List UInt8)) (a : Nat) : List Nat := (List.range a).flatMap fun b => atTo S b S.length
theorem atTo_zero (S : List (List UInt8)) (a : Nat) : atTo S a 0 = [] := rfl
theorem atTo_yes {S : List (List UInt8)} {a k : Nat} (h : firstNZ (S.getD k []) = a) : atTo S a (k + 1) = atTo S a k ++ [k] := by
  rw [List.getD_eq_getElem?_getD] at h
  simp [atTo, List.range_succ, List.filter_append, h]
theorem atTo_no {S : List (List UInt8)} {a k : Nat} (h : firstNZ (S.getD k []) ≠ a) : atTo S a (k + 1) = atTo S a k := by
  rw [List.getD_eq_getElem?_getD] at h
  simp [atTo, List.range_succ, List.filter_append, h]
theorem ordTo_zero (S : List (List UInt8)) : ordTo S 0 = [] := rfl
theorem ordTo_succ (S : List (List UInt8)) (a : Nat) : ordTo S (a + 1) = ordTo S a ++ atTo S a S.length := by
  simp [ordTo, List.range_succ, List.flatMap_append]
theorem atTo_one {n : Nat} {S : List (List UInt8)} (h : Stairs n S) {j : Nat} (hj : j < S.length) : ∀ k, k ≤ S.length → atTo S (firstNZ (S.getD j [])) k = if j < k then [j] else []
  | 0, _ => by rw [if_neg (by omega)]; rfl
  | k + 1, hk => by
    have ih := atTo_one h hj k (by omega)
    by_cases he : firstNZ (S.getD k []) = firstNZ (S.getD j [])
    · obtain rfl := Stairs.one_at h (by omega) hj he
      rw [atTo_yes rfl, ih, if_neg (by omega), if_pos (by omega)]
      rfl
    · have hkj : j ≠ k := fun e => he (by rw [e])
      rw [atTo_no he, ih]
      by_cases hlt : j < k
      · rw [if_pos hlt, if_pos (by omega)]
      · rw [if_neg hlt, if_neg (by omega)]
theorem ordTo_spec {n : Nat} {S : List (List UInt8)} (h : Stairs n S) (hn : S.length = n) : ∀ a, a ≤ n → (ordTo S a).length = a ∧ ∀ b, b < a → (ordTo S a).getD b 0 < S.length ∧ firstNZ (S.getD ((ordTo S a).getD b 0) []) = b
  | 0, _ => ⟨rfl, fun b hb => absurd hb (by omega)⟩
  | a + 1, ha => by
    obtain ⟨h1, h2⟩ := ordTo_spec h hn a (by omega)
    obtain ⟨k, hk, hf⟩ := Stairs.at h hn (show a < n by omega)
    have h3 := atTo_one h hk S.length (Nat.le_refl _)
    rw [hf, if_pos hk] at h3
    rw [ordTo_succ, h3]
    refine ⟨by rw [List.length_append, h1]; rfl, fun b hb => ?_⟩
    rw [getD_app, h1]
    by_cases hba : b = a
    · rw [if_pos hba]; exact ⟨hk, by rw [hf, hba]⟩
    · rw [if_neg hba]; exact h2 b (by omega)
/-- Parts or rows in an order. -/
def byOrd (S : List (List UInt8)) (o : List Nat) : List (List UInt8) := o.map fun k => S.getD k []
theorem byOrd_get {S : List (List UInt8)} {o : List Nat} {k : Nat} (h : k < o.length) : (byOrd S o).getD k [] = S.getD (o.getD k 0) [] := by
  unfold byOrd
  rw [List.getD_eq_getElem?_getD, List.getElem?_map, List.getD_eq_getElem?_getD (l := o), List.getElem?_eq_getElem h]
  rfl
theorem byOrd_len (S : List (List UInt8)) (o : List Nat) : (byOrd S o).length = o.length := List.length_map _

/- Solving rows in the form of a triangle. -/
/-- A part less what is known of it: of the first i elements of its row. -/
def solRow (r : List UInt8) (a : Nat) (out : List (List UInt8)) (p : List UInt8) : Nat → List UInt8
  | 0 => p
  | i + 1 => if i ≠ a ∧ r.getD i 0 ≠ 0 then sum (solRow r a out p i) (scale (r.getD i 0) (out.getD i [])) else solRow r a out p i
theorem solRow_yes {r : List UInt8} {a : Nat} {out : List (List UInt8)} {p : List UInt8} {i : Nat} (h : i ≠ a) (h2 : r.getD i 0 ≠ 0) : solRow r a out p (i + 1) = sum (solRow r a out p i) (scale (r.getD i 0) (out.getD i [])) := if_pos ⟨h, h2⟩
theorem solRow_no {r : List UInt8} {a : Nat} {out : List (List UInt8)} {p : List UInt8} {i : Nat} (h : ¬ (i ≠ a ∧ r.getD i 0 ≠ 0)) : solRow r a out p (i + 1) = solRow r a out p i := if_neg h
/-- The data pieces after the rows k and more. -/
def solTo (T Ps : List (List UInt8)) (n : Nat) : Nat → List (List UInt8)
  | 0 => List.replicate n []
  | j + 1 => (solTo T Ps n j).set (firstNZ (T.getD (T.length - 1 - j) [])) (solRow (T.getD (T.length - 1 - j) []) (firstNZ (T.getD (T.length - 1 - j) [])) (solTo T Ps n j) (Ps.getD (T.length - 1 - j) []) (T.getD (T.length - 1 - j) []).length)
def sol (T Ps : List (List UInt8)) (n : Nat) : List (List UInt8) := solTo T Ps n T.length
theorem solTo_len (T Ps : List (List UInt8)) (n : Nat) : ∀ j, (solTo T Ps n j).length = n
  | 0 => by simp [solTo]
  | j + 1 => by rw [solTo, List.length_set, solTo_len T Ps n j]
/-- Rows in the form of a triangle, with ones. -/
structure Tri (n : Nat) (T : List (List UInt8)) : Prop where
  len : T.length = n
  wide : ∀ k, k < n → (T.getD k []).length = n
  first : ∀ k, k < n → firstNZ (T.getD k []) = k
  one : ∀ k, k < n → (T.getD k []).getD k 0 = 1
theorem solRow_len {L : Nat} {r : List UInt8} {a : Nat} {out : List (List UInt8)} {p : List UInt8} (hp : p.length = L) (ho : ∀ i, i < r.length → i ≠ a → r.getD i 0 ≠ 0 → (out.getD i []).length = L) : ∀ i, i ≤ r.length → (solRow r a out p i).length = L
  | 0, _ => hp
  | i + 1, hi => by
    have ih := solRow_len hp ho i (by omega)
    by_cases hc : i ≠ a ∧ r.getD i 0 ≠ 0
    · rw [solRow_yes hc.1 hc.2, sum_len, scale_len, ih, ho i (by omega) hc.1 hc.2]; simp
    · rw [solRow_no hc]; exact ih
theorem solRow_le {M : Nat} {r : List UInt8} {a : Nat} {out : List (List UInt8)} {p : List UInt8} (hp : p.length ≤ M) (ho : ∀ i, (out.getD i []).length ≤ M) : ∀ i, (solRow r a out p i).length ≤ M
  | 0 => hp
  | i + 1 => by
    have ih := solRow_le (r := r) (a := a) hp ho i
    by_cases hc : i ≠ a ∧ r.getD i 0 ≠ 0
    · rw [solRow_yes hc.1 hc.2, sum_len, scale_len]
      have := ho i
      omega
    · rw [solRow_no hc]; exact ih
theorem solRow_get {d : Nat} {D : Nat → Nat → UInt8} {L : Nat} {r : List UInt8} {a : Nat} {out : List (List UInt8)} {p : List UInt8} {x : Nat} (hx : x < L) (ho : ∀ i, i < r.length → i ≠ a → r.getD i 0 ≠ 0 → (out.getD i []).length = L ∧ (out.getD i []).getD x 0 = D i x) :
    ∀ i, i ≤ r.length → (solRow r a out p i).getD x 0 = p.getD x 0 ^^^ sm i fun j => if j = a then 0 else mul (r.getD j 0) (D j x)
  | 0, _ => by
    show p.getD x 0 = p.getD x 0 ^^^ 0
    rw [UInt8.xor_zero]
  | i + 1, hi => by
    have ih := solRow_get (d := d) (p := p) hx ho i (by omega)
    rw [sm, ← xor_assoc, ← ih]
    by_cases ha : i = a
    · rw [solRow_no (fun h => h.1 ha), if_pos ha, UInt8.xor_zero]
    · rw [if_neg ha]
      by_cases hz : r.getD i 0 = 0
      · rw [solRow_no (fun h => h.2 hz), hz, zero_mul, UInt8.xor_zero]
      · have h1 := ho i (by omega) ha hz
        rw [solRow_yes ha hz, sum_get, scale_get _ _ (by rw [h1.1]; exact hx), h1.2]
theorem getD_set {α : Type} {l : List α} {k j : Nat} {x y : α} (hk : k < l.length) : (l.set k x).getD j y = if j = k then x else l.getD j y := by
  rw [List.getD_eq_getElem?_getD, List.getElem?_set]
  by_cases h : k = j
  · subst h
    rw [if_pos rfl, if_pos rfl, if_pos hk]; rfl
  · rw [if_neg h, if_neg (Ne.symm h), List.getD_eq_getElem?_getD]
theorem tri_above {n : Nat} {T : List (List UInt8)} (hT : Tri n T) {k i : Nat} (hk : k < n) (h : i ≠ k) (hz : (T.getD k []).getD i 0 ≠ 0) : k < i := by
  rcases Nat.lt_or_ge k i with h1 | h1
  · exact h1
  · exact absurd (firstNZ_before (T.getD k []) i (by rw [hT.first k hk]; omega)) hz
theorem solTo_even {n L : Nat} {T Ps : List (List UInt8)} (hT : Tri n T) (hP : ∀ k, k < n → (Ps.getD k []).length = L) : ∀ j, j ≤ n → ∀ i, n - j ≤ i → i < n → ((solTo T Ps n j).getD i []).length = L
  | 0, _ => fun i h1 h2 => by omega
  | j + 1, hj => fun i h1 h2 => by
    have ih := solTo_even hT hP j (by omega)
    have hk : T.length - 1 - j < n := by rw [hT.len]; omega
    rw [solTo]
    obtain ⟨k, hkk⟩ : ∃ k, T.length - 1 - j = k := ⟨_, rfl⟩
    rw [hkk] at hk ⊢
    have hkj : k = n - 1 - j := by rw [← hkk, hT.len]
    rw [hT.first k hk, getD_set (by rw [solTo_len]; exact hk)]
    split
    · refine solRow_len (hP k hk) (fun i hi hne hz => ?_) _ (Nat.le_refl _)
      rw [hT.wide k hk] at hi
      have := tri_above hT hk hne hz
      exact ih i (by omega) hi
    · exact ih i (by omega) h2
theorem solTo_fits {n L : Nat} {D : Nat → Nat → UInt8} {T Ps : List (List UInt8)} (hT : Tri n T) (hP : ∀ k, k < n → Fits n L D (T.getD k []) (Ps.getD k [])) :
    ∀ j, j ≤ n → ∀ i, n - j ≤ i → i < n → ∀ x, x < L → ((solTo T Ps n j).getD i []).getD x 0 = D i x
  | 0, _ => fun i h1 h2 => by omega
  | j + 1, hj => fun i h1 h2 x hx => by
    have ih := solTo_fits hT hP j (by omega)
    have ihl := solTo_even hT (fun k hk => (hP k hk).1) j (by omega)
    have hk : T.length - 1 - j < n := by rw [hT.len]; omega
    rw [solTo]
    obtain ⟨k, hkk⟩ : ∃ k, T.length - 1 - j = k := ⟨_, rfl⟩
    rw [hkk] at hk ⊢
    have hkj : k = n - 1 - j := by rw [← hkk, hT.len]
    rw [hT.first k hk, getD_set (by rw [solTo_len]; exact hk)]
    split
    · rename_i hik
      subst hik
      rw [solRow_get (d := n) (D := D) hx (fun i' hi hne hz => by
        rw [hT.wide i hk] at hi
        have := tri_above hT hk hne hz
        exact ⟨ihl i' (by omega) hi, ih i' (by omega) hi x hx⟩) _ (Nat.le_refl _), (hP i hk).2 x hx, hT.wide i hk, ← sm_add]
      rw [sm_one (p := i) _ hk]
      · simp only [if_true]
        rw [hT.one i hk, one_mul]
        exact UInt8.xor_zero
      · intro m hm hne
        simp only [if_neg hne]
        exact UInt8.xor_self
    · exact ih i (by omega) h2 x hx
end Cd
