/- CODES, in plain terms: what Encode and Decode compute, and that a chunk comes back. No program in sight. -/
import Derived.Test.YtdbolgollpnfdaaDoorEnc
namespace Cd
open Gf Go.Proofs.YtdbolgollpnfdaaDoor
def sizeN (d n : Nat) : Nat := (n + d - 1) / d
/-- The bytes of each piece of a chunk of n bytes. -/
def sizeOf (d gl : Int) (gs : List (List Int)) (n : Int) : Int := if n < 0 ∨ 4096 < n ∨ check d gs gl ≠ 0 then 0 else (n + d - 1) / d
theorem sizeOf_no {d gl n : Int} {gs : List (List Int)} (h : n < 0 ∨ 4096 < n ∨ check d gs gl ≠ 0) : sizeOf d gl gs n = 0 := if_pos h
theorem sizeOf_ok {d gl n : Int} {gs : List (List Int)} (h : 0 ≤ n) (h2 : n ≤ 4096) (h3 : check d gs gl = 0) : sizeOf d gl gs n = (n + d - 1) / d := if_neg (by omega)
theorem sizeOf_nat {d gl n : Nat} {gs : List (List Int)} (h2 : n ≤ 4096) (h3 : check d gs gl = 0) : sizeOf d gl gs (n : Int) = ((sizeN d n : Nat) : Int) := by
  have hk := check_ok h3
  rw [sizeOf_ok (by omega) (by omega) h3, sizeN]
  have : ((n : Int) + d - 1) = ((n + d - 1 : Nat) : Int) := by omega
  rw [this]
  exact (Int.natCast_ediv _ _).symm
theorem size_ge {d : Nat} (hd : 0 < d) (n : Nat) : n ≤ d * sizeN d n := by
  unfold sizeN
  have h1 := Nat.div_add_mod (n + d - 1) d
  have h2 := Nat.mod_lt (n + d - 1) hd
  omega
theorem size_le {d : Nat} (hd : 0 < d) (n : Nat) : sizeN d n ≤ n := by
  unfold sizeN
  rw [Nat.div_le_iff_le_mul_add_pred hd]
  have h1 : n ≤ d * n := Nat.le_mul_of_pos_left n hd
  omega
/-- A chunk, filled up with zeros. -/
def fill (len : Nat) (data : List UInt8) : List UInt8 := data ++ List.replicate (len - data.length) 0
def cutAt (size : Nat) (full : List UInt8) (i : Nat) : List UInt8 := (full.drop (i * size)).take size
/-- The data pieces of a chunk. -/
def cuts (d : Nat) (data : List UInt8) : List (List UInt8) := (List.range d).map (cutAt (sizeN d data.length) (fill (d * sizeN d data.length) data))
/-- The pieces that rows make of data pieces. -/
def encRows (rows parts : List (List UInt8)) : List (List UInt8) := rows.map fun r => combS r parts
def encode (d gl : Int) (gs : List (List Int)) (data : List UInt8) : List (List UInt8) := encRows (rowsOf d gs gl) (cuts d.toNat data)
/-- Both results of Encode. -/
def encL (d gl : Int) (gs : List (List Int)) (data : List UInt8) : List (List UInt8) := if check d gs gl = 0 ∧ data.length ≤ 4096 then encode d gl gs data else []
def encE (d gl : Int) (gs : List (List Int)) (data : List UInt8) : Int := if check d gs gl ≠ 0 then check d gs gl else if 4096 < data.length then 2 else 0
theorem encL_ok {d gl : Int} {gs : List (List Int)} {data : List UInt8} (h : check d gs gl = 0) (h2 : data.length ≤ 4096) : encL d gl gs data = encode d gl gs data := if_pos ⟨h, h2⟩
theorem encL_no {d gl : Int} {gs : List (List Int)} {data : List UInt8} (h : check d gs gl ≠ 0) : encL d gl gs data = [] := if_neg fun h2 => h h2.1
theorem encL_big {d gl : Int} {gs : List (List Int)} {data : List UInt8} (h : 4096 < data.length) : encL d gl gs data = [] := if_neg fun h2 => by omega
theorem encE_ok {d gl : Int} {gs : List (List Int)} {data : List UInt8} (h : check d gs gl = 0) (h2 : data.length ≤ 4096) : encE d gl gs data = 0 := by rw [encE, if_neg (by simp [h]), if_neg (by omega)]
theorem encE_no {d gl : Int} {gs : List (List Int)} {data : List UInt8} (h : check d gs gl ≠ 0) : encE d gl gs data = check d gs gl := if_pos h
theorem encE_big {d gl : Int} {gs : List (List Int)} {data : List UInt8} (h0 : check d gs gl = 0) (h : 4096 < data.length) : encE d gl gs data = 2 := by rw [encE, if_neg (by simp [h0]), if_pos h]
theorem fill_len {len : Nat} {data : List UInt8} (h : data.length ≤ len) : (fill len data).length = len := by simp [fill]; omega
theorem cuts_len (d : Nat) (data : List UInt8) : (cuts d data).length = d := by simp [cuts]
theorem cutAt_len {size d i : Nat} {full : List UInt8} (h : full.length = d * size) (hi : i < d) : (cutAt size full i).length = size := by
  have h1 : (i + 1) * size ≤ d * size := Nat.mul_le_mul_right size hi
  rw [Nat.succ_mul] at h1
  simp [cutAt]
  omega
theorem cutAt_get {size i x : Nat} {full : List UInt8} (hx : x < size) : (cutAt size full i).getD x 0 = full.getD (i * size + x) 0 := by
  unfold cutAt
  rw [List.getD_eq_getElem?_getD, List.getElem?_take, if_pos hx, List.getElem?_drop, List.getD_eq_getElem?_getD]
theorem cuts_get {d : Nat} {data : List UInt8} {i : Nat} (h : i < d) : (cuts d data).getD i [] = cutAt (sizeN d data.length) (fill (d * sizeN d data.length) data) i := by
  unfold cuts
  rw [List.getD_eq_getElem?_getD, List.getElem?_map, List.getElem?_range h]
  rfl
theorem cuts_even {d : Nat} (hd : 0 < d) (data : List UInt8) {i : Nat} (h : i < d) : ((cuts d data).getD i []).length = sizeN d data.length := by
  rw [cuts_get h]
  exact cutAt_len (fill_len (size_ge hd _)) h
theorem cuts_all {d : Nat} (hd : 0 < d) (data : List UInt8) {p : List UInt8} (hp : p ∈ cuts d data) : p.length = sizeN d data.length := by
  obtain ⟨i, hi, rfl⟩ := List.getElem_of_mem hp
  have h1 : i < d := by rw [cuts_len] at hi; exact hi
  have := cuts_even hd data h1
  rw [List.getD_eq_getElem?_getD, List.getElem?_eq_getElem hi] at this
  exact this
/-- The byte x of the data piece i. -/
def dataAt (d : Nat) (data : List UInt8) (i x : Nat) : UInt8 := ((cuts d data).getD i []).getD x 0
theorem comb_sm (r : List UInt8) (parts : List (List UInt8)) (x : Nat) : ∀ k, comb r parts x k = sm k fun i => mul (r.getD i 0) ((parts.getD i []).getD x 0)
  | 0 => rfl
  | k + 1 => by rw [comb, comb_sm r parts x k, sm]
theorem comb_takes {d : Nat} (hd : 0 < d) (data : List UInt8) {r : List UInt8} (hr : r.length = d) : combOk r (cuts d data) = true := by
  unfold combOk
  rw [Bool.and_eq_true, beq_iff_eq, List.all_eq_true, hr, cuts_len]
  refine ⟨rfl, fun p hp => ?_⟩
  rw [beq_iff_eq, cuts_all hd data hp]
  cases hc : cuts d data with
  | nil => have := cuts_len d data; rw [hc] at this; simp at this; omega
  | cons q l => exact (cuts_all hd data (by rw [hc]; simp)).symm
theorem comb_fits {d : Nat} (hd : 0 < d) (data : List UInt8) {r : List UInt8} (hr : r.length = d) : Fits d (sizeN d data.length) (dataAt d data) r (combS r (cuts d data)) := by
  rw [combS_ok (comb_takes hd data hr)]
  have hh : ((cuts d data).headD []).length = sizeN d data.length := by
    cases hc : cuts d data with
    | nil => have := cuts_len d data; rw [hc] at this; simp at this; omega
    | cons q l => exact cuts_all hd data (by rw [hc]; simp)
  refine ⟨by rw [combine, List.length_map, List.length_range, hh], fun x hx => ?_⟩
  unfold combine
  rw [hh, getD_map_range _ _ hx, hr, comb_sm]
  rfl
theorem flat_cuts {size : Nat} {full : List UInt8} : ∀ k, (((List.range k).map (cutAt size full)).flatten) = full.take (k * size)
  | 0 => by simp
  | k + 1 => by
    rw [List.range_succ, List.map_append, List.flatten_append, flat_cuts k, Nat.succ_mul, List.take_add]
    simp [cutAt]
theorem cuts_flat {d : Nat} (hd : 0 < d) (data : List UInt8) : (cuts d data).flatten = fill (d * sizeN d data.length) data := by
  unfold cuts
  rw [flat_cuts, List.take_of_length_le (by rw [fill_len (size_ge hd _)]; exact Nat.le_refl _)]
theorem fill_take (len : Nat) (data : List UInt8) : (fill len data).take data.length = data := by simp [fill]

/-- The data pieces, solved from a set of pieces. -/
def solved (d gl : Int) (gs : List (List Int)) (m : Nat) (pieces : List (List UInt8)) : List (List UInt8) :=
  sol (byOrd (col d.toNat (rowsOf d gs gl) m pieces).1 (ordTo (col d.toNat (rowsOf d gs gl) m pieces).1 d.toNat)) (byOrd (col d.toNat (rowsOf d gs gl) m pieces).2 (ordTo (col d.toNat (rowsOf d gs gl) m pieces).1 d.toNat)) d.toNat
def chunkOf (d gl : Int) (gs : List (List Int)) (n m : Nat) (pieces : List (List UInt8)) : List UInt8 := (solved d gl gs m pieces).flatten.take n
/-- Has a piece of the set another length? Is it another one than that of a chunk? -/
def badLen (size m : Nat) (pieces : List (List UInt8)) : Bool := (List.range pieces.length).any fun k => bitAt m k == 1 && (pieces.getD k []).length != size
def badOne (m : Nat) (l pieces : List (List UInt8)) : Bool := (List.range pieces.length).any fun k => bitAt m k == 1 && l.getD k [] != pieces.getD k []
theorem badLen_iff {size m : Nat} {pieces : List (List UInt8)} : badLen size m pieces = true ↔ ∃ k, k < pieces.length ∧ bitAt m k = 1 ∧ (pieces.getD k []).length ≠ size := by
  unfold badLen
  rw [List.any_eq_true]
  simp only [List.mem_range, Bool.and_eq_true, beq_iff_eq, bne_iff_ne]
theorem badOne_iff {m : Nat} {l pieces : List (List UInt8)} : badOne m l pieces = true ↔ ∃ k, k < pieces.length ∧ bitAt m k = 1 ∧ l.getD k [] ≠ pieces.getD k [] := by
  unfold badOne
  rw [List.any_eq_true]
  simp only [List.mem_range, Bool.and_eq_true, beq_iff_eq, bne_iff_ne]
def badArgs (d gl : Int) (gs : List (List Int)) (n m : Int) (pieces : List (List UInt8)) : Bool := decide (n < 0 ∨ 4096 < n ∨ m < 0 ∨ ((2 ^ (rowsOf d gs gl).length : Nat) : Int) ≤ m ∨ pieces.length ≠ (rowsOf d gs gl).length)
/-- Decode's error, and its chunk. -/
def decE (d gl : Int) (gs : List (List Int)) (n m : Int) (pieces : List (List UInt8)) : Int :=
  if check d gs gl ≠ 0 then check d gs gl
  else if badArgs d gl gs n m pieces then 1
  else if badLen (sizeN d.toNat n.toNat) m.toNat pieces then 1
  else if can d gl gs m = false then 17
  else if badOne m.toNat (encode d gl gs (chunkOf d gl gs n.toNat m.toNat pieces)) pieces then 14
  else 0
def decS (d gl : Int) (gs : List (List Int)) (n m : Int) (pieces : List (List UInt8)) : List UInt8 := if decE d gl gs n m pieces = 0 then chunkOf d gl gs n.toNat m.toNat pieces else []
section
variable {d gl : Int} {gs : List (List Int)} {n m : Int} {pieces : List (List UInt8)}
theorem decE_no (h : check d gs gl ≠ 0) : decE d gl gs n m pieces = check d gs gl := if_pos h
theorem decE_arg (h : check d gs gl = 0) (h2 : badArgs d gl gs n m pieces = true) : decE d gl gs n m pieces = 1 := by rw [decE, if_neg (by simp [h]), if_pos h2]
theorem decE_len (h : check d gs gl = 0) (h2 : badArgs d gl gs n m pieces = false) (h3 : badLen (sizeN d.toNat n.toNat) m.toNat pieces = true) : decE d gl gs n m pieces = 1 := by rw [decE, if_neg (by simp [h]), if_neg (by simp [h2]), if_pos h3]
theorem decE_lost (h : check d gs gl = 0) (h2 : badArgs d gl gs n m pieces = false) (h3 : badLen (sizeN d.toNat n.toNat) m.toNat pieces = false) (h4 : can d gl gs m = false) : decE d gl gs n m pieces = 17 := by rw [decE, if_neg (by simp [h]), if_neg (by simp [h2]), if_neg (by simp [h3]), if_pos h4]
theorem decE_bad (h : check d gs gl = 0) (h2 : badArgs d gl gs n m pieces = false) (h3 : badLen (sizeN d.toNat n.toNat) m.toNat pieces = false) (h4 : can d gl gs m = true) (h5 : badOne m.toNat (encode d gl gs (chunkOf d gl gs n.toNat m.toNat pieces)) pieces = true) : decE d gl gs n m pieces = 14 := by
  rw [decE, if_neg (by simp [h]), if_neg (by simp [h2]), if_neg (by simp [h3]), if_neg (by simp [h4]), if_pos h5]
theorem decE_ok (h : check d gs gl = 0) (h2 : badArgs d gl gs n m pieces = false) (h3 : badLen (sizeN d.toNat n.toNat) m.toNat pieces = false) (h4 : can d gl gs m = true) (h5 : badOne m.toNat (encode d gl gs (chunkOf d gl gs n.toNat m.toNat pieces)) pieces = false) : decE d gl gs n m pieces = 0 := by
  rw [decE, if_neg (by simp [h]), if_neg (by simp [h2]), if_neg (by simp [h3]), if_neg (by simp [h4]), if_neg (by simp [h5])]
theorem decS_ok (h : decE d gl gs n m pieces = 0) : decS d gl gs n m pieces = chunkOf d gl gs n.toNat m.toNat pieces := if_pos h
theorem decS_no (h : decE d gl gs n m pieces ≠ 0) : decS d gl gs n m pieces = [] := if_neg h
end
theorem encode_len (d gl : Int) (gs : List (List Int)) (data : List UInt8) : (encode d gl gs data).length = (rowsOf d gs gl).length := by simp [encode, encRows]
theorem encode_get {d gl : Int} {gs : List (List Int)} {data : List UInt8} {k : Nat} (hk : k < (rowsOf d gs gl).length) : (encode d gl gs data).getD k [] = combS ((rowsOf d gs gl).getD k []) (cuts d.toNat data) := by
  unfold encode encRows
  rw [List.getD_eq_getElem?_getD, List.getElem?_map, List.getD_eq_getElem?_getD, List.getElem?_eq_getElem hk]
  rfl
section
variable {d gl : Int} {gs : List (List Int)}
theorem rowsOf_width (h : check d gs gl = 0) {r : List UInt8} (hr : r ∈ rowsOf d gs gl) : r.length = d.toNat := by
  rw [rowsOf_ok h] at hr
  exact rows_width hr
theorem rowsOf_at (h : check d gs gl = 0) {k : Nat} (hk : k < (rowsOf d gs gl).length) : ((rowsOf d gs gl).getD k []).length = d.toNat := by
  rw [List.getD_eq_getElem?_getD, List.getElem?_eq_getElem hk]
  exact rowsOf_width h (List.getElem_mem hk)
theorem rowsOf_len (h : check d gs gl = 0) : ((rowsOf d gs gl).length : Int) = d + gs.length + gl := by
  have hk := check_ok h
  rw [rowsOf_ok h, rows_len]
  omega
theorem encode_fits (h : check d gs gl = 0) (data : List UInt8) {k : Nat} (hk : k < (rowsOf d gs gl).length) : Fits d.toNat (sizeN d.toNat data.length) (dataAt d.toNat data) ((rowsOf d gs gl).getD k []) ((encode d gl gs data).getD k []) := by
  have hc := check_ok h
  rw [encode_get hk]
  exact comb_fits (by omega) data (rowsOf_at h hk)
theorem encode_even (h : check d gs gl = 0) (data : List UInt8) {k : Nat} (hk : k < (rowsOf d gs gl).length) : ((encode d gl gs data).getD k []).length = sizeN d.toNat data.length := (encode_fits h data hk).1
theorem can_def {m : Nat} : can d gl gs (m : Int) = true ↔ check d gs gl = 0 ∧ m < 2 ^ (rowsOf d gs gl).length ∧ (stairs d.toNat (pick (rowsOf d gs gl) m)).length = d.toNat := by
  unfold can
  rw [decide_eq_true_eq, Int.toNat_natCast, nat_pow_cast]
  constructor
  · rintro ⟨h1, _, h2, h3⟩; exact ⟨h1, by omega, h3⟩
  · rintro ⟨h1, h2, h3⟩; exact ⟨h1, by omega, by omega, h3⟩
theorem col_good (h : check d gs gl = 0) (m : Nat) (pieces : List (List UInt8)) : Stairs d.toNat (col d.toNat (rowsOf d gs gl) m pieces).1 ∧ (col d.toNat (rowsOf d gs gl) m pieces).1 = stairs d.toNat (pick (rowsOf d gs gl) m) := by
  have h1 := colTo_rows (n := d.toNat) (rows := rowsOf d gs gl) m pieces _ (Nat.le_refl _)
  refine ⟨?_, h1⟩
  unfold col
  rw [h1]
  exact (stairs_good fun r hr => rowsOf_width h (pickTo_mem hr)).1
/-- The rows in order, as a triangle. -/
theorem col_tri (h : check d gs gl = 0) {m : Nat} (hc : can d gl gs (m : Int) = true) (pieces : List (List UInt8)) :
    Tri d.toNat (byOrd (col d.toNat (rowsOf d gs gl) m pieces).1 (ordTo (col d.toNat (rowsOf d gs gl) m pieces).1 d.toNat)) := by
  obtain ⟨h1, h2⟩ := col_good h m pieces
  have h3 := (can_def.1 hc).2.2
  rw [← h2] at h3
  obtain ⟨S, hS⟩ : ∃ S, (col d.toNat (rowsOf d gs gl) m pieces).1 = S := ⟨_, rfl⟩
  rw [hS] at h1 h3 ⊢
  obtain ⟨o1, o2⟩ := ordTo_spec h1 h3 d.toNat (Nat.le_refl _)
  have hget : ∀ k, k < d.toNat → (byOrd S (ordTo S d.toNat)).getD k [] ∈ S := fun k hk => by
    rw [byOrd_get (by omega), List.getD_eq_getElem?_getD, List.getElem?_eq_getElem (o2 k hk).1]
    exact List.getElem_mem _
  have hfst : ∀ k, k < d.toNat → firstNZ ((byOrd S (ordTo S d.toNat)).getD k []) = k := fun k hk => by
    rw [byOrd_get (by omega)]; exact (o2 k hk).2
  refine ⟨by rw [byOrd_len, o1], fun k hk => h1.len _ (hget k hk), hfst, fun k hk => ?_⟩
  have := h1.one _ (hget k hk)
  rw [hfst k hk] at this
  exact this
theorem solved_len (d gl : Int) (gs : List (List Int)) (m : Nat) (pieces : List (List UInt8)) : (solved d gl gs m pieces).length = d.toNat := solTo_len _ _ _ _
theorem solved_even (h : check d gs gl = 0) {m L : Nat} (hc : can d gl gs (m : Int) = true) {pieces : List (List UInt8)} (hp : ∀ k, k < (rowsOf d gs gl).length → bitAt m k = 1 → (pieces.getD k []).length = L) {i : Nat} (hi : i < d.toNat) : ((solved d gl gs m pieces).getD i []).length = L := by
  obtain ⟨h1, h2⟩ := col_good h m pieces
  have h3 := (can_def.1 hc).2.2
  rw [← h2] at h3
  have hT := col_tri h hc pieces
  have he := colTo_even (n := d.toNat) (rows := rowsOf d gs gl) m pieces hp _ (Nat.le_refl _)
  have hl : (col d.toNat (rowsOf d gs gl) m pieces).2.length = (col d.toNat (rowsOf d gs gl) m pieces).1.length := colTo_len _ _ _
  obtain ⟨o1, o2⟩ := ordTo_spec h1 h3 d.toNat (Nat.le_refl _)
  unfold solved sol
  rw [hT.len]
  refine solTo_even hT (fun k hk => ?_) _ (Nat.le_refl _) i (by omega) hi
  rw [byOrd_get (by omega)]
  exact he.get (by show _ < (col _ _ _ _).2.length; rw [hl]; exact (o2 k hk).1)
/-- Pieces that fit a chunk are solved for its data pieces. -/
theorem solved_data (h : check d gs gl = 0) {m : Nat} (hc : can d gl gs (m : Int) = true) {pieces : List (List UInt8)} {data : List UInt8} (hp : ∀ k, k < (rowsOf d gs gl).length → bitAt m k = 1 → pieces.getD k [] = (encode d gl gs data).getD k []) : solved d gl gs m pieces = cuts d.toNat data := by
  have hk := check_ok h
  obtain ⟨h1, h2⟩ := col_good h m pieces
  have h3 := (can_def.1 hc).2.2
  rw [← h2] at h3
  have hT := col_tri h hc pieces
  have hf := colTo_fits (n := d.toNat) (rows := rowsOf d gs gl) m pieces (fun r hr => rowsOf_width h hr) (fun k hk hb => by rw [hp k hk hb]; exact encode_fits h data hk) _ (Nat.le_refl _)
  have hl : ∀ {i : Nat}, i < d.toNat → ((solved d gl gs m pieces).getD i []).length = sizeN d.toNat data.length := fun hi => solved_even h hc (pieces := pieces) (fun k hk hb => by rw [hp k hk hb]; exact encode_even h data hk) hi
  obtain ⟨o1, o2⟩ := ordTo_spec h1 h3 d.toNat (Nat.le_refl _)
  have hx : ∀ i, i < d.toNat → ∀ x, x < sizeN d.toNat data.length → ((solved d gl gs m pieces).getD i []).getD x 0 = dataAt d.toNat data i x := fun i hi x hx => by
    unfold solved sol
    rw [hT.len]
    refine solTo_fits (D := dataAt d.toNat data) hT (fun k hk => ?_) _ (Nat.le_refl _) i (by omega) hi x hx
    rw [byOrd_get (by omega), byOrd_get (by omega)]
    exact hf _ (o2 k hk).1
  apply List.ext_getElem
  · rw [solved_len, cuts_len]
  · intro i i1 i2
    have hi : i < d.toNat := by rw [solved_len] at i1; exact i1
    have e1 : (solved d gl gs m pieces)[i] = (solved d gl gs m pieces).getD i [] := by rw [List.getD_eq_getElem?_getD, List.getElem?_eq_getElem i1]; rfl
    have e2 : (cuts d.toNat data)[i] = (cuts d.toNat data).getD i [] := by rw [List.getD_eq_getElem?_getD, List.getElem?_eq_getElem i2]; rfl
    rw [e1, e2]
    apply List.ext_getElem
    · rw [hl hi, cuts_even (by omega) data hi]
    · intro x x1 x2
      have hxx : x < sizeN d.toNat data.length := by rw [hl hi] at x1; exact x1
      have := hx i hi x hxx
      unfold dataAt at this
      rw [List.getD_eq_getElem?_getD, List.getElem?_eq_getElem x1, List.getD_eq_getElem?_getD (i := x), List.getElem?_eq_getElem x2] at this
      exact this
theorem chunk_data (h : check d gs gl = 0) {m : Nat} (hc : can d gl gs (m : Int) = true) {pieces : List (List UInt8)} {data : List UInt8} (hp : ∀ k, k < (rowsOf d gs gl).length → bitAt m k = 1 → pieces.getD k [] = (encode d gl gs data).getD k []) : chunkOf d gl gs data.length m pieces = data := by
  have hk := check_ok h
  rw [chunkOf, solved_data h hc hp, cuts_flat (by omega), fill_take]
theorem badArgs_not {n m : Nat} {pieces : List (List UInt8)} (hn : n ≤ 4096) (hm : m < 2 ^ (rowsOf d gs gl).length) (hp : pieces.length = (rowsOf d gs gl).length) : badArgs d gl gs (n : Int) (m : Int) pieces = false := by
  unfold badArgs
  rw [decide_eq_false_iff_not]
  omega
/-- DECODE UNDOES ENCODE. -/
theorem dec_enc (h : check d gs gl = 0) {m : Nat} (hc : can d gl gs (m : Int) = true) {pieces : List (List UInt8)} {data : List UInt8} (hl : data.length ≤ 4096) (hpl : pieces.length = (rowsOf d gs gl).length) (hp : ∀ k, k < (rowsOf d gs gl).length → bitAt m k = 1 → pieces.getD k [] = (encode d gl gs data).getD k []) :
    decE d gl gs (data.length : Int) (m : Int) pieces = 0 ∧ decS d gl gs (data.length : Int) (m : Int) pieces = data := by
  have hb1 := badArgs_not hl (can_def.1 hc).2.1 hpl
  have hb2 : badLen (sizeN d.toNat ((data.length : Int)).toNat) ((m : Int)).toNat pieces = false := by
    rw [Int.toNat_natCast, Int.toNat_natCast, ← Bool.not_eq_true, badLen_iff]
    rintro ⟨k, h1, h2, h3⟩
    rw [hpl] at h1
    rw [hp k h1 h2, encode_even h data h1] at h3
    exact h3 rfl
  have hch := chunk_data h hc hp
  have hb3 : badOne ((m : Int)).toNat (encode d gl gs (chunkOf d gl gs ((data.length : Int)).toNat ((m : Int)).toNat pieces)) pieces = false := by
    rw [Int.toNat_natCast, Int.toNat_natCast, hch, ← Bool.not_eq_true, badOne_iff]
    rintro ⟨k, h1, h2, h3⟩
    rw [hpl] at h1
    exact h3 (hp k h1 h2).symm
  have he := decE_ok h hb1 hb2 hc hb3
  refine ⟨he, ?_⟩
  rw [decS_ok he, Int.toNat_natCast, Int.toNat_natCast, hch]
/-- Two chunks with the same pieces of a set that suffices are the same. -/
theorem enc_inj (h : check d gs gl = 0) {m : Nat} (hc : can d gl gs (m : Int) = true) {s t : List UInt8} (hl : s.length = t.length) (hp : ∀ k, k < (rowsOf d gs gl).length → bitAt m k = 1 → (encode d gl gs s).getD k [] = (encode d gl gs t).getD k []) : s = t := by
  have h1 := chunk_data h hc (pieces := encode d gl gs s) (data := s) fun _ _ _ => rfl
  have h2 := chunk_data h hc (pieces := encode d gl gs s) (data := t) hp
  rw [← h1, ← h2, hl]
end
end Cd
