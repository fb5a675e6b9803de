/- What the program's functions do, step by step: part B of the texts for this claim; no condition beyond what each theorem states. -/
import Derived.Laws.CopyOwn
import Derived.Test.YtdmljilcbndmfaaDoorChecked
import Derived.BigQuiet
import Derived.Test.YtdmljilcbndmfaaDoorRbAplBunA
/- CODES, in plain terms: pieces that fit data, and how they are solved for it. No program in sight. -/
namespace Cd
open Gf Go.Proofs.YtdmljilcbndmfaaDoor
/-- The bytes p are what a row makes of data pieces D, L bytes each. -/
def Fits (d L : Nat) (D : Nat → Nat → UInt8) (r p : List UInt8) : Prop := p.length = L ∧ ∀ x, x < L → p.getD x 0 = sm d fun i => mul (r.getD i 0) (D i x)
theorem sum_get (s t : List UInt8) (x : Nat) : (sum s t).getD x 0 = s.getD x 0 ^^^ t.getD x 0 := by
  rcases Nat.lt_or_ge x (max s.length t.length) with h | h
  · exact getD_map_range _ _ h
  · have h1 : s.length ≤ x := by omega
    have h2 : t.length ≤ x := by omega
    rw [getD_out (l := s) h1, getD_out (l := t) h2, getD_out (by simp [sum]; omega)]
    rfl
theorem sum_len (s t : List UInt8) : (sum s t).length = max s.length t.length := by simp [sum]
theorem scale_len (c : UInt8) (s : List UInt8) : (scale c s).length = s.length := by simp [scale]
theorem scale_get (c : UInt8) (s : List UInt8) {x : Nat} (h : x < s.length) : (scale c s).getD x 0 = mul c (s.getD x 0) := by
  unfold scale
  rw [List.getD_eq_getElem?_getD, List.getElem?_map, List.getD_eq_getElem?_getD, List.getElem?_eq_getElem h]
  rfl
theorem Fits.plus {d L : Nat} {D : Nat → Nat → UInt8} {r p x q : List UInt8} (h : Fits d L D r p) (hx : Fits d L D x q) (f : UInt8) {t : List UInt8} (ht : ∀ i, i < d → t.getD i 0 = r.getD i 0 ^^^ mul f (x.getD i 0)) :
    Fits d L D t (sum p (scale f q)) := by
  refine ⟨by rw [sum_len, scale_len, h.1, hx.1]; simp, fun k hk => ?_⟩
  rw [sum_get, scale_get _ _ (by rw [hx.1]; exact hk), h.2 k hk, hx.2 k hk, sm_mul, ← sm_add]
  refine sm_congr fun i hi => ?_
  rw [ht i hi, xor_mul, mul_assoc]
theorem Fits.congr {d L : Nat} {D : Nat → Nat → UInt8} {r p t : List UInt8} (h : Fits d L D r p) (ht : ∀ i, i < d → t.getD i 0 = r.getD i 0) : Fits d L D t p :=
  ⟨h.1, fun k hk => by rw [h.2 k hk]; exact sm_congr fun i hi => by rw [ht i hi]⟩
theorem Fits.scaled {d L : Nat} {D : Nat → Nat → UInt8} {r p : List UInt8} (h : Fits d L D r p) (c : UInt8) : Fits d L D (r.map (mul c)) (scale c p) := by
  refine ⟨by rw [scale_len, h.1], fun k hk => ?_⟩
  rw [scale_get _ _ (by rw [h.1]; exact hk), h.2 k hk, sm_mul]
  refine sm_congr fun i hi => ?_
  rw [getD_map_mul, mul_assoc]
theorem Fits.red {d L : Nat} {D : Nat → Nat → UInt8} {r p x q : List UInt8} (h : Fits d L D r p) (hx : Fits d L D x q) (hr : r.length = d) : Fits d L D (redRow r x) (redPart p r x q) := by
  by_cases hf : r.getD (firstNZ x) 0 = 0
  · rw [redPart_zero hf, redRow_same hf]; exact h
  · rw [redPart_nz hf]
    exact h.plus hx _ fun i hi => redRow_get r x (by omega)
theorem Fits.redTo {d L : Nat} {D : Nat → Nat → UInt8} {S Ps : List (List UInt8)} {r p : List UInt8} (h : Fits d L D r p) (hr : r.length = d) (hS : ∀ k, k < S.length → Fits d L D (S.getD k []) (Ps.getD k [])) :
    ∀ k, k ≤ S.length → Fits d L D (redTo S Ps r p k).1 (redTo S Ps r p k).2
  | 0, _ => h
  | k + 1, hk => (Fits.redTo h hr hS k (by omega)).red (hS k (by omega)) (by rw [redTo_length, hr])
theorem getD_app {α : Type} (l : List α) (x y : α) (k : Nat) : (l ++ [x]).getD k y = if k = l.length then x else l.getD k y := by
  rw [List.getD_eq_getElem?_getD, List.getD_eq_getElem?_getD, List.getElem?_append]
  split
  · rename_i h
    rw [if_neg (by omega)]
  · rename_i h
    split
    · rename_i h2
      rw [h2]; simp
    · rename_i h2
      rw [List.getElem?_eq_none (by simp; omega), List.getElem?_eq_none (by omega)]
theorem Fits.add {d L : Nat} {D : Nat → Nat → UInt8} {S Ps : List (List UInt8)} {l p : List UInt8} (hl : l.length = d) (hp : Ps.length = S.length) (h : Fits d L D l p) (hS : ∀ k, k < S.length → Fits d L D (S.getD k []) (Ps.getD k [])) :
    ∀ k, k < (addTo S Ps l p).1.length → Fits d L D ((addTo S Ps l p).1.getD k []) ((addTo S Ps l p).2.getD k []) := by
  cases ha : addRow S l with
  | none => rw [addTo_none ha]; exact hS
  | some t =>
    rw [addTo_some ha]
    intro k hk
    rw [getD_app, getD_app, hp]
    by_cases hk2 : k = S.length
    · rw [if_pos hk2, if_pos hk2]
      have h1 := Fits.redTo h hl hS S.length (Nat.le_refl _)
      rw [redTo_full] at h1
      unfold addRow at ha
      split at ha
      · cases ha
      · injection ha with ha
        subst ha
        exact h1.scaled _
    · rw [if_neg hk2, if_neg hk2]
      exact hS k (by simp at hk; omega)
/-- All parts have L bytes. -/
def Even (L : Nat) (Ps : List (List UInt8)) : Prop := ∀ p ∈ Ps, p.length = L
theorem Even.get {L : Nat} {Ps : List (List UInt8)} (h : Even L Ps) {k : Nat} (hk : k < Ps.length) : (Ps.getD k []).length = L := by
  rw [List.getD_eq_getElem?_getD, List.getElem?_eq_getElem hk]
  exact h _ (List.getElem_mem hk)
/-- collect's stairs and their parts, after k rows. -/
def colTo (n : Nat) (rows : List (List UInt8)) (m : Nat) (pieces : List (List UInt8)) : Nat → List (List UInt8) × List (List UInt8)
  | 0 => ([], [])
  | k + 1 => if bitAt m k = 1 ∧ (colTo n rows m pieces k).1.length < n then addTo (colTo n rows m pieces k).1 (colTo n rows m pieces k).2 (rows.getD k []) (pieces.getD k []) else colTo n rows m pieces k
def col (n : Nat) (rows : List (List UInt8)) (m : Nat) (pieces : List (List UInt8)) : List (List UInt8) × List (List UInt8) := colTo n rows m pieces rows.length
/- The rows in the order of their first places. -/
theorem nodup_few : ∀ (n : Nat) (l : List Nat), l.Nodup → (∀ x ∈ l, x < n) → l.length ≤ n
  | 0, l, _, h => by
    cases l with
    | nil => simp
    | cons x r => exact absurd (h x (by simp)) (by omega)
  | n + 1, l, hn, h => by
    by_cases hm : n ∈ l
    · have h1 := nodup_few n (l.erase n) (hn.erase n) fun x hx => by
        have h2 := (hn.mem_erase_iff).1 hx
        have := h x h2.2
        omega
      rw [List.length_erase_of_mem hm] at h1
      omega
    · have := nodup_few n l hn fun x hx => by
        have := h x hx
        have : x ≠ n := fun e => hm (e ▸ hx)
        omega
      omega
theorem nodup_all {n : Nat} {l : List Nat} (hn : l.Nodup) (h : ∀ x ∈ l, x < n) (hl : l.length = n) {y : Nat} (hy : y < n) : y ∈ l := by
  by_cases hm : y ∈ l
  · exact hm
  · have := nodup_few n (y :: l) (List.nodup_cons.2 ⟨hm, hn⟩) fun x hx => by
      rcases List.mem_cons.1 hx with h1 | h1
      · rw [h1]; exact hy
      · exact h x h1
    simp at this
    omega
theorem firsts_nodup {n : Nat} {S : List (List UInt8)} (h : Stairs n S) : (S.map firstNZ).Nodup := by
  rw [List.nodup_iff_pairwise_ne, List.pairwise_map]
  have h2 : S.Pairwise fun x y => y ∈ S ∧ y.getD (firstNZ x) 0 = 0 := by
    rw [List.pairwise_iff_getElem]
    intro i j hi hj hij
    exact ⟨List.getElem_mem hj, List.pairwise_iff_getElem.1 h.tri i j hi hj hij⟩
  refine h2.imp ?_
  rintro x y ⟨hy, h1⟩ he
  rw [he, h.one y hy] at h1
  exact absurd h1 (by decide)
theorem Stairs.at {n : Nat} {S : List (List UInt8)} (h : Stairs n S) (hn : S.length = n) {a : Nat} (ha : a < n) : ∃ k, k < S.length ∧ firstNZ (S.getD k []) = a := by
  have h1 := nodup_all (firsts_nodup h) (fun x hx => by
    obtain ⟨y, hy, rfl⟩ := List.mem_map.1 hx
    exact h.nz y hy) (by rw [List.length_map, hn]) ha
  obtain ⟨y, hy, rfl⟩ := List.mem_map.1 h1
  obtain ⟨k, hk, rfl⟩ := List.getElem_of_mem hy
  exact ⟨k, hk, by rw [List.getD_eq_getElem?_getD, List.getElem?_eq_getElem hk]; rfl⟩
/-- The numbers under k of the rows whose first place is a. -/
def atTo (S : List (List UInt8)) (a k : Nat) : List Nat := (List.range k).filter fun i => firstNZ (S.getD i []) == a
/-- The numbers of the rows, by their first places. -/
def ordTo (S : List (List UInt8)) (a : Nat) : List Nat := (List.range a).flatMap fun b => atTo S b S.length
/-- Parts or rows in an order. -/
def byOrd (S : List (List UInt8)) (o : List Nat) : List (List UInt8) := o.map fun k => S.getD k []
/- Solving rows in the form of a triangle. -/
/-- A part less what is known of it: of the first i elements of its row. -/
def solRow (r : List UInt8) (a : Nat) (out : List (List UInt8)) (p : List UInt8) : Nat → List UInt8
  | 0 => p
  | i + 1 => if i ≠ a ∧ r.getD i 0 ≠ 0 then sum (solRow r a out p i) (scale (r.getD i 0) (out.getD i [])) else solRow r a out p i
/-- The data pieces after the rows k and more. -/
def solTo (T Ps : List (List UInt8)) (n : Nat) : Nat → List (List UInt8)
  | 0 => List.replicate n []
  | j + 1 => (solTo T Ps n j).set (firstNZ (T.getD (T.length - 1 - j) [])) (solRow (T.getD (T.length - 1 - j) []) (firstNZ (T.getD (T.length - 1 - j) [])) (solTo T Ps n j) (Ps.getD (T.length - 1 - j) []) (T.getD (T.length - 1 - j) []).length)
def sol (T Ps : List (List UInt8)) (n : Nat) : List (List UInt8) := solTo T Ps n T.length
/-- Rows in the form of a triangle, with ones. -/
structure Tri (n : Nat) (T : List (List UInt8)) : Prop where
  len : T.length = n
  wide : ∀ k, k < n → (T.getD k []).length = n
  first : ∀ k, k < n → firstNZ (T.getD k []) = k
  one : ∀ k, k < n → (T.getD k []).getD k 0 = 1
theorem getD_set {α : Type} {l : List α} {k j : Nat} {x y : α} (hk : k < l.length) : (l.set k x).getD j y = if j = k then x else l.getD j y := by
  rw [List.getD_eq_getElem?_getD, List.getElem?_set]
  by_cases h : k = j
  · subst h
    rw [if_pos rfl, if_pos rfl, if_pos hk]; rfl
  · rw [if_neg h, if_neg (Ne.symm h), List.getD_eq_getElem?_getD]
end Cd

/- CODES, in plain terms: what Encode and Decode compute, and that a chunk comes back. No program in sight. -/
namespace Cd
open Gf Go.Proofs.YtdmljilcbndmfaaDoor
def sizeN (d n : Nat) : Nat := (n + d - 1) / d
/-- The bytes of each piece of a chunk of n bytes. -/
def sizeOf (d gl : Int) (gs : List (List Int)) (n : Int) : Int := if n < 0 ∨ 4096 < n ∨ check d gs gl ≠ 0 then 0 else (n + d - 1) / d
/-- A chunk, filled up with zeros. -/
def fill (len : Nat) (data : List UInt8) : List UInt8 := data ++ List.replicate (len - data.length) 0
def cutAt (size : Nat) (full : List UInt8) (i : Nat) : List UInt8 := (full.drop (i * size)).take size
/-- The data pieces of a chunk. -/
def cuts (d : Nat) (data : List UInt8) : List (List UInt8) := (List.range d).map (cutAt (sizeN d data.length) (fill (d * sizeN d data.length) data))
/-- The pieces that rows make of data pieces. -/
def encRows (rows parts : List (List UInt8)) : List (List UInt8) := rows.map fun r => combS r parts
def encode (d gl : Int) (gs : List (List Int)) (data : List UInt8) : List (List UInt8) := encRows (rowsOf d gs gl) (cuts d.toNat data)
/-- Both results of Encode. -/
def encL (d gl : Int) (gs : List (List Int)) (data : List UInt8) : List (List UInt8) := if check d gs gl = 0 ∧ data.length ≤ 4096 then encode d gl gs data else []
/-- The data pieces, solved from a set of pieces. -/
def solved (d gl : Int) (gs : List (List Int)) (m : Nat) (pieces : List (List UInt8)) : List (List UInt8) :=
  sol (byOrd (col d.toNat (rowsOf d gs gl) m pieces).1 (ordTo (col d.toNat (rowsOf d gs gl) m pieces).1 d.toNat)) (byOrd (col d.toNat (rowsOf d gs gl) m pieces).2 (ordTo (col d.toNat (rowsOf d gs gl) m pieces).1 d.toNat)) d.toNat
section
variable {d gl : Int} {gs : List (List Int)} {n m : Int} {pieces : List (List UInt8)}
end
section
variable {d gl : Int} {gs : List (List Int)}
theorem rowsOf_len (h : check d gs gl = 0) : ((rowsOf d gs gl).length : Int) = d + gs.length + gl := by
  have hk := check_ok h
  rw [rowsOf_ok h, rows_len]
  omega
end
end Cd

/- THE WALKS over Combine of package gf. -/
namespace Go.Proofs.YtdmljilcbndmfaaDoor
open Go.RowKit

/-- Combine's closure: the byte at one place of the combination. -/
theorem comb1_any (k P1 P2 : Nat) (coef : List UInt8) (parts : List (List UInt8)) (A B : Option Addr) (n ca cb : Nat) (w : World) (hT : Tab w) (hn : n = coef.length) (hn' : n = parts.length)
    (hl : n ≤ 140737488351232) (hk : ∀ i, i < n → k < (parts.getD i []).length)
    (h1 : w.cell? ⟨P1, 0, none⟩ = some (.slice A n ca)) (h2 : w.cell? ⟨P2, 0, none⟩ = some (.slice B n cb)) (hA : Rd w A (coef.map bv)) (hB : Rd w B (parts.map fun p => .string (sb p))) :
    Calls Tryd.prog 81 #[.int .i64 k, .pointer (some ⟨P1, 0, none⟩), .pointer (some ⟨P2, 0, none⟩)] w fun e w' => e = .returned (bv (Gf.comb coef parts k coef.length)) ∧ Ext w w' := by
  have HT := Lib.hid hT
  have HA := Lib.hid hA
  have HB := Lib.hid hB
  have HK := Lib.hid hk
  have HN := Lib.hid (And.intro hn hn')
  clear hT hA hB hk hn hn'
  go_enter Tryd.func81, Tryd.ntmps81
  go_wp2_with fail
  go_loop [5, 10] (fun vx vi => ∃ i : Nat, i ≤ n ∧ vi = .int .i64 i ∧ vx = bv (Gf.comb coef parts k i)) (fun _ vi => n - (intOf vi).toNat)
  case atStart => exact ⟨0, Nat.zero_le _, rfl, rfl⟩
  case round =>
    obtain ⟨i, hi, rfl, rfl⟩ := hrel
    by_cases hlt : i < n
    · have hlc : i < coef.length := by rw [← HN.out.1]; exact hlt
      have hlp : i < parts.length := by rw [← HN.out.2]; exact hlt
      obtain ⟨ad, rfl, _, ha⟩ := HA.out.at (k := i) (by simpa using hlc)
      obtain ⟨bd, rfl, _, hb⟩ := HB.out.at (k := i) (by simpa using hlp)
      rw [List.getElem_map] at ha hb
      have hkk : k < (sb parts[i]).size := by
        have := HK.out i hlt
        rw [List.getD_eq_getElem?_getD, List.getElem?_eq_getElem hlp] at this
        simpa using this
      have hstep : Gf.comb coef parts k (i + 1) = Gf.comb coef parts k i ^^^ Gf.mul coef[i] ((sb parts[i])[k]'hkk) := by
        rw [Gf.comb, get_bl, List.getD_eq_getElem?_getD, List.getElem?_eq_getElem hlc, List.getD_eq_getElem?_getD (l := parts), List.getElem?_eq_getElem hlp, List.getD_eq_getElem?_getD]
        simp only [Option.getD_some]
        rw [List.getElem?_eq_getElem (by simpa using hkk)]
        rfl
      have hx : bits .xor .u8 ((Gf.comb coef parts k i).toNat : Int) ((Gf.mul coef[i] ((sb parts[i])[k]'hkk)).toNat : Int) = ((Gf.comb coef parts k (i + 1)).toNat : Int) := by
        rw [u8_xor_nat _ _ (Gf.lt8 _) (Gf.lt8 _), hstep, UInt8.toNat_xor]
      have HX := Lib.hid hx
      clear hx hstep
      go_wp2_with fail
      refine (mul_u8 _ _ _ HT.out).mono ?_
      rintro e w' ⟨rfl, rfl⟩
      go_wp2_with fail
      go_round
      case rel => exact ⟨i + 1, by omega, by go_num, by rw [HX.out]⟩
      case measure => simp [intOf]; omega
    · obtain rfl : i = n := by omega
      have HI := Lib.hid HN.out.1
      go_wp2_with fail
      go_ret
      exact ⟨by rw [← HI.out]; rfl, Ext.refl _⟩

theorem enters81 : ∀ args w, (callFunc 81 args).run Tryd.prog w = .ok (.enter 81 args) w := enters_of Tryd.func81 (by kernel_rfl) rfl

theorem combine_ne (A B : Option Addr) (n m ca cb : Nat) (w : World) (hne : n ≠ m) :
    Calls Tryd.prog 55 #[.slice A n ca, .slice B m cb] w fun e w' => e = .returned (.tuple #[.string (sb []), .int .i64 1]) ∧ Ext w w' := by
  have h1 : ((n : Int) != (m : Int)) = true := by rw [bne_iff_ne]; omega
  clear hne
  go_enter Tryd.func55, Tryd.ntmps55
  go_wp2_with fail
  go_ret2
  exact ⟨rfl, ((Ext.refl _).alloc _).alloc _⟩
/-- The length that Combine has taken after i parts. -/
def headN (parts : List (List UInt8)) (i : Nat) : Nat := if i = 0 then 0 else (parts.headD []).length
theorem combine_eq (coef : List UInt8) (parts : List (List UInt8)) (A B : Option Addr) (n ca cb : Nat) (w : World) (hT : Tab w) (hn : n = coef.length) (hn' : n = parts.length)
    (hl : n ≤ 140737488351232) (hs : ∀ p ∈ parts, p.length ≤ 140737488351232) (hA : Rd w A (coef.map bv)) (hB : Rd w B (parts.map fun p => .string (sb p))) :
    Calls Tryd.prog 55 #[.slice A n ca, .slice B n cb] w fun e w' => e = .returned (.tuple #[.string (sb (Gf.combS coef parts)), .int .i64 (Gf.combE coef parts)]) ∧ Ext w w' := by
  have HT := Lib.hid hT
  have HA := Lib.hid hA
  have HB := Lib.hid hB
  have HS := Lib.hid hs
  have HN := Lib.hid (And.intro hn hn')
  clear hT hA hB hs hn hn'
  go_enter Tryd.func55, Tryd.ntmps55
  go_wp2_with fail
  have hW : Ext w ((w.alloc (.cells #[.slice A n ca] 28)).alloc (.cells #[.slice B n cb] 54)) := ((Ext.refl w).alloc _).alloc _
  have HW := Lib.hid hW
  clear hW
  go_loop [6, 16] (fun vn vi => ∃ i : Nat, i ≤ n ∧ vi = .int .i64 i ∧ vn = .int .i64 (headN parts i : Nat) ∧ Hid (∀ j, j < i → (parts.getD j []).length = (parts.headD []).length)) (fun _ vi => n - (intOf vi).toNat)
  case atStart => exact ⟨0, Nat.zero_le _, rfl, rfl, fun j hj => absurd hj (by omega)⟩
  case round =>
    obtain ⟨i, hi, rfl, rfl, HJ⟩ := hrel
    by_cases hlt : i < n
    · have hlp : i < parts.length := by rw [← HN.out.2]; exact hlt
      obtain ⟨bd, rfl, _, hb⟩ := (HB.out.ext HW.out).at (k := i) (by simpa using hlp)
      rw [List.getElem_map] at hb
      have hsz : parts[i].length ≤ 140737488351232 := HS.out _ (List.getElem_mem _)
      have hgd : parts.getD i [] = parts[i] := by rw [List.getD_eq_getElem?_getD, List.getElem?_eq_getElem hlp]; rfl
      have HG := Lib.hid hgd
      clear hgd
      by_cases h0 : i = 0
      · subst h0
        have hb0 : ((w.alloc (.cells #[.slice A n ca] 28)).alloc (.cells #[.slice (some bd) n cb] 54)).cell? bd = some (.string (sb parts[0])) := hb
        have hh : (parts.headD []).length = parts[0].length := by
          cases parts with
          | nil => simp at hlp
          | cons a l => rfl
        have HH := Lib.hid hh
        clear hh
        go_wp2_with fail
        go_round
        case rel => exact ⟨1, by omega, by go_num, by rw [headN, if_neg (by omega), HH.out], fun j hj => by
          obtain rfl : j = 0 := by omega
          rw [HH.out, HG.out]⟩
        case measure => simp [intOf]; omega
      · have hn0 : headN parts i = (parts.headD []).length := if_neg h0
        have HN0 := Lib.hid hn0
        clear hn0
        by_cases he : parts[i].length = (parts.headD []).length
        · have e1 : ((parts[i].length : Int) != (headN parts i : Int)) = false := by
            rw [HN0.out, he]; simp
          have e2 : ((i : Int) == 0) = false := by rw [beq_eq_false_iff_ne]; omega
          have HE := Lib.hid he
          have H0 := Lib.hid h0
          clear he h0
          go_wp2_with fail
          go_round
          case rel => exact ⟨i + 1, by omega, by go_num, by rw [HN0.out, headN, if_neg (by omega)], fun j hj => by
            by_cases hji : j = i
            · rw [hji, HG.out, HE.out]
            · exact HJ.out j (by omega)⟩
          case measure => simp [intOf]; omega
        · have e1 : ((parts[i].length : Int) != (headN parts i : Int)) = true := by
            rw [HN0.out, bne_iff_ne]; omega
          have e2 : ((i : Int) == 0) = false := by rw [beq_eq_false_iff_ne]; omega
          have hno : Gf.combOk coef parts = false := by
            rw [Bool.eq_false_iff]
            intro h
            unfold Gf.combOk at h
            rw [Bool.and_eq_true, List.all_eq_true] at h
            exact he (by simpa using h.2 _ (List.getElem_mem hlp))
          have HO := Lib.hid hno
          clear he h0 hno
          go_wp2_with fail
          go_ret2
          exact ⟨by rw [Gf.combS_no HO.out, Gf.combE_no HO.out]; rfl, HW.out⟩
    · obtain rfl : i = n := by omega
      have hok : Gf.combOk coef parts = true := by
        unfold Gf.combOk
        rw [Bool.and_eq_true, List.all_eq_true]
        refine ⟨by simp [← HN.out.1, ← HN.out.2], fun p hp => ?_⟩
        obtain ⟨j, hj, rfl⟩ := List.getElem_of_mem hp
        have := HJ.out j (by rw [HN.out.2]; exact hj)
        rw [List.getD_eq_getElem?_getD, List.getElem?_eq_getElem hj] at this
        simpa using this
      have hhd : headN parts i = (parts.headD []).length := by
        unfold headN
        split
        · rename_i h
          have := HN.out.2
          rw [h] at this
          cases parts with
          | nil => rfl
          | cons a l => simp at this
        · rfl
      have hle : headN parts i ≤ 140737488351232 := by
        rw [hhd]
        cases parts with
        | nil => simp
        | cons a l => exact HS.out a (by simp)
      have HO := Lib.hid hok
      have HD := Lib.hid hhd
      clear hok hhd
      go_wp2_with fail
      refine (build_any (headN parts i) hle _ _ (fun k => Gf.comb coef parts k coef.length) _ enters81 ?_).mono ?_
      · intro k hk w' hx
        refine comb1_any k _ _ coef parts A B i ca cb w' ((HT.out.ext HW.out).ext hx) HN.out.1 HN.out.2 hl (fun j hj => ?_) (hx.cell (by go_simp)) (hx.cell (by go_simp)) ((HA.out.ext HW.out).ext hx) ((HB.out.ext HW.out).ext hx)
        rw [HJ.out j hj, ← HD.out]
        exact hk
      rintro e w1 ⟨rfl, hx⟩
      go_wp2_with fail
      go_ret2
      refine ⟨?_, HW.out.trans hx⟩
      rw [Gf.combS_ok HO.out, Gf.combE_ok HO.out, Gf.combine, ← HD.out]
      rfl
/-- What Combine returns. -/
theorem combine_any (coef : List UInt8) (parts : List (List UInt8)) (A B : Option Addr) (n m ca cb : Nat) (w : World) (hT : Tab w) (hn : n = coef.length) (hm : m = parts.length)
    (hl : n ≤ 140737488351232) (hs : ∀ p ∈ parts, p.length ≤ 140737488351232) (hA : Rd w A (coef.map bv)) (hB : Rd w B (parts.map fun p => .string (sb p))) :
    Calls Tryd.prog 55 #[.slice A n ca, .slice B m cb] w fun e w' => e = .returned (.tuple #[.string (sb (Gf.combS coef parts)), .int .i64 (Gf.combE coef parts)]) ∧ Ext w w' := by
  by_cases h : n = m
  · subst h
    exact combine_eq coef parts A B n ca cb w hT hn hm hl hs hA hB
  · have h' := Gf.combOk_ne (coef := coef) (parts := parts) (by omega)
    rw [Gf.combS_no h', Gf.combE_no h']
    exact combine_ne A B n m ca cb w h
end Go.Proofs.YtdmljilcbndmfaaDoor

/- THE WALKS over Size and Encode. -/
namespace Go.Proofs.YtdmljilcbndmfaaDoor
open Go.RowKit
/- COPY FROM A STRING, and a part of a slice. -/
section
variable {P : Program} {w0 w : World} {L : List LRow}
theorem Owns.copied (h : Owns w0 w L) (i : Nat) {g n c e : Nat} {xs : List Value} (hi : L[i]? = some ⟨.slice (some ⟨g, 0, none⟩) n c, e, 1, n, xs⟩) (l : List UInt8) (hl : l.length ≤ n) :
    ∃ cur, w.heap[g]? = some (.cells cur e (0, 0)) ∧ l.length ≤ cur.size ∧ Owns w0 (w.setRow g (l.map bv ++ cur.toList.drop l.length).toArray) (L.set i ⟨.slice (some ⟨g, 0, none⟩) n c, e, 1, n, l.map bv ++ xs.drop l.length⟩) := by
  have h1 := h.row i hi
  have hB := (h1.lt g rfl).1
  rcases h1.2 with ⟨h2, _⟩ | ⟨g', cap, cur, hv, _, hg, hc, hm, hs, ht⟩
  · cases h2
  · injection hv with e1 e2 e3
    injection e1 with e1
    injection e1 with e1
    subst e1 e3
    rw [Nat.mul_one] at hs ht
    refine ⟨cur, hg, by omega, h.put i _ ?_ ?_ ?_ ?_⟩
    · exact below_setRow h.ext hB _
    · refine ⟨?_, .inr ⟨g, c, (l.map bv ++ cur.toList.drop l.length).toArray, rfl, hB, setRow_heap w g _ _ e _ hg, hc, hm, ?_, ?_⟩⟩
      · have := h1.1
        simp
        omega
      · simp
        omega
      · show List.take (n * 1) _ = _
        rw [Nat.mul_one, List.toList_toArray, List.take_append, List.take_of_length_le (by simpa using hl), ← ht, List.length_map, List.drop_take]
    · intro j r hj hr g' hg'
      have hf := h.far j i _ _ hj hr hi
      refine setRow_other w g g' _ ?_
      rintro rfl
      rcases hf with h2 | h2
      · rw [hg'] at h2; cases h2
      · exact h2 hg'
    · intro j r hj hr
      have := h.far i j _ _ (Ne.symm hj) hi hr
      exact this
end
end Go.Proofs.YtdmljilcbndmfaaDoor

/- THE DRAWN REGIONS of reduce of package matrix. -/
namespace Go.Proofs.YtdmljilcbndmfaaDoor
open Go.RowKit
theorem xor_u8 (y z : UInt8) : bits .xor .u8 ((y.toNat : Nat) : Int) ((z.toNat : Nat) : Int) = (((y ^^^ z).toNat : Nat) : Int) := by
  rw [u8_xor_nat _ _ (Gf.lt8 _) (Gf.lt8 _), UInt8.toNat_xor]
theorem size_u8 : (Tryd.prog.info? 5).map (·.size) = some 1 := by kernel_rfl
theorem run_copy_op {P : Program} {o : Oper} {a : Act} {w w' : World} {d s : Operand} (dT sT : TypeId) {u v r : Value} {ty : TypeId} (hd : a.eval d = u) (hs : a.eval s = v) (hr : (Builtin.copy_ #[dT, sT] ty #[u, v]).run P w = .ok r w')
    (ho : o.op = .call { callee := .builtin .copy, args := #[d, s], argTypes := #[dT, sT] } := by rfl) (hty : o.type = ty := by rfl) : (execOp a.eval o).run P w = .ok (.value r) w' := by
  subst hty
  unfold execOp
  simp only [ho, resolve, invoke, builtin, Sem.run_bind, Sem.run_pure, Result.andThen_ok, List.map_toArray, List.map_cons, List.map_nil, hd, hs, hr]
noncomputable def rd_mul_code : Code := ((Tryd.f89.body.bind (regionOf 22)).getD .skip)
def rd_mul_dsts : List (Option Nat) := [some 98, some 99, some 100, some 101, some 102, some 103, some 104, some 105, some 106, some 107, some 108, some 109, some 110, some 111, some 112, none]
theorem rd_mul_apart : apartD rd_mul_dsts = true := by decide +kernel
set_option maxRecDepth 1000000 in
set_option maxHeartbeats 16000000 in
theorem rd_mul (wr : World) (O N n r j H : Nat) (a0 x : UInt8) (hr : r < N) (hj : j < n) (hO : wr.cell? ⟨O, r, none⟩ = some (.slice (some ⟨H, 0, none⟩) n n)) (hH : wr.cell? ⟨H, j, none⟩ = some (bv x)) (hF : wr.frozen? ⟨H, j, none⟩ = false) (HT : Hid (Tab wr)) (c0 c1 c2 c3 c5 c6 c7 c9 c11 c13 c14 c15 c16 c17 c18 c19 c20 c21 c22 c23 c24 c25 c26 c27 c28 c29 c30 c31 c32 c33 c34 c35 c36 c37 c38 c39 c40 c41 c42 c43 c44 c45 c46 c47 c48 c49 c50 c51 c52 c53 c54 c55 c56 c57 c58 c59 c60 c61 c62 c63 c64 c65 c66 c67 c68 c69 c70 c71 c72 c73 c74 c75 c76 c77 c78 c79 c80 c81 c82 c83 c84 c85 c86 c87 c88 c89 c90 c91 c92 c93 c94 c95 c96 c97 c98 c99 c100 c101 c102 c103 c104 c105 c106 c107 c108 c109 c110 c111 c112 c113 c114 c115 c116 c117 c118 c119 c120 c121 c122 c123 c124 c125 c126 c127 c128 c129 c130 c131 c132 c133 c134 c135 c136 c137 c138 c139 c140 c141 c142 c143 c144 c145 c146 c147 c148 c149 c150 c151 c152 c153 c154 c155 c156 c157 c158 c159 c160 c161 c162 c163 c164 c165 c166 c167 c168 c169 c170 : Value) (df : List Deferred) (K : Act → World → Prop)
    (hK : ∀  (u98 u99 u100 u101 u102 u103 u104 u105 u106 u107 u108 u109 u110 u111 u112 : Value) (wx : World), wx = (wr.drew).setCell ⟨H, j, none⟩ (bv (Gf.mul x a0)) → K ⟨#[c0, c1, c2, c3, .slice (some ⟨O, 0, none⟩) N N, c5, c6, c7, .int .i64 (r : Nat), c9, bv a0, c11, .int .i64 (j : Nat), c13, c14, c15, c16, c17, c18, c19, c20, c21, c22, c23, c24, c25, c26, c27, c28, c29, c30, c31, c32, c33, c34, c35, c36, c37, c38, c39, c40, c41, c42, c43, c44, c45, c46, c47, c48, c49, c50, c51, c52, c53, c54, c55, c56, c57, c58, c59, c60, c61, c62, c63, c64, c65, c66, c67, c68, c69, c70, c71, c72, c73, c74, c75, c76, c77, c78, c79, c80, c81, c82, c83, c84, c85, c86, c87, c88, c89, c90, c91, c92, c93, c94, c95, c96, c97, u98, u99, u100, u101, u102, u103, u104, u105, u106, u107, u108, u109, u110, u111, u112, c113, c114, c115, c116, c117, c118, c119, c120, c121, c122, c123, c124, c125, c126, c127, c128, c129, c130, c131, c132, c133, c134, c135, c136, c137, c138, c139, c140, c141, c142, c143, c144, c145, c146, c147, c148, c149, c150, c151, c152, c153, c154, c155, c156, c157, c158, c159, c160, c161, c162, c163, c164, c165, c166, c167, c168, c169, c170], df⟩ wx) :
    Code.wp Tryd.prog rd_mul_code (AtEnd K) ⟨#[c0, c1, c2, c3, .slice (some ⟨O, 0, none⟩) N N, c5, c6, c7, .int .i64 (r : Nat), c9, bv a0, c11, .int .i64 (j : Nat), c13, c14, c15, c16, c17, c18, c19, c20, c21, c22, c23, c24, c25, c26, c27, c28, c29, c30, c31, c32, c33, c34, c35, c36, c37, c38, c39, c40, c41, c42, c43, c44, c45, c46, c47, c48, c49, c50, c51, c52, c53, c54, c55, c56, c57, c58, c59, c60, c61, c62, c63, c64, c65, c66, c67, c68, c69, c70, c71, c72, c73, c74, c75, c76, c77, c78, c79, c80, c81, c82, c83, c84, c85, c86, c87, c88, c89, c90, c91, c92, c93, c94, c95, c96, c97, c98, c99, c100, c101, c102, c103, c104, c105, c106, c107, c108, c109, c110, c111, c112, c113, c114, c115, c116, c117, c118, c119, c120, c121, c122, c123, c124, c125, c126, c127, c128, c129, c130, c131, c132, c133, c134, c135, c136, c137, c138, c139, c140, c141, c142, c143, c144, c145, c146, c147, c148, c149, c150, c151, c152, c153, c154, c155, c156, c157, c158, c159, c160, c161, c162, c163, c164, c165, c166, c167, c168, c169, c170], df⟩ wr := by
  conv => arg 2; whnf
  refine region_inv (by kernel_rfl) [[], [], [0, 1], [2], [], [], [], [5, 6], [7], [], [8, 9], [10], [], [11, 12], [3, 4, 0, 1, 2, 3, 4, 5, 6, 7, 8, 9, 10, 11, 12, 13], [14, 13, 13, 0, 1, 2, 3, 4, 5, 6, 7, 8, 9, 10, 11, 12, 13]] (by kernel_rfl) [0, 1, 2, 3, 4, 5, 6, 7, 8, 9, 10, 11, 12, 13, 14, 15] (by decide +kernel) (by decide +kernel) (by decide +kernel) (fun L a wc => Inv rd_mul_dsts [.slice (some ⟨O, 0, none⟩) N N, .int .i64 (r : Nat), .pointer (some ⟨O, r, none⟩), .slice (some ⟨H, 0, none⟩) n n, .int .i64 (j : Nat), .slice (some ⟨O, 0, none⟩) N N, .int .i64 (r : Nat), .pointer (some ⟨O, r, none⟩), .slice (some ⟨H, 0, none⟩) n n, .int .i64 (j : Nat), .pointer (some ⟨H, j, none⟩), bv x, bv a0, bv (Gf.mul x a0), .pointer (some ⟨H, j, none⟩), undef] ⟨#[c0, c1, c2, c3, .slice (some ⟨O, 0, none⟩) N N, c5, c6, c7, .int .i64 (r : Nat), c9, bv a0, c11, .int .i64 (j : Nat), c13, c14, c15, c16, c17, c18, c19, c20, c21, c22, c23, c24, c25, c26, c27, c28, c29, c30, c31, c32, c33, c34, c35, c36, c37, c38, c39, c40, c41, c42, c43, c44, c45, c46, c47, c48, c49, c50, c51, c52, c53, c54, c55, c56, c57, c58, c59, c60, c61, c62, c63, c64, c65, c66, c67, c68, c69, c70, c71, c72, c73, c74, c75, c76, c77, c78, c79, c80, c81, c82, c83, c84, c85, c86, c87, c88, c89, c90, c91, c92, c93, c94, c95, c96, c97, c98, c99, c100, c101, c102, c103, c104, c105, c106, c107, c108, c109, c110, c111, c112, c113, c114, c115, c116, c117, c118, c119, c120, c121, c122, c123, c124, c125, c126, c127, c128, c129, c130, c131, c132, c133, c134, c135, c136, c137, c138, c139, c140, c141, c142, c143, c144, c145, c146, c147, c148, c149, c150, c151, c152, c153, c154, c155, c156, c157, c158, c159, c160, c161, c162, c163, c164, c165, c166, c167, c168, c169, c170], df⟩ L a ∧ Hid ((L 15 = false → wc = wr.drew) ∧ (L 15 = true → wc = (wr.drew).setCell ⟨H, j, none⟩ (bv (Gf.mul x a0))))) ⟨Inv.start, Lib.hid ⟨fun _ => rfl, fun h => by cases h⟩⟩ ?_ ?_
  · refine ⟨?_, ?_, ?_, ?_, ?_, ?_, ?_, ?_, ?_, ?_, ?_, ?_, ?_, ?_, ?_, ?_, trivial⟩
    ·
      rintro L a wc ⟨hv, HO⟩ hL hc hd
      exact wpOp_val rfl rfl (ex_move rfl ((hv.fixed 4 (by decide)).trans rfl)) ⟨hv.put rd_mul_apart 0 rfl (lb rfl) (lb rfl) rfl, HO⟩
    ·
      rintro L a wc ⟨hv, HO⟩ hL hc hd
      exact wpOp_val rfl rfl (ex_move rfl ((hv.fixed 8 (by decide)).trans rfl)) ⟨hv.put rd_mul_apart 1 rfl (lb rfl) (lb rfl) rfl, HO⟩
    ·
      rintro L a wc ⟨hv, HO⟩ hL hc hd
      have u1 : (0 : Int) ≤ (r : Int) := by omega
      have u2 : (r : Int) < (N : Int) := by omega
      exact wpOp_val rfl rfl (ex_index rfl (hv.get 0 rfl rfl (hd 0 (by decide))) (hv.get 1 rfl rfl (hd 1 (by decide))) (by go_simp)) ⟨hv.put rd_mul_apart 2 rfl (lb rfl) (lb rfl) rfl, HO⟩
    ·
      rintro L a wc ⟨hv, HO⟩ hL hc hd
      have hw0 : wc = wr.drew := HO.out.1 (Bool.eq_false_iff.2 fun h => Bool.false_ne_true (hL.symm.trans (hc 15 h 3 (by decide))))
      have h0 : wc.cell? ⟨O, r, none⟩ = some (.slice (some ⟨H, 0, none⟩) n n) := (by rw [hw0]; exact hO)
      exact wpOp_val rfl rfl (ex_load rfl (hv.get 2 rfl rfl (hd 2 (by decide))) (by go_simp)) ⟨hv.put rd_mul_apart 3 rfl (lb rfl) (lb rfl) rfl, HO⟩
    ·
      rintro L a wc ⟨hv, HO⟩ hL hc hd
      exact wpOp_val rfl rfl (ex_move rfl ((hv.fixed 12 (by decide)).trans rfl)) ⟨hv.put rd_mul_apart 4 rfl (lb rfl) (lb rfl) rfl, HO⟩
    ·
      rintro L a wc ⟨hv, HO⟩ hL hc hd
      exact wpOp_val rfl rfl (ex_move rfl ((hv.fixed 4 (by decide)).trans rfl)) ⟨hv.put rd_mul_apart 5 rfl (lb rfl) (lb rfl) rfl, HO⟩
    ·
      rintro L a wc ⟨hv, HO⟩ hL hc hd
      exact wpOp_val rfl rfl (ex_move rfl ((hv.fixed 8 (by decide)).trans rfl)) ⟨hv.put rd_mul_apart 6 rfl (lb rfl) (lb rfl) rfl, HO⟩
    ·
      rintro L a wc ⟨hv, HO⟩ hL hc hd
      have u1 : (0 : Int) ≤ (r : Int) := by omega
      have u2 : (r : Int) < (N : Int) := by omega
      exact wpOp_val rfl rfl (ex_index rfl (hv.get 5 rfl rfl (hd 5 (by decide))) (hv.get 6 rfl rfl (hd 6 (by decide))) (by go_simp)) ⟨hv.put rd_mul_apart 7 rfl (lb rfl) (lb rfl) rfl, HO⟩
    ·
      rintro L a wc ⟨hv, HO⟩ hL hc hd
      have hw0 : wc = wr.drew := HO.out.1 (Bool.eq_false_iff.2 fun h => Bool.false_ne_true (hL.symm.trans (hc 15 h 8 (by decide))))
      have h0 : wc.cell? ⟨O, r, none⟩ = some (.slice (some ⟨H, 0, none⟩) n n) := (by rw [hw0]; exact hO)
      exact wpOp_val rfl rfl (ex_load rfl (hv.get 7 rfl rfl (hd 7 (by decide))) (by go_simp)) ⟨hv.put rd_mul_apart 8 rfl (lb rfl) (lb rfl) rfl, HO⟩
    ·
      rintro L a wc ⟨hv, HO⟩ hL hc hd
      exact wpOp_val rfl rfl (ex_move rfl ((hv.fixed 12 (by decide)).trans rfl)) ⟨hv.put rd_mul_apart 9 rfl (lb rfl) (lb rfl) rfl, HO⟩
    ·
      rintro L a wc ⟨hv, HO⟩ hL hc hd
      have u1 : (0 : Int) ≤ (j : Int) := by omega
      have u2 : (j : Int) < (n : Int) := by omega
      exact wpOp_val rfl rfl (ex_index rfl (hv.get 8 rfl rfl (hd 8 (by decide))) (hv.get 9 rfl rfl (hd 9 (by decide))) (by go_simp)) ⟨hv.put rd_mul_apart 10 rfl (lb rfl) (lb rfl) rfl, HO⟩
    ·
      rintro L a wc ⟨hv, HO⟩ hL hc hd
      have hw0 : wc = wr.drew := HO.out.1 (Bool.eq_false_iff.2 fun h => Bool.false_ne_true (hL.symm.trans (hc 15 h 11 (by decide))))
      have h0 : wc.cell? ⟨H, j, none⟩ = some (bv x) := (by rw [hw0]; exact hH)
      exact wpOp_val rfl rfl (ex_load rfl (hv.get 10 rfl rfl (hd 10 (by decide))) (by go_simp)) ⟨hv.put rd_mul_apart 11 rfl (lb rfl) (lb rfl) rfl, HO⟩
    ·
      rintro L a wc ⟨hv, HO⟩ hL hc hd
      exact wpOp_val rfl rfl (ex_move rfl ((hv.fixed 10 (by decide)).trans rfl)) ⟨hv.put rd_mul_apart 12 rfl (lb rfl) (lb rfl) rfl, HO⟩
    ·
      rintro L a wc ⟨hv, HO⟩ hL hc hd
      have hw0 : wc = wr.drew := HO.out.1 (Bool.eq_false_iff.2 fun h => Bool.false_ne_true (hL.symm.trans (hc 15 h 13 (by decide))))
      refine wpOp_call (R := fun v w1 => v = bv (Gf.mul x a0) ∧ wc = w1) rfl rfl (ex_call rfl rfl (map2c (hv.get 11 rfl rfl (hd 11 (by decide))) (hv.get 12 rfl rfl (hd 12 (by decide)))) (enters_of Tryd.func82 (by kernel_rfl) rfl _ _)) (by rw [hw0]; exact (mul_u8 x a0 wr.drew HT.out).mono (fun e w' h => ⟨_, h.1, rfl, h.2⟩)) ?_
      rintro v w' ⟨rfl, rfl⟩
      exact ⟨hv.put rd_mul_apart 13 rfl (lb rfl) (lb rfl) rfl, HO⟩
    ·
      rintro L a wc ⟨hv, HO⟩ hL hc hd
      have u1 : (0 : Int) ≤ (j : Int) := by omega
      have u2 : (j : Int) < (n : Int) := by omega
      exact wpOp_val rfl rfl (ex_index rfl (hv.get 3 rfl rfl (hd 3 (by decide))) (hv.get 4 rfl rfl (hd 4 (by decide))) (by go_simp)) ⟨hv.put rd_mul_apart 14 rfl (lb rfl) (lb rfl) rfl, HO⟩
    ·
      rintro L a wc ⟨hv, HO⟩ hL hc hd
      have hw0 : wc = wr.drew := HO.out.1 hL
      have f0 : wc.frozen? ⟨H, j, none⟩ = false := by rw [hw0]; exact hF
      have c1 : wc.cell? ⟨H, j, none⟩ = some (bv x) := by rw [hw0]; exact hH
      exact wpOp_skip rfl rfl rfl (ex_store (w' := wc.setCell ⟨H, j, none⟩ (bv (Gf.mul x a0))) rfl (hv.get 14 rfl rfl (hd 14 (by decide))) (hv.get 13 rfl rfl (hd 13 (by decide))) (by clear hw0; go_simp)) ⟨hv.skip 15 rfl, Lib.hid ⟨fun h => absurd h (by simp [upd]), fun _ => by rw [hw0]⟩⟩
  · rintro L a wc ⟨hv, HO⟩ hall
    show K a wc
    have ha := act_lit a
    rw [hv.size, hv.defers] at ha
    have hl : ∀ f : Nat → Value, ((List.range (⟨#[c0, c1, c2, c3, .slice (some ⟨O, 0, none⟩) N N, c5, c6, c7, .int .i64 (r : Nat), c9, bv a0, c11, .int .i64 (j : Nat), c13, c14, c15, c16, c17, c18, c19, c20, c21, c22, c23, c24, c25, c26, c27, c28, c29, c30, c31, c32, c33, c34, c35, c36, c37, c38, c39, c40, c41, c42, c43, c44, c45, c46, c47, c48, c49, c50, c51, c52, c53, c54, c55, c56, c57, c58, c59, c60, c61, c62, c63, c64, c65, c66, c67, c68, c69, c70, c71, c72, c73, c74, c75, c76, c77, c78, c79, c80, c81, c82, c83, c84, c85, c86, c87, c88, c89, c90, c91, c92, c93, c94, c95, c96, c97, c98, c99, c100, c101, c102, c103, c104, c105, c106, c107, c108, c109, c110, c111, c112, c113, c114, c115, c116, c117, c118, c119, c120, c121, c122, c123, c124, c125, c126, c127, c128, c129, c130, c131, c132, c133, c134, c135, c136, c137, c138, c139, c140, c141, c142, c143, c144, c145, c146, c147, c148, c149, c150, c151, c152, c153, c154, c155, c156, c157, c158, c159, c160, c161, c162, c163, c164, c165, c166, c167, c168, c169, c170], df⟩ : Act).tmps.size).map f).toArray = #[f 0, f 1, f 2, f 3, f 4, f 5, f 6, f 7, f 8, f 9, f 10, f 11, f 12, f 13, f 14, f 15, f 16, f 17, f 18, f 19, f 20, f 21, f 22, f 23, f 24, f 25, f 26, f 27, f 28, f 29, f 30, f 31, f 32, f 33, f 34, f 35, f 36, f 37, f 38, f 39, f 40, f 41, f 42, f 43, f 44, f 45, f 46, f 47, f 48, f 49, f 50, f 51, f 52, f 53, f 54, f 55, f 56, f 57, f 58, f 59, f 60, f 61, f 62, f 63, f 64, f 65, f 66, f 67, f 68, f 69, f 70, f 71, f 72, f 73, f 74, f 75, f 76, f 77, f 78, f 79, f 80, f 81, f 82, f 83, f 84, f 85, f 86, f 87, f 88, f 89, f 90, f 91, f 92, f 93, f 94, f 95, f 96, f 97, f 98, f 99, f 100, f 101, f 102, f 103, f 104, f 105, f 106, f 107, f 108, f 109, f 110, f 111, f 112, f 113, f 114, f 115, f 116, f 117, f 118, f 119, f 120, f 121, f 122, f 123, f 124, f 125, f 126, f 127, f 128, f 129, f 130, f 131, f 132, f 133, f 134, f 135, f 136, f 137, f 138, f 139, f 140, f 141, f 142, f 143, f 144, f 145, f 146, f 147, f 148, f 149, f 150, f 151, f 152, f 153, f 154, f 155, f 156, f 157, f 158, f 159, f 160, f 161, f 162, f 163, f 164, f 165, f 166, f 167, f 168, f 169, f 170] := fun _ => rfl
    rw [hl] at ha
    simp only [hv.fixed 0 (by decide), hv.fixed 1 (by decide), hv.fixed 2 (by decide), hv.fixed 3 (by decide), hv.fixed 4 (by decide), hv.fixed 5 (by decide), hv.fixed 6 (by decide), hv.fixed 7 (by decide), hv.fixed 8 (by decide), hv.fixed 9 (by decide), hv.fixed 10 (by decide), hv.fixed 11 (by decide), hv.fixed 12 (by decide), hv.fixed 13 (by decide), hv.fixed 14 (by decide), hv.fixed 15 (by decide), hv.fixed 16 (by decide), hv.fixed 17 (by decide), hv.fixed 18 (by decide), hv.fixed 19 (by decide), hv.fixed 20 (by decide), hv.fixed 21 (by decide), hv.fixed 22 (by decide), hv.fixed 23 (by decide), hv.fixed 24 (by decide), hv.fixed 25 (by decide), hv.fixed 26 (by decide), hv.fixed 27 (by decide), hv.fixed 28 (by decide), hv.fixed 29 (by decide), hv.fixed 30 (by decide), hv.fixed 31 (by decide), hv.fixed 32 (by decide), hv.fixed 33 (by decide), hv.fixed 34 (by decide), hv.fixed 35 (by decide), hv.fixed 36 (by decide), hv.fixed 37 (by decide), hv.fixed 38 (by decide), hv.fixed 39 (by decide), hv.fixed 40 (by decide), hv.fixed 41 (by decide), hv.fixed 42 (by decide), hv.fixed 43 (by decide), hv.fixed 44 (by decide), hv.fixed 45 (by decide), hv.fixed 46 (by decide), hv.fixed 47 (by decide), hv.fixed 48 (by decide), hv.fixed 49 (by decide), hv.fixed 50 (by decide), hv.fixed 51 (by decide), hv.fixed 52 (by decide), hv.fixed 53 (by decide), hv.fixed 54 (by decide), hv.fixed 55 (by decide), hv.fixed 56 (by decide), hv.fixed 57 (by decide), hv.fixed 58 (by decide), hv.fixed 59 (by decide), hv.fixed 60 (by decide), hv.fixed 61 (by decide), hv.fixed 62 (by decide), hv.fixed 63 (by decide), hv.fixed 64 (by decide), hv.fixed 65 (by decide), hv.fixed 66 (by decide), hv.fixed 67 (by decide), hv.fixed 68 (by decide), hv.fixed 69 (by decide), hv.fixed 70 (by decide), hv.fixed 71 (by decide), hv.fixed 72 (by decide), hv.fixed 73 (by decide), hv.fixed 74 (by decide), hv.fixed 75 (by decide), hv.fixed 76 (by decide), hv.fixed 77 (by decide), hv.fixed 78 (by decide), hv.fixed 79 (by decide), hv.fixed 80 (by decide), hv.fixed 81 (by decide), hv.fixed 82 (by decide), hv.fixed 83 (by decide), hv.fixed 84 (by decide), hv.fixed 85 (by decide), hv.fixed 86 (by decide), hv.fixed 87 (by decide), hv.fixed 88 (by decide), hv.fixed 89 (by decide), hv.fixed 90 (by decide), hv.fixed 91 (by decide), hv.fixed 92 (by decide), hv.fixed 93 (by decide), hv.fixed 94 (by decide), hv.fixed 95 (by decide), hv.fixed 96 (by decide), hv.fixed 97 (by decide), hv.fixed 113 (by decide), hv.fixed 114 (by decide), hv.fixed 115 (by decide), hv.fixed 116 (by decide), hv.fixed 117 (by decide), hv.fixed 118 (by decide), hv.fixed 119 (by decide), hv.fixed 120 (by decide), hv.fixed 121 (by decide), hv.fixed 122 (by decide), hv.fixed 123 (by decide), hv.fixed 124 (by decide), hv.fixed 125 (by decide), hv.fixed 126 (by decide), hv.fixed 127 (by decide), hv.fixed 128 (by decide), hv.fixed 129 (by decide), hv.fixed 130 (by decide), hv.fixed 131 (by decide), hv.fixed 132 (by decide), hv.fixed 133 (by decide), hv.fixed 134 (by decide), hv.fixed 135 (by decide), hv.fixed 136 (by decide), hv.fixed 137 (by decide), hv.fixed 138 (by decide), hv.fixed 139 (by decide), hv.fixed 140 (by decide), hv.fixed 141 (by decide), hv.fixed 142 (by decide), hv.fixed 143 (by decide), hv.fixed 144 (by decide), hv.fixed 145 (by decide), hv.fixed 146 (by decide), hv.fixed 147 (by decide), hv.fixed 148 (by decide), hv.fixed 149 (by decide), hv.fixed 150 (by decide), hv.fixed 151 (by decide), hv.fixed 152 (by decide), hv.fixed 153 (by decide), hv.fixed 154 (by decide), hv.fixed 155 (by decide), hv.fixed 156 (by decide), hv.fixed 157 (by decide), hv.fixed 158 (by decide), hv.fixed 159 (by decide), hv.fixed 160 (by decide), hv.fixed 161 (by decide), hv.fixed 162 (by decide), hv.fixed 163 (by decide), hv.fixed 164 (by decide), hv.fixed 165 (by decide), hv.fixed 166 (by decide), hv.fixed 167 (by decide), hv.fixed 168 (by decide), hv.fixed 169 (by decide), hv.fixed 170 (by decide)] at ha
    rw [ha]
    exact hK _ _ _ _ _ _ _ _ _ _ _ _ _ _ _ wc (HO.out.2 (hall 15 (by decide)))
noncomputable def rd_xor_code : Code := ((Tryd.f89.body.bind (regionOf 32)).getD .skip)
def rd_xor_dsts : List (Option Nat) := [some 141, some 142, some 143, some 144, some 145, some 146, some 147, some 148, some 149, some 150, some 151, some 152, some 153, some 154, some 155, some 156, some 157, some 158, none]
theorem rd_xor_apart : apartD rd_xor_dsts = true := by decide +kernel
set_option maxRecDepth 1000000 in
set_option maxHeartbeats 16000000 in
theorem rd_xor (wr : World) (O N n r i j H G : Nat) (b0 x y z : UInt8) (HZ : Hid (y ^^^ Gf.mul b0 x = z)) (hr : r < N) (hi : i < N) (hj : j < n) (hO : wr.cell? ⟨O, r, none⟩ = some (.slice (some ⟨H, 0, none⟩) n n)) (hP : wr.cell? ⟨O, i, none⟩ = some (.slice (some ⟨G, 0, none⟩) n n)) (hH : wr.cell? ⟨H, j, none⟩ = some (bv x)) (hG : wr.cell? ⟨G, j, none⟩ = some (bv y)) (hF : wr.frozen? ⟨G, j, none⟩ = false) (HT : Hid (Tab wr)) (c0 c1 c2 c3 c5 c6 c7 c9 c10 c11 c12 c16 c17 c18 c19 c20 c21 c22 c23 c24 c25 c26 c27 c28 c29 c30 c31 c32 c33 c34 c35 c36 c37 c38 c39 c40 c41 c42 c43 c44 c45 c46 c47 c48 c49 c50 c51 c52 c53 c54 c55 c56 c57 c58 c59 c60 c61 c62 c63 c64 c65 c66 c67 c68 c69 c70 c71 c72 c73 c74 c75 c76 c77 c78 c79 c80 c81 c82 c83 c84 c85 c86 c87 c88 c89 c90 c91 c92 c93 c94 c95 c96 c97 c98 c99 c100 c101 c102 c103 c104 c105 c106 c107 c108 c109 c110 c111 c112 c113 c114 c115 c116 c117 c118 c119 c120 c121 c122 c123 c124 c125 c126 c127 c128 c129 c130 c131 c132 c133 c134 c135 c136 c137 c138 c139 c140 c141 c142 c143 c144 c145 c146 c147 c148 c149 c150 c151 c152 c153 c154 c155 c156 c157 c158 c159 c160 c161 c162 c163 c164 c165 c166 c167 c168 c169 c170 : Value) (df : List Deferred) (K : Act → World → Prop)
    (hK : ∀  (u141 u142 u143 u144 u145 u146 u147 u148 u149 u150 u151 u152 u153 u154 u155 u156 u157 u158 : Value) (wx : World), wx = (wr.drew).setCell ⟨G, j, none⟩ (bv z) → K ⟨#[c0, c1, c2, c3, .slice (some ⟨O, 0, none⟩) N N, c5, c6, c7, .int .i64 (r : Nat), c9, c10, c11, c12, .int .i64 (i : Nat), bv b0, .int .i64 (j : Nat), c16, c17, c18, c19, c20, c21, c22, c23, c24, c25, c26, c27, c28, c29, c30, c31, c32, c33, c34, c35, c36, c37, c38, c39, c40, c41, c42, c43, c44, c45, c46, c47, c48, c49, c50, c51, c52, c53, c54, c55, c56, c57, c58, c59, c60, c61, c62, c63, c64, c65, c66, c67, c68, c69, c70, c71, c72, c73, c74, c75, c76, c77, c78, c79, c80, c81, c82, c83, c84, c85, c86, c87, c88, c89, c90, c91, c92, c93, c94, c95, c96, c97, c98, c99, c100, c101, c102, c103, c104, c105, c106, c107, c108, c109, c110, c111, c112, c113, c114, c115, c116, c117, c118, c119, c120, c121, c122, c123, c124, c125, c126, c127, c128, c129, c130, c131, c132, c133, c134, c135, c136, c137, c138, c139, c140, u141, u142, u143, u144, u145, u146, u147, u148, u149, u150, u151, u152, u153, u154, u155, u156, u157, u158, c159, c160, c161, c162, c163, c164, c165, c166, c167, c168, c169, c170], df⟩ wx) :
    Code.wp Tryd.prog rd_xor_code (AtEnd K) ⟨#[c0, c1, c2, c3, .slice (some ⟨O, 0, none⟩) N N, c5, c6, c7, .int .i64 (r : Nat), c9, c10, c11, c12, .int .i64 (i : Nat), bv b0, .int .i64 (j : Nat), c16, c17, c18, c19, c20, c21, c22, c23, c24, c25, c26, c27, c28, c29, c30, c31, c32, c33, c34, c35, c36, c37, c38, c39, c40, c41, c42, c43, c44, c45, c46, c47, c48, c49, c50, c51, c52, c53, c54, c55, c56, c57, c58, c59, c60, c61, c62, c63, c64, c65, c66, c67, c68, c69, c70, c71, c72, c73, c74, c75, c76, c77, c78, c79, c80, c81, c82, c83, c84, c85, c86, c87, c88, c89, c90, c91, c92, c93, c94, c95, c96, c97, c98, c99, c100, c101, c102, c103, c104, c105, c106, c107, c108, c109, c110, c111, c112, c113, c114, c115, c116, c117, c118, c119, c120, c121, c122, c123, c124, c125, c126, c127, c128, c129, c130, c131, c132, c133, c134, c135, c136, c137, c138, c139, c140, c141, c142, c143, c144, c145, c146, c147, c148, c149, c150, c151, c152, c153, c154, c155, c156, c157, c158, c159, c160, c161, c162, c163, c164, c165, c166, c167, c168, c169, c170], df⟩ wr := by
  conv => arg 2; whnf
  refine region_inv (by kernel_rfl) [[], [], [0, 1], [2], [], [3, 4], [5], [], [], [], [8, 9], [10], [], [11, 12], [13], [7, 14], [6, 15], [3, 4, 0, 1, 2, 3, 4, 5, 6, 7, 8, 9, 10, 11, 12, 13, 14, 15, 16], [17, 16, 15, 0, 1, 2, 3, 4, 5, 6, 7, 8, 9, 10, 11, 12, 13, 14, 15, 16]] (by kernel_rfl) [0, 1, 2, 3, 4, 5, 6, 7, 8, 9, 10, 11, 12, 13, 14, 15, 16, 17, 18] (by decide +kernel) (by decide +kernel) (by decide +kernel) (fun L a wc => Inv rd_xor_dsts [.slice (some ⟨O, 0, none⟩) N N, .int .i64 (i : Nat), .pointer (some ⟨O, i, none⟩), .slice (some ⟨G, 0, none⟩) n n, .int .i64 (j : Nat), .pointer (some ⟨G, j, none⟩), bv y, bv b0, .slice (some ⟨O, 0, none⟩) N N, .int .i64 (r : Nat), .pointer (some ⟨O, r, none⟩), .slice (some ⟨H, 0, none⟩) n n, .int .i64 (j : Nat), .pointer (some ⟨H, j, none⟩), bv x, bv (Gf.mul b0 x), bv z, .pointer (some ⟨G, j, none⟩), undef] ⟨#[c0, c1, c2, c3, .slice (some ⟨O, 0, none⟩) N N, c5, c6, c7, .int .i64 (r : Nat), c9, c10, c11, c12, .int .i64 (i : Nat), bv b0, .int .i64 (j : Nat), c16, c17, c18, c19, c20, c21, c22, c23, c24, c25, c26, c27, c28, c29, c30, c31, c32, c33, c34, c35, c36, c37, c38, c39, c40, c41, c42, c43, c44, c45, c46, c47, c48, c49, c50, c51, c52, c53, c54, c55, c56, c57, c58, c59, c60, c61, c62, c63, c64, c65, c66, c67, c68, c69, c70, c71, c72, c73, c74, c75, c76, c77, c78, c79, c80, c81, c82, c83, c84, c85, c86, c87, c88, c89, c90, c91, c92, c93, c94, c95, c96, c97, c98, c99, c100, c101, c102, c103, c104, c105, c106, c107, c108, c109, c110, c111, c112, c113, c114, c115, c116, c117, c118, c119, c120, c121, c122, c123, c124, c125, c126, c127, c128, c129, c130, c131, c132, c133, c134, c135, c136, c137, c138, c139, c140, c141, c142, c143, c144, c145, c146, c147, c148, c149, c150, c151, c152, c153, c154, c155, c156, c157, c158, c159, c160, c161, c162, c163, c164, c165, c166, c167, c168, c169, c170], df⟩ L a ∧ Hid ((L 18 = false → wc = wr.drew) ∧ (L 18 = true → wc = (wr.drew).setCell ⟨G, j, none⟩ (bv z)))) ⟨Inv.start, Lib.hid ⟨fun _ => rfl, fun h => by cases h⟩⟩ ?_ ?_
  · refine ⟨?_, ?_, ?_, ?_, ?_, ?_, ?_, ?_, ?_, ?_, ?_, ?_, ?_, ?_, ?_, ?_, ?_, ?_, ?_, trivial⟩
    ·
      rintro L a wc ⟨hv, HO⟩ hL hc hd
      exact wpOp_val rfl rfl (ex_move rfl ((hv.fixed 4 (by decide)).trans rfl)) ⟨hv.put rd_xor_apart 0 rfl (lb rfl) (lb rfl) rfl, HO⟩
    ·
      rintro L a wc ⟨hv, HO⟩ hL hc hd
      exact wpOp_val rfl rfl (ex_move rfl ((hv.fixed 13 (by decide)).trans rfl)) ⟨hv.put rd_xor_apart 1 rfl (lb rfl) (lb rfl) rfl, HO⟩
    ·
      rintro L a wc ⟨hv, HO⟩ hL hc hd
      have u1 : (0 : Int) ≤ (i : Int) := by omega
      have u2 : (i : Int) < (N : Int) := by omega
      exact wpOp_val rfl rfl (ex_index rfl (hv.get 0 rfl rfl (hd 0 (by decide))) (hv.get 1 rfl rfl (hd 1 (by decide))) (by go_simp)) ⟨hv.put rd_xor_apart 2 rfl (lb rfl) (lb rfl) rfl, HO⟩
    ·
      rintro L a wc ⟨hv, HO⟩ hL hc hd
      have hw0 : wc = wr.drew := HO.out.1 (Bool.eq_false_iff.2 fun h => Bool.false_ne_true (hL.symm.trans (hc 18 h 3 (by decide))))
      have h0 : wc.cell? ⟨O, i, none⟩ = some (.slice (some ⟨G, 0, none⟩) n n) := (by rw [hw0]; exact hP)
      exact wpOp_val rfl rfl (ex_load rfl (hv.get 2 rfl rfl (hd 2 (by decide))) (by go_simp)) ⟨hv.put rd_xor_apart 3 rfl (lb rfl) (lb rfl) rfl, HO⟩
    ·
      rintro L a wc ⟨hv, HO⟩ hL hc hd
      exact wpOp_val rfl rfl (ex_move rfl ((hv.fixed 15 (by decide)).trans rfl)) ⟨hv.put rd_xor_apart 4 rfl (lb rfl) (lb rfl) rfl, HO⟩
    ·
      rintro L a wc ⟨hv, HO⟩ hL hc hd
      have u1 : (0 : Int) ≤ (j : Int) := by omega
      have u2 : (j : Int) < (n : Int) := by omega
      exact wpOp_val rfl rfl (ex_index rfl (hv.get 3 rfl rfl (hd 3 (by decide))) (hv.get 4 rfl rfl (hd 4 (by decide))) (by go_simp)) ⟨hv.put rd_xor_apart 5 rfl (lb rfl) (lb rfl) rfl, HO⟩
    ·
      rintro L a wc ⟨hv, HO⟩ hL hc hd
      have hw0 : wc = wr.drew := HO.out.1 (Bool.eq_false_iff.2 fun h => Bool.false_ne_true (hL.symm.trans (hc 18 h 6 (by decide))))
      have h0 : wc.cell? ⟨G, j, none⟩ = some (bv y) := (by rw [hw0]; exact hG)
      exact wpOp_val rfl rfl (ex_load rfl (hv.get 5 rfl rfl (hd 5 (by decide))) (by go_simp)) ⟨hv.put rd_xor_apart 6 rfl (lb rfl) (lb rfl) rfl, HO⟩
    ·
      rintro L a wc ⟨hv, HO⟩ hL hc hd
      exact wpOp_val rfl rfl (ex_move rfl ((hv.fixed 14 (by decide)).trans rfl)) ⟨hv.put rd_xor_apart 7 rfl (lb rfl) (lb rfl) rfl, HO⟩
    ·
      rintro L a wc ⟨hv, HO⟩ hL hc hd
      exact wpOp_val rfl rfl (ex_move rfl ((hv.fixed 4 (by decide)).trans rfl)) ⟨hv.put rd_xor_apart 8 rfl (lb rfl) (lb rfl) rfl, HO⟩
    ·
      rintro L a wc ⟨hv, HO⟩ hL hc hd
      exact wpOp_val rfl rfl (ex_move rfl ((hv.fixed 8 (by decide)).trans rfl)) ⟨hv.put rd_xor_apart 9 rfl (lb rfl) (lb rfl) rfl, HO⟩
    ·
      rintro L a wc ⟨hv, HO⟩ hL hc hd
      have u1 : (0 : Int) ≤ (r : Int) := by omega
      have u2 : (r : Int) < (N : Int) := by omega
      exact wpOp_val rfl rfl (ex_index rfl (hv.get 8 rfl rfl (hd 8 (by decide))) (hv.get 9 rfl rfl (hd 9 (by decide))) (by go_simp)) ⟨hv.put rd_xor_apart 10 rfl (lb rfl) (lb rfl) rfl, HO⟩
    ·
      rintro L a wc ⟨hv, HO⟩ hL hc hd
      have hw0 : wc = wr.drew := HO.out.1 (Bool.eq_false_iff.2 fun h => Bool.false_ne_true (hL.symm.trans (hc 18 h 11 (by decide))))
      have h0 : wc.cell? ⟨O, r, none⟩ = some (.slice (some ⟨H, 0, none⟩) n n) := (by rw [hw0]; exact hO)
      exact wpOp_val rfl rfl (ex_load rfl (hv.get 10 rfl rfl (hd 10 (by decide))) (by go_simp)) ⟨hv.put rd_xor_apart 11 rfl (lb rfl) (lb rfl) rfl, HO⟩
    ·
      rintro L a wc ⟨hv, HO⟩ hL hc hd
      exact wpOp_val rfl rfl (ex_move rfl ((hv.fixed 15 (by decide)).trans rfl)) ⟨hv.put rd_xor_apart 12 rfl (lb rfl) (lb rfl) rfl, HO⟩
    ·
      rintro L a wc ⟨hv, HO⟩ hL hc hd
      have u1 : (0 : Int) ≤ (j : Int) := by omega
      have u2 : (j : Int) < (n : Int) := by omega
      exact wpOp_val rfl rfl (ex_index rfl (hv.get 11 rfl rfl (hd 11 (by decide))) (hv.get 12 rfl rfl (hd 12 (by decide))) (by go_simp)) ⟨hv.put rd_xor_apart 13 rfl (lb rfl) (lb rfl) rfl, HO⟩
    ·
      rintro L a wc ⟨hv, HO⟩ hL hc hd
      have hw0 : wc = wr.drew := HO.out.1 (Bool.eq_false_iff.2 fun h => Bool.false_ne_true (hL.symm.trans (hc 18 h 14 (by decide))))
      have h0 : wc.cell? ⟨H, j, none⟩ = some (bv x) := (by rw [hw0]; exact hH)
      exact wpOp_val rfl rfl (ex_load rfl (hv.get 13 rfl rfl (hd 13 (by decide))) (by go_simp)) ⟨hv.put rd_xor_apart 14 rfl (lb rfl) (lb rfl) rfl, HO⟩
    ·
      rintro L a wc ⟨hv, HO⟩ hL hc hd
      have hw0 : wc = wr.drew := HO.out.1 (Bool.eq_false_iff.2 fun h => Bool.false_ne_true (hL.symm.trans (hc 18 h 15 (by decide))))
      refine wpOp_call (R := fun v w1 => v = bv (Gf.mul b0 x) ∧ wc = w1) rfl rfl (ex_call rfl rfl (map2c (hv.get 7 rfl rfl (hd 7 (by decide))) (hv.get 14 rfl rfl (hd 14 (by decide)))) (enters_of Tryd.func82 (by kernel_rfl) rfl _ _)) (by rw [hw0]; exact (mul_u8 b0 x wr.drew HT.out).mono (fun e w' h => ⟨_, h.1, rfl, h.2⟩)) ?_
      rintro v w' ⟨rfl, rfl⟩
      exact ⟨hv.put rd_xor_apart 15 rfl (lb rfl) (lb rfl) rfl, HO⟩
    ·
      rintro L a wc ⟨hv, HO⟩ hL hc hd
      have hxr : bits .xor .u8 ((y.toNat : Nat) : Int) (((Gf.mul b0 x).toNat : Nat) : Int) = ((z.toNat : Nat) : Int) := by rw [← HZ.out]; exact xor_u8 y (Gf.mul b0 x)
      exact wpOp_val rfl rfl (ex_bin rfl (hv.get 6 rfl rfl (hd 6 (by decide))) (hv.get 15 rfl rfl (hd 15 (by decide))) (by go_simp)) ⟨hv.put rd_xor_apart 16 rfl (lb rfl) (lb rfl) rfl, HO⟩
    ·
      rintro L a wc ⟨hv, HO⟩ hL hc hd
      have u1 : (0 : Int) ≤ (j : Int) := by omega
      have u2 : (j : Int) < (n : Int) := by omega
      exact wpOp_val rfl rfl (ex_index rfl (hv.get 3 rfl rfl (hd 3 (by decide))) (hv.get 4 rfl rfl (hd 4 (by decide))) (by go_simp)) ⟨hv.put rd_xor_apart 17 rfl (lb rfl) (lb rfl) rfl, HO⟩
    ·
      rintro L a wc ⟨hv, HO⟩ hL hc hd
      have hw0 : wc = wr.drew := HO.out.1 hL
      have f0 : wc.frozen? ⟨G, j, none⟩ = false := by rw [hw0]; exact hF
      have c1 : wc.cell? ⟨G, j, none⟩ = some (bv y) := by rw [hw0]; exact hG
      exact wpOp_skip rfl rfl rfl (ex_store (w' := wc.setCell ⟨G, j, none⟩ (bv z)) rfl (hv.get 17 rfl rfl (hd 17 (by decide))) (hv.get 16 rfl rfl (hd 16 (by decide))) (by clear hw0; go_simp)) ⟨hv.skip 18 rfl, Lib.hid ⟨fun h => absurd h (by simp [upd]), fun _ => by rw [hw0]⟩⟩
  · rintro L a wc ⟨hv, HO⟩ hall
    show K a wc
    have ha := act_lit a
    rw [hv.size, hv.defers] at ha
    have hl : ∀ f : Nat → Value, ((List.range (⟨#[c0, c1, c2, c3, .slice (some ⟨O, 0, none⟩) N N, c5, c6, c7, .int .i64 (r : Nat), c9, c10, c11, c12, .int .i64 (i : Nat), bv b0, .int .i64 (j : Nat), c16, c17, c18, c19, c20, c21, c22, c23, c24, c25, c26, c27, c28, c29, c30, c31, c32, c33, c34, c35, c36, c37, c38, c39, c40, c41, c42, c43, c44, c45, c46, c47, c48, c49, c50, c51, c52, c53, c54, c55, c56, c57, c58, c59, c60, c61, c62, c63, c64, c65, c66, c67, c68, c69, c70, c71, c72, c73, c74, c75, c76, c77, c78, c79, c80, c81, c82, c83, c84, c85, c86, c87, c88, c89, c90, c91, c92, c93, c94, c95, c96, c97, c98, c99, c100, c101, c102, c103, c104, c105, c106, c107, c108, c109, c110, c111, c112, c113, c114, c115, c116, c117, c118, c119, c120, c121, c122, c123, c124, c125, c126, c127, c128, c129, c130, c131, c132, c133, c134, c135, c136, c137, c138, c139, c140, c141, c142, c143, c144, c145, c146, c147, c148, c149, c150, c151, c152, c153, c154, c155, c156, c157, c158, c159, c160, c161, c162, c163, c164, c165, c166, c167, c168, c169, c170], df⟩ : Act).tmps.size).map f).toArray = #[f 0, f 1, f 2, f 3, f 4, f 5, f 6, f 7, f 8, f 9, f 10, f 11, f 12, f 13, f 14, f 15, f 16, f 17, f 18, f 19, f 20, f 21, f 22, f 23, f 24, f 25, f 26, f 27, f 28, f 29, f 30, f 31, f 32, f 33, f 34, f 35, f 36, f 37, f 38, f 39, f 40, f 41, f 42, f 43, f 44, f 45, f 46, f 47, f 48, f 49, f 50, f 51, f 52, f 53, f 54, f 55, f 56, f 57, f 58, f 59, f 60, f 61, f 62, f 63, f 64, f 65, f 66, f 67, f 68, f 69, f 70, f 71, f 72, f 73, f 74, f 75, f 76, f 77, f 78, f 79, f 80, f 81, f 82, f 83, f 84, f 85, f 86, f 87, f 88, f 89, f 90, f 91, f 92, f 93, f 94, f 95, f 96, f 97, f 98, f 99, f 100, f 101, f 102, f 103, f 104, f 105, f 106, f 107, f 108, f 109, f 110, f 111, f 112, f 113, f 114, f 115, f 116, f 117, f 118, f 119, f 120, f 121, f 122, f 123, f 124, f 125, f 126, f 127, f 128, f 129, f 130, f 131, f 132, f 133, f 134, f 135, f 136, f 137, f 138, f 139, f 140, f 141, f 142, f 143, f 144, f 145, f 146, f 147, f 148, f 149, f 150, f 151, f 152, f 153, f 154, f 155, f 156, f 157, f 158, f 159, f 160, f 161, f 162, f 163, f 164, f 165, f 166, f 167, f 168, f 169, f 170] := fun _ => rfl
    rw [hl] at ha
    simp only [hv.fixed 0 (by decide), hv.fixed 1 (by decide), hv.fixed 2 (by decide), hv.fixed 3 (by decide), hv.fixed 4 (by decide), hv.fixed 5 (by decide), hv.fixed 6 (by decide), hv.fixed 7 (by decide), hv.fixed 8 (by decide), hv.fixed 9 (by decide), hv.fixed 10 (by decide), hv.fixed 11 (by decide), hv.fixed 12 (by decide), hv.fixed 13 (by decide), hv.fixed 14 (by decide), hv.fixed 15 (by decide), hv.fixed 16 (by decide), hv.fixed 17 (by decide), hv.fixed 18 (by decide), hv.fixed 19 (by decide), hv.fixed 20 (by decide), hv.fixed 21 (by decide), hv.fixed 22 (by decide), hv.fixed 23 (by decide), hv.fixed 24 (by decide), hv.fixed 25 (by decide), hv.fixed 26 (by decide), hv.fixed 27 (by decide), hv.fixed 28 (by decide), hv.fixed 29 (by decide), hv.fixed 30 (by decide), hv.fixed 31 (by decide), hv.fixed 32 (by decide), hv.fixed 33 (by decide), hv.fixed 34 (by decide), hv.fixed 35 (by decide), hv.fixed 36 (by decide), hv.fixed 37 (by decide), hv.fixed 38 (by decide), hv.fixed 39 (by decide), hv.fixed 40 (by decide), hv.fixed 41 (by decide), hv.fixed 42 (by decide), hv.fixed 43 (by decide), hv.fixed 44 (by decide), hv.fixed 45 (by decide), hv.fixed 46 (by decide), hv.fixed 47 (by decide), hv.fixed 48 (by decide), hv.fixed 49 (by decide), hv.fixed 50 (by decide), hv.fixed 51 (by decide), hv.fixed 52 (by decide), hv.fixed 53 (by decide), hv.fixed 54 (by decide), hv.fixed 55 (by decide), hv.fixed 56 (by decide), hv.fixed 57 (by decide), hv.fixed 58 (by decide), hv.fixed 59 (by decide), hv.fixed 60 (by decide), hv.fixed 61 (by decide), hv.fixed 62 (by decide), hv.fixed 63 (by decide), hv.fixed 64 (by decide), hv.fixed 65 (by decide), hv.fixed 66 (by decide), hv.fixed 67 (by decide), hv.fixed 68 (by decide), hv.fixed 69 (by decide), hv.fixed 70 (by decide), hv.fixed 71 (by decide), hv.fixed 72 (by decide), hv.fixed 73 (by decide), hv.fixed 74 (by decide), hv.fixed 75 (by decide), hv.fixed 76 (by decide), hv.fixed 77 (by decide), hv.fixed 78 (by decide), hv.fixed 79 (by decide), hv.fixed 80 (by decide), hv.fixed 81 (by decide), hv.fixed 82 (by decide), hv.fixed 83 (by decide), hv.fixed 84 (by decide), hv.fixed 85 (by decide), hv.fixed 86 (by decide), hv.fixed 87 (by decide), hv.fixed 88 (by decide), hv.fixed 89 (by decide), hv.fixed 90 (by decide), hv.fixed 91 (by decide), hv.fixed 92 (by decide), hv.fixed 93 (by decide), hv.fixed 94 (by decide), hv.fixed 95 (by decide), hv.fixed 96 (by decide), hv.fixed 97 (by decide), hv.fixed 98 (by decide), hv.fixed 99 (by decide), hv.fixed 100 (by decide), hv.fixed 101 (by decide), hv.fixed 102 (by decide), hv.fixed 103 (by decide), hv.fixed 104 (by decide), hv.fixed 105 (by decide), hv.fixed 106 (by decide), hv.fixed 107 (by decide), hv.fixed 108 (by decide), hv.fixed 109 (by decide), hv.fixed 110 (by decide), hv.fixed 111 (by decide), hv.fixed 112 (by decide), hv.fixed 113 (by decide), hv.fixed 114 (by decide), hv.fixed 115 (by decide), hv.fixed 116 (by decide), hv.fixed 117 (by decide), hv.fixed 118 (by decide), hv.fixed 119 (by decide), hv.fixed 120 (by decide), hv.fixed 121 (by decide), hv.fixed 122 (by decide), hv.fixed 123 (by decide), hv.fixed 124 (by decide), hv.fixed 125 (by decide), hv.fixed 126 (by decide), hv.fixed 127 (by decide), hv.fixed 128 (by decide), hv.fixed 129 (by decide), hv.fixed 130 (by decide), hv.fixed 131 (by decide), hv.fixed 132 (by decide), hv.fixed 133 (by decide), hv.fixed 134 (by decide), hv.fixed 135 (by decide), hv.fixed 136 (by decide), hv.fixed 137 (by decide), hv.fixed 138 (by decide), hv.fixed 139 (by decide), hv.fixed 140 (by decide), hv.fixed 159 (by decide), hv.fixed 160 (by decide), hv.fixed 161 (by decide), hv.fixed 162 (by decide), hv.fixed 163 (by decide), hv.fixed 164 (by decide), hv.fixed 165 (by decide), hv.fixed 166 (by decide), hv.fixed 167 (by decide), hv.fixed 168 (by decide), hv.fixed 169 (by decide), hv.fixed 170 (by decide)] at ha
    rw [ha]
    exact hK _ _ _ _ _ _ _ _ _ _ _ _ _ _ _ _ _ _ wc (HO.out.2 (hall 18 (by decide)))
noncomputable def rd_swap_code : Code := ((Tryd.f89.body.bind (regionOf 17)).getD .skip)
def rd_swap_dsts : List (Option Nat) := [some 65, some 66, some 67, some 68, some 69, some 70, some 71, some 72, some 73, some 74, some 75, some 76, some 77, none, some 78, none]
theorem rd_swap_apart : apartD rd_swap_dsts = true := by decide +kernel
set_option maxRecDepth 1000000 in
set_option maxHeartbeats 16000000 in
theorem rd_swap (wr : World) (O N r k H G n1 n2 : Nat) (hr : r < N) (hk : k < N) (hO : wr.cell? ⟨O, r, none⟩ = some (.slice (some ⟨H, 0, none⟩) n1 n1)) (hP : wr.cell? ⟨O, k, none⟩ = some (.slice (some ⟨G, 0, none⟩) n2 n2)) (hF : wr.frozen? ⟨O, r, none⟩ = false) (hP2 : ((wr.drew).setCell ⟨O, r, none⟩ (.slice (some ⟨G, 0, none⟩) n2 n2)).cell? ⟨O, k, none⟩ = some (.slice (some ⟨G, 0, none⟩) n2 n2)) (hF2 : ((wr.drew).setCell ⟨O, r, none⟩ (.slice (some ⟨G, 0, none⟩) n2 n2)).frozen? ⟨O, k, none⟩ = false) (c0 c1 c2 c3 c5 c6 c7 c10 c11 c12 c13 c14 c15 c16 c17 c18 c19 c20 c21 c22 c23 c24 c25 c26 c27 c28 c29 c30 c31 c32 c33 c34 c35 c36 c37 c38 c39 c40 c41 c42 c43 c44 c45 c46 c47 c48 c49 c50 c51 c52 c53 c54 c55 c56 c57 c58 c59 c60 c61 c62 c63 c64 c65 c66 c67 c68 c69 c70 c71 c72 c73 c74 c75 c76 c77 c78 c79 c80 c81 c82 c83 c84 c85 c86 c87 c88 c89 c90 c91 c92 c93 c94 c95 c96 c97 c98 c99 c100 c101 c102 c103 c104 c105 c106 c107 c108 c109 c110 c111 c112 c113 c114 c115 c116 c117 c118 c119 c120 c121 c122 c123 c124 c125 c126 c127 c128 c129 c130 c131 c132 c133 c134 c135 c136 c137 c138 c139 c140 c141 c142 c143 c144 c145 c146 c147 c148 c149 c150 c151 c152 c153 c154 c155 c156 c157 c158 c159 c160 c161 c162 c163 c164 c165 c166 c167 c168 c169 c170 : Value) (df : List Deferred) (K : Act → World → Prop)
    (hK : ∀  (u65 u66 u67 u68 u69 u70 u71 u72 u73 u74 u75 u76 u77 u78 : Value) (wx : World), wx = ((wr.drew).setCell ⟨O, r, none⟩ (.slice (some ⟨G, 0, none⟩) n2 n2)).setCell ⟨O, k, none⟩ (.slice (some ⟨H, 0, none⟩) n1 n1) → K ⟨#[c0, c1, c2, c3, .slice (some ⟨O, 0, none⟩) N N, c5, c6, c7, .int .i64 (r : Nat), .int .i64 (k : Nat), c10, c11, c12, c13, c14, c15, c16, c17, c18, c19, c20, c21, c22, c23, c24, c25, c26, c27, c28, c29, c30, c31, c32, c33, c34, c35, c36, c37, c38, c39, c40, c41, c42, c43, c44, c45, c46, c47, c48, c49, c50, c51, c52, c53, c54, c55, c56, c57, c58, c59, c60, c61, c62, c63, c64, u65, u66, u67, u68, u69, u70, u71, u72, u73, u74, u75, u76, u77, u78, c79, c80, c81, c82, c83, c84, c85, c86, c87, c88, c89, c90, c91, c92, c93, c94, c95, c96, c97, c98, c99, c100, c101, c102, c103, c104, c105, c106, c107, c108, c109, c110, c111, c112, c113, c114, c115, c116, c117, c118, c119, c120, c121, c122, c123, c124, c125, c126, c127, c128, c129, c130, c131, c132, c133, c134, c135, c136, c137, c138, c139, c140, c141, c142, c143, c144, c145, c146, c147, c148, c149, c150, c151, c152, c153, c154, c155, c156, c157, c158, c159, c160, c161, c162, c163, c164, c165, c166, c167, c168, c169, c170], df⟩ wx) :
    Code.wp Tryd.prog rd_swap_code (AtEnd K) ⟨#[c0, c1, c2, c3, .slice (some ⟨O, 0, none⟩) N N, c5, c6, c7, .int .i64 (r : Nat), .int .i64 (k : Nat), c10, c11, c12, c13, c14, c15, c16, c17, c18, c19, c20, c21, c22, c23, c24, c25, c26, c27, c28, c29, c30, c31, c32, c33, c34, c35, c36, c37, c38, c39, c40, c41, c42, c43, c44, c45, c46, c47, c48, c49, c50, c51, c52, c53, c54, c55, c56, c57, c58, c59, c60, c61, c62, c63, c64, c65, c66, c67, c68, c69, c70, c71, c72, c73, c74, c75, c76, c77, c78, c79, c80, c81, c82, c83, c84, c85, c86, c87, c88, c89, c90, c91, c92, c93, c94, c95, c96, c97, c98, c99, c100, c101, c102, c103, c104, c105, c106, c107, c108, c109, c110, c111, c112, c113, c114, c115, c116, c117, c118, c119, c120, c121, c122, c123, c124, c125, c126, c127, c128, c129, c130, c131, c132, c133, c134, c135, c136, c137, c138, c139, c140, c141, c142, c143, c144, c145, c146, c147, c148, c149, c150, c151, c152, c153, c154, c155, c156, c157, c158, c159, c160, c161, c162, c163, c164, c165, c166, c167, c168, c169, c170], df⟩ wr := by
  conv => arg 2; whnf
  refine region_inv (by kernel_rfl) [[], [], [], [], [], [], [4, 5], [6], [], [], [8, 9], [10], [0, 1, 0, 1, 4, 5, 6, 7, 11], [12, 7, 0, 1, 4, 5, 6, 7, 11], [2, 3, 0, 1, 2, 3, 4, 5, 6, 7, 8, 9, 10, 11, 12, 13], [14, 11, 13, 0, 1, 2, 3, 4, 5, 6, 7, 8, 9, 10, 11, 12, 13]] (by kernel_rfl) [0, 1, 2, 3, 4, 5, 6, 7, 8, 9, 10, 11, 12, 13, 14, 15] (by decide +kernel) (by decide +kernel) (by decide +kernel) (fun L a wc => Inv rd_swap_dsts [.slice (some ⟨O, 0, none⟩) N N, .int .i64 (r : Nat), .slice (some ⟨O, 0, none⟩) N N, .int .i64 (k : Nat), .slice (some ⟨O, 0, none⟩) N N, .int .i64 (k : Nat), .pointer (some ⟨O, k, none⟩), .slice (some ⟨G, 0, none⟩) n2 n2, .slice (some ⟨O, 0, none⟩) N N, .int .i64 (r : Nat), .pointer (some ⟨O, r, none⟩), .slice (some ⟨H, 0, none⟩) n1 n1, .pointer (some ⟨O, r, none⟩), undef, .pointer (some ⟨O, k, none⟩), undef] ⟨#[c0, c1, c2, c3, .slice (some ⟨O, 0, none⟩) N N, c5, c6, c7, .int .i64 (r : Nat), .int .i64 (k : Nat), c10, c11, c12, c13, c14, c15, c16, c17, c18, c19, c20, c21, c22, c23, c24, c25, c26, c27, c28, c29, c30, c31, c32, c33, c34, c35, c36, c37, c38, c39, c40, c41, c42, c43, c44, c45, c46, c47, c48, c49, c50, c51, c52, c53, c54, c55, c56, c57, c58, c59, c60, c61, c62, c63, c64, c65, c66, c67, c68, c69, c70, c71, c72, c73, c74, c75, c76, c77, c78, c79, c80, c81, c82, c83, c84, c85, c86, c87, c88, c89, c90, c91, c92, c93, c94, c95, c96, c97, c98, c99, c100, c101, c102, c103, c104, c105, c106, c107, c108, c109, c110, c111, c112, c113, c114, c115, c116, c117, c118, c119, c120, c121, c122, c123, c124, c125, c126, c127, c128, c129, c130, c131, c132, c133, c134, c135, c136, c137, c138, c139, c140, c141, c142, c143, c144, c145, c146, c147, c148, c149, c150, c151, c152, c153, c154, c155, c156, c157, c158, c159, c160, c161, c162, c163, c164, c165, c166, c167, c168, c169, c170], df⟩ L a ∧ Hid ((L 13 = false → wc = wr.drew) ∧ (L 13 = true → L 15 = false → wc = (wr.drew).setCell ⟨O, r, none⟩ (.slice (some ⟨G, 0, none⟩) n2 n2)) ∧ (L 15 = true → wc = ((wr.drew).setCell ⟨O, r, none⟩ (.slice (some ⟨G, 0, none⟩) n2 n2)).setCell ⟨O, k, none⟩ (.slice (some ⟨H, 0, none⟩) n1 n1)))) ⟨Inv.start, Lib.hid ⟨fun _ => rfl, fun h => (by cases h), fun h => by cases h⟩⟩ ?_ ?_
  · refine ⟨?_, ?_, ?_, ?_, ?_, ?_, ?_, ?_, ?_, ?_, ?_, ?_, ?_, ?_, ?_, ?_, trivial⟩
    ·
      rintro L a wc ⟨hv, HO⟩ hL hc hd
      exact wpOp_val rfl rfl (ex_move rfl ((hv.fixed 4 (by decide)).trans rfl)) ⟨hv.put rd_swap_apart 0 rfl (lb rfl) (lb rfl) rfl, HO⟩
    ·
      rintro L a wc ⟨hv, HO⟩ hL hc hd
      exact wpOp_val rfl rfl (ex_move rfl ((hv.fixed 8 (by decide)).trans rfl)) ⟨hv.put rd_swap_apart 1 rfl (lb rfl) (lb rfl) rfl, HO⟩
    ·
      rintro L a wc ⟨hv, HO⟩ hL hc hd
      exact wpOp_val rfl rfl (ex_move rfl ((hv.fixed 4 (by decide)).trans rfl)) ⟨hv.put rd_swap_apart 2 rfl (lb rfl) (lb rfl) rfl, HO⟩
    ·
      rintro L a wc ⟨hv, HO⟩ hL hc hd
      exact wpOp_val rfl rfl (ex_move rfl ((hv.fixed 9 (by decide)).trans rfl)) ⟨hv.put rd_swap_apart 3 rfl (lb rfl) (lb rfl) rfl, HO⟩
    ·
      rintro L a wc ⟨hv, HO⟩ hL hc hd
      exact wpOp_val rfl rfl (ex_move rfl ((hv.fixed 4 (by decide)).trans rfl)) ⟨hv.put rd_swap_apart 4 rfl (lb rfl) (lb rfl) rfl, HO⟩
    ·
      rintro L a wc ⟨hv, HO⟩ hL hc hd
      exact wpOp_val rfl rfl (ex_move rfl ((hv.fixed 9 (by decide)).trans rfl)) ⟨hv.put rd_swap_apart 5 rfl (lb rfl) (lb rfl) rfl, HO⟩
    ·
      rintro L a wc ⟨hv, HO⟩ hL hc hd
      have u1 : (0 : Int) ≤ (k : Int) := by omega
      have u2 : (k : Int) < (N : Int) := by omega
      exact wpOp_val rfl rfl (ex_index rfl (hv.get 4 rfl rfl (hd 4 (by decide))) (hv.get 5 rfl rfl (hd 5 (by decide))) (by go_simp)) ⟨hv.put rd_swap_apart 6 rfl (lb rfl) (lb rfl) rfl, HO⟩
    ·
      rintro L a wc ⟨hv, HO⟩ hL hc hd
      have hw0 : wc = wr.drew := HO.out.1 (Bool.eq_false_iff.2 fun h => Bool.false_ne_true (hL.symm.trans (hc 13 h 7 (by decide))))
      have h0 : wc.cell? ⟨O, k, none⟩ = some (.slice (some ⟨G, 0, none⟩) n2 n2) := (by rw [hw0]; exact hP)
      exact wpOp_val rfl rfl (ex_load rfl (hv.get 6 rfl rfl (hd 6 (by decide))) (by go_simp)) ⟨hv.put rd_swap_apart 7 rfl (lb rfl) (lb rfl) rfl, HO⟩
    ·
      rintro L a wc ⟨hv, HO⟩ hL hc hd
      exact wpOp_val rfl rfl (ex_move rfl ((hv.fixed 4 (by decide)).trans rfl)) ⟨hv.put rd_swap_apart 8 rfl (lb rfl) (lb rfl) rfl, HO⟩
    ·
      rintro L a wc ⟨hv, HO⟩ hL hc hd
      exact wpOp_val rfl rfl (ex_move rfl ((hv.fixed 8 (by decide)).trans rfl)) ⟨hv.put rd_swap_apart 9 rfl (lb rfl) (lb rfl) rfl, HO⟩
    ·
      rintro L a wc ⟨hv, HO⟩ hL hc hd
      have u1 : (0 : Int) ≤ (r : Int) := by omega
      have u2 : (r : Int) < (N : Int) := by omega
      exact wpOp_val rfl rfl (ex_index rfl (hv.get 8 rfl rfl (hd 8 (by decide))) (hv.get 9 rfl rfl (hd 9 (by decide))) (by go_simp)) ⟨hv.put rd_swap_apart 10 rfl (lb rfl) (lb rfl) rfl, HO⟩
    ·
      rintro L a wc ⟨hv, HO⟩ hL hc hd
      have hw0 : wc = wr.drew := HO.out.1 (Bool.eq_false_iff.2 fun h => Bool.false_ne_true (hL.symm.trans (hc 13 h 11 (by decide))))
      have h0 : wc.cell? ⟨O, r, none⟩ = some (.slice (some ⟨H, 0, none⟩) n1 n1) := (by rw [hw0]; exact hO)
      exact wpOp_val rfl rfl (ex_load rfl (hv.get 10 rfl rfl (hd 10 (by decide))) (by go_simp)) ⟨hv.put rd_swap_apart 11 rfl (lb rfl) (lb rfl) rfl, HO⟩
    ·
      rintro L a wc ⟨hv, HO⟩ hL hc hd
      have u1 : (0 : Int) ≤ (r : Int) := by omega
      have u2 : (r : Int) < (N : Int) := by omega
      exact wpOp_val rfl rfl (ex_index rfl (hv.get 0 rfl rfl (hd 0 (by decide))) (hv.get 1 rfl rfl (hd 1 (by decide))) (by go_simp)) ⟨hv.put rd_swap_apart 12 rfl (lb rfl) (lb rfl) rfl, HO⟩
    ·
      rintro L a wc ⟨hv, HO⟩ hL hc hd
      have hw0 : wc = wr.drew := HO.out.1 hL
      have f0 : wc.frozen? ⟨O, r, none⟩ = false := by rw [hw0]; exact hF
      have c1 : wc.cell? ⟨O, r, none⟩ = some (.slice (some ⟨H, 0, none⟩) n1 n1) := by rw [hw0]; exact hO
      exact wpOp_skip rfl rfl rfl (ex_store (w' := wc.setCell ⟨O, r, none⟩ (.slice (some ⟨G, 0, none⟩) n2 n2)) rfl (hv.get 12 rfl rfl (hd 12 (by decide))) (hv.get 7 rfl rfl (hd 7 (by decide))) (by clear hw0; go_simp)) ⟨hv.skip 13 rfl, Lib.hid ⟨fun h => absurd h (by simp [upd]), fun _ _ => by rw [hw0], fun h => absurd (hc 15 h 13 (by decide)) (by rw [hL]; decide)⟩⟩
    ·
      rintro L a wc ⟨hv, HO⟩ hL hc hd
      have u1 : (0 : Int) ≤ (k : Int) := by omega
      have u2 : (k : Int) < (N : Int) := by omega
      exact wpOp_val rfl rfl (ex_index rfl (hv.get 2 rfl rfl (hd 2 (by decide))) (hv.get 3 rfl rfl (hd 3 (by decide))) (by go_simp)) ⟨hv.put rd_swap_apart 14 rfl (lb rfl) (lb rfl) rfl, HO⟩
    ·
      rintro L a wc ⟨hv, HO⟩ hL hc hd
      have hw0 : wc = (wr.drew).setCell ⟨O, r, none⟩ (.slice (some ⟨G, 0, none⟩) n2 n2) := HO.out.2.1 (hd 13 (by decide)) hL
      have f0 : wc.frozen? ⟨O, k, none⟩ = false := by rw [hw0]; exact hF2
      have c1 : wc.cell? ⟨O, k, none⟩ = some (.slice (some ⟨G, 0, none⟩) n2 n2) := by rw [hw0]; exact hP2
      exact wpOp_skip rfl rfl rfl (ex_store (w' := wc.setCell ⟨O, k, none⟩ (.slice (some ⟨H, 0, none⟩) n1 n1)) rfl (hv.get 14 rfl rfl (hd 14 (by decide))) (hv.get 11 rfl rfl (hd 11 (by decide))) (by clear hw0; go_simp)) ⟨hv.skip 15 rfl, Lib.hid ⟨fun h => absurd (h.symm.trans (show upd L 15 13 = true from hd 13 (by decide))) (by decide), fun _ h => absurd h (by simp [upd]), fun _ => by rw [hw0]⟩⟩
  · rintro L a wc ⟨hv, HO⟩ hall
    show K a wc
    have ha := act_lit a
    rw [hv.size, hv.defers] at ha
    have hl : ∀ f : Nat → Value, ((List.range (⟨#[c0, c1, c2, c3, .slice (some ⟨O, 0, none⟩) N N, c5, c6, c7, .int .i64 (r : Nat), .int .i64 (k : Nat), c10, c11, c12, c13, c14, c15, c16, c17, c18, c19, c20, c21, c22, c23, c24, c25, c26, c27, c28, c29, c30, c31, c32, c33, c34, c35, c36, c37, c38, c39, c40, c41, c42, c43, c44, c45, c46, c47, c48, c49, c50, c51, c52, c53, c54, c55, c56, c57, c58, c59, c60, c61, c62, c63, c64, c65, c66, c67, c68, c69, c70, c71, c72, c73, c74, c75, c76, c77, c78, c79, c80, c81, c82, c83, c84, c85, c86, c87, c88, c89, c90, c91, c92, c93, c94, c95, c96, c97, c98, c99, c100, c101, c102, c103, c104, c105, c106, c107, c108, c109, c110, c111, c112, c113, c114, c115, c116, c117, c118, c119, c120, c121, c122, c123, c124, c125, c126, c127, c128, c129, c130, c131, c132, c133, c134, c135, c136, c137, c138, c139, c140, c141, c142, c143, c144, c145, c146, c147, c148, c149, c150, c151, c152, c153, c154, c155, c156, c157, c158, c159, c160, c161, c162, c163, c164, c165, c166, c167, c168, c169, c170], df⟩ : Act).tmps.size).map f).toArray = #[f 0, f 1, f 2, f 3, f 4, f 5, f 6, f 7, f 8, f 9, f 10, f 11, f 12, f 13, f 14, f 15, f 16, f 17, f 18, f 19, f 20, f 21, f 22, f 23, f 24, f 25, f 26, f 27, f 28, f 29, f 30, f 31, f 32, f 33, f 34, f 35, f 36, f 37, f 38, f 39, f 40, f 41, f 42, f 43, f 44, f 45, f 46, f 47, f 48, f 49, f 50, f 51, f 52, f 53, f 54, f 55, f 56, f 57, f 58, f 59, f 60, f 61, f 62, f 63, f 64, f 65, f 66, f 67, f 68, f 69, f 70, f 71, f 72, f 73, f 74, f 75, f 76, f 77, f 78, f 79, f 80, f 81, f 82, f 83, f 84, f 85, f 86, f 87, f 88, f 89, f 90, f 91, f 92, f 93, f 94, f 95, f 96, f 97, f 98, f 99, f 100, f 101, f 102, f 103, f 104, f 105, f 106, f 107, f 108, f 109, f 110, f 111, f 112, f 113, f 114, f 115, f 116, f 117, f 118, f 119, f 120, f 121, f 122, f 123, f 124, f 125, f 126, f 127, f 128, f 129, f 130, f 131, f 132, f 133, f 134, f 135, f 136, f 137, f 138, f 139, f 140, f 141, f 142, f 143, f 144, f 145, f 146, f 147, f 148, f 149, f 150, f 151, f 152, f 153, f 154, f 155, f 156, f 157, f 158, f 159, f 160, f 161, f 162, f 163, f 164, f 165, f 166, f 167, f 168, f 169, f 170] := fun _ => rfl
    rw [hl] at ha
    simp only [hv.fixed 0 (by decide), hv.fixed 1 (by decide), hv.fixed 2 (by decide), hv.fixed 3 (by decide), hv.fixed 4 (by decide), hv.fixed 5 (by decide), hv.fixed 6 (by decide), hv.fixed 7 (by decide), hv.fixed 8 (by decide), hv.fixed 9 (by decide), hv.fixed 10 (by decide), hv.fixed 11 (by decide), hv.fixed 12 (by decide), hv.fixed 13 (by decide), hv.fixed 14 (by decide), hv.fixed 15 (by decide), hv.fixed 16 (by decide), hv.fixed 17 (by decide), hv.fixed 18 (by decide), hv.fixed 19 (by decide), hv.fixed 20 (by decide), hv.fixed 21 (by decide), hv.fixed 22 (by decide), hv.fixed 23 (by decide), hv.fixed 24 (by decide), hv.fixed 25 (by decide), hv.fixed 26 (by decide), hv.fixed 27 (by decide), hv.fixed 28 (by decide), hv.fixed 29 (by decide), hv.fixed 30 (by decide), hv.fixed 31 (by decide), hv.fixed 32 (by decide), hv.fixed 33 (by decide), hv.fixed 34 (by decide), hv.fixed 35 (by decide), hv.fixed 36 (by decide), hv.fixed 37 (by decide), hv.fixed 38 (by decide), hv.fixed 39 (by decide), hv.fixed 40 (by decide), hv.fixed 41 (by decide), hv.fixed 42 (by decide), hv.fixed 43 (by decide), hv.fixed 44 (by decide), hv.fixed 45 (by decide), hv.fixed 46 (by decide), hv.fixed 47 (by decide), hv.fixed 48 (by decide), hv.fixed 49 (by decide), hv.fixed 50 (by decide), hv.fixed 51 (by decide), hv.fixed 52 (by decide), hv.fixed 53 (by decide), hv.fixed 54 (by decide), hv.fixed 55 (by decide), hv.fixed 56 (by decide), hv.fixed 57 (by decide), hv.fixed 58 (by decide), hv.fixed 59 (by decide), hv.fixed 60 (by decide), hv.fixed 61 (by decide), hv.fixed 62 (by decide), hv.fixed 63 (by decide), hv.fixed 64 (by decide), hv.fixed 79 (by decide), hv.fixed 80 (by decide), hv.fixed 81 (by decide), hv.fixed 82 (by decide), hv.fixed 83 (by decide), hv.fixed 84 (by decide), hv.fixed 85 (by decide), hv.fixed 86 (by decide), hv.fixed 87 (by decide), hv.fixed 88 (by decide), hv.fixed 89 (by decide), hv.fixed 90 (by decide), hv.fixed 91 (by decide), hv.fixed 92 (by decide), hv.fixed 93 (by decide), hv.fixed 94 (by decide), hv.fixed 95 (by decide), hv.fixed 96 (by decide), hv.fixed 97 (by decide), hv.fixed 98 (by decide), hv.fixed 99 (by decide), hv.fixed 100 (by decide), hv.fixed 101 (by decide), hv.fixed 102 (by decide), hv.fixed 103 (by decide), hv.fixed 104 (by decide), hv.fixed 105 (by decide), hv.fixed 106 (by decide), hv.fixed 107 (by decide), hv.fixed 108 (by decide), hv.fixed 109 (by decide), hv.fixed 110 (by decide), hv.fixed 111 (by decide), hv.fixed 112 (by decide), hv.fixed 113 (by decide), hv.fixed 114 (by decide), hv.fixed 115 (by decide), hv.fixed 116 (by decide), hv.fixed 117 (by decide), hv.fixed 118 (by decide), hv.fixed 119 (by decide), hv.fixed 120 (by decide), hv.fixed 121 (by decide), hv.fixed 122 (by decide), hv.fixed 123 (by decide), hv.fixed 124 (by decide), hv.fixed 125 (by decide), hv.fixed 126 (by decide), hv.fixed 127 (by decide), hv.fixed 128 (by decide), hv.fixed 129 (by decide), hv.fixed 130 (by decide), hv.fixed 131 (by decide), hv.fixed 132 (by decide), hv.fixed 133 (by decide), hv.fixed 134 (by decide), hv.fixed 135 (by decide), hv.fixed 136 (by decide), hv.fixed 137 (by decide), hv.fixed 138 (by decide), hv.fixed 139 (by decide), hv.fixed 140 (by decide), hv.fixed 141 (by decide), hv.fixed 142 (by decide), hv.fixed 143 (by decide), hv.fixed 144 (by decide), hv.fixed 145 (by decide), hv.fixed 146 (by decide), hv.fixed 147 (by decide), hv.fixed 148 (by decide), hv.fixed 149 (by decide), hv.fixed 150 (by decide), hv.fixed 151 (by decide), hv.fixed 152 (by decide), hv.fixed 153 (by decide), hv.fixed 154 (by decide), hv.fixed 155 (by decide), hv.fixed 156 (by decide), hv.fixed 157 (by decide), hv.fixed 158 (by decide), hv.fixed 159 (by decide), hv.fixed 160 (by decide), hv.fixed 161 (by decide), hv.fixed 162 (by decide), hv.fixed 163 (by decide), hv.fixed 164 (by decide), hv.fixed 165 (by decide), hv.fixed 166 (by decide), hv.fixed 167 (by decide), hv.fixed 168 (by decide), hv.fixed 169 (by decide), hv.fixed 170 (by decide)] at ha
    rw [ha]
    exact hK _ _ _ _ _ _ _ _ _ _ _ _ _ _ wc (HO.out.2.2 (hall 15 (by decide)))
noncomputable def rd_copy_code : Code := ((Tryd.f89.body.bind (regionOf 6)).getD .skip)
def rd_copy_dsts : List (Option Nat) := [some 33, some 34, some 35, some 36, some 37, some 38, some 39, some 40, some 41]
theorem rd_copy_apart : apartD rd_copy_dsts = true := by decide +kernel
set_option maxRecDepth 1000000 in
set_option maxHeartbeats 16000000 in
theorem rd_copy (w0 wr : World) (O N n i H cP cR : Nat) (pa ra : Addr) (x : List UInt8) (LL : List LRow) (q : Nat) (xs : List Value) (hi : i < N) (hn : x.length = n) (hO : wr.cell? ⟨O, i, none⟩ = some (.slice (some ⟨H, 0, none⟩) n n)) (hP : wr.cell? (pa.add i) = some (.slice (some ra) n cR)) (HR : Hid (Rd wr (some ra) (x.map bv))) (HL : Hid (Owns w0 wr LL)) (hq : LL[q]? = some ⟨.slice (some ⟨H, 0, none⟩) n n, 5, 1, n, xs⟩) (c1 c2 c3 c6 c7 c8 c9 c10 c11 c12 c13 c14 c15 c16 c17 c18 c19 c20 c21 c22 c23 c24 c25 c26 c27 c28 c29 c30 c31 c32 c33 c34 c35 c36 c37 c38 c39 c40 c41 c42 c43 c44 c45 c46 c47 c48 c49 c50 c51 c52 c53 c54 c55 c56 c57 c58 c59 c60 c61 c62 c63 c64 c65 c66 c67 c68 c69 c70 c71 c72 c73 c74 c75 c76 c77 c78 c79 c80 c81 c82 c83 c84 c85 c86 c87 c88 c89 c90 c91 c92 c93 c94 c95 c96 c97 c98 c99 c100 c101 c102 c103 c104 c105 c106 c107 c108 c109 c110 c111 c112 c113 c114 c115 c116 c117 c118 c119 c120 c121 c122 c123 c124 c125 c126 c127 c128 c129 c130 c131 c132 c133 c134 c135 c136 c137 c138 c139 c140 c141 c142 c143 c144 c145 c146 c147 c148 c149 c150 c151 c152 c153 c154 c155 c156 c157 c158 c159 c160 c161 c162 c163 c164 c165 c166 c167 c168 c169 c170 : Value) (df : List Deferred) (K : Act → World → Prop)
    (hK : ∀  (u33 u34 u35 u36 u37 u38 u39 u40 u41 : Value) (wx : World), Owns w0 wx (LL.set q ⟨.slice (some ⟨H, 0, none⟩) n n, 5, 1, n, x.map bv⟩) → K ⟨#[.slice (some pa) N cP, c1, c2, c3, .slice (some ⟨O, 0, none⟩) N N, .int .i64 (i : Nat), c6, c7, c8, c9, c10, c11, c12, c13, c14, c15, c16, c17, c18, c19, c20, c21, c22, c23, c24, c25, c26, c27, c28, c29, c30, c31, c32, u33, u34, u35, u36, u37, u38, u39, u40, u41, c42, c43, c44, c45, c46, c47, c48, c49, c50, c51, c52, c53, c54, c55, c56, c57, c58, c59, c60, c61, c62, c63, c64, c65, c66, c67, c68, c69, c70, c71, c72, c73, c74, c75, c76, c77, c78, c79, c80, c81, c82, c83, c84, c85, c86, c87, c88, c89, c90, c91, c92, c93, c94, c95, c96, c97, c98, c99, c100, c101, c102, c103, c104, c105, c106, c107, c108, c109, c110, c111, c112, c113, c114, c115, c116, c117, c118, c119, c120, c121, c122, c123, c124, c125, c126, c127, c128, c129, c130, c131, c132, c133, c134, c135, c136, c137, c138, c139, c140, c141, c142, c143, c144, c145, c146, c147, c148, c149, c150, c151, c152, c153, c154, c155, c156, c157, c158, c159, c160, c161, c162, c163, c164, c165, c166, c167, c168, c169, c170], df⟩ wx) :
    Code.wp Tryd.prog rd_copy_code (AtEnd K) ⟨#[.slice (some pa) N cP, c1, c2, c3, .slice (some ⟨O, 0, none⟩) N N, .int .i64 (i : Nat), c6, c7, c8, c9, c10, c11, c12, c13, c14, c15, c16, c17, c18, c19, c20, c21, c22, c23, c24, c25, c26, c27, c28, c29, c30, c31, c32, c33, c34, c35, c36, c37, c38, c39, c40, c41, c42, c43, c44, c45, c46, c47, c48, c49, c50, c51, c52, c53, c54, c55, c56, c57, c58, c59, c60, c61, c62, c63, c64, c65, c66, c67, c68, c69, c70, c71, c72, c73, c74, c75, c76, c77, c78, c79, c80, c81, c82, c83, c84, c85, c86, c87, c88, c89, c90, c91, c92, c93, c94, c95, c96, c97, c98, c99, c100, c101, c102, c103, c104, c105, c106, c107, c108, c109, c110, c111, c112, c113, c114, c115, c116, c117, c118, c119, c120, c121, c122, c123, c124, c125, c126, c127, c128, c129, c130, c131, c132, c133, c134, c135, c136, c137, c138, c139, c140, c141, c142, c143, c144, c145, c146, c147, c148, c149, c150, c151, c152, c153, c154, c155, c156, c157, c158, c159, c160, c161, c162, c163, c164, c165, c166, c167, c168, c169, c170], df⟩ wr := by
  conv => arg 2; whnf
  refine region_inv (by kernel_rfl) [[], [], [0, 1], [2], [], [], [4, 5], [6], [3, 7]] (by kernel_rfl) [0, 1, 2, 3, 4, 5, 6, 7, 8] (by decide +kernel) (by decide +kernel) (by decide +kernel) (fun L a wc => Inv rd_copy_dsts [.slice (some ⟨O, 0, none⟩) N N, .int .i64 (i : Nat), .pointer (some ⟨O, i, none⟩), .slice (some ⟨H, 0, none⟩) n n, .slice (some pa) N cP, .int .i64 (i : Nat), .pointer (some (pa.add i)), .slice (some ra) n cR, .int .i64 (n : Nat)] ⟨#[.slice (some pa) N cP, c1, c2, c3, .slice (some ⟨O, 0, none⟩) N N, .int .i64 (i : Nat), c6, c7, c8, c9, c10, c11, c12, c13, c14, c15, c16, c17, c18, c19, c20, c21, c22, c23, c24, c25, c26, c27, c28, c29, c30, c31, c32, c33, c34, c35, c36, c37, c38, c39, c40, c41, c42, c43, c44, c45, c46, c47, c48, c49, c50, c51, c52, c53, c54, c55, c56, c57, c58, c59, c60, c61, c62, c63, c64, c65, c66, c67, c68, c69, c70, c71, c72, c73, c74, c75, c76, c77, c78, c79, c80, c81, c82, c83, c84, c85, c86, c87, c88, c89, c90, c91, c92, c93, c94, c95, c96, c97, c98, c99, c100, c101, c102, c103, c104, c105, c106, c107, c108, c109, c110, c111, c112, c113, c114, c115, c116, c117, c118, c119, c120, c121, c122, c123, c124, c125, c126, c127, c128, c129, c130, c131, c132, c133, c134, c135, c136, c137, c138, c139, c140, c141, c142, c143, c144, c145, c146, c147, c148, c149, c150, c151, c152, c153, c154, c155, c156, c157, c158, c159, c160, c161, c162, c163, c164, c165, c166, c167, c168, c169, c170], df⟩ L a ∧ Hid ((L 8 = false → wc = wr.drew) ∧ (L 8 = true → Owns w0 wc (LL.set q ⟨.slice (some ⟨H, 0, none⟩) n n, 5, 1, n, x.map bv⟩)))) ⟨Inv.start, Lib.hid ⟨fun _ => rfl, fun h => by cases h⟩⟩ ?_ ?_
  · refine ⟨?_, ?_, ?_, ?_, ?_, ?_, ?_, ?_, ?_, trivial⟩
    ·
      rintro L a wc ⟨hv, HO⟩ hL hc hd
      exact wpOp_val rfl rfl (ex_move rfl ((hv.fixed 4 (by decide)).trans rfl)) ⟨hv.put rd_copy_apart 0 rfl (lb rfl) (lb rfl) rfl, HO⟩
    ·
      rintro L a wc ⟨hv, HO⟩ hL hc hd
      exact wpOp_val rfl rfl (ex_move rfl ((hv.fixed 5 (by decide)).trans rfl)) ⟨hv.put rd_copy_apart 1 rfl (lb rfl) (lb rfl) rfl, HO⟩
    ·
      rintro L a wc ⟨hv, HO⟩ hL hc hd
      have u1 : (0 : Int) ≤ (i : Int) := by omega
      have u2 : (i : Int) < (N : Int) := by omega
      exact wpOp_val rfl rfl (ex_index rfl (hv.get 0 rfl rfl (hd 0 (by decide))) (hv.get 1 rfl rfl (hd 1 (by decide))) (by go_simp)) ⟨hv.put rd_copy_apart 2 rfl (lb rfl) (lb rfl) rfl, HO⟩
    ·
      rintro L a wc ⟨hv, HO⟩ hL hc hd
      have hw0 : wc = wr.drew := HO.out.1 (Bool.eq_false_iff.2 fun h => Bool.false_ne_true (hL.symm.trans (hc 8 h 3 (by decide))))
      have h0 : wc.cell? ⟨O, i, none⟩ = some (.slice (some ⟨H, 0, none⟩) n n) := (by rw [hw0]; exact hO)
      exact wpOp_val rfl rfl (ex_load rfl (hv.get 2 rfl rfl (hd 2 (by decide))) (by go_simp)) ⟨hv.put rd_copy_apart 3 rfl (lb rfl) (lb rfl) rfl, HO⟩
    ·
      rintro L a wc ⟨hv, HO⟩ hL hc hd
      exact wpOp_val rfl rfl (ex_move rfl ((hv.fixed 0 (by decide)).trans rfl)) ⟨hv.put rd_copy_apart 4 rfl (lb rfl) (lb rfl) rfl, HO⟩
    ·
      rintro L a wc ⟨hv, HO⟩ hL hc hd
      exact wpOp_val rfl rfl (ex_move rfl ((hv.fixed 5 (by decide)).trans rfl)) ⟨hv.put rd_copy_apart 5 rfl (lb rfl) (lb rfl) rfl, HO⟩
    ·
      rintro L a wc ⟨hv, HO⟩ hL hc hd
      have u1 : (0 : Int) ≤ (i : Int) := by omega
      have u2 : (i : Int) < (N : Int) := by omega
      exact wpOp_val rfl rfl (ex_index rfl (hv.get 4 rfl rfl (hd 4 (by decide))) (hv.get 5 rfl rfl (hd 5 (by decide))) (by go_simp)) ⟨hv.put rd_copy_apart 6 rfl (lb rfl) (lb rfl) rfl, HO⟩
    ·
      rintro L a wc ⟨hv, HO⟩ hL hc hd
      have hw0 : wc = wr.drew := HO.out.1 (Bool.eq_false_iff.2 fun h => Bool.false_ne_true (hL.symm.trans (hc 8 h 7 (by decide))))
      have h0 : wc.cell? (pa.add i) = some (.slice (some ra) n cR) := (by rw [hw0]; exact hP)
      exact wpOp_val rfl rfl (ex_load rfl (hv.get 6 rfl rfl (hd 6 (by decide))) (by go_simp)) ⟨hv.put rd_copy_apart 7 rfl (lb rfl) (lb rfl) rfl, HO⟩
    ·
      rintro L a wc ⟨hv, HO⟩ hL hc hd
      have hw0 : wc = wr.drew := HO.out.1 hL
      obtain ⟨cur, hg, hcs, hO2⟩ := HL.out.drew.copied q hq x (by omega)
      have hrun := run_copy_row (P := Tryd.prog) wr.drew 28 28 3 5 H 0 n n ra n cR cur 5 (x.map bv) Tryd.underlying28 size_u8 hg (by simp [hn]) (fun j v hj => by obtain ⟨ad, e, _, h⟩ := HR.out j v hj; injection e with e; rw [e]; exact h) (by simp; omega) (fun v hv => by obtain ⟨b, _, rfl⟩ := List.mem_map.1 hv; rfl)
      subst hw0
      refine wpOp_val rfl rfl (v := .int .i64 (n : Nat)) (w' := wr.drew.setRow H (x.map bv ++ cur.toList.drop x.length).toArray) ?_ ⟨hv.put rd_copy_apart 8 rfl (lb rfl) (lb rfl) rfl, Lib.hid ⟨fun h => absurd h (by simp [upd]), fun _ => ?_⟩⟩
      · have a0 := (hv.get 3 rfl rfl (hd 3 (by decide)))
        have b0 := (hv.get 7 rfl rfl (hd 7 (by decide)))
        refine (run_copy_op _ _ a0 b0 hrun).trans ?_
        simp [hn, goInt]
      · have hxs : xs.drop x.length = [] := List.drop_eq_nil_of_le (by have := (HL.out.row q hq).1; omega)
        rw [hxs, List.append_nil] at hO2
        exact hO2
  · rintro L a wc ⟨hv, HO⟩ hall
    show K a wc
    have ha := act_lit a
    rw [hv.size, hv.defers] at ha
    have hl : ∀ f : Nat → Value, ((List.range (⟨#[.slice (some pa) N cP, c1, c2, c3, .slice (some ⟨O, 0, none⟩) N N, .int .i64 (i : Nat), c6, c7, c8, c9, c10, c11, c12, c13, c14, c15, c16, c17, c18, c19, c20, c21, c22, c23, c24, c25, c26, c27, c28, c29, c30, c31, c32, c33, c34, c35, c36, c37, c38, c39, c40, c41, c42, c43, c44, c45, c46, c47, c48, c49, c50, c51, c52, c53, c54, c55, c56, c57, c58, c59, c60, c61, c62, c63, c64, c65, c66, c67, c68, c69, c70, c71, c72, c73, c74, c75, c76, c77, c78, c79, c80, c81, c82, c83, c84, c85, c86, c87, c88, c89, c90, c91, c92, c93, c94, c95, c96, c97, c98, c99, c100, c101, c102, c103, c104, c105, c106, c107, c108, c109, c110, c111, c112, c113, c114, c115, c116, c117, c118, c119, c120, c121, c122, c123, c124, c125, c126, c127, c128, c129, c130, c131, c132, c133, c134, c135, c136, c137, c138, c139, c140, c141, c142, c143, c144, c145, c146, c147, c148, c149, c150, c151, c152, c153, c154, c155, c156, c157, c158, c159, c160, c161, c162, c163, c164, c165, c166, c167, c168, c169, c170], df⟩ : Act).tmps.size).map f).toArray = #[f 0, f 1, f 2, f 3, f 4, f 5, f 6, f 7, f 8, f 9, f 10, f 11, f 12, f 13, f 14, f 15, f 16, f 17, f 18, f 19, f 20, f 21, f 22, f 23, f 24, f 25, f 26, f 27, f 28, f 29, f 30, f 31, f 32, f 33, f 34, f 35, f 36, f 37, f 38, f 39, f 40, f 41, f 42, f 43, f 44, f 45, f 46, f 47, f 48, f 49, f 50, f 51, f 52, f 53, f 54, f 55, f 56, f 57, f 58, f 59, f 60, f 61, f 62, f 63, f 64, f 65, f 66, f 67, f 68, f 69, f 70, f 71, f 72, f 73, f 74, f 75, f 76, f 77, f 78, f 79, f 80, f 81, f 82, f 83, f 84, f 85, f 86, f 87, f 88, f 89, f 90, f 91, f 92, f 93, f 94, f 95, f 96, f 97, f 98, f 99, f 100, f 101, f 102, f 103, f 104, f 105, f 106, f 107, f 108, f 109, f 110, f 111, f 112, f 113, f 114, f 115, f 116, f 117, f 118, f 119, f 120, f 121, f 122, f 123, f 124, f 125, f 126, f 127, f 128, f 129, f 130, f 131, f 132, f 133, f 134, f 135, f 136, f 137, f 138, f 139, f 140, f 141, f 142, f 143, f 144, f 145, f 146, f 147, f 148, f 149, f 150, f 151, f 152, f 153, f 154, f 155, f 156, f 157, f 158, f 159, f 160, f 161, f 162, f 163, f 164, f 165, f 166, f 167, f 168, f 169, f 170] := fun _ => rfl
    rw [hl] at ha
    simp only [hv.fixed 0 (by decide), hv.fixed 1 (by decide), hv.fixed 2 (by decide), hv.fixed 3 (by decide), hv.fixed 4 (by decide), hv.fixed 5 (by decide), hv.fixed 6 (by decide), hv.fixed 7 (by decide), hv.fixed 8 (by decide), hv.fixed 9 (by decide), hv.fixed 10 (by decide), hv.fixed 11 (by decide), hv.fixed 12 (by decide), hv.fixed 13 (by decide), hv.fixed 14 (by decide), hv.fixed 15 (by decide), hv.fixed 16 (by decide), hv.fixed 17 (by decide), hv.fixed 18 (by decide), hv.fixed 19 (by decide), hv.fixed 20 (by decide), hv.fixed 21 (by decide), hv.fixed 22 (by decide), hv.fixed 23 (by decide), hv.fixed 24 (by decide), hv.fixed 25 (by decide), hv.fixed 26 (by decide), hv.fixed 27 (by decide), hv.fixed 28 (by decide), hv.fixed 29 (by decide), hv.fixed 30 (by decide), hv.fixed 31 (by decide), hv.fixed 32 (by decide), hv.fixed 42 (by decide), hv.fixed 43 (by decide), hv.fixed 44 (by decide), hv.fixed 45 (by decide), hv.fixed 46 (by decide), hv.fixed 47 (by decide), hv.fixed 48 (by decide), hv.fixed 49 (by decide), hv.fixed 50 (by decide), hv.fixed 51 (by decide), hv.fixed 52 (by decide), hv.fixed 53 (by decide), hv.fixed 54 (by decide), hv.fixed 55 (by decide), hv.fixed 56 (by decide), hv.fixed 57 (by decide), hv.fixed 58 (by decide), hv.fixed 59 (by decide), hv.fixed 60 (by decide), hv.fixed 61 (by decide), hv.fixed 62 (by decide), hv.fixed 63 (by decide), hv.fixed 64 (by decide), hv.fixed 65 (by decide), hv.fixed 66 (by decide), hv.fixed 67 (by decide), hv.fixed 68 (by decide), hv.fixed 69 (by decide), hv.fixed 70 (by decide), hv.fixed 71 (by decide), hv.fixed 72 (by decide), hv.fixed 73 (by decide), hv.fixed 74 (by decide), hv.fixed 75 (by decide), hv.fixed 76 (by decide), hv.fixed 77 (by decide), hv.fixed 78 (by decide), hv.fixed 79 (by decide), hv.fixed 80 (by decide), hv.fixed 81 (by decide), hv.fixed 82 (by decide), hv.fixed 83 (by decide), hv.fixed 84 (by decide), hv.fixed 85 (by decide), hv.fixed 86 (by decide), hv.fixed 87 (by decide), hv.fixed 88 (by decide), hv.fixed 89 (by decide), hv.fixed 90 (by decide), hv.fixed 91 (by decide), hv.fixed 92 (by decide), hv.fixed 93 (by decide), hv.fixed 94 (by decide), hv.fixed 95 (by decide), hv.fixed 96 (by decide), hv.fixed 97 (by decide), hv.fixed 98 (by decide), hv.fixed 99 (by decide), hv.fixed 100 (by decide), hv.fixed 101 (by decide), hv.fixed 102 (by decide), hv.fixed 103 (by decide), hv.fixed 104 (by decide), hv.fixed 105 (by decide), hv.fixed 106 (by decide), hv.fixed 107 (by decide), hv.fixed 108 (by decide), hv.fixed 109 (by decide), hv.fixed 110 (by decide), hv.fixed 111 (by decide), hv.fixed 112 (by decide), hv.fixed 113 (by decide), hv.fixed 114 (by decide), hv.fixed 115 (by decide), hv.fixed 116 (by decide), hv.fixed 117 (by decide), hv.fixed 118 (by decide), hv.fixed 119 (by decide), hv.fixed 120 (by decide), hv.fixed 121 (by decide), hv.fixed 122 (by decide), hv.fixed 123 (by decide), hv.fixed 124 (by decide), hv.fixed 125 (by decide), hv.fixed 126 (by decide), hv.fixed 127 (by decide), hv.fixed 128 (by decide), hv.fixed 129 (by decide), hv.fixed 130 (by decide), hv.fixed 131 (by decide), hv.fixed 132 (by decide), hv.fixed 133 (by decide), hv.fixed 134 (by decide), hv.fixed 135 (by decide), hv.fixed 136 (by decide), hv.fixed 137 (by decide), hv.fixed 138 (by decide), hv.fixed 139 (by decide), hv.fixed 140 (by decide), hv.fixed 141 (by decide), hv.fixed 142 (by decide), hv.fixed 143 (by decide), hv.fixed 144 (by decide), hv.fixed 145 (by decide), hv.fixed 146 (by decide), hv.fixed 147 (by decide), hv.fixed 148 (by decide), hv.fixed 149 (by decide), hv.fixed 150 (by decide), hv.fixed 151 (by decide), hv.fixed 152 (by decide), hv.fixed 153 (by decide), hv.fixed 154 (by decide), hv.fixed 155 (by decide), hv.fixed 156 (by decide), hv.fixed 157 (by decide), hv.fixed 158 (by decide), hv.fixed 159 (by decide), hv.fixed 160 (by decide), hv.fixed 161 (by decide), hv.fixed 162 (by decide), hv.fixed 163 (by decide), hv.fixed 164 (by decide), hv.fixed 165 (by decide), hv.fixed 166 (by decide), hv.fixed 167 (by decide), hv.fixed 168 (by decide), hv.fixed 169 (by decide), hv.fixed 170 (by decide)] at ha
    rw [ha]
    exact hK _ _ _ _ _ _ _ _ _ wc (HO.out.2 (hall 8 (by decide)))
end Go.Proofs.YtdmljilcbndmfaaDoor

/- THE INNER LOOPS of reduce of package matrix, each a declaration of its own. -/
namespace Mx
theorem cleanTo_same {r c i : Nat} {t : List UInt8} {m : Mat} (hi : i < m.length) (h : cleanRow r c t i (row m i) = row m i) : cleanTo r c t m (i + 1) = cleanTo r c t m i := by
  rw [cleanTo, h]
  refine ext_row (by rw [List.length_set]) fun j _ => ?_
  rw [row_set (by rw [cleanTo_length]; exact hi)]
  by_cases e : j = i
  · rw [if_pos e, e, cleanTo_row _ _ _ _ _ (by omega), if_neg (by omega)]
  · rw [if_neg e]
def mulF (a : UInt8) (x : List UInt8) : Nat → UInt8 := fun j => Gf.mul (x.getD j 0) a
def xorF (b : UInt8) (t x : List UInt8) : Nat → UInt8 := fun j => x.getD j 0 ^^^ Gf.mul b (t.getD j 0)
theorem half_add (b : UInt8) (t x : List UInt8) : half (xorF b t x) x x.length = addTo b t x := half_full _ _
theorem half_mul (a : UInt8) (x : List UInt8) : half (mulF a x) x x.length = x.map (Gf.mul a) := by
  rw [half_full]
  refine List.ext_getElem (by simp) fun i h1 h2 => ?_
  have hi : i < x.length := by simpa using h1
  simp [mulF, List.getD_eq_getElem?_getD, hi, Gf.mul_comm]
theorem row_set_self {m : Mat} {i : Nat} {x : List UInt8} (h : i < m.length) : row (m.set i x) i = x := by rw [row_set h, if_pos rfl]
theorem row_set_ne {m : Mat} {i j : Nat} {x : List UInt8} (h : i < m.length) (hj : j ≠ i) : row (m.set i x) j = row m j := by rw [row_set h, if_neg hj]
end Mx
theorem Mx.set_row (m : Mx.Mat) (i : Nat) : m.set i (Mx.row m i) = m := by
  by_cases h : i < m.length
  · rw [Mx.row_at h, List.set_getElem_self]
  · rw [List.set_eq_of_length_le (by omega)]
namespace Go.Proofs.YtdmljilcbndmfaaDoor
open Go.RowKit
def hasRegion (n : Nat) : Code → Bool
  | .region id _ _ => id == n
  | .seq a b => hasRegion n a || hasRegion n b
  | .loop c => hasRegion n c
  | .block _ c => hasRegion n c
  | .scope c => hasRegion n c
  | .cond _ a b => hasRegion n a || hasRegion n b
  | _ => false
/-- The innermost loop with a region. -/
def loopOf (n : Nat) : Code → Option Code
  | .loop c => match loopOf n c with
    | some x => some x
    | none => if hasRegion n c then some (.loop c) else none
  | .seq a b => match loopOf n a with
    | some x => some x
    | none => loopOf n b
  | .block _ c => loopOf n c
  | .scope c => loopOf n c
  | .cond _ a b => match loopOf n a with
    | some x => some x
    | none => loopOf n b
  | _ => none
noncomputable def rd_mulL_code : Code := ((Tryd.f89.body.bind (loopOf 22)).getD .skip)
set_option maxRecDepth 1000000 in
set_option maxHeartbeats 16000000 in
theorem rd_mulL (w0 wr : World) (O N n r : Nat) (hs : List Nat) (m : Mx.Mat) (X : List LRow) (a0 : UInt8) (hr : r < N) (hn : n ≤ 1000) (HL : Hid (hs.length = m.length ∧ m.length = N ∧ (Mx.row m r).length = n)) (HT : Hid (Tab w0)) (HO : Hid (Owns w0 wr (gridRows O N hs m ++ X))) (c0 c1 c2 c3 c5 c6 c7 c9 c11 c12 c13 c14 c15 c16 c17 c18 c19 c20 c21 c22 c23 c24 c25 c26 c27 c28 c29 c30 c31 c32 c33 c34 c35 c36 c37 c38 c39 c40 c41 c42 c43 c44 c45 c46 c47 c48 c49 c50 c51 c52 c53 c54 c55 c56 c57 c58 c59 c60 c61 c62 c63 c64 c65 c66 c67 c68 c69 c70 c71 c72 c73 c74 c75 c76 c77 c78 c79 c80 c81 c82 c83 c84 c85 c86 c87 c88 c89 c90 c91 c92 c93 c96 c97 c98 c99 c100 c101 c102 c103 c104 c105 c106 c107 c108 c109 c110 c111 c112 c113 c114 c115 c116 c117 c118 c119 c120 c121 c122 c123 c124 c125 c126 c127 c128 c129 c130 c131 c132 c133 c134 c135 c136 c137 c138 c139 c140 c141 c142 c143 c144 c145 c146 c147 c148 c149 c150 c151 c152 c153 c154 c155 c156 c157 c158 c159 c160 c161 c162 c163 c164 c165 c166 c167 c168 c169 c170 : Value) (df : List Deferred) (Q0 : Exit → Act → World → Prop)
    (hexit : ∀ (u12 u95 u96 u97 u98 u99 u100 u101 u102 u103 u104 u105 u106 u107 u108 u109 u110 u111 u112 u113 : Value) (wx : World), Owns w0 wx (gridRows O N hs (m.set r (Mx.half (Mx.mulF a0 (Mx.row m r)) (Mx.row m r) n)) ++ X) → Q0 (.exit 6) ⟨#[c0, c1, c2, c3, .slice (some ⟨O, 0, none⟩) N N, c5, c6, c7, .int .i64 (r : Nat), c9, bv a0, c11, u12, c13, c14, c15, c16, c17, c18, c19, c20, c21, c22, c23, c24, c25, c26, c27, c28, c29, c30, c31, c32, c33, c34, c35, c36, c37, c38, c39, c40, c41, c42, c43, c44, c45, c46, c47, c48, c49, c50, c51, c52, c53, c54, c55, c56, c57, c58, c59, c60, c61, c62, c63, c64, c65, c66, c67, c68, c69, c70, c71, c72, c73, c74, c75, c76, c77, c78, c79, c80, c81, c82, c83, c84, c85, c86, c87, c88, c89, c90, c91, c92, c93, .int .i64 (n : Nat), u95, u96, u97, u98, u99, u100, u101, u102, u103, u104, u105, u106, u107, u108, u109, u110, u111, u112, u113, c114, c115, c116, c117, c118, c119, c120, c121, c122, c123, c124, c125, c126, c127, c128, c129, c130, c131, c132, c133, c134, c135, c136, c137, c138, c139, c140, c141, c142, c143, c144, c145, c146, c147, c148, c149, c150, c151, c152, c153, c154, c155, c156, c157, c158, c159, c160, c161, c162, c163, c164, c165, c166, c167, c168, c169, c170], df⟩ wx) :
    Code.wp Tryd.prog rd_mulL_code Q0 ⟨#[c0, c1, c2, c3, .slice (some ⟨O, 0, none⟩) N N, c5, c6, c7, .int .i64 (r : Nat), c9, bv a0, c11, c12, c13, c14, c15, c16, c17, c18, c19, c20, c21, c22, c23, c24, c25, c26, c27, c28, c29, c30, c31, c32, c33, c34, c35, c36, c37, c38, c39, c40, c41, c42, c43, c44, c45, c46, c47, c48, c49, c50, c51, c52, c53, c54, c55, c56, c57, c58, c59, c60, c61, c62, c63, c64, c65, c66, c67, c68, c69, c70, c71, c72, c73, c74, c75, c76, c77, c78, c79, c80, c81, c82, c83, c84, c85, c86, c87, c88, c89, c90, c91, c92, c93, .int .i64 (n : Nat), .int .i64 0, c96, c97, c98, c99, c100, c101, c102, c103, c104, c105, c106, c107, c108, c109, c110, c111, c112, c113, c114, c115, c116, c117, c118, c119, c120, c121, c122, c123, c124, c125, c126, c127, c128, c129, c130, c131, c132, c133, c134, c135, c136, c137, c138, c139, c140, c141, c142, c143, c144, c145, c146, c147, c148, c149, c150, c151, c152, c153, c154, c155, c156, c157, c158, c159, c160, c161, c162, c163, c164, c165, c166, c167, c168, c169, c170], df⟩ wr := by
  have HE := Lib.hid hexit
  clear hexit
  conv => arg 2; whnf
  dsimp only
  go_loopw [95] (fun vi wi => ∃ j : Nat, j ≤ n ∧ vi = .int .i64 (j : Nat) ∧ Hid (Owns w0 wi (gridRows O N hs (m.set r (Mx.half (Mx.mulF a0 (Mx.row m r)) (Mx.row m r) j)) ++ X))) (fun vi _ => n - (intOf vi).toNat)
  case atStart => exact ⟨0, Nat.zero_le _, rfl, Lib.hid (by rw [Mx.half_zero, Mx.set_row]; exact HO.out)⟩
  case round =>
    obtain ⟨j, hj, rfl, HI⟩ := hrel
    by_cases hlt : j < n
    · have hl' : hs.length = (m.set r (Mx.half (Mx.mulF a0 (Mx.row m r)) (Mx.row m r) j)).length := by rw [List.length_set]; exact HL.out.1
      have hrm : r < m.length := by rw [HL.out.2.1]; exact hr
      have hr' : r < (m.set r (Mx.half (Mx.mulF a0 (Mx.row m r)) (Mx.row m r) j)).length := by rw [List.length_set]; exact hrm
      have hrow : Mx.row (m.set r (Mx.half (Mx.mulF a0 (Mx.row m r)) (Mx.row m r) j)) r = Mx.half (Mx.mulF a0 (Mx.row m r)) (Mx.row m r) j := Mx.row_set_self hrm
      have hlen : (Mx.half (Mx.mulF a0 (Mx.row m r)) (Mx.row m r) j).length = n := by rw [Mx.half_length]; exact HL.out.2.2
      have c1 := grid_outer hl' HI.out hr'
      have c2 := grid_cell hl' HI.out hr' (j := j) (by rw [hrow, hlen]; exact hlt)
      have f2 := grid_frozen hl' HI.out hr' (j := j)
      have st := (grid_store hl' HI.out hr' (j := j) (Mx.mulF a0 (Mx.row m r) j)).drew
      unfold Mx.cell at c2
      rw [hrow, hlen] at c1
      rw [hrow, Mx.half_get (by rw [HL.out.2.2]; exact hlt), if_neg (by omega)] at c2
      rw [hrow, Mx.half_set, List.set_set] at st
      have hT : Tab wr := HT.out.ext HI.out.ext
      have ST := Lib.hid st
      have HTR := Lib.hid hT
      obtain ⟨H, hH⟩ : ∃ H, hs.getD r 0 = H := ⟨_, rfl⟩
      rw [hH] at c1 c2 f2 ST
      have hmf : Mx.mulF a0 (Mx.row m r) j = Gf.mul ((Mx.row m r).getD j 0) a0 := rfl
      obtain ⟨x, hx⟩ : ∃ x, (Mx.row m r).getD j 0 = x := ⟨_, rfl⟩
      rw [hx] at c2 hmf
      rw [hmf] at ST
      clear hl' hr' hrow hlen st hT hH hmf hx
      go_wp2_with fail
      refine wp_atEnd' (rd_mul wr O N n r j H a0 x hr hlt c1 c2 f2 HTR _ _ _ _ _ _ _ _ _ _ _ _ _ _ _ _ _ _ _ _ _ _ _ _ _ _ _ _ _ _ _ _ _ _ _ _ _ _ _ _ _ _ _ _ _ _ _ _ _ _ _ _ _ _ _ _ _ _ _ _ _ _ _ _ _ _ _ _ _ _ _ _ _ _ _ _ _ _ _ _ _ _ _ _ _ _ _ _ _ _ _ _ _ _ _ _ _ _ _ _ _ _ _ _ _ _ _ _ _ _ _ _ _ _ _ _ _ _ _ _ _ _ _ _ _ _ _ _ _ _ _ _ _ _ _ _ _ _ _ _ _ _ _ _ _ _ _ _ _ _ _ _ _ _ _ _ _ _ _ _ _ _ _ _ _ _ _ _ _ ?_)
      rintro u98 u99 u100 u101 u102 u103 u104 u105 u106 u107 u108 u109 u110 u111 u112 wx rfl
      clear c1 c2 f2
      go_wp2_with fail
      go_roundw
      case rel => exact ⟨j + 1, by omega, by go_num, Lib.hid ST.out⟩
      case measure => simp [intOf]; omega
    · obtain rfl : j = n := by omega
      go_wp2_with fail
      exact HE.out _ _ _ _ _ _ _ _ _ _ _ _ _ _ _ _ _ _ _ _ wr HI.out
noncomputable def rd_xorL_code : Code := ((Tryd.f89.body.bind (loopOf 32)).getD .skip)
set_option maxRecDepth 1000000 in
set_option maxHeartbeats 16000000 in
theorem rd_xorL (w0 wr : World) (O N n r i : Nat) (hs : List Nat) (m : Mx.Mat) (X : List LRow) (b0 : UInt8) (hr : r < N) (hi : i < N) (hn : n ≤ 1000) (HL : Hid (hs.length = m.length ∧ m.length = N ∧ (Mx.row m i).length = n ∧ (Mx.row m r).length = n ∧ i ≠ r)) (HT : Hid (Tab w0)) (HO : Hid (Owns w0 wr (gridRows O N hs m ++ X))) (c0 c1 c2 c3 c5 c6 c7 c9 c10 c11 c12 c15 c16 c17 c18 c19 c20 c21 c22 c23 c24 c25 c26 c27 c28 c29 c30 c31 c32 c33 c34 c35 c36 c37 c38 c39 c40 c41 c42 c43 c44 c45 c46 c47 c48 c49 c50 c51 c52 c53 c54 c55 c56 c57 c58 c59 c60 c61 c62 c63 c64 c65 c66 c67 c68 c69 c70 c71 c72 c73 c74 c75 c76 c77 c78 c79 c80 c81 c82 c83 c84 c85 c86 c87 c88 c89 c90 c91 c92 c93 c94 c95 c96 c97 c98 c99 c100 c101 c102 c103 c104 c105 c106 c107 c108 c109 c110 c111 c112 c113 c114 c115 c116 c117 c118 c119 c120 c121 c122 c123 c124 c125 c126 c127 c128 c129 c130 c131 c132 c133 c134 c135 c136 c139 c140 c141 c142 c143 c144 c145 c146 c147 c148 c149 c150 c151 c152 c153 c154 c155 c156 c157 c158 c159 c160 c161 c162 c163 c164 c165 c166 c167 c168 c169 c170 : Value) (df : List Deferred) (Q0 : Exit → Act → World → Prop)
    (hexit : ∀ (u15 u138 u139 u140 u141 u142 u143 u144 u145 u146 u147 u148 u149 u150 u151 u152 u153 u154 u155 u156 u157 u158 u159 : Value) (wx : World), Owns w0 wx (gridRows O N hs (m.set i (Mx.half (Mx.xorF b0 (Mx.row m r) (Mx.row m i)) (Mx.row m i) n)) ++ X) → Q0 (.exit 10) ⟨#[c0, c1, c2, c3, .slice (some ⟨O, 0, none⟩) N N, c5, c6, c7, .int .i64 (r : Nat), c9, c10, c11, c12, .int .i64 (i : Nat), bv b0, u15, c16, c17, c18, c19, c20, c21, c22, c23, c24, c25, c26, c27, c28, c29, c30, c31, c32, c33, c34, c35, c36, c37, c38, c39, c40, c41, c42, c43, c44, c45, c46, c47, c48, c49, c50, c51, c52, c53, c54, c55, c56, c57, c58, c59, c60, c61, c62, c63, c64, c65, c66, c67, c68, c69, c70, c71, c72, c73, c74, c75, c76, c77, c78, c79, c80, c81, c82, c83, c84, c85, c86, c87, c88, c89, c90, c91, c92, c93, c94, c95, c96, c97, c98, c99, c100, c101, c102, c103, c104, c105, c106, c107, c108, c109, c110, c111, c112, c113, c114, c115, c116, c117, c118, c119, c120, c121, c122, c123, c124, c125, c126, c127, c128, c129, c130, c131, c132, c133, c134, c135, c136, .int .i64 (n : Nat), u138, u139, u140, u141, u142, u143, u144, u145, u146, u147, u148, u149, u150, u151, u152, u153, u154, u155, u156, u157, u158, u159, c160, c161, c162, c163, c164, c165, c166, c167, c168, c169, c170], df⟩ wx) :
    Code.wp Tryd.prog rd_xorL_code Q0 ⟨#[c0, c1, c2, c3, .slice (some ⟨O, 0, none⟩) N N, c5, c6, c7, .int .i64 (r : Nat), c9, c10, c11, c12, .int .i64 (i : Nat), bv b0, c15, c16, c17, c18, c19, c20, c21, c22, c23, c24, c25, c26, c27, c28, c29, c30, c31, c32, c33, c34, c35, c36, c37, c38, c39, c40, c41, c42, c43, c44, c45, c46, c47, c48, c49, c50, c51, c52, c53, c54, c55, c56, c57, c58, c59, c60, c61, c62, c63, c64, c65, c66, c67, c68, c69, c70, c71, c72, c73, c74, c75, c76, c77, c78, c79, c80, c81, c82, c83, c84, c85, c86, c87, c88, c89, c90, c91, c92, c93, c94, c95, c96, c97, c98, c99, c100, c101, c102, c103, c104, c105, c106, c107, c108, c109, c110, c111, c112, c113, c114, c115, c116, c117, c118, c119, c120, c121, c122, c123, c124, c125, c126, c127, c128, c129, c130, c131, c132, c133, c134, c135, c136, .int .i64 (n : Nat), .int .i64 0, c139, c140, c141, c142, c143, c144, c145, c146, c147, c148, c149, c150, c151, c152, c153, c154, c155, c156, c157, c158, c159, c160, c161, c162, c163, c164, c165, c166, c167, c168, c169, c170], df⟩ wr := by
  have HE := Lib.hid hexit
  clear hexit
  conv => arg 2; whnf
  dsimp only
  go_loopw [138] (fun vi wi => ∃ j : Nat, j ≤ n ∧ vi = .int .i64 (j : Nat) ∧ Hid (Owns w0 wi (gridRows O N hs (m.set i (Mx.half (Mx.xorF b0 (Mx.row m r) (Mx.row m i)) (Mx.row m i) j)) ++ X))) (fun vi _ => n - (intOf vi).toNat)
  case atStart => exact ⟨0, Nat.zero_le _, rfl, Lib.hid (by rw [Mx.half_zero, Mx.set_row]; exact HO.out)⟩
  case round =>
    obtain ⟨j, hj, rfl, HI⟩ := hrel
    by_cases hlt : j < n
    · have hl' : hs.length = (m.set i (Mx.half (Mx.xorF b0 (Mx.row m r) (Mx.row m i)) (Mx.row m i) j)).length := by rw [List.length_set]; exact HL.out.1
      have him : i < m.length := by rw [HL.out.2.1]; exact hi
      have hrm : r < m.length := by rw [HL.out.2.1]; exact hr
      have hi' : i < (m.set i (Mx.half (Mx.xorF b0 (Mx.row m r) (Mx.row m i)) (Mx.row m i) j)).length := by rw [List.length_set]; exact him
      have hr' : r < (m.set i (Mx.half (Mx.xorF b0 (Mx.row m r) (Mx.row m i)) (Mx.row m i) j)).length := by rw [List.length_set]; exact hrm
      have hrow : Mx.row (m.set i (Mx.half (Mx.xorF b0 (Mx.row m r) (Mx.row m i)) (Mx.row m i) j)) i = Mx.half (Mx.xorF b0 (Mx.row m r) (Mx.row m i)) (Mx.row m i) j := Mx.row_set_self him
      have hrow2 : Mx.row (m.set i (Mx.half (Mx.xorF b0 (Mx.row m r) (Mx.row m i)) (Mx.row m i) j)) r = Mx.row m r := Mx.row_set_ne him (fun e => HL.out.2.2.2.2 e.symm)
      have hlen : (Mx.half (Mx.xorF b0 (Mx.row m r) (Mx.row m i)) (Mx.row m i) j).length = n := by rw [Mx.half_length]; exact HL.out.2.2.1
      have c1 := grid_outer hl' HI.out hi'
      have c2 := grid_cell hl' HI.out hi' (j := j) (by rw [hrow, hlen]; exact hlt)
      have d1 := grid_outer hl' HI.out hr'
      have d2 := grid_cell hl' HI.out hr' (j := j) (by rw [hrow2, HL.out.2.2.2.1]; exact hlt)
      have f2 := grid_frozen hl' HI.out hi' (j := j)
      have st := (grid_store hl' HI.out hi' (j := j) (Mx.xorF b0 (Mx.row m r) (Mx.row m i) j)).drew
      unfold Mx.cell at c2 d2
      rw [hrow, hlen] at c1
      rw [hrow2, HL.out.2.2.2.1] at d1
      rw [hrow2] at d2
      rw [hrow, Mx.half_get (by rw [HL.out.2.2.1]; exact hlt), if_neg (by omega)] at c2
      rw [hrow, Mx.half_set, List.set_set] at st
      have hT : Tab wr := HT.out.ext HI.out.ext
      have ST := Lib.hid st
      have HTR := Lib.hid hT
      obtain ⟨G, hG⟩ : ∃ G, hs.getD i 0 = G := ⟨_, rfl⟩
      obtain ⟨H, hH⟩ : ∃ H, hs.getD r 0 = H := ⟨_, rfl⟩
      rw [hG] at c1 c2 f2 ST
      rw [hH] at d1 d2
      have hmf : Mx.xorF b0 (Mx.row m r) (Mx.row m i) j = (Mx.row m i).getD j 0 ^^^ Gf.mul b0 ((Mx.row m r).getD j 0) := rfl
      obtain ⟨y, hy⟩ : ∃ y, (Mx.row m i).getD j 0 = y := ⟨_, rfl⟩
      obtain ⟨x, hx⟩ : ∃ x, (Mx.row m r).getD j 0 = x := ⟨_, rfl⟩
      obtain ⟨z, hz⟩ : ∃ z, Mx.xorF b0 (Mx.row m r) (Mx.row m i) j = z := ⟨_, rfl⟩
      rw [hz] at ST
      rw [hy, hx, hz] at hmf
      rw [hy] at c2
      rw [hx] at d2
      have HZ := Lib.hid hmf.symm
      clear hl' hi' hr' hrow hrow2 hlen st hT hG hH hmf hx hy hz
      go_wp2_with fail
      refine wp_atEnd' (rd_xor wr O N n r i j H G b0 x y z HZ hr hi hlt d1 c1 d2 c2 f2 HTR _ _ _ _ _ _ _ _ _ _ _ _ _ _ _ _ _ _ _ _ _ _ _ _ _ _ _ _ _ _ _ _ _ _ _ _ _ _ _ _ _ _ _ _ _ _ _ _ _ _ _ _ _ _ _ _ _ _ _ _ _ _ _ _ _ _ _ _ _ _ _ _ _ _ _ _ _ _ _ _ _ _ _ _ _ _ _ _ _ _ _ _ _ _ _ _ _ _ _ _ _ _ _ _ _ _ _ _ _ _ _ _ _ _ _ _ _ _ _ _ _ _ _ _ _ _ _ _ _ _ _ _ _ _ _ _ _ _ _ _ _ _ _ _ _ _ _ _ _ _ _ _ _ _ _ _ _ _ _ _ _ _ _ _ _ _ _ _ ?_)
      rintro u141 u142 u143 u144 u145 u146 u147 u148 u149 u150 u151 u152 u153 u154 u155 u156 u157 u158 wx rfl
      clear c1 c2 d1 d2 f2
      go_wp2_with fail
      go_roundw
      case rel => exact ⟨j + 1, by omega, by go_num, Lib.hid ST.out⟩
      case measure => simp [intOf]; omega
    · obtain rfl : j = n := by omega
      go_wp2_with fail
      exact HE.out _ _ _ _ _ _ _ _ _ _ _ _ _ _ _ _ _ _ _ _ _ _ _ wr HI.out
noncomputable def rd_cleanL_code : Code := ((Tryd.f89.body.bind (loopOf 28)).getD .skip)
set_option maxRecDepth 1000000 in
set_option maxHeartbeats 16000000 in
theorem rd_cleanL (w0 wr : World) (O N n r c : Nat) (hs : List Nat) (m : Mx.Mat) (X : List LRow) (hr : r < N) (hc : c < n) (hn : n ≤ 1000) (hN : N ≤ 1000) (HL : Hid (hs.length = m.length ∧ m.length = N ∧ ∀ i, i < m.length → (Mx.row m i).length = n)) (HT : Hid (Tab w0)) (HO : Hid (Owns w0 wr (gridRows O N hs m ++ X))) (c0 c1 c2 c3 c5 c6 c9 c10 c11 c12 c13 c14 c15 c16 c17 c18 c19 c20 c21 c22 c23 c24 c25 c26 c27 c28 c29 c30 c31 c32 c33 c34 c35 c36 c37 c38 c39 c40 c41 c42 c43 c44 c45 c46 c47 c48 c49 c50 c51 c52 c53 c54 c55 c56 c57 c58 c59 c60 c61 c62 c63 c64 c65 c66 c67 c68 c69 c70 c71 c72 c73 c74 c75 c76 c77 c78 c79 c80 c81 c82 c83 c84 c85 c86 c87 c88 c89 c90 c91 c92 c93 c94 c95 c96 c97 c98 c99 c100 c101 c102 c103 c104 c105 c106 c107 c108 c109 c110 c111 c112 c113 c114 c117 c118 c119 c120 c121 c122 c123 c124 c125 c126 c127 c128 c129 c130 c131 c132 c133 c134 c135 c136 c137 c138 c139 c140 c141 c142 c143 c144 c145 c146 c147 c148 c149 c150 c151 c152 c153 c154 c155 c156 c157 c158 c159 c160 c161 c162 c163 c164 c165 c166 c167 c168 c169 c170 : Value) (df : List Deferred) (Q0 : Exit → Act → World → Prop)
    (hexit : ∀ (u13 u14 u15 u116 u117 u118 u119 u120 u121 u122 u123 u124 u125 u126 u127 u128 u129 u130 u131 u132 u133 u134 u135 u136 u137 u138 u139 u140 u141 u142 u143 u144 u145 u146 u147 u148 u149 u150 u151 u152 u153 u154 u155 u156 u157 u158 u159 u160 : Value) (wx : World), Owns w0 wx (gridRows O N hs (Mx.cleanTo r c (Mx.row m r) m N) ++ X) → Q0 (.exit 8) ⟨#[c0, c1, c2, c3, .slice (some ⟨O, 0, none⟩) N N, c5, c6, .int .i64 (c : Nat), .int .i64 (r : Nat), c9, c10, c11, c12, u13, u14, u15, c16, c17, c18, c19, c20, c21, c22, c23, c24, c25, c26, c27, c28, c29, c30, c31, c32, c33, c34, c35, c36, c37, c38, c39, c40, c41, c42, c43, c44, c45, c46, c47, c48, c49, c50, c51, c52, c53, c54, c55, c56, c57, c58, c59, c60, c61, c62, c63, c64, c65, c66, c67, c68, c69, c70, c71, c72, c73, c74, c75, c76, c77, c78, c79, c80, c81, c82, c83, c84, c85, c86, c87, c88, c89, c90, c91, c92, c93, c94, c95, c96, c97, c98, c99, c100, c101, c102, c103, c104, c105, c106, c107, c108, c109, c110, c111, c112, c113, c114, .int .i64 (N : Nat), u116, u117, u118, u119, u120, u121, u122, u123, u124, u125, u126, u127, u128, u129, u130, u131, u132, u133, u134, u135, u136, u137, u138, u139, u140, u141, u142, u143, u144, u145, u146, u147, u148, u149, u150, u151, u152, u153, u154, u155, u156, u157, u158, u159, u160, c161, c162, c163, c164, c165, c166, c167, c168, c169, c170], df⟩ wx) :
    Code.wp Tryd.prog rd_cleanL_code Q0 ⟨#[c0, c1, c2, c3, .slice (some ⟨O, 0, none⟩) N N, c5, c6, .int .i64 (c : Nat), .int .i64 (r : Nat), c9, c10, c11, c12, c13, c14, c15, c16, c17, c18, c19, c20, c21, c22, c23, c24, c25, c26, c27, c28, c29, c30, c31, c32, c33, c34, c35, c36, c37, c38, c39, c40, c41, c42, c43, c44, c45, c46, c47, c48, c49, c50, c51, c52, c53, c54, c55, c56, c57, c58, c59, c60, c61, c62, c63, c64, c65, c66, c67, c68, c69, c70, c71, c72, c73, c74, c75, c76, c77, c78, c79, c80, c81, c82, c83, c84, c85, c86, c87, c88, c89, c90, c91, c92, c93, c94, c95, c96, c97, c98, c99, c100, c101, c102, c103, c104, c105, c106, c107, c108, c109, c110, c111, c112, c113, c114, .int .i64 (N : Nat), .int .i64 0, c117, c118, c119, c120, c121, c122, c123, c124, c125, c126, c127, c128, c129, c130, c131, c132, c133, c134, c135, c136, c137, c138, c139, c140, c141, c142, c143, c144, c145, c146, c147, c148, c149, c150, c151, c152, c153, c154, c155, c156, c157, c158, c159, c160, c161, c162, c163, c164, c165, c166, c167, c168, c169, c170], df⟩ wr := by
  have HE := Lib.hid hexit
  clear hexit
  conv => arg 2; whnf
  dsimp only
  go_loopw [116] (fun vi wi => ∃ i : Nat, i ≤ N ∧ vi = .int .i64 (i : Nat) ∧ Hid (Owns w0 wi (gridRows O N hs (Mx.cleanTo r c (Mx.row m r) m i) ++ X))) (fun vi _ => N - (intOf vi).toNat)
  case atStart => exact ⟨0, Nat.zero_le _, rfl, HO⟩
  case round =>
    obtain ⟨i, hi, rfl, HI⟩ := hrel
    by_cases hlt : i < N
    · have him : i < m.length := by rw [HL.out.2.1]; exact hlt
      have hrm : r < m.length := by rw [HL.out.2.1]; exact hr
      have hl' : hs.length = (Mx.cleanTo r c (Mx.row m r) m i).length := by rw [Mx.cleanTo_length]; exact HL.out.1
      have hi' : i < (Mx.cleanTo r c (Mx.row m r) m i).length := by rw [Mx.cleanTo_length]; exact him
      have hr' : r < (Mx.cleanTo r c (Mx.row m r) m i).length := by rw [Mx.cleanTo_length]; exact hrm
      have hrow : Mx.row (Mx.cleanTo r c (Mx.row m r) m i) i = Mx.row m i := by rw [Mx.cleanTo_row _ _ _ _ _ (by omega), if_neg (by omega)]
      have hrow2 : Mx.row (Mx.cleanTo r c (Mx.row m r) m i) r = Mx.row m r := by
        rw [Mx.cleanTo_row _ _ _ _ _ (by omega)]
        split
        · unfold Mx.cleanRow; rw [if_pos rfl]
        · rfl
      have c1 := grid_outer hl' HI.out hi'
      have c2 := grid_cell hl' HI.out hi' (j := c) (by rw [hrow, HL.out.2.2 i him]; exact hc)
      unfold Mx.cell at c2
      rw [hrow, HL.out.2.2 i him] at c1
      rw [hrow] at c2
      obtain ⟨b, hb⟩ : ∃ b, (Mx.row m i).getD c 0 = b := ⟨_, rfl⟩
      rw [hb] at c2
      obtain ⟨G, hG⟩ : ∃ G, hs.getD i 0 = G := ⟨_, rfl⟩
      rw [hG] at c1 c2
      clear hG
      have HB := Lib.hid hb
      have HRW := Lib.hid (And.intro hrow hrow2)
      have HLL := Lib.hid (And.intro hl' (And.intro hi' hr'))
      have HIM := Lib.hid (And.intro him hrm)
      clear hb hrow hrow2 hl' hi' hr' him hrm
      by_cases hir : i = r
      · have hsame : Mx.cleanTo r c (Mx.row m r) m (i + 1) = Mx.cleanTo r c (Mx.row m r) m i := Mx.cleanTo_same HIM.out.1 (by unfold Mx.cleanRow; rw [if_pos hir, hir])
        have HS := Lib.hid hsame
        have e1 : ((i : Int) != (r : Int)) = false := by rw [hir]; simp
        have e2 : ((i : Int) == (r : Int)) = true := by rw [hir]; simp
        clear hsame hir
        go_wp2_with fail
        clear c1 c2 e1 e2
        go_roundw
        case rel => exact ⟨i + 1, by omega, by go_num, Lib.hid (by rw [HS.out]; exact HI.out)⟩
        case measure => simp [intOf]; omega
      · have HNE := Lib.hid hir
        have e1 : ((i : Int) != (r : Int)) = true := by simp; omega
        have e2 : ((i : Int) == (r : Int)) = false := by simp; omega
        by_cases hb0 : b = 0
        · have hsame : Mx.cleanTo r c (Mx.row m r) m (i + 1) = Mx.cleanTo r c (Mx.row m r) m i := Mx.cleanTo_same HIM.out.1 (by unfold Mx.cleanRow; rw [if_neg hir, HB.out, if_pos hb0])
          have HS := Lib.hid hsame
          subst hb0
          clear hsame hir
          go_wp2_with fail
          clear c1 c2 e1 e2
          go_roundw
          case rel => exact ⟨i + 1, by omega, by go_num, Lib.hid (by rw [HS.out]; exact HI.out)⟩
          case measure => simp [intOf]; omega
        · have hstep : Mx.cleanTo r c (Mx.row m r) m (i + 1) = (Mx.cleanTo r c (Mx.row m r) m i).set i (Mx.half (Mx.xorF b (Mx.row (Mx.cleanTo r c (Mx.row m r) m i) r) (Mx.row (Mx.cleanTo r c (Mx.row m r) m i) i)) (Mx.row (Mx.cleanTo r c (Mx.row m r) m i) i) n) := by
            rw [Mx.cleanTo, HRW.out.1, HRW.out.2]
            unfold Mx.cleanRow
            rw [if_neg hir, HB.out, if_neg hb0, ← Mx.half_add, HL.out.2.2 i HIM.out.1]
          have HS := Lib.hid hstep
          have hbn : (((b.toNat : Nat) : Int) != 0) = true := by
            rw [bne_iff_ne]
            intro h
            exact hb0 (UInt8.toNat_inj.1 (by have : b.toNat = 0 := by omega
                                             exact this))
          have hbe : (((b.toNat : Nat) : Int) == 0) = false := by
            rw [beq_eq_false_iff_ne]
            intro h
            exact hb0 (UInt8.toNat_inj.1 (by have : b.toNat = 0 := by omega
                                             exact this))
          have HLX : Hid (hs.length = (Mx.cleanTo r c (Mx.row m r) m i).length ∧ (Mx.cleanTo r c (Mx.row m r) m i).length = N ∧ (Mx.row (Mx.cleanTo r c (Mx.row m r) m i) i).length = n ∧ (Mx.row (Mx.cleanTo r c (Mx.row m r) m i) r).length = n ∧ i ≠ r) :=
            Lib.hid ⟨HLL.out.1, by rw [Mx.cleanTo_length]; exact HL.out.2.1, by rw [HRW.out.1]; exact HL.out.2.2 i HIM.out.1, by rw [HRW.out.2]; exact HL.out.2.2 r HIM.out.2, HNE.out⟩
          clear hstep hir hb0
          go_wp2_with fail
          clear c1 c2 e1 e2 hbn hbe
          refine rd_xorL w0 wr O N n r i hs (Mx.cleanTo r c (Mx.row m r) m i) X b hr hlt hn HLX HT HI _ _ _ _ _ _ _ _ _ _ _ _ _ _ _ _ _ _ _ _ _ _ _ _ _ _ _ _ _ _ _ _ _ _ _ _ _ _ _ _ _ _ _ _ _ _ _ _ _ _ _ _ _ _ _ _ _ _ _ _ _ _ _ _ _ _ _ _ _ _ _ _ _ _ _ _ _ _ _ _ _ _ _ _ _ _ _ _ _ _ _ _ _ _ _ _ _ _ _ _ _ _ _ _ _ _ _ _ _ _ _ _ _ _ _ _ _ _ _ _ _ _ _ _ _ _ _ _ _ _ _ _ _ _ _ _ _ _ _ _ _ _ _ _ _ _ _ _ _ _ _ _ _ _ _ _ _ _ _ _ _ _ _ _ _ _ _ ?_
          intro u15 u138 u139 u140 u141 u142 u143 u144 u145 u146 u147 u148 u149 u150 u151 u152 u153 u154 u155 u156 u157 u158 u159 wx hx
          have HX := Lib.hid hx
          clear hx
          go_wp2_with fail
          go_roundw
          case rel => exact ⟨i + 1, by omega, by go_num, Lib.hid (by rw [HS.out]; exact HX.out)⟩
          case measure => simp [intOf]; omega
    · obtain rfl : i = N := by omega
      go_wp2_with fail
      exact HE.out _ _ _ _ _ _ _ _ _ _ _ _ _ _ _ _ _ _ _ _ _ _ _ _ _ _ _ _ _ _ _ _ _ _ _ _ _ _ _ _ _ _ _ _ _ _ _ _ wr HI.out
end Go.Proofs.YtdmljilcbndmfaaDoor

/- TWO LISTS ARE THE SAME: SameList, SameRow of the specification of matrices. -/
namespace Go.Proofs.YtdmljilcbndmfaaDoor
open Go.RowKit
theorem getD_got {α : Type} {l : List α} {x : α} {i : Nat} (h : i < l.length) : l.getD i x = l[i] := by rw [List.getD_eq_getElem?_getD, List.getElem?_eq_getElem h]; rfl
theorem list_same {a b : List Int} (hl : a.length = b.length) (h : ∀ j, j < a.length → a.getD j 0 = b.getD j 0) : a = b := by
  apply List.ext_getElem hl
  intro i h1 h2
  have := h i h1
  rwa [getD_got h1, getD_got h2] at this
theorem row_same {a b : List UInt8} (hl : a.length = b.length) (h : ∀ j, j < a.length → a.getD j 0 = b.getD j 0) : a = b := by
  apply List.ext_getElem hl
  intro i h1 h2
  have := h i h1
  rwa [getD_got h1, getD_got h2] at this
set_option maxHeartbeats 8000000 in
set_option maxRecDepth 100000 in
theorem sList_any (a b : List Int) (v u : Value) (w : World) (ha : Rs RI w v a) (hb : Rs RI w u b) :
    Calls Tryd.prog 52 #[v, u] w fun e w' => e = .returned (.bool (decide (a = b))) ∧ Ext w w' := by
  obtain ⟨PA, cP, rfl, ha64⟩ := ha.form
  obtain ⟨QA, cQ, rfl, hb64⟩ := hb.form
  have HA := Lib.hid ha
  have HB := Lib.hid hb
  clear ha hb
  go_enter Tryd.func52, Tryd.ntmps52
  by_cases hl : a.length = b.length
  case neg =>
    have e1 : decide (a = b) = false := decide_eq_false fun e => hl (by rw [e])
    have HE := Lib.hid e1
    clear e1
    go_wp2_with fail
    go_ret
    exact ⟨ret_bool HE.out.symm, Ext.refl _⟩
  case pos =>
  have HL := Lib.hid hl
  go_wp2_with fail
  go_loopw [5] (fun vi wr => ∃ k : Nat, k ≤ a.length ∧ vi = .int .i64 (k : Nat) ∧ Hid ((∀ j, j < k → a.getD j 0 = b.getD j 0) ∧ Ext w wr)) (fun vi _ => a.length - (intOf vi).toNat)
  case atStart => exact ⟨0, Nat.zero_le _, rfl, Lib.hid ⟨fun j hj => absurd hj (Nat.not_lt_zero j), Ext.refl _⟩⟩
  case round =>
    obtain ⟨k, hk, rfl, HI⟩ := hrel
    by_cases hlt : k < a.length
    · have hltb : k < b.length := by omega
      obtain ⟨a1, u1, rfl, hc1, hu1⟩ := (Rs.ext RI.ext _ _ _ _ HI.out.2 HA.out).at hlt
      obtain ⟨rfl, _, _⟩ := hu1
      obtain ⟨a2, u2, rfl, hc2, hu2⟩ := (Rs.ext RI.ext _ _ _ _ HI.out.2 HB.out).at hltb
      obtain ⟨rfl, _, _⟩ := hu2
      have g1 := getD_got (x := (0 : Int)) hlt
      have g2 := getD_got (x := (0 : Int)) hltb
      obtain ⟨x, hx⟩ : ∃ x, a[k] = x := ⟨_, rfl⟩
      obtain ⟨y, hy⟩ : ∃ y, b[k] = y := ⟨_, rfl⟩
      rw [hx] at hc1 g1
      rw [hy] at hc2 g2
      have HG := Lib.hid (And.intro g1 g2)
      clear hx hy g1 g2
      by_cases hxy : x = y
      · subst hxy
        go_wp2_with fail
        go_quiet (fail)
        go_wp2_with fail
        go_roundw
        case rel =>
          refine ⟨k + 1, by omega, by go_num, Lib.hid ⟨fun j hj => ?_, HI.out.2.drewN nq⟩⟩
          by_cases hjk : j = k
          · rw [hjk, HG.out.1, HG.out.2]
          · exact HI.out.1 j (by omega)
        case measure => simp [intOf]; omega
      · have e1 : decide (a = b) = false := decide_eq_false fun e => hxy (by rw [← HG.out.1, ← HG.out.2, e])
        have HE := Lib.hid e1
        clear e1
        go_wp2_with fail
        go_quiet (fail)
        go_wp2_with fail
        go_ret
        exact ⟨ret_bool HE.out.symm, HI.out.2.drewN nq⟩
    · obtain rfl : k = a.length := by omega
      have e1 : decide (a = b) = true := decide_eq_true (list_same HL.out HI.out.1)
      have HE := Lib.hid e1
      clear e1
      go_wp2_with fail
      go_ret
      exact ⟨ret_bool HE.out.symm, HI.out.2⟩
set_option maxHeartbeats 8000000 in
set_option maxRecDepth 100000 in
theorem sRow_any (a b : List UInt8) (v u : Value) (w : World) (ha : Rs RB w v a) (hb : Rs RB w u b) :
    Calls Tryd.prog 48 #[v, u] w fun e w' => e = .returned (.bool (decide (a = b))) ∧ Ext w w' := by
  obtain ⟨PA, cP, rfl, ha64⟩ := ha.form
  obtain ⟨QA, cQ, rfl, hb64⟩ := hb.form
  have HA := Lib.hid ha
  have HB := Lib.hid hb
  clear ha hb
  go_enter Tryd.func48, Tryd.ntmps48
  by_cases hl : a.length = b.length
  case neg =>
    have e1 : decide (a = b) = false := decide_eq_false fun e => hl (by rw [e])
    have HE := Lib.hid e1
    clear e1
    go_wp2_with fail
    go_ret
    exact ⟨ret_bool HE.out.symm, Ext.refl _⟩
  case pos =>
  have HL := Lib.hid hl
  go_wp2_with fail
  go_loopw [5] (fun vi wr => ∃ k : Nat, k ≤ a.length ∧ vi = .int .i64 (k : Nat) ∧ Hid ((∀ j, j < k → a.getD j 0 = b.getD j 0) ∧ Ext w wr)) (fun vi _ => a.length - (intOf vi).toNat)
  case atStart => exact ⟨0, Nat.zero_le _, rfl, Lib.hid ⟨fun j hj => absurd hj (Nat.not_lt_zero j), Ext.refl _⟩⟩
  case round =>
    obtain ⟨k, hk, rfl, HI⟩ := hrel
    by_cases hlt : k < a.length
    · have hltb : k < b.length := by omega
      obtain ⟨a1, u1, rfl, hc1, hu1⟩ := (Rs.ext RB.ext _ _ _ _ HI.out.2 HA.out).at hlt
      obtain rfl := hu1
      obtain ⟨a2, u2, rfl, hc2, hu2⟩ := (Rs.ext RB.ext _ _ _ _ HI.out.2 HB.out).at hltb
      obtain rfl := hu2
      have g1 := getD_got (x := (0 : UInt8)) hlt
      have g2 := getD_got (x := (0 : UInt8)) hltb
      obtain ⟨x, hx⟩ : ∃ x, a[k] = x := ⟨_, rfl⟩
      obtain ⟨y, hy⟩ : ∃ y, b[k] = y := ⟨_, rfl⟩
      rw [hx] at hc1 g1
      rw [hy] at hc2 g2
      have HG := Lib.hid (And.intro g1 g2)
      clear hx hy g1 g2
      by_cases hxy : x = y
      · subst hxy
        go_wp2_with fail
        go_quiet (fail)
        go_wp2_with fail
        go_roundw
        case rel =>
          refine ⟨k + 1, by omega, by go_num, Lib.hid ⟨fun j hj => ?_, HI.out.2.drewN nq⟩⟩
          by_cases hjk : j = k
          · rw [hjk, HG.out.1, HG.out.2]
          · exact HI.out.1 j (by omega)
        case measure => simp [intOf]; omega
      · have e1 : decide (a = b) = false := decide_eq_false fun e => hxy (by rw [← HG.out.1, ← HG.out.2, e])
        have HE := Lib.hid e1
        have hne : x.toNat ≠ y.toNat := fun e => hxy (UInt8.toNat_inj.mp e)
        clear e1
        go_wp2_with fail
        go_quiet (fail)
        go_wp2_with fail
        go_ret
        exact ⟨ret_bool HE.out.symm, HI.out.2.drewN nq⟩
    · obtain rfl : k = a.length := by omega
      have e1 : decide (a = b) = true := decide_eq_true (row_same HL.out HI.out.1)
      have HE := Lib.hid e1
      clear e1
      go_wp2_with fail
      go_ret
      exact ⟨ret_bool HE.out.symm, HI.out.2⟩
end Go.Proofs.YtdmljilcbndmfaaDoor

/- THE WALK over the specification's lead. -/
namespace Mx
theorem lead_eq {m : Mat} {r c k : Nat} (h1 : r ≤ k) (h2 : k < m.length) (h3 : cell m k c ≠ 0) (h4 : ∀ j, r ≤ j → j < k → cell m j c = 0) : lead m r c = some k := by
  unfold lead
  rw [List.find?_range_eq_some]
  refine ⟨by simp [h1, h3], List.mem_range.mpr h2, fun j hj => ?_⟩
  by_cases hr : r ≤ j
  · simp [hr, h4 j hr hj]
  · simp [hr]
theorem lead_no {m : Mat} {r c : Nat} (h : ∀ j, r ≤ j → j < m.length → cell m j c = 0) : lead m r c = none := by
  cases hl : lead m r c with
  | none => rfl
  | some k =>
    obtain ⟨a, b, d⟩ := lead_some hl
    exact absurd (h k a b) d
end Mx
namespace Go.Proofs.YtdmljilcbndmfaaDoor
open Go.RowKit
end Go.Proofs.YtdmljilcbndmfaaDoor

/- THE WALK over reduce of package matrix. -/
namespace Go.Proofs.YtdmljilcbndmfaaDoor
open Go.RowKit
theorem info_int : (Tryd.prog.info? 3).map (fun i => (i.zero, i.size, i.bytes)) = some (some (.int .i64 0), 1, 8) := by kernel_rfl
abbrev nv (k : Nat) : Value := .int .i64 (k : Int)
section
variable {w0 w : World} {O n : Nat} {hs : List Nat} {m : List (List UInt8)} {X : List LRow}
theorem grid_next (hl : hs.length = m.length) (hm : m.length < n) {H : Nat} {r : List UInt8} (h : Owns w0 w (⟨.slice (some ⟨O, 0, none⟩) n n, 28, 1, n, ((inner hs m).map (fun r : LRow => r.v) ++ List.replicate (n - m.length) (Value.slice none 0 0)).set m.length (.slice (some ⟨H, 0, none⟩) r.length r.length)⟩ :: (inner hs m ++ [inner1 H r]))) :
    Owns w0 w (gridRows O n (hs ++ [H]) (m ++ [r])) := by
  unfold gridRows
  rw [inner_snoc hl]
  have e2 : ((inner hs m).map (fun r : LRow => r.v) ++ List.replicate (n - m.length) (Value.slice none 0 0)).set m.length (.slice (some ⟨H, 0, none⟩) r.length r.length) = (inner hs m ++ [inner1 H r]).map (fun r : LRow => r.v) ++ List.replicate (n - (m ++ [r]).length) (Value.slice none 0 0) := by
    have e3 : (m ++ [r]).length = m.length + 1 := by simp
    obtain ⟨d, hd⟩ : ∃ d, n = m.length + 1 + d := ⟨n - (m.length + 1), by omega⟩
    rw [List.set_append_right _ _ (by rw [List.length_map, inner_length hl]; exact Nat.le_refl _), List.length_map, inner_length hl, e3, Nat.sub_self, hd, show m.length + 1 + d - m.length = d + 1 by omega, show m.length + 1 + d - (m.length + 1) = d by omega, List.replicate_succ]
    simp [inner1]
  rw [← e2]
  exact h
theorem grid_mid (hl : hs.length = m.length) (hn : m.length = n) (h : Owns w0 w (gridRows O n hs m ++ X)) {r k : Nat} (hk : k < m.length) :
    (w.setCell ⟨O, r, none⟩ (inner1 (hs.getD k 0) (Mx.row m k)).v).cell? ⟨O, k, none⟩ = some (inner1 (hs.getD k 0) (Mx.row m k)).v ∧ (w.setCell ⟨O, r, none⟩ (inner1 (hs.getD k 0) (Mx.row m k)).v).frozen? ⟨O, k, none⟩ = false := by
  have h1 := h.store 0 rfl r (inner1 (hs.getD k 0) (Mx.row m k)).v
  refine ⟨?_, h1.frozen 0 rfl k⟩
  refine h1.cell 0 rfl k ?_
  have hcl : (inner hs m).map (fun r : LRow => r.v) ++ List.replicate (n - m.length) (Value.slice none 0 0) = (inner hs m).map (fun r : LRow => r.v) := by rw [hn, Nat.sub_self]; simp
  rw [hcl, List.getElem?_set]
  by_cases e : r = k
  · rw [if_pos e, if_pos (by rw [List.length_map, inner_length hl]; omega)]
  · rw [if_neg e, List.getElem?_map, inner_row hl hk]; rfl
theorem grid_X {x : LRow} {Y : List LRow} (hl : hs.length = m.length) : (gridRows O n hs m ++ x :: Y)[m.length + 1]? = some x := by
  have hlen : (gridRows O n hs m).length = m.length + 1 := by unfold gridRows; simp [inner_length hl]
  rw [List.getElem?_append_right (by omega), hlen, Nat.sub_self]
  rfl
theorem grid_X_set {x y : LRow} {Y : List LRow} (hl : hs.length = m.length) : (gridRows O n hs m ++ x :: Y).set (m.length + 1) y = gridRows O n hs m ++ y :: Y := by
  have hlen : (gridRows O n hs m).length = m.length + 1 := by unfold gridRows; simp [inner_length hl]
  rw [List.set_append_right _ _ (by omega), hlen, Nat.sub_self]
  rfl
end
theorem Owns.nilled {w0 w : World} {L : List LRow} {e : TypeId} (h : Owns w0 w L) : Owns w0 w (L ++ [⟨.slice none 0 0, e, 1, 0, []⟩]) where
  ext := h.ext
  ok i r hr := by
    rw [List.getElem?_append] at hr
    split at hr
    · exact h.ok i r hr
    · have : r = ⟨.slice none 0 0, e, 1, 0, []⟩ := by
        cases hk : i - L.length with
        | zero => rw [hk] at hr; simpa using hr.symm
        | succ k => rw [hk] at hr; simp at hr
      subst this
      exact World.ownsRow_nil _ _ _ _
  far i j a b hij ha hb := by
    rw [List.getElem?_append] at ha hb
    split at ha
    · split at hb
      · exact h.far i j a b hij ha hb
      · have : b = ⟨.slice none 0 0, e, 1, 0, []⟩ := by
          cases hk : j - L.length with
          | zero => rw [hk] at hb; simpa using hb.symm
          | succ k => rw [hk] at hb; simp at hb
        subst this
        exact LRow.far_none rfl
    · have : a = ⟨.slice none 0 0, e, 1, 0, []⟩ := by
        cases hk : i - L.length with
        | zero => rw [hk] at ha; simpa using ha.symm
        | succ k => rw [hk] at ha; simp at ha
      subst this
      exact .inl rfl
theorem Rs.first {α : Type} {R : World → Value → α → Prop} {w : World} {A : Option Addr} {n c k c' : Nat} {xs : List α} (h : Rs R w (.slice A n c) xs) (hk : k ≤ xs.length) : Rs R w (.slice A k c') (xs.take k) := by
  obtain ⟨A', c2, e, hl, h⟩ := h
  injection e with e1 e2 e3
  subst e1
  have hk2 : (xs.take k).length = k := by rw [List.length_take]; omega
  refine ⟨A, c', by rw [hk2], by omega, fun i x hi => ?_⟩
  rw [List.getElem?_take] at hi
  split at hi
  · exact h i x hi
  · cases hi
set_option maxHeartbeats 16000000 in
set_option maxRecDepth 100000 in
theorem xReduce_any (m : Mx.Mat) (n N : Nat) (v : Value) (w : World) (hT : Tab w) (hm : Rs (Rs RB) w v m) (hw : Mx.Rect n m) (hN0 : m.length = N) (h1 : 1 ≤ n) (hn : n ≤ 1000) (h0 : 0 < N) (hN : N ≤ 1000) :
    Calls Tryd.prog 89 #[v] w fun e w' => ∃ R P, e = .returned (.tuple #[R, P]) ∧ Rs (Rs RB) w' R ((Mx.redTo m n).1.take (Mx.redTo m n).2.length) ∧ Rs RI w' P ((Mx.redTo m n).2.map (Nat.cast : Nat → Int)) ∧ Ext w w' := by
  obtain ⟨PA, cP, rfl, hm64⟩ := hm.form
  have hcols : Mx.cols m = n := by unfold Mx.cols; have := hw 0 (by omega); exact this
  obtain ⟨pa, hpa⟩ : ∃ pa, PA = some pa := by
    obtain ⟨pa, u0, hpa, _, _⟩ := hm.at (i := 0) (by omega)
    exact ⟨pa, hpa⟩
  subst hpa
  rw [hN0] at hm
  rw [hN0]
  have HM := Lib.hid (And.intro hm (And.intro hN0 (And.intro hcols hw)))
  have HT := Lib.hid hT
  clear hm hN0 hm64 hcols hw hT
  obtain ⟨i0, hi, hz0, hz1, hz2⟩ := info_parts info_u8
  obtain ⟨j0, hj, hy0, hy1, hy2⟩ := info_parts info_bytes
  have HZ := Lib.hid (And.intro hz2 hy2)
  clear hz2 hy2
  go_enter Tryd.func89, Tryd.ntmps89
  go_wp2_with fail
  go_step3
  go_wp2_with (refine wpList_make_full _ rfl (.tmp 17) (.tmp 17) 65 rfl w.heap.size 28 j0 (.slice none 0 0) 1 Tryd.underlying65 hj hy0 hy1 _ _ _ _ N rfl rfl rfl rfl (by rw [HZ.out.2]; omega) (by unfold maxLen; omega) (Nat.le_refl _) ?_; intro w1 hown hgrow)
  have hx : Ext w w1 := (Ext.refl w).grown hgrow (fun k h => by cases h)
  have hO1 : Owns w w1 (gridRows w.heap.size N [] (m.take 0)) := by
    have h0 := (Owns.start w (L := []) (fun r h => by cases h)).behind hx (v := .slice (some ⟨w.heap.size, 0, none⟩) N N) (e := 28) (s := 1) (n := N) (xs := List.replicate N (.slice none 0 0)) (by
      rw [← toList_madeCells_one]
      simpa [Value.cells] using hown)
    simpa [gridRows, inner] using h0
  have H0 := Lib.hid hO1
  clear hown hgrow hx hO1
  obtain ⟨O, hO⟩ : ∃ O, w.heap.size = O := ⟨_, rfl⟩
  rw [hO] at H0 ⊢
  clear hO
  go_loopw [21] (fun vi wr => ∃ (i : Nat) (hs : List Nat), i ≤ N ∧ vi = .int .i64 (i : Nat) ∧ Hid (hs.length = i ∧ Owns w wr (gridRows O N hs (m.take i)))) (fun vi _ => N - (intOf vi).toNat)
  case atStart => exact ⟨0, [], Nat.zero_le _, rfl, Lib.hid ⟨rfl, H0.out⟩⟩
  case round =>
    obtain ⟨i, hs, hin, rfl, HI⟩ := hrel
    by_cases hlt : i < N
    · have him : i < m.length := by rw [HM.out.2.1]; exact hlt
      have htl : (m.take i).length = i := by rw [List.length_take]; omega
      have hsl : hs.length = (m.take i).length := by rw [htl]; exact HI.out.1
      have hcO : wr.cell? ⟨O, i, none⟩ = some (.slice none 0 0) := HI.out.2.cell 0 rfl i (by
        rw [List.getElem?_append_right (by rw [List.length_map, inner_length hsl, htl]; exact Nat.le_refl _)]
        rw [List.length_map, inner_length hsl, htl, Nat.sub_self, List.getElem?_replicate_of_lt (by omega)])
      have hfO : wr.frozen? ⟨O, i, none⟩ = false := HI.out.2.frozen 0 rfl i
      obtain ⟨ad, u, h0', hc1, hu1⟩ := (Rs.ext (Rs.ext RB.ext) _ _ _ _ HI.out.2.ext HM.out.1).at him
      injection h0' with h0'
      subst h0'
      obtain ⟨RA, cR, rfl, hr64⟩ := hu1.form
      have hml : m[i].length = n := by
        have := HM.out.2.2.2 i him
        rw [Mx.row_at him] at this
        exact this
      obtain ⟨ra, hra⟩ : ∃ ra, RA = some ra := by
        obtain ⟨ra, u2, hra, _, _⟩ := hu1.at (i := 0) (by omega)
        exact ⟨ra, hra⟩
      subst hra
      have hrd := hu1.rd
      rw [hml] at hc1
      obtain ⟨x, hx⟩ : ∃ x, m[i] = x := ⟨_, rfl⟩
      rw [hx] at hrd hml
      have HX := Lib.hid (And.intro hx hml)
      have HRD := Lib.hid hrd
      have HH := Lib.hid (And.intro hsl (And.intro htl him))
      clear hu1 hr64 hx hml hrd hsl htl
      go_wp2_with (refine wpList_make_full _ rfl (.tmp 30) (.tmp 30) 28 rfl wr.heap.size 5 i0 (.int .u8 0) 1 Tryd.underlying28 hi hz0 hz1 _ _ _ _ n rfl rfl rfl rfl (by rw [HZ.out.1]; omega) (by unfold maxLen; omega) (Nat.le_refl _) ?_; intro w2 hown hgrow; have hx2 : Ext wr w2 := (Ext.refl wr).grown hgrow (fun k h => by cases h); have hcO2 := hx2.cell hcO; have hfO2 : w2.frozen? ⟨O, i, none⟩ = false := (HI.out.2.next hx2).frozen 0 rfl i)
      have hO3 : Owns w (w2.setCell ⟨O, i, none⟩ (.slice (some ⟨wr.heap.size, 0, none⟩) n n)) (⟨.slice (some ⟨O, 0, none⟩) N N, 28, 1, N, ((inner hs (m.take i)).map (fun r : LRow => r.v) ++ List.replicate (N - (m.take i).length) (Value.slice none 0 0)).set i (.slice (some ⟨wr.heap.size, 0, none⟩) n n)⟩ :: (inner hs (m.take i) ++ [⟨.slice (some ⟨wr.heap.size, 0, none⟩) n n, 5, 1, n, List.replicate n (.int .u8 0)⟩])) := by
        have hown' : w2.ownsRow wr.heap.size 5 1 (.slice (some ⟨wr.heap.size, 0, none⟩) n n) n (List.replicate n (.int .u8 0)) := by
          rw [← toList_madeCells_one]
          simpa [Value.cells] using hown
        have h1 := (HI.out.2.behind hx2 hown').store 0 rfl i (.slice (some ⟨wr.heap.size, 0, none⟩) n n)
        simpa [gridRows] using h1
      obtain ⟨w3, hw3⟩ : ∃ w3, w2.setCell ⟨O, i, none⟩ (.slice (some ⟨wr.heap.size, 0, none⟩) n n) = w3 := ⟨_, rfl⟩
      rw [hw3] at hO3
      have hP : w3.cell? (pa.add i) = some (.slice (some ra) n cR) := by
        have hold : pa.block < w.heap.size := by
          obtain ⟨ad, u, e, h, _⟩ := HM.out.1.at HH.out.2.2
          injection e with e
          subst e
          have := lt_of_cell h
          rwa [block_add] at this
        obtain ⟨ad, u, e, h, hu⟩ := (Rs.ext (Rs.ext RB.ext) _ _ _ _ hO3.ext HM.out.1).at HH.out.2.2
        injection e with e
        subst e
        have h2 : wr.cell? (pa.add i) = w3.cell? (pa.add i) := by
          rw [Below.cell HI.out.2.ext (by rw [block_add]; exact hold), Below.cell hO3.ext (by rw [block_add]; exact hold)]
        rw [← h2]; exact hc1
      obtain ⟨h, hh⟩ : ∃ h, wr.heap.size = h := ⟨_, rfl⟩
      have hR3 : Rd w3 (some ra) (x.map bv) := by
        have h1 := HM.out.1
        obtain ⟨ad, u, e, hcu, hu⟩ := h1.at HH.out.2.2
        injection e with e
        subst e
        have e2 : u = .slice (some ra) n cR := by
          have a := HI.out.2.ext.cell hcu
          rw [hc1] at a
          injection a with a
          exact a.symm
        subst e2
        have hrd := hu.rd
        rw [HX.out.1] at hrd
        exact Rd.ext hrd hO3.ext
      rw [hh] at hO3 hw3 ⊢
      rw [hw3]
      have H3 := Lib.hid hO3
      have HR3 := Lib.hid hR3
      have hc3 : w3.cell? ⟨O, i, none⟩ = some (.slice (some ⟨h, 0, none⟩) n n) := hO3.cell 0 rfl i (by rw [List.getElem?_set_self (by rw [List.length_append, List.length_map, inner_length HH.out.1, HH.out.2.1]; simp; omega)])
      have hq : (⟨.slice (some ⟨O, 0, none⟩) N N, 28, 1, N, ((inner hs (m.take i)).map (fun r : LRow => r.v) ++ List.replicate (N - (m.take i).length) (Value.slice none 0 0)).set i (.slice (some ⟨h, 0, none⟩) n n)⟩ :: (inner hs (m.take i) ++ [(⟨.slice (some ⟨h, 0, none⟩) n n, 5, 1, n, List.replicate n (.int .u8 0)⟩ : LRow)]))[i + 1]? = some ⟨.slice (some ⟨h, 0, none⟩) n n, 5, 1, n, List.replicate n (.int .u8 0)⟩ := by
        rw [List.getElem?_cons_succ, List.getElem?_append_right (by rw [inner_length HH.out.1, HH.out.2.1]; exact Nat.le_refl _), inner_length HH.out.1, HH.out.2.1, Nat.sub_self]
        rfl
      have hxl := HX.out.2
      clear hown hgrow hcO hfO hcO2 hfO2 hO3 hw3 hh hc1 hx2 hR3
      go_wp2_with fail
      refine wp_atEnd' (rd_copy w w3 O N n i h cP cR pa ra x _ (i + 1) _ hlt hxl hc3 hP HR3 H3 hq _ _ _ _ _ _ _ _ _ _ _ _ _ _ _ _ _ _ _ _ _ _ _ _ _ _ _ _ _ _ _ _ _ _ _ _ _ _ _ _ _ _ _ _ _ _ _ _ _ _ _ _ _ _ _ _ _ _ _ _ _ _ _ _ _ _ _ _ _ _ _ _ _ _ _ _ _ _ _ _ _ _ _ _ _ _ _ _ _ _ _ _ _ _ _ _ _ _ _ _ _ _ _ _ _ _ _ _ _ _ _ _ _ _ _ _ _ _ _ _ _ _ _ _ _ _ _ _ _ _ _ _ _ _ _ _ _ _ _ _ _ _ _ _ _ _ _ _ _ _ _ _ _ _ _ _ _ _ _ _ _ _ _ _ _ _ _ _ _ _ ?_)
      intro u33 u34 u35 u36 u37 u38 u39 u40 u41 wx hx
      have hnext : Owns w wx (gridRows O N (hs ++ [h]) (m.take (i + 1))) := by
        have h2 : ∀ x y : LRow, (inner hs (m.take i) ++ [x]).set i y = inner hs (m.take i) ++ [y] := fun x y => by rw [List.set_append_right _ _ (by rw [inner_length HH.out.1, HH.out.2.1]; exact Nat.le_refl _), inner_length HH.out.1, HH.out.2.1, Nat.sub_self, List.set_cons_zero]
        rw [List.set_cons_succ, h2] at hx
        rw [List.take_succ_eq_append_getElem HH.out.2.2, HX.out.1]
        refine grid_next HH.out.1 (by rw [HH.out.2.1]; exact hlt) ?_
        have e1 : inner1 h x = ⟨.slice (some ⟨h, 0, none⟩) n n, 5, 1, n, x.map bv⟩ := by unfold inner1; rw [HX.out.2]
        rw [e1, HX.out.2, HH.out.2.1]
        rw [HH.out.2.1] at hx
        exact hx
      have HN := Lib.hid hnext
      clear hx hnext hc3 hP hq hxl
      go_wp2_with fail
      go_roundw
      case rel => exact ⟨i + 1, hs ++ [h], by omega, by go_num, Lib.hid ⟨by rw [List.length_append, HI.out.1]; rfl, HN.out⟩⟩
      case measure => simp [intOf]; omega
    · obtain rfl : N = i := by omega
      obtain ⟨m2, hm2⟩ : ∃ m2, m.take N = m2 := ⟨_, rfl⟩
      have hmm : m2 = m := by rw [← hm2, List.take_of_length_le (by rw [HM.out.2.1]; exact Nat.le_refl _)]
      have hO2 := HI.out.2
      rw [hm2, hmm] at hO2
      have hsl := HI.out.1
      have H2 := Lib.hid (And.intro hsl hO2)
      have HMR : Hid (Rs (Rs RB) wr (.slice (some pa) N cP) m) := Lib.hid (Rs.ext (Rs.ext RB.ext) _ _ _ _ hO2.ext HM.out.1)
      clear hO2 hm2 hmm hsl HI
      go_wp2_with fail
      go_step3
      go_wp2_with fail
      refine (xCols_any m _ _ HMR.out).mono ?_
      rintro e w' ⟨rfl, rfl⟩
      rw [HM.out.2.2.1]
      obtain ⟨wo, rfl⟩ : ∃ wo, wo = wr := ⟨_, rfl⟩
      go_wp2_with fail
      go_loopw [6, 45] (fun vp vi wr => ∃ (c : Nat) (g : List Nat) (pA : Option Addr) (pc p : Nat), c ≤ n ∧ vi = .int .i64 (c : Nat) ∧ vp = .slice pA p pc ∧ p ≤ N ∧ Hid (p = (Mx.redTo m c).2.length ∧ g.length = N ∧ Owns w wr (gridRows O N g (Mx.redTo m c).1 ++ [⟨.slice pA p pc, 3, 1, p, (Mx.redTo m c).2.map nv⟩]))) (fun _ vi _ => n - (intOf vi).toNat)
      case atStart => exact ⟨0, hs, none, 0, 0, Nat.zero_le _, rfl, rfl, Nat.zero_le _, Lib.hid ⟨rfl, H2.out.1, H2.out.2.nilled⟩⟩
      case round =>
        obtain ⟨wx, rfl⟩ : ∃ wx, wx = wr := ⟨_, rfl⟩
        obtain ⟨c, g, pA, pc, p, hcn, rfl, rfl, hpN, HC⟩ := hrel
        have red := Mx.red_to HM.out.2.2.2 c
        obtain ⟨R, hR⟩ : ∃ R, (Mx.redTo m c).1 = R := ⟨_, rfl⟩
        obtain ⟨P, hP⟩ : ∃ P, (Mx.redTo m c).2 = P := ⟨_, rfl⟩
        rw [hR, hP] at HC red
        have HRP := Lib.hid (And.intro hR hP)
        have hRl : R.length = N := red.len.trans HM.out.2.1
        have HRL := Lib.hid (And.intro hRl red)
        clear hR hP red hRl
        by_cases hlt : c < n
        · go_wp2_with fail
          go_loopw [6, 9] (fun vq vk wi => ∃ k : Nat, p ≤ k ∧ k ≤ N ∧ vk = .int .i64 (k : Nat) ∧ vq = .slice pA p pc ∧ Hid ((∀ j, p ≤ j → j < k → Mx.cell R j c = 0) ∧ Owns w wi (gridRows O N g R ++ [⟨.slice pA p pc, 3, 1, p, P.map nv⟩]))) (fun _ vk _ => N - (intOf vk).toNat)
          case atStart => exact ⟨p, Nat.le_refl _, hpN, rfl, rfl, Lib.hid ⟨fun j h1 h2 => absurd h2 (by omega), HC.out.2.2⟩⟩
          case round =>
            obtain ⟨k, hpk, hkN, rfl, rfl, HK⟩ := hrel
            by_cases hk : k < N
            · have hl : g.length = R.length := by rw [HC.out.2.1, HRL.out.1]
              have hkR : k < R.length := by rw [HRL.out.1]; exact hk
              have hpR : p < R.length := by omega
              have hrow : ∀ i, i < R.length → (Mx.row R i).length = n := HRL.out.2.rect
              have c1 := grid_outer hl HK.out.2 hkR
              have c2 := grid_cell hl HK.out.2 hkR (j := c) (by rw [hrow k hkR]; exact hlt)
              have d1 := grid_outer hl HK.out.2 hpR
              have m1 := grid_mid (r := p) hl HRL.out.1 HK.out.2 hkR
              have sw := grid_swap hl HRL.out.1 HK.out.2 hpR hkR
              have f1 : wr.frozen? ⟨O, p, none⟩ = false := HK.out.2.frozen 0 rfl p
              unfold inner1 at m1 sw
              dsimp only at m1 sw
              rw [hrow k hkR] at c1 m1 sw
              rw [hrow p hpR] at d1 sw
              obtain ⟨b, hb⟩ : ∃ b, Mx.cell R k c = b := ⟨_, rfl⟩
              rw [hb] at c2
              obtain ⟨gk, hgk⟩ : ∃ gk, g.getD k 0 = gk := ⟨_, rfl⟩
              obtain ⟨gp, hgp⟩ : ∃ gp, g.getD p 0 = gp := ⟨_, rfl⟩
              rw [hgk] at c1 c2 m1 sw
              rw [hgp] at d1 sw
              have HB := Lib.hid hb
              have HG := Lib.hid (And.intro hgk (And.intro hl (And.intro hkR hpR)))
              have HROW := Lib.hid hrow
              have HSW := Lib.hid sw
              have HM1 := Lib.hid m1
              clear hb hgk hgp hl hkR hpR hrow sw m1
              by_cases hb0 : b = 0
              · subst hb0
                clear d1 f1
                go_wp2_with fail
                clear c1 c2
                go_roundw
                case rel =>
                  refine ⟨k + 1, by omega, by omega, by go_num, (by first | trivial | rfl), Lib.hid ⟨fun j h1 h2 => ?_, HK.out.2⟩⟩
                  by_cases e : j = k
                  · rw [e]; exact HB.out
                  · exact HK.out.1 j h1 (by omega)
                case measure => simp [intOf]; omega
              · have HNZ := Lib.hid hb0
                have hbe : (((b.toNat : Nat) : Int) == 0) = false := by
                  rw [beq_eq_false_iff_ne]
                  intro h
                  exact hb0 (UInt8.toNat_inj.1 (by have : b.toNat = 0 := by omega
                                                   exact this))
                have hb1 : ¬ ((b.toNat : Nat) : Int) = 0 := fun h => hb0 (UInt8.toNat_inj.1 (by have : b.toNat = 0 := by omega
                                                                                                exact this))
                clear hb0
                go_wp2_with fail
                have hp2 : p < N := by omega
                refine wp_atEnd' (rd_swap wr O N p k gp gk n n hp2 hk d1 c1 f1 HM1.out.1 HM1.out.2 _ _ _ _ _ _ _ _ _ _ _ _ _ _ _ _ _ _ _ _ _ _ _ _ _ _ _ _ _ _ _ _ _ _ _ _ _ _ _ _ _ _ _ _ _ _ _ _ _ _ _ _ _ _ _ _ _ _ _ _ _ _ _ _ _ _ _ _ _ _ _ _ _ _ _ _ _ _ _ _ _ _ _ _ _ _ _ _ _ _ _ _ _ _ _ _ _ _ _ _ _ _ _ _ _ _ _ _ _ _ _ _ _ _ _ _ _ _ _ _ _ _ _ _ _ _ _ _ _ _ _ _ _ _ _ _ _ _ _ _ _ _ _ _ _ _ _ _ _ _ _ _ _ _ _ _ _ _ _ _ _ _ _ _ _ _ _ _ _ _ ?_)
                intro u65 u66 u67 u68 u69 u70 u71 u72 u73 u74 u75 u76 u77 u78 wy hy
                have hOy : Owns w wy (gridRows O N (swapH g p k) (Mx.swap R p k) ++ [⟨.slice pA p pc, 3, 1, p, P.map nv⟩]) := by rw [hy]; exact HSW.out.drew
                obtain ⟨R1, hR1⟩ : ∃ R1, Mx.swap R p k = R1 := ⟨_, rfl⟩
                obtain ⟨g1, hg1⟩ : ∃ g1, swapH g p k = g1 := ⟨_, rfl⟩
                have hl1 : g1.length = R1.length := by rw [← hR1, ← hg1, swapH_length, Mx.swap_length]; exact HG.out.2.1
                have hR1l : R1.length = N := by rw [← hR1, Mx.swap_length]; exact HRL.out.1
                have hrowp : Mx.row R1 p = Mx.row R k := by
                  rw [← hR1, Mx.swap_row _ HG.out.2.2.2 HG.out.2.2.1]
                  by_cases e : p = k
                  · rw [if_pos e, e]
                  · rw [if_neg e, if_pos rfl]
                have hrow1 : ∀ i, i < R1.length → (Mx.row R1 i).length = n := fun i hi => by
                  rw [← hR1, Mx.swap_row _ HG.out.2.2.2 HG.out.2.2.1]
                  split
                  · exact HROW.out p HG.out.2.2.2
                  · split
                    · exact HROW.out k HG.out.2.2.1
                    · exact HROW.out i (by rw [HRL.out.1, ← hR1l]; exact hi)
                rw [hR1, hg1] at hOy
                have hp1 : p < R1.length := by rw [hR1l]; exact hp2
                have e1 := grid_outer hl1 hOy hp1
                have e2 := grid_cell hl1 hOy hp1 (j := c) (by rw [hrow1 p hp1]; exact hlt)
                rw [hrow1 p hp1] at e1
                have hcell : Mx.cell R1 p c = b := by
                  have := HB.out
                  unfold Mx.cell at this ⊢
                  rw [hrowp]; exact this
                rw [hcell] at e2
                obtain ⟨h1, hh1⟩ : ∃ h1, g1.getD p 0 = h1 := ⟨_, rfl⟩
                rw [hh1] at e1 e2
                have HOy := Lib.hid hOy
                have hTy : Tab wy := HT.out.ext hOy.ext
                have HTy := Lib.hid hTy
                have HR1 := Lib.hid (And.intro hR1 (And.intro hrowp (And.intro hl1 (And.intro hR1l (And.intro hrow1 hp1)))))
                clear hy hOy hR1 hg1 hl1 hR1l hrowp hrow1 hp1 hcell hh1 hTy c1 c2 d1 f1
                go_wp2_with fail
                refine (inv_u8 b _ HTy.out).mono ?_
                rintro e w' ⟨rfl, rfl⟩
                go_wp2_with fail
                refine rd_mulL w wy O N n p g1 R1 _ (Gf.inv b) hp2 hn (Lib.hid ⟨HR1.out.2.2.1, HR1.out.2.2.2.1, HR1.out.2.2.2.2.1 p HR1.out.2.2.2.2.2⟩) HT HOy _ _ _ _ _ _ _ _ _ _ _ _ _ _ _ _ _ _ _ _ _ _ _ _ _ _ _ _ _ _ _ _ _ _ _ _ _ _ _ _ _ _ _ _ _ _ _ _ _ _ _ _ _ _ _ _ _ _ _ _ _ _ _ _ _ _ _ _ _ _ _ _ _ _ _ _ _ _ _ _ _ _ _ _ _ _ _ _ _ _ _ _ _ _ _ _ _ _ _ _ _ _ _ _ _ _ _ _ _ _ _ _ _ _ _ _ _ _ _ _ _ _ _ _ _ _ _ _ _ _ _ _ _ _ _ _ _ _ _ _ _ _ _ _ _ _ _ _ _ _ _ _ _ _ _ _ _ _ _ _ _ _ _ _ _ _ _ _ ?_
                intro u12 u95 u96 u97 u98 u99 u100 u101 u102 u103 u104 u105 u106 u107 u108 u109 u110 u111 u112 u113 wz hz
                obtain ⟨t, ht⟩ : ∃ t, Mx.topRow R k c = t := ⟨_, rfl⟩
                have hhalf : Mx.half (Mx.mulF (Gf.inv b) (Mx.row R1 p)) (Mx.row R1 p) n = t := by
                  have a := Mx.half_mul (Gf.inv b) (Mx.row R1 p)
                  rw [HR1.out.2.2.2.2.1 p HR1.out.2.2.2.2.2] at a
                  rw [a, HR1.out.2.1, ← ht]
                  unfold Mx.topRow
                  rw [HB.out]
                rw [hhalf] at hz
                have HZ := Lib.hid hz
                have HTT := Lib.hid ht
                have htl : t.length = n := by
                  rw [← ht]; unfold Mx.topRow; rw [List.length_map]; exact HROW.out k HG.out.2.2.1
                have hL2 : g1.length = (R1.set p t).length ∧ (R1.set p t).length = N ∧ ∀ i, i < (R1.set p t).length → (Mx.row (R1.set p t) i).length = n := by
                  refine ⟨by rw [List.length_set]; exact HR1.out.2.2.1, by rw [List.length_set]; exact HR1.out.2.2.2.1, fun i hi => ?_⟩
                  rw [List.length_set] at hi
                  rw [Mx.row_set HR1.out.2.2.2.2.2]
                  split
                  · exact htl
                  · exact HR1.out.2.2.2.2.1 i hi
                have HL2 := Lib.hid hL2
                clear hz hhalf ht htl hL2 e1 e2
                go_wp2_with fail
                refine rd_cleanL w wz O N n p c g1 (R1.set p t) _ hp2 hlt hn hN HL2 HT HZ _ _ _ _ _ _ _ _ _ _ _ _ _ _ _ _ _ _ _ _ _ _ _ _ _ _ _ _ _ _ _ _ _ _ _ _ _ _ _ _ _ _ _ _ _ _ _ _ _ _ _ _ _ _ _ _ _ _ _ _ _ _ _ _ _ _ _ _ _ _ _ _ _ _ _ _ _ _ _ _ _ _ _ _ _ _ _ _ _ _ _ _ _ _ _ _ _ _ _ _ _ _ _ _ _ _ _ _ _ _ _ _ _ _ _ _ _ _ _ _ _ _ _ _ _ _ _ _ _ _ _ _ _ _ _ _ _ _ _ _ _ _ _ _ _ _ _ _ _ _ _ _ _ _ _ _ _ _ _ _ _ _ _ _ _ _ _ _ ?_
                intro u13 u14 u15 u116 u117 u118 u119 u120 u121 u122 u123 u124 u125 u126 u127 u128 u129 u130 u131 u132 u133 u134 u135 u136 u137 u138 u139 u140 u141 u142 u143 u144 u145 u146 u147 u148 u149 u150 u151 u152 u153 u154 u155 u156 u157 u158 u159 u160 wu hu
                have hpiv : Mx.cleanTo p c (Mx.row (R1.set p t) p) (R1.set p t) N = Mx.pivot R p k c := by
                  rw [Mx.row_set_self HR1.out.2.2.2.2.2, ← HR1.out.2.2.2.1, Mx.cleanTo_full t HR1.out.2.2.2.2.2, ← HTT.out, ← HR1.out.1]
                  rfl
                rw [hpiv] at hu
                have hpl : g1.length = (Mx.pivot R p k c).length := by rw [Mx.pivot_length, HRL.out.1, HR1.out.2.2.1, HR1.out.2.2.2.1]
                have hpN : (Mx.pivot R p k c).length = N := by rw [Mx.pivot_length]; exact HRL.out.1
                have HU := Lib.hid hu
                have HPL := Lib.hid (And.intro hpl hpN)
                clear hu hpiv hpl hpN
                have hX : (gridRows O N g1 (Mx.pivot R p k c) ++ [(⟨.slice pA p pc, 3, 1, p, P.map nv⟩ : LRow)] ++ [(⟨.slice (some ⟨wu.heap.size, 0, none⟩) 1 1, 3, 1, 1, [nv c]⟩ : LRow)])[(Mx.pivot R p k c).length + 1]? = some ⟨.slice pA p pc, 3, 1, p, P.map nv⟩ := by
                  rw [List.append_assoc]; exact grid_X HPL.out.1
                have HXX := Lib.hid hX
                clear hX
                go_wp2_with (refine wpl_append_owns (u := nv c) 27 3 rfl (.tmp 161) (.tmp 163) rfl Tryd.underlying27 info_int rfl HU.out.push1 ((Mx.pivot R p k c).length + 1) HXX.out rfl rfl (cell_of_row _ _ 0 _ _ (0, 0) (heap_new _ _)) rfl (by omega) (by decide) ?_; intro g9 c9 w9 hO9 hg9)
                have hfin : Owns w w9 (gridRows O N g1 (Mx.pivot R p k c) ++ [⟨.slice (some ⟨g9, 0, none⟩) (p + 1) c9, 3, 1, p + 1, (P ++ [c]).map nv⟩]) := by
                  rw [List.append_assoc, List.singleton_append, grid_X_set HPL.out.1] at hO9
                  refine Owns.front (M := [⟨.slice (some ⟨wu.heap.size, 0, none⟩) 1 1, 3, 1, 1, [nv c]⟩]) ?_
                  rw [List.append_assoc, List.singleton_append, List.map_append]
                  exact hO9
                have hlead : Mx.lead R p c = some k := Mx.lead_eq hpk HG.out.2.2.1 (by rw [HB.out]; exact HNZ.out) HK.out.1
                have hstep : Mx.redTo m (c + 1) = (Mx.pivot R p k c, P ++ [c]) := by
                  rw [Mx.redTo]
                  unfold Mx.colStep
                  rw [HRP.out.1, HRP.out.2, ← HC.out.1, hlead]
                have HFI := Lib.hid (And.intro hfin hstep)
                clear hO9 hg9 hfin hlead hstep
                go_wp2_with fail
                go_roundw
                case rel => exact ⟨c + 1, g1, some ⟨g9, 0, none⟩, c9, p + 1, by omega, by go_num, (by first | trivial | rfl), by omega, Lib.hid ⟨by rw [HFI.out.2, List.length_append, ← HC.out.1]; rfl, by rw [HPL.out.1]; exact HPL.out.2, by rw [HFI.out.2]; exact HFI.out.1⟩⟩
                case measure => simp [intOf]; omega
            · obtain rfl : N = k := by omega
              have hlead : Mx.lead R p c = none := Mx.lead_no (fun j h1 h2 => HK.out.1 j h1 (by rw [← HRL.out.1]; exact h2))
              have hstep : Mx.redTo m (c + 1) = (R, P) := by
                rw [Mx.redTo]
                unfold Mx.colStep
                rw [HRP.out.1, HRP.out.2, ← HC.out.1, hlead]
                exact Prod.ext HRP.out.1 HRP.out.2
              have HST := Lib.hid hstep
              clear hlead hstep
              go_wp2_with fail
              go_roundw
              case rel => exact ⟨c + 1, g, pA, pc, p, by omega, by go_num, (by first | trivial | rfl), hpN, Lib.hid ⟨by rw [HST.out]; exact HC.out.1, HC.out.2.1, by rw [HST.out]; exact HK.out.2⟩⟩
              case measure => simp [intOf]; omega
        · obtain rfl : n = c := by omega
          have hl : g.length = R.length := by rw [HC.out.2.1, HRL.out.1]
          have hall : Rs (Rs RB) wx (.slice (some ⟨O, 0, none⟩) N N) R := by
            have h1 := grid_rs (X := [⟨.slice pA p pc, 3, 1, p, P.map nv⟩]) (w0 := w) (O := O) hl (by rw [HRL.out.1]; exact HC.out.2.2) (fun r hr => by
              obtain ⟨i, hi, rfl⟩ := List.getElem_of_mem hr
              have := HRL.out.2.rect i hi
              rw [Mx.row_at hi] at this
              omega) (by rw [HRL.out.1]; omega)
            rw [HRL.out.1] at h1
            exact h1
          have hpv : Rs RI wx (.slice pA p pc) (P.map (Nat.cast : Nat → Int)) := by
            have hrd : Rd wx pA (P.map nv) := HC.out.2.2.rd (R.length + 1) (n := p) (c := pc) (e := 3) (grid_X hl)
            refine ⟨pA, pc, by rw [List.length_map, HC.out.1], by rw [List.length_map, ← HC.out.1]; omega, fun i x hi => ?_⟩
            rw [List.getElem?_map] at hi
            obtain ⟨y, hy, rfl⟩ := Option.map_eq_some_iff.1 hi
            obtain ⟨ad, hA, _, hcell⟩ := hrd i (nv y) (by rw [List.getElem?_map, hy]; rfl)
            have hyn : y < n := by
              obtain ⟨hi2, rfl⟩ := List.getElem?_eq_some_iff.1 hy
              have := HRL.out.2.lt i hi2
              rw [List.getD_eq_getElem?_getD, List.getElem?_eq_getElem hi2] at this
              exact this
            exact ⟨ad, _, hA, hcell, rfl, by omega, by omega⟩
          have HALL := Lib.hid (And.intro hall hpv)
          clear hall hpv hl
          have hle : p ≤ N := hpN
          go_wp2_with fail
          try rw [Exit.noGoto_ret]
          (first | go_ret2 | go_ret)
          refine ⟨_, _, rfl, ?_, ?_, HC.out.2.2.ext⟩
          · rw [HRP.out.1, HRP.out.2, ← HC.out.1]
            exact HALL.out.1.first (by rw [HRL.out.1]; exact hpN)
          · rw [HRP.out.2]; exact HALL.out.2
end Go.Proofs.YtdmljilcbndmfaaDoor

/- THE WALK over solve of package matrix. -/
namespace Mx
/-- A solution of a system that has been reduced, if there is one. -/
def solved (A : Mat) (n : Nat) : Option (List UInt8) :=
  if n ∈ (redTo A (n + 1)).2 then none else some (solTo (redTo A (n + 1)).1 (redTo A (n + 1)).2 n (redTo A (n + 1)).2.length)
theorem solved_none {A : Mat} {n : Nat} (h : n ∈ (redTo A (n + 1)).2) : solved A n = none := if_pos h
theorem solved_some {A : Mat} {n : Nat} (h : n ∉ (redTo A (n + 1)).2) : solved A n = some (solTo (redTo A (n + 1)).1 (redTo A (n + 1)).2 n (redTo A (n + 1)).2.length) := if_neg h
theorem expr_solved (rows : Mat) (b : List UInt8) : expr rows b = solved (aug rows b) rows.length := rfl
end Mx
namespace Go.Proofs.YtdmljilcbndmfaaDoor
open Go.RowKit
theorem info_bool : (Tryd.prog.info? 4).map (fun i => (i.zero, i.size, i.bytes)) = some (some (.bool false), 1, 1) := by kernel_rfl
theorem Owns.made {w0 w w' : World} {L : List LRow} (h : Owns w0 w L) (i : Nat) {v : Value} {e s n : Nat} {xs : List Value} (hx : Ext w w') (ho : w'.ownsRow w.heap.size e s v n xs) : Owns w0 w' (L.set i ⟨v, e, s, n, xs⟩) :=
  (h.next hx).put i _ (h.ext.trans hx) ⟨ho.1, ho.2.imp id fun ⟨g, cap, cur, h1, h2, r⟩ => ⟨g, cap, cur, h1, Nat.le_trans h.ext.size h2, r⟩⟩ (fun _ _ _ _ _ _ => rfl) (fun j r _ hr => by
    unfold LRow.far
    cases hv : v.ownBlock with
    | none => exact .inl rfl
    | some g =>
      refine .inr fun hh => ?_
      have h1 := (World.ownsRow.lt (h.ok j r hr) g (by rw [← hh])).2
      have h2 := (ho.lt g hv).1
      omega)
theorem ex_make {P : Program} {o : Oper} {a : Act} {w w' : World} {t : TypeId} {l c : Operand} {x y v : Value} (ho : o.op = .makeSlice t l c) (hl : a.eval l = x) (hc : a.eval c = y) (hr : (Instr.makeSlice t x y).run P w = .ok v w') : (execOp a.eval o).run P w = .ok (.value v) w' := by
  unfold execOp
  simp only [ho, hl, hc, hr, Sem.run_bind, Sem.run_pure, Result.andThen_ok]
set_option maxHeartbeats 8000000 in
set_option maxRecDepth 100000 in
theorem xSolve1_any (m : Mx.Mat) (b : List UInt8) (n i k PU PM PB : Nat) (vm vb : Value) (w : World) (hM : Rs (Rs RB) w vm m) (hB : Rs RB w vb b) (hw : Mx.Rect n m) (hl : m.length = b.length) (hi : i < b.length)
    (c1 : w.cell? ⟨PU, 0, none⟩ = some (.int .i64 (n : Nat))) (c2 : w.cell? ⟨PM, 0, none⟩ = some vm) (c3 : w.cell? ⟨PB, 0, none⟩ = some vb) :
    Calls Tryd.prog 90 #[.int .i64 (i : Nat), .int .i64 (k : Nat), .pointer (some ⟨PU, 0, none⟩), .pointer (some ⟨PM, 0, none⟩), .pointer (some ⟨PB, 0, none⟩)] w fun e w' => e = .returned (bv (if k < n then Mx.cell m i k else b.getD i 0)) ∧ w = w' := by
  obtain ⟨MA, cM, rfl, hm64⟩ := hM.form
  obtain ⟨BA, cB, rfl, hb64⟩ := hB.form
  by_cases hk : k < n
  · rw [if_pos hk]
    obtain ⟨a1, u1, rfl, hc1, hu1⟩ := hM.at (i := i) (by omega)
    obtain ⟨QA, cQ, rfl, hq64⟩ := hu1.form
    have hrl : m[i].length = n := by
      have := hw i (by omega)
      rw [Mx.row_at (by omega)] at this
      exact this
    obtain ⟨a2, u2, rfl, hc2, hu2⟩ := hu1.at (i := k) (by rw [hrl]; exact hk)
    obtain rfl := hu2
    have hcell : Mx.cell m i k = m[i][k] := by
      unfold Mx.cell Mx.row
      rw [getD_got (show i < m.length by omega), getD_got (show k < m[i].length by rw [hrl]; exact hk)]
    rw [hcell]
    obtain ⟨x, hx⟩ : ∃ x, m[i][k] = x := ⟨_, rfl⟩
    rw [hx] at hc2 ⊢
    rw [hrl] at hc1
    rw [hl] at c2
    have him : (i : Int) < (b.length : Int) := by omega
    obtain ⟨N, hN⟩ : ∃ N, b.length = N := ⟨_, rfl⟩
    rw [hN] at c2 c3 him
    have hN2 : m.length = N := by omega
    clear hx hcell hrl hu1 hM hB hw hl hm64 hb64 hq64 hN hN2 hi
    go_enter Tryd.func90, Tryd.ntmps90
    go_wp2_with fail
    go_ret
    exact ⟨rfl, rfl⟩
  · rw [if_neg hk]
    obtain ⟨a2, u2, rfl, hc2, hu2⟩ := hB.at (i := i) hi
    obtain rfl := hu2
    rw [getD_got hi]
    obtain ⟨x, hx⟩ : ∃ x, b[i] = x := ⟨_, rfl⟩
    rw [hx] at hc2 ⊢
    have him : (i : Int) < (b.length : Int) := by omega
    obtain ⟨N, hN⟩ : ∃ N, b.length = N := ⟨_, rfl⟩
    rw [hN] at c3 him
    clear hx hM hB hw hm64 hb64
    go_enter Tryd.func90, Tryd.ntmps90
    go_wp2_with fail
    go_ret
    exact ⟨rfl, rfl⟩
noncomputable def so_make_code : Code := ((Tryd.f68.body.bind (regionOf 2)).getD .skip)
def so_make_dsts : List (Option Nat) := [some 28, some 29, some 30, some 31, some 6, some 11]
theorem so_make_apart : apartD so_make_dsts = true := by decide +kernel
set_option maxRecDepth 1000000 in
set_option maxHeartbeats 16000000 in
theorem so_make (w0 wr : World) (U n : Nat) (hx0 : Ext w0 wr) (hn : n ≤ 1000) (hU2 : w0.cell? ⟨U, 0, none⟩ = some (.int .i64 (n : Nat))) (c0 c1 c2 c3 c4 c6 c7 c8 c9 c10 c11 c12 c13 c14 c15 c16 c17 c18 c19 c20 c21 c22 c23 c24 c25 c26 c27 c28 c29 c30 c31 c32 c33 c34 c35 c36 c37 c38 c39 c40 c41 c42 c43 c44 c45 c46 c47 c48 c49 c50 c51 c52 c53 c54 c55 c56 c57 c58 c59 c60 c61 c62 c63 c64 c65 c66 c67 c68 c69 c70 c71 c72 c73 c74 c75 c76 c77 c78 c79 c80 c81 c82 c83 c84 c85 c86 c87 c88 c89 c90 c91 c92 c93 : Value) (df : List Deferred) (K : Act → World → Prop)
    (hK : ∀ (gx gb : Nat) (u28 u29 u30 u31 : Value) (wx : World), Owns w0 wx [⟨.slice (some ⟨gx, 0, none⟩) n n, 5, 1, n, List.replicate n (.int .u8 0)⟩, ⟨.slice (some ⟨gb, 0, none⟩) n n, 4, 1, n, List.replicate n (.bool false)⟩] → K ⟨#[c0, c1, c2, c3, c4, .pointer (some ⟨U, 0, none⟩), .slice (some ⟨gx, 0, none⟩) n n, c7, c8, c9, c10, .slice (some ⟨gb, 0, none⟩) n n, c12, c13, c14, c15, c16, c17, c18, c19, c20, c21, c22, c23, c24, c25, c26, c27, u28, u29, u30, u31, c32, c33, c34, c35, c36, c37, c38, c39, c40, c41, c42, c43, c44, c45, c46, c47, c48, c49, c50, c51, c52, c53, c54, c55, c56, c57, c58, c59, c60, c61, c62, c63, c64, c65, c66, c67, c68, c69, c70, c71, c72, c73, c74, c75, c76, c77, c78, c79, c80, c81, c82, c83, c84, c85, c86, c87, c88, c89, c90, c91, c92, c93], df⟩ wx) :
    Code.wp Tryd.prog so_make_code (AtEnd K) ⟨#[c0, c1, c2, c3, c4, .pointer (some ⟨U, 0, none⟩), c6, c7, c8, c9, c10, c11, c12, c13, c14, c15, c16, c17, c18, c19, c20, c21, c22, c23, c24, c25, c26, c27, c28, c29, c30, c31, c32, c33, c34, c35, c36, c37, c38, c39, c40, c41, c42, c43, c44, c45, c46, c47, c48, c49, c50, c51, c52, c53, c54, c55, c56, c57, c58, c59, c60, c61, c62, c63, c64, c65, c66, c67, c68, c69, c70, c71, c72, c73, c74, c75, c76, c77, c78, c79, c80, c81, c82, c83, c84, c85, c86, c87, c88, c89, c90, c91, c92, c93], df⟩ wr := by
  obtain ⟨i0, hi, hz0, hz1, hz2⟩ := info_parts info_u8
  obtain ⟨j0, hj, hy0, hy1, hy2⟩ := info_parts info_bool
  conv => arg 2; whnf
  refine region_inv (by kernel_rfl) [[], [0, 0], [], [2, 2], [1, 0, 1], [3, 4, 0, 1, 2, 3, 4]] (by kernel_rfl) [0, 1, 2, 3, 4, 5] (by decide +kernel) (by decide +kernel) (by decide +kernel) (fun L a wc => ∃ (gx : Nat) (gb : Nat), Inv so_make_dsts [.int .i64 (n : Nat), .slice (some ⟨gx, 0, none⟩) n n, .int .i64 (n : Nat), .slice (some ⟨gb, 0, none⟩) n n, .slice (some ⟨gx, 0, none⟩) n n, .slice (some ⟨gb, 0, none⟩) n n] ⟨#[c0, c1, c2, c3, c4, .pointer (some ⟨U, 0, none⟩), c6, c7, c8, c9, c10, c11, c12, c13, c14, c15, c16, c17, c18, c19, c20, c21, c22, c23, c24, c25, c26, c27, c28, c29, c30, c31, c32, c33, c34, c35, c36, c37, c38, c39, c40, c41, c42, c43, c44, c45, c46, c47, c48, c49, c50, c51, c52, c53, c54, c55, c56, c57, c58, c59, c60, c61, c62, c63, c64, c65, c66, c67, c68, c69, c70, c71, c72, c73, c74, c75, c76, c77, c78, c79, c80, c81, c82, c83, c84, c85, c86, c87, c88, c89, c90, c91, c92, c93], df⟩ L a ∧ Hid (Owns w0 wc [if L 1 = true then ⟨.slice (some ⟨gx, 0, none⟩) n n, 5, 1, n, List.replicate n (.int .u8 0)⟩ else no, if L 3 = true then ⟨.slice (some ⟨gb, 0, none⟩) n n, 4, 1, n, List.replicate n (.bool false)⟩ else no])) ⟨0, 0, Inv.start, Lib.hid (Owns.next (Owns.start w0 (fun r hr => by simp [no] at hr; subst hr; exact ⟨rfl, rfl, rfl⟩)) hx0.drew)⟩ ?_ ?_
  · refine ⟨?_, ?_, ?_, ?_, ?_, ?_, trivial⟩
    ·
      rintro L a wc ⟨gx, gb, hv, HO⟩ hL hc hd
      have h0 : wc.cell? ⟨U, 0, none⟩ = some (.int .i64 (n : Nat)) := HO.out.ext.cell hU2
      exact wpOp_val rfl rfl (ex_load rfl ((hv.fixed 5 (by decide)).trans rfl) (by go_simp)) ⟨gx, gb, hv.put so_make_apart 0 rfl (lb rfl) (lb rfl) rfl, HO⟩
    ·
      rintro L a wc ⟨gx, gb, hv, HO⟩ hL hc hd
      obtain ⟨w2, hrun, r1, r2⟩ := run_make_full (P := Tryd.prog) (w := wc) wc.heap.size 28 5 i0 (.int .u8 0) 1 Tryd.underlying28 hi hz0 hz1 .i64 .i64 n (by rw [hz2]; omega) (by unfold maxLen; omega) (Nat.le_refl _)
      have hx2 : Ext wc w2 := (Ext.refl wc).grown r2 (fun k h => by cases h)
      have r3 : w2.ownsRow wc.heap.size 5 1 (.slice (some ⟨wc.heap.size, 0, none⟩) n n) n (List.replicate n ((.int .u8 0))) := by
        rw [← toList_madeCells_one]
        simpa [Value.cells] using r1
      have hO := HO.out.made 0 hx2 r3
      have hv := hv.reset 4 (Bool.eq_false_iff.2 fun h => Bool.false_ne_true (hL.symm.trans (hc 4 h 1 (by decide)))) (.slice (some ⟨wc.heap.size, 0, none⟩) n n)
      exact wpOp_val rfl rfl (ex_make rfl (hv.get 0 rfl rfl (hd 0 (by decide))) (hv.get 0 rfl rfl (hd 0 (by decide))) hrun) ⟨wc.heap.size, gb, hv.put so_make_apart 1 rfl (lb rfl) (lb rfl) rfl, Lib.hid hO⟩
    ·
      rintro L a wc ⟨gx, gb, hv, HO⟩ hL hc hd
      have h0 : wc.cell? ⟨U, 0, none⟩ = some (.int .i64 (n : Nat)) := HO.out.ext.cell hU2
      exact wpOp_val rfl rfl (ex_load rfl ((hv.fixed 5 (by decide)).trans rfl) (by go_simp)) ⟨gx, gb, hv.put so_make_apart 2 rfl (lb rfl) (lb rfl) rfl, HO⟩
    ·
      rintro L a wc ⟨gx, gb, hv, HO⟩ hL hc hd
      obtain ⟨w2, hrun, r1, r2⟩ := run_make_full (P := Tryd.prog) (w := wc) wc.heap.size 131 4 j0 (.bool false) 1 Tryd.underlying131 hj hy0 hy1 .i64 .i64 n (by rw [hy2]; omega) (by unfold maxLen; omega) (Nat.le_refl _)
      have hx2 : Ext wc w2 := (Ext.refl wc).grown r2 (fun k h => by cases h)
      have r3 : w2.ownsRow wc.heap.size 4 1 (.slice (some ⟨wc.heap.size, 0, none⟩) n n) n (List.replicate n ((.bool false))) := by
        rw [← toList_madeCells_one]
        simpa [Value.cells] using r1
      have hO := HO.out.made 1 hx2 r3
      have hv := hv.reset 5 (Bool.eq_false_iff.2 fun h => Bool.false_ne_true (hL.symm.trans (hc 5 h 3 (by decide)))) (.slice (some ⟨wc.heap.size, 0, none⟩) n n)
      exact wpOp_val rfl rfl (ex_make rfl (hv.get 2 rfl rfl (hd 2 (by decide))) (hv.get 2 rfl rfl (hd 2 (by decide))) hrun) ⟨gx, wc.heap.size, hv.put so_make_apart 3 rfl (lb rfl) (lb rfl) rfl, Lib.hid hO⟩
    ·
      rintro L a wc ⟨gx, gb, hv, HO⟩ hL hc hd
      exact wpOp_val rfl rfl (ex_assign rfl (hv.get 1 rfl rfl (hd 1 (by decide)))) ⟨gx, gb, hv.put so_make_apart 4 rfl (lb rfl) (lb rfl) rfl, HO⟩
    ·
      rintro L a wc ⟨gx, gb, hv, HO⟩ hL hc hd
      exact wpOp_val rfl rfl (ex_assign rfl (hv.get 3 rfl rfl (hd 3 (by decide)))) ⟨gx, gb, hv.put so_make_apart 5 rfl (lb rfl) (lb rfl) rfl, HO⟩
  · rintro L a wc ⟨gx, gb, hv, HO⟩ hall
    show K a wc
    have ha := act_lit a
    rw [hv.size, hv.defers] at ha
    have hl : ∀ f : Nat → Value, ((List.range (⟨#[c0, c1, c2, c3, c4, .pointer (some ⟨U, 0, none⟩), c6, c7, c8, c9, c10, c11, c12, c13, c14, c15, c16, c17, c18, c19, c20, c21, c22, c23, c24, c25, c26, c27, c28, c29, c30, c31, c32, c33, c34, c35, c36, c37, c38, c39, c40, c41, c42, c43, c44, c45, c46, c47, c48, c49, c50, c51, c52, c53, c54, c55, c56, c57, c58, c59, c60, c61, c62, c63, c64, c65, c66, c67, c68, c69, c70, c71, c72, c73, c74, c75, c76, c77, c78, c79, c80, c81, c82, c83, c84, c85, c86, c87, c88, c89, c90, c91, c92, c93], df⟩ : Act).tmps.size).map f).toArray = #[f 0, f 1, f 2, f 3, f 4, f 5, f 6, f 7, f 8, f 9, f 10, f 11, f 12, f 13, f 14, f 15, f 16, f 17, f 18, f 19, f 20, f 21, f 22, f 23, f 24, f 25, f 26, f 27, f 28, f 29, f 30, f 31, f 32, f 33, f 34, f 35, f 36, f 37, f 38, f 39, f 40, f 41, f 42, f 43, f 44, f 45, f 46, f 47, f 48, f 49, f 50, f 51, f 52, f 53, f 54, f 55, f 56, f 57, f 58, f 59, f 60, f 61, f 62, f 63, f 64, f 65, f 66, f 67, f 68, f 69, f 70, f 71, f 72, f 73, f 74, f 75, f 76, f 77, f 78, f 79, f 80, f 81, f 82, f 83, f 84, f 85, f 86, f 87, f 88, f 89, f 90, f 91, f 92, f 93] := fun _ => rfl
    rw [hl] at ha
    simp only [hv.fixed 0 (by decide), hv.fixed 1 (by decide), hv.fixed 2 (by decide), hv.fixed 3 (by decide), hv.fixed 4 (by decide), hv.fixed 5 (by decide), hv.fixed 7 (by decide), hv.fixed 8 (by decide), hv.fixed 9 (by decide), hv.fixed 10 (by decide), hv.fixed 12 (by decide), hv.fixed 13 (by decide), hv.fixed 14 (by decide), hv.fixed 15 (by decide), hv.fixed 16 (by decide), hv.fixed 17 (by decide), hv.fixed 18 (by decide), hv.fixed 19 (by decide), hv.fixed 20 (by decide), hv.fixed 21 (by decide), hv.fixed 22 (by decide), hv.fixed 23 (by decide), hv.fixed 24 (by decide), hv.fixed 25 (by decide), hv.fixed 26 (by decide), hv.fixed 27 (by decide), hv.fixed 32 (by decide), hv.fixed 33 (by decide), hv.fixed 34 (by decide), hv.fixed 35 (by decide), hv.fixed 36 (by decide), hv.fixed 37 (by decide), hv.fixed 38 (by decide), hv.fixed 39 (by decide), hv.fixed 40 (by decide), hv.fixed 41 (by decide), hv.fixed 42 (by decide), hv.fixed 43 (by decide), hv.fixed 44 (by decide), hv.fixed 45 (by decide), hv.fixed 46 (by decide), hv.fixed 47 (by decide), hv.fixed 48 (by decide), hv.fixed 49 (by decide), hv.fixed 50 (by decide), hv.fixed 51 (by decide), hv.fixed 52 (by decide), hv.fixed 53 (by decide), hv.fixed 54 (by decide), hv.fixed 55 (by decide), hv.fixed 56 (by decide), hv.fixed 57 (by decide), hv.fixed 58 (by decide), hv.fixed 59 (by decide), hv.fixed 60 (by decide), hv.fixed 61 (by decide), hv.fixed 62 (by decide), hv.fixed 63 (by decide), hv.fixed 64 (by decide), hv.fixed 65 (by decide), hv.fixed 66 (by decide), hv.fixed 67 (by decide), hv.fixed 68 (by decide), hv.fixed 69 (by decide), hv.fixed 70 (by decide), hv.fixed 71 (by decide), hv.fixed 72 (by decide), hv.fixed 73 (by decide), hv.fixed 74 (by decide), hv.fixed 75 (by decide), hv.fixed 76 (by decide), hv.fixed 77 (by decide), hv.fixed 78 (by decide), hv.fixed 79 (by decide), hv.fixed 80 (by decide), hv.fixed 81 (by decide), hv.fixed 82 (by decide), hv.fixed 83 (by decide), hv.fixed 84 (by decide), hv.fixed 85 (by decide), hv.fixed 86 (by decide), hv.fixed 87 (by decide), hv.fixed 88 (by decide), hv.fixed 89 (by decide), hv.fixed 90 (by decide), hv.fixed 91 (by decide), hv.fixed 92 (by decide), hv.fixed 93 (by decide), hv.get 4 (d := 6) rfl rfl (hall 4 (by decide)), hv.get 5 (d := 11) rfl rfl (hall 5 (by decide))] at ha
    rw [ha]
    have h1 := hall 1 (by decide)
    have h3 := hall 3 (by decide)
    have h := HO.out
    rw [if_pos h1, if_pos h3] at h
    exact hK gx gb _ _ _ _ wc h
noncomputable def so_put_code : Code := ((Tryd.f68.body.bind (regionOf 8)).getD .skip)
def so_put_dsts : List (Option Nat) := [some 42, some 43, some 44, some 45, some 46, some 47, some 48, some 49, some 50, some 51, some 52, some 53, none, some 54, none]
theorem so_put_apart : apartD so_put_dsts = true := by decide +kernel
set_option maxRecDepth 1000000 in
set_option maxHeartbeats 16000000 in
theorem so_put (wr : World) (U n gx gb c p k cR cQ q : Nat) (ar aq : Addr) (v x0 : UInt8) (b0 : Bool) (hc0 : c < n) (hk : k < p) (hnq : n < q) (hU : wr.cell? ⟨U, 0, none⟩ = some (.int .i64 (n : Nat))) (hR : wr.cell? (ar.add k) = some (.slice (some aq) q cQ)) (hQ : wr.cell? (aq.add n) = some (bv v)) (hX : wr.cell? ⟨gx, c, none⟩ = some (bv x0)) (hXf : wr.frozen? ⟨gx, c, none⟩ = false) (hB : ((wr.drew).setCell ⟨gx, c, none⟩ (bv v)).cell? ⟨gb, c, none⟩ = some (.bool b0)) (hBf : ((wr.drew).setCell ⟨gx, c, none⟩ (bv v)).frozen? ⟨gb, c, none⟩ = false) (c0 c1 c2 c3 c4 c7 c8 c10 c14 c15 c16 c17 c18 c19 c20 c21 c22 c23 c24 c25 c26 c27 c28 c29 c30 c31 c32 c33 c34 c35 c36 c37 c38 c39 c40 c41 c42 c43 c44 c45 c46 c47 c48 c49 c50 c51 c52 c53 c54 c55 c56 c57 c58 c59 c60 c61 c62 c63 c64 c65 c66 c67 c68 c69 c70 c71 c72 c73 c74 c75 c76 c77 c78 c79 c80 c81 c82 c83 c84 c85 c86 c87 c88 c89 c90 c91 c92 c93 : Value) (df : List Deferred) (K : Act → World → Prop)
    (hK : ∀  (u42 u43 u44 u45 u46 u47 u48 u49 u50 u51 u52 u53 u54 : Value) (wx : World), wx = ((wr.drew).setCell ⟨gx, c, none⟩ (bv v)).setCell ⟨gb, c, none⟩ (.bool true) → K ⟨#[c0, c1, c2, c3, c4, .pointer (some ⟨U, 0, none⟩), .slice (some ⟨gx, 0, none⟩) n n, c7, c8, .slice (some ar) p cR, c10, .slice (some ⟨gb, 0, none⟩) n n, .int .i64 (k : Nat), .int .i64 (c : Nat), c14, c15, c16, c17, c18, c19, c20, c21, c22, c23, c24, c25, c26, c27, c28, c29, c30, c31, c32, c33, c34, c35, c36, c37, c38, c39, c40, c41, u42, u43, u44, u45, u46, u47, u48, u49, u50, u51, u52, u53, u54, c55, c56, c57, c58, c59, c60, c61, c62, c63, c64, c65, c66, c67, c68, c69, c70, c71, c72, c73, c74, c75, c76, c77, c78, c79, c80, c81, c82, c83, c84, c85, c86, c87, c88, c89, c90, c91, c92, c93], df⟩ wx) :
    Code.wp Tryd.prog so_put_code (AtEnd K) ⟨#[c0, c1, c2, c3, c4, .pointer (some ⟨U, 0, none⟩), .slice (some ⟨gx, 0, none⟩) n n, c7, c8, .slice (some ar) p cR, c10, .slice (some ⟨gb, 0, none⟩) n n, .int .i64 (k : Nat), .int .i64 (c : Nat), c14, c15, c16, c17, c18, c19, c20, c21, c22, c23, c24, c25, c26, c27, c28, c29, c30, c31, c32, c33, c34, c35, c36, c37, c38, c39, c40, c41, c42, c43, c44, c45, c46, c47, c48, c49, c50, c51, c52, c53, c54, c55, c56, c57, c58, c59, c60, c61, c62, c63, c64, c65, c66, c67, c68, c69, c70, c71, c72, c73, c74, c75, c76, c77, c78, c79, c80, c81, c82, c83, c84, c85, c86, c87, c88, c89, c90, c91, c92, c93], df⟩ wr := by
  conv => arg 2; whnf
  refine region_inv (by kernel_rfl) [[], [], [], [], [], [], [4, 5], [6], [], [7, 8], [9], [0, 1, 0, 1, 4, 5, 6, 7, 8, 9, 10], [11, 10, 0, 1, 4, 5, 6, 7, 8, 9, 10], [2, 3, 0, 1, 2, 3, 4, 5, 6, 7, 8, 9, 10, 11, 12], [13, 12, 0, 1, 2, 3, 4, 5, 6, 7, 8, 9, 10, 11, 12]] (by kernel_rfl) [0, 1, 2, 3, 4, 5, 6, 7, 8, 9, 10, 11, 12, 13, 14] (by decide +kernel) (by decide +kernel) (by decide +kernel) (fun L a wc => Inv so_put_dsts [.slice (some ⟨gx, 0, none⟩) n n, .int .i64 (c : Nat), .slice (some ⟨gb, 0, none⟩) n n, .int .i64 (c : Nat), .slice (some ar) p cR, .int .i64 (k : Nat), .pointer (some (ar.add k)), .slice (some aq) q cQ, .int .i64 (n : Nat), .pointer (some (aq.add n)), bv v, .pointer (some ⟨gx, c, none⟩), undef, .pointer (some ⟨gb, c, none⟩), undef] ⟨#[c0, c1, c2, c3, c4, .pointer (some ⟨U, 0, none⟩), .slice (some ⟨gx, 0, none⟩) n n, c7, c8, .slice (some ar) p cR, c10, .slice (some ⟨gb, 0, none⟩) n n, .int .i64 (k : Nat), .int .i64 (c : Nat), c14, c15, c16, c17, c18, c19, c20, c21, c22, c23, c24, c25, c26, c27, c28, c29, c30, c31, c32, c33, c34, c35, c36, c37, c38, c39, c40, c41, c42, c43, c44, c45, c46, c47, c48, c49, c50, c51, c52, c53, c54, c55, c56, c57, c58, c59, c60, c61, c62, c63, c64, c65, c66, c67, c68, c69, c70, c71, c72, c73, c74, c75, c76, c77, c78, c79, c80, c81, c82, c83, c84, c85, c86, c87, c88, c89, c90, c91, c92, c93], df⟩ L a ∧ Hid ((L 12 = false → wc = wr.drew) ∧ (L 12 = true → L 14 = false → wc = (wr.drew).setCell ⟨gx, c, none⟩ (bv v)) ∧ (L 14 = true → wc = ((wr.drew).setCell ⟨gx, c, none⟩ (bv v)).setCell ⟨gb, c, none⟩ (.bool true)))) ⟨Inv.start, Lib.hid ⟨fun _ => rfl, fun h => (by cases h), fun h => by cases h⟩⟩ ?_ ?_
  · refine ⟨?_, ?_, ?_, ?_, ?_, ?_, ?_, ?_, ?_, ?_, ?_, ?_, ?_, ?_, ?_, trivial⟩
    ·
      rintro L a wc ⟨hv, HO⟩ hL hc hd
      exact wpOp_val rfl rfl (ex_move rfl ((hv.fixed 6 (by decide)).trans rfl)) ⟨hv.put so_put_apart 0 rfl (lb rfl) (lb rfl) rfl, HO⟩
    ·
      rintro L a wc ⟨hv, HO⟩ hL hc hd
      exact wpOp_val rfl rfl (ex_move rfl ((hv.fixed 13 (by decide)).trans rfl)) ⟨hv.put so_put_apart 1 rfl (lb rfl) (lb rfl) rfl, HO⟩
    ·
      rintro L a wc ⟨hv, HO⟩ hL hc hd
      exact wpOp_val rfl rfl (ex_move rfl ((hv.fixed 11 (by decide)).trans rfl)) ⟨hv.put so_put_apart 2 rfl (lb rfl) (lb rfl) rfl, HO⟩
    ·
      rintro L a wc ⟨hv, HO⟩ hL hc hd
      exact wpOp_val rfl rfl (ex_move rfl ((hv.fixed 13 (by decide)).trans rfl)) ⟨hv.put so_put_apart 3 rfl (lb rfl) (lb rfl) rfl, HO⟩
    ·
      rintro L a wc ⟨hv, HO⟩ hL hc hd
      exact wpOp_val rfl rfl (ex_move rfl ((hv.fixed 9 (by decide)).trans rfl)) ⟨hv.put so_put_apart 4 rfl (lb rfl) (lb rfl) rfl, HO⟩
    ·
      rintro L a wc ⟨hv, HO⟩ hL hc hd
      exact wpOp_val rfl rfl (ex_move rfl ((hv.fixed 12 (by decide)).trans rfl)) ⟨hv.put so_put_apart 5 rfl (lb rfl) (lb rfl) rfl, HO⟩
    ·
      rintro L a wc ⟨hv, HO⟩ hL hc hd
      have u1 : (0 : Int) ≤ (k : Int) := by omega
      have u2 : (k : Int) < (p : Int) := by omega
      exact wpOp_val rfl rfl (ex_index rfl (hv.get 4 rfl rfl (hd 4 (by decide))) (hv.get 5 rfl rfl (hd 5 (by decide))) (by go_simp)) ⟨hv.put so_put_apart 6 rfl (lb rfl) (lb rfl) rfl, HO⟩
    ·
      rintro L a wc ⟨hv, HO⟩ hL hc hd
      have hw0 : wc = wr.drew := HO.out.1 (Bool.eq_false_iff.2 fun h => Bool.false_ne_true (hL.symm.trans (hc 12 h 7 (by decide))))
      have h0 : wc.cell? (ar.add k) = some (.slice (some aq) q cQ) := (by rw [hw0]; exact hR)
      exact wpOp_val rfl rfl (ex_load rfl (hv.get 6 rfl rfl (hd 6 (by decide))) (by go_simp)) ⟨hv.put so_put_apart 7 rfl (lb rfl) (lb rfl) rfl, HO⟩
    ·
      rintro L a wc ⟨hv, HO⟩ hL hc hd
      have hw0 : wc = wr.drew := HO.out.1 (Bool.eq_false_iff.2 fun h => Bool.false_ne_true (hL.symm.trans (hc 12 h 8 (by decide))))
      have h0 : wc.cell? ⟨U, 0, none⟩ = some (.int .i64 (n : Nat)) := (by rw [hw0]; exact hU)
      exact wpOp_val rfl rfl (ex_load rfl ((hv.fixed 5 (by decide)).trans rfl) (by go_simp)) ⟨hv.put so_put_apart 8 rfl (lb rfl) (lb rfl) rfl, HO⟩
    ·
      rintro L a wc ⟨hv, HO⟩ hL hc hd
      have u1 : (0 : Int) ≤ (n : Int) := by omega
      have u2 : (n : Int) < (q : Int) := by omega
      exact wpOp_val rfl rfl (ex_index rfl (hv.get 7 rfl rfl (hd 7 (by decide))) (hv.get 8 rfl rfl (hd 8 (by decide))) (by go_simp)) ⟨hv.put so_put_apart 9 rfl (lb rfl) (lb rfl) rfl, HO⟩
    ·
      rintro L a wc ⟨hv, HO⟩ hL hc hd
      have hw0 : wc = wr.drew := HO.out.1 (Bool.eq_false_iff.2 fun h => Bool.false_ne_true (hL.symm.trans (hc 12 h 10 (by decide))))
      have h0 : wc.cell? (aq.add n) = some (bv v) := (by rw [hw0]; exact hQ)
      exact wpOp_val rfl rfl (ex_load rfl (hv.get 9 rfl rfl (hd 9 (by decide))) (by go_simp)) ⟨hv.put so_put_apart 10 rfl (lb rfl) (lb rfl) rfl, HO⟩
    ·
      rintro L a wc ⟨hv, HO⟩ hL hc hd
      have u1 : (0 : Int) ≤ (c : Int) := by omega
      have u2 : (c : Int) < (n : Int) := by omega
      exact wpOp_val rfl rfl (ex_index rfl (hv.get 0 rfl rfl (hd 0 (by decide))) (hv.get 1 rfl rfl (hd 1 (by decide))) (by go_simp)) ⟨hv.put so_put_apart 11 rfl (lb rfl) (lb rfl) rfl, HO⟩
    ·
      rintro L a wc ⟨hv, HO⟩ hL hc hd
      have hw0 : wc = wr.drew := HO.out.1 hL
      have f0 : wc.frozen? ⟨gx, c, none⟩ = false := by rw [hw0]; exact hXf
      have c1 : wc.cell? ⟨gx, c, none⟩ = some (bv x0) := by rw [hw0]; exact hX
      exact wpOp_skip rfl rfl rfl (ex_store (w' := wc.setCell ⟨gx, c, none⟩ (bv v)) rfl (hv.get 11 rfl rfl (hd 11 (by decide))) (hv.get 10 rfl rfl (hd 10 (by decide))) (by clear hw0; go_simp)) ⟨hv.skip 12 rfl, Lib.hid ⟨fun h => absurd h (by simp [upd]), fun _ _ => by rw [hw0], fun h => absurd (hc 14 h 12 (by decide)) (by rw [hL]; decide)⟩⟩
    ·
      rintro L a wc ⟨hv, HO⟩ hL hc hd
      have u1 : (0 : Int) ≤ (c : Int) := by omega
      have u2 : (c : Int) < (n : Int) := by omega
      exact wpOp_val rfl rfl (ex_index rfl (hv.get 2 rfl rfl (hd 2 (by decide))) (hv.get 3 rfl rfl (hd 3 (by decide))) (by go_simp)) ⟨hv.put so_put_apart 13 rfl (lb rfl) (lb rfl) rfl, HO⟩
    ·
      rintro L a wc ⟨hv, HO⟩ hL hc hd
      have hw0 : wc = (wr.drew).setCell ⟨gx, c, none⟩ (bv v) := HO.out.2.1 (hd 12 (by decide)) hL
      have f0 : wc.frozen? ⟨gb, c, none⟩ = false := by rw [hw0]; exact hBf
      have c1 : wc.cell? ⟨gb, c, none⟩ = some (.bool b0) := by rw [hw0]; exact hB
      exact wpOp_skip rfl rfl rfl (ex_store (w' := wc.setCell ⟨gb, c, none⟩ (.bool true)) rfl (hv.get 13 rfl rfl (hd 13 (by decide))) rfl (by clear hw0; go_simp)) ⟨hv.skip 14 rfl, Lib.hid ⟨fun h => absurd (h.symm.trans (show upd L 14 12 = true from hd 12 (by decide))) (by decide), fun _ h => absurd h (by simp [upd]), fun _ => by rw [hw0]⟩⟩
  · rintro L a wc ⟨hv, HO⟩ hall
    show K a wc
    have ha := act_lit a
    rw [hv.size, hv.defers] at ha
    have hl : ∀ f : Nat → Value, ((List.range (⟨#[c0, c1, c2, c3, c4, .pointer (some ⟨U, 0, none⟩), .slice (some ⟨gx, 0, none⟩) n n, c7, c8, .slice (some ar) p cR, c10, .slice (some ⟨gb, 0, none⟩) n n, .int .i64 (k : Nat), .int .i64 (c : Nat), c14, c15, c16, c17, c18, c19, c20, c21, c22, c23, c24, c25, c26, c27, c28, c29, c30, c31, c32, c33, c34, c35, c36, c37, c38, c39, c40, c41, c42, c43, c44, c45, c46, c47, c48, c49, c50, c51, c52, c53, c54, c55, c56, c57, c58, c59, c60, c61, c62, c63, c64, c65, c66, c67, c68, c69, c70, c71, c72, c73, c74, c75, c76, c77, c78, c79, c80, c81, c82, c83, c84, c85, c86, c87, c88, c89, c90, c91, c92, c93], df⟩ : Act).tmps.size).map f).toArray = #[f 0, f 1, f 2, f 3, f 4, f 5, f 6, f 7, f 8, f 9, f 10, f 11, f 12, f 13, f 14, f 15, f 16, f 17, f 18, f 19, f 20, f 21, f 22, f 23, f 24, f 25, f 26, f 27, f 28, f 29, f 30, f 31, f 32, f 33, f 34, f 35, f 36, f 37, f 38, f 39, f 40, f 41, f 42, f 43, f 44, f 45, f 46, f 47, f 48, f 49, f 50, f 51, f 52, f 53, f 54, f 55, f 56, f 57, f 58, f 59, f 60, f 61, f 62, f 63, f 64, f 65, f 66, f 67, f 68, f 69, f 70, f 71, f 72, f 73, f 74, f 75, f 76, f 77, f 78, f 79, f 80, f 81, f 82, f 83, f 84, f 85, f 86, f 87, f 88, f 89, f 90, f 91, f 92, f 93] := fun _ => rfl
    rw [hl] at ha
    simp only [hv.fixed 0 (by decide), hv.fixed 1 (by decide), hv.fixed 2 (by decide), hv.fixed 3 (by decide), hv.fixed 4 (by decide), hv.fixed 5 (by decide), hv.fixed 6 (by decide), hv.fixed 7 (by decide), hv.fixed 8 (by decide), hv.fixed 9 (by decide), hv.fixed 10 (by decide), hv.fixed 11 (by decide), hv.fixed 12 (by decide), hv.fixed 13 (by decide), hv.fixed 14 (by decide), hv.fixed 15 (by decide), hv.fixed 16 (by decide), hv.fixed 17 (by decide), hv.fixed 18 (by decide), hv.fixed 19 (by decide), hv.fixed 20 (by decide), hv.fixed 21 (by decide), hv.fixed 22 (by decide), hv.fixed 23 (by decide), hv.fixed 24 (by decide), hv.fixed 25 (by decide), hv.fixed 26 (by decide), hv.fixed 27 (by decide), hv.fixed 28 (by decide), hv.fixed 29 (by decide), hv.fixed 30 (by decide), hv.fixed 31 (by decide), hv.fixed 32 (by decide), hv.fixed 33 (by decide), hv.fixed 34 (by decide), hv.fixed 35 (by decide), hv.fixed 36 (by decide), hv.fixed 37 (by decide), hv.fixed 38 (by decide), hv.fixed 39 (by decide), hv.fixed 40 (by decide), hv.fixed 41 (by decide), hv.fixed 55 (by decide), hv.fixed 56 (by decide), hv.fixed 57 (by decide), hv.fixed 58 (by decide), hv.fixed 59 (by decide), hv.fixed 60 (by decide), hv.fixed 61 (by decide), hv.fixed 62 (by decide), hv.fixed 63 (by decide), hv.fixed 64 (by decide), hv.fixed 65 (by decide), hv.fixed 66 (by decide), hv.fixed 67 (by decide), hv.fixed 68 (by decide), hv.fixed 69 (by decide), hv.fixed 70 (by decide), hv.fixed 71 (by decide), hv.fixed 72 (by decide), hv.fixed 73 (by decide), hv.fixed 74 (by decide), hv.fixed 75 (by decide), hv.fixed 76 (by decide), hv.fixed 77 (by decide), hv.fixed 78 (by decide), hv.fixed 79 (by decide), hv.fixed 80 (by decide), hv.fixed 81 (by decide), hv.fixed 82 (by decide), hv.fixed 83 (by decide), hv.fixed 84 (by decide), hv.fixed 85 (by decide), hv.fixed 86 (by decide), hv.fixed 87 (by decide), hv.fixed 88 (by decide), hv.fixed 89 (by decide), hv.fixed 90 (by decide), hv.fixed 91 (by decide), hv.fixed 92 (by decide), hv.fixed 93 (by decide)] at ha
    rw [ha]
    exact hK _ _ _ _ _ _ _ _ _ _ _ _ _ wc (HO.out.2.2 (hall 14 (by decide)))
set_option maxHeartbeats 16000000 in
set_option maxRecDepth 100000 in
theorem xSolve_any (m : Mx.Mat) (b : List UInt8) (n N : Nat) (vm vb : Value) (w : World) (hT : Tab w) (hM : Rs (Rs RB) w vm m) (hB : Rs RB w vb b) (hw : Mx.Rect n m) (hl : m.length = b.length) (hN : b.length = N) (h0 : 0 < N) (hN1 : N ≤ 1000) (hn : n ≤ 999) :
    Calls Tryd.prog 68 #[vm, vb, .int .i64 (n : Nat)] w fun e w' => ∃ X K, e = .returned (.tuple #[X, K, .bool (Mx.solved (tabled N (n + 1) (fun i k => if k < n then Mx.cell m i k else b.getD i 0)) n).isSome]) ∧ Rs RB w' X ((Mx.solved (tabled N (n + 1) (fun i k => if k < n then Mx.cell m i k else b.getD i 0)) n).getD []) ∧ Ext w w' := by
  obtain ⟨MA, cM, rfl, hm64⟩ := hM.form
  obtain ⟨BA, cB, rfl, hb64⟩ := hB.form
  have hmN : m.length = N := by omega
  rw [hmN] at hM ⊢
  rw [hN] at hB ⊢
  obtain ⟨A, hA⟩ : ∃ A, tabled N (n + 1) (fun i k => if k < n then Mx.cell m i k else b.getD i 0) = A := ⟨_, rfl⟩
  obtain ⟨w3, hw3⟩ : ∃ w3, ((w.alloc (.cells #[.slice MA N cM] 65)).alloc (.cells #[.slice BA N cB] 28)).alloc (.cells #[.int .i64 (n : Nat)] 3) = w3 := ⟨_, rfl⟩
  have hx3 : Ext w w3 := by rw [← hw3]; exact (((Ext.refl w).alloc _).alloc _).alloc _
  have d1 : w3.cell? ⟨w.heap.size, 0, none⟩ = some (.slice MA N cM) := by rw [← hw3]; clear hw3; go_simp
  have d2 : w3.cell? ⟨w.heap.size + 1, 0, none⟩ = some (.slice BA N cB) := by rw [← hw3]; clear hw3; go_simp
  have d3 : w3.cell? ⟨w.heap.size + 1 + 1, 0, none⟩ = some (.int .i64 (n : Nat)) := by rw [← hw3]; clear hw3; go_simp
  have hcall := xGrid_any N (n + 1) 90 #[.pointer (some ⟨w.heap.size + 1 + 1, 0, none⟩), .pointer (some ⟨w.heap.size, 0, none⟩), .pointer (some ⟨w.heap.size + 1, 0, none⟩)] (fun i k => if k < n then Mx.cell m i k else b.getD i 0) w3 hN1 (by omega) (enters_of Tryd.func90 (by kernel_rfl) rfl)
    (fun i k hi _ w' hx' => xSolve1_any m b n i k _ _ _ _ _ w' (Rs.ext (Rs.ext RB.ext) _ _ _ _ (hx3.trans hx') hM) (Rs.ext RB.ext _ _ _ _ (hx3.trans hx') hB) hw (by omega) (by omega) (hx'.cell d3) (hx'.cell d1) (hx'.cell d2))
  rw [hA] at hcall ⊢
  rw [show ((n + 1 : Nat) : Int) = (n : Int) + 1 by omega] at hcall
  have HC := Lib.hid hcall
  have hAl : A.length = N := by rw [← hA, tabled_length]
  have hAm : ∀ r ∈ A, r.length = n + 1 := by rw [← hA]; exact fun r hr => tabled_wide hr
  have hAr : Mx.Rect (n + 1) A := fun i hi => by rw [Mx.row_at hi]; exact hAm _ (List.getElem_mem _)
  have HA := Lib.hid (And.intro hAl hAr)
  have HW := Lib.hid hw3
  have HX3 := Lib.hid hx3
  have HT := Lib.hid hT
  have HD := Lib.hid (And.intro d1 (And.intro d2 d3))
  clear hM hB hw hl hN hmN hm64 hb64 hA hcall hAl hAr hAm hT hx3 hw3
  rw [← HW.out] at d1 d2 d3
  go_enter Tryd.func68, Tryd.ntmps68
  go_wp2_with fail
  clear d1 d2 d3
  rw [HW.out]
  refine HC.out.mono ?_
  rintro e w4 ⟨v4, rfl, hr4, hx4⟩
  have HX4 := Lib.hid (HX3.out.trans hx4)
  have HR4 := Lib.hid hr4
  have HD4 := Lib.hid (And.intro (hx4.cell HD.out.1) (And.intro (hx4.cell HD.out.2.1) (hx4.cell HD.out.2.2)))
  clear hr4 hx4 HC
  go_wp2_with fail
  refine (xReduce_any A (n + 1) N _ w4 (HT.out.ext HX4.out) HR4.out HA.out.2 HA.out.1 (by omega) (by omega) h0 hN1).mono ?_
  rintro e w5 ⟨vR, vP, rfl, hR5, hP5, hx5⟩
  have HX5 := Lib.hid (HX4.out.trans hx5)
  obtain ⟨R, hR⟩ : ∃ R, (Mx.redTo A (n + 1)).1 = R := ⟨_, rfl⟩
  obtain ⟨P, hP⟩ : ∃ P, (Mx.redTo A (n + 1)).2 = P := ⟨_, rfl⟩
  have red := Mx.red_to HA.out.2 (n + 1)
  rw [hR, hP] at hR5 red
  rw [hP] at hP5
  obtain ⟨RA, cR, rfl, _⟩ := hR5.form
  obtain ⟨PA, cP, rfl, _⟩ := hP5.form
  obtain ⟨p, hp⟩ : ∃ p, P.length = p := ⟨_, rfl⟩
  have hpR : p ≤ R.length := by rw [← hp]; exact red.few
  have hRl : R.length = N := red.len.trans HA.out.1
  have htl : (R.take P.length).length = p := by rw [List.length_take, hp]; omega
  rw [htl] at hR5 ⊢
  rw [List.length_map, hp] at hP5 ⊢
  rw [hp] at hR5
  have hU5 : w5.cell? ⟨w.heap.size + 1 + 1, 0, none⟩ = some (.int .i64 (n : Nat)) := hx5.cell HD4.out.2.2
  have hp1000 : p ≤ 1000 := by omega
  have HU5 := Lib.hid hU5
  have HRP := Lib.hid (And.intro hR hP)
  have H5 := Lib.hid (And.intro hR5 (And.intro hP5 (And.intro red (And.intro hp (And.intro hpR hRl)))))
  clear hR hP hR5 hP5 red hp hpR hRl htl hx5 hU5
  go_wp2_with fail
  refine wp_atEnd' (so_make w5 w5 (w.heap.size + 1 + 1) n (Ext.refl w5) (by omega) HU5.out _ _ _ _ _ _ _ _ _ _ _ _ _ _ _ _ _ _ _ _ _ _ _ _ _ _ _ _ _ _ _ _ _ _ _ _ _ _ _ _ _ _ _ _ _ _ _ _ _ _ _ _ _ _ _ _ _ _ _ _ _ _ _ _ _ _ _ _ _ _ _ _ _ _ _ _ _ _ _ _ _ _ _ _ _ _ _ _ _ _ _ _ _ _ _ ?_)
  intro gx gb u28 u29 u30 u31 wx hx
  have HO := Lib.hid hx
  clear hx
  go_wp2_with fail
  go_loopw [6, 7, 8, 34] (fun v6 v7 v8 vi wr => ∃ (k : Nat) (bl : List Bool), k ≤ p ∧ vi = .int .i64 (k : Nat) ∧ v6 = .slice (some ⟨gx, 0, none⟩) n n ∧ v7 = .slice none 0 0 ∧ v8 = .bool false ∧ Hid (bl.length = n ∧ (∀ j, j < k → P.getD j 0 < n) ∧ Owns w5 wr [⟨.slice (some ⟨gx, 0, none⟩) n n, 5, 1, n, (Mx.solTo R P n k).map bv⟩, ⟨.slice (some ⟨gb, 0, none⟩) n n, 4, 1, n, bl.map Value.bool⟩])) (fun _ _ _ vi _ => p - (intOf vi).toNat)
  case atStart =>
    refine ⟨0, List.replicate n false, Nat.zero_le _, rfl, rfl, rfl, rfl, Lib.hid ⟨by simp, fun j h => absurd h (by omega), ?_⟩⟩
    have h := HO.out
    simp only [Mx.solTo, List.map_replicate]
    exact h
  case round =>
    obtain ⟨k, bl, hk, rfl, rfl, rfl, rfl, HI⟩ := hrel
    by_cases hlt : k < p
    · have hkP : k < P.length := by rw [H5.out.2.2.2.1]; exact hlt
      obtain ⟨ap, u1, hap, hc1, hu1⟩ := (Rs.ext RI.ext _ _ _ _ HI.out.2.2.ext H5.out.2.1).at (i := k) (by rw [List.length_map]; exact hkP)
      subst hap
      have hue := hu1.1
      subst hue
      clear hu1
      rw [List.getElem_map] at hc1
      have hPk : P.getD k 0 = P[k] := by rw [List.getD_eq_getElem?_getD, List.getElem?_eq_getElem hkP]; rfl
      have hcl := H5.out.2.2.1.lt k hkP
      rw [hPk] at hcl
      obtain ⟨c, hc⟩ : ∃ c, P[k] = c := ⟨_, rfl⟩
      rw [hc] at hc1 hPk hcl
      have hU : wr.cell? ⟨w.heap.size + 1 + 1, 0, none⟩ = some (.int .i64 (n : Nat)) := HI.out.2.2.ext.cell HU5.out
      have HPK := Lib.hid (And.intro hPk hkP)
      clear hPk hkP hc
      by_cases hcn : c = n
      · subst hcn
        have hnone : Mx.solved A c = none := Mx.solved_none (by
          rw [HRP.out.2]
          have h := HPK.out.1
          rw [List.getD_eq_getElem?_getD, List.getElem?_eq_getElem HPK.out.2] at h
          have h2 : P[k]'HPK.out.2 = c := h
          rw [← h2]
          exact List.getElem_mem _)
        have HNO := Lib.hid hnone
        clear hnone
        go_wp2_with fail
        (first | go_ret2 | go_ret | go_ret3)
        refine ⟨_, _, by rw [HNO.out]; rfl, ?_, HX5.out.trans HI.out.2.2.ext⟩
        rw [HNO.out]
        exact ⟨none, 0, rfl, by simp, fun i x h => by simp at h⟩
      · have hcl2 : c < n := by omega
        have hce : ((c : Int) == (n : Int)) = false := by rw [beq_eq_false_iff_ne]; omega
        have hkt : k < (R.take p).length := by rw [List.length_take]; have := H5.out.2.2.2.2.1; omega
        obtain ⟨ar, u2, har, hc2, hu2⟩ := (Rs.ext (Rs.ext RB.ext) _ _ _ _ HI.out.2.2.ext H5.out.1).at (i := k) hkt
        subst har
        have hkR : k < R.length := by have := H5.out.2.2.2.2.1; omega
        have hrowk : (R.take p)[k] = Mx.row R k := by rw [List.getElem_take, Mx.row_at hkR]
        rw [hrowk] at hu2
        obtain ⟨QA, cQ, rfl, _⟩ := hu2.form
        have hql : (Mx.row R k).length = n + 1 := H5.out.2.2.1.rect k hkR
        obtain ⟨aq, u3, haq, hc3, hu3⟩ := hu2.at (i := n) (by omega)
        subst haq
        obtain rfl := hu3
        have hcell : (Mx.row R k)[n]'(by omega) = Mx.cell R k n := by unfold Mx.cell; rw [List.getD_eq_getElem?_getD, List.getElem?_eq_getElem (by omega)]; rfl
        rw [hcell] at hc3
        rw [hql] at hc2
        obtain ⟨v, hv⟩ : ∃ v, Mx.cell R k n = v := ⟨_, rfl⟩
        rw [hv] at hc3
        have hXl : (Mx.solTo R P n k).length = n := Mx.solTo_length R P n k
        have hX : wr.cell? ⟨gx, c, none⟩ = some (bv ((Mx.solTo R P n k).getD c 0)) := HI.out.2.2.cell 0 rfl c (by
          rw [List.getElem?_map, List.getElem?_eq_getElem (by rw [hXl]; exact hcl2), List.getD_eq_getElem?_getD, List.getElem?_eq_getElem (by rw [hXl]; exact hcl2)]; rfl)
        have hXf : wr.frozen? ⟨gx, c, none⟩ = false := HI.out.2.2.frozen 0 rfl c
        have hO1 := HI.out.2.2.store 0 rfl c (bv v)
        have hB : (wr.setCell ⟨gx, c, none⟩ (bv v)).cell? ⟨gb, c, none⟩ = some (.bool (bl.getD c false)) := hO1.cell 1 rfl c (by
          rw [List.getElem?_map, List.getElem?_eq_getElem (by rw [HI.out.1]; exact hcl2), List.getD_eq_getElem?_getD, List.getElem?_eq_getElem (by rw [HI.out.1]; exact hcl2)]; rfl)
        have hBf : (wr.setCell ⟨gx, c, none⟩ (bv v)).frozen? ⟨gb, c, none⟩ = false := hO1.frozen 1 rfl c
        have hO2 := (hO1.store 1 rfl c (.bool true)).drew
        have HO2 := Lib.hid hO2
        have HV := Lib.hid hv
        clear hv hcell hql hu2 hrowk hkt hkR hXl hO1 hO2
        go_wp2_with fail
        refine wp_atEnd' (so_put wr (w.heap.size + 1 + 1) n gx gb c p k cR cQ (n + 1) ar aq v _ _ hcl2 hlt (by omega) hU hc2 hc3 hX hXf hB hBf _ _ _ _ _ _ _ _ _ _ _ _ _ _ _ _ _ _ _ _ _ _ _ _ _ _ _ _ _ _ _ _ _ _ _ _ _ _ _ _ _ _ _ _ _ _ _ _ _ _ _ _ _ _ _ _ _ _ _ _ _ _ _ _ _ _ _ _ _ _ _ _ _ _ _ _ _ _ _ _ _ _ _ _ _ _ _ _ _ _ ?_)
        rintro u42 u43 u44 u45 u46 u47 u48 u49 u50 u51 u52 u53 u54 wy hy
        have hOy : Owns w5 wy [⟨.slice (some ⟨gx, 0, none⟩) n n, 5, 1, n, (Mx.solTo R P n (k + 1)).map bv⟩, ⟨.slice (some ⟨gb, 0, none⟩) n n, 4, 1, n, (bl.set c true).map Value.bool⟩] := by
          have e1 : (Mx.solTo R P n (k + 1)).map bv = ((Mx.solTo R P n k).map bv).set c (bv v) := by
            rw [Mx.solTo, HPK.out.1, HV.out, List.map_set]
          rw [e1, List.map_set, hy]
          exact HO2.out
        have HOy := Lib.hid hOy
        clear hy hOy hX hXf hB hBf hc1 hc2 hc3 hU hce
        go_wp2_with fail
        go_roundw
        case rel => 
          refine ⟨k + 1, bl.set c true, by omega, by go_num, (by first | trivial | rfl), (by first | trivial | rfl), (by first | trivial | rfl), Lib.hid ⟨by rw [List.length_set]; exact HI.out.1, fun j hj => ?_, HOy.out⟩⟩
          by_cases e : j = k
          · rw [e, HPK.out.1]; exact hcl2
          · exact HI.out.2.1 j (by omega)
        case measure => simp [intOf]; omega
    · obtain rfl : p = k := by omega
      have hno : n ∉ P := fun hm => by
        obtain ⟨i, hi, he⟩ := List.getElem_of_mem hm
        have h1 := HI.out.2.1 i (by rw [← H5.out.2.2.2.1]; exact hi)
        rw [List.getD_eq_getElem?_getD, List.getElem?_eq_getElem hi] at h1
        have h2 : P[i] < n := h1
        omega
      have hsome : Mx.solved A n = some (Mx.solTo R P n p) := by
        rw [Mx.solved_some (by rw [HRP.out.2]; exact hno), HRP.out.1, HRP.out.2, H5.out.2.2.2.1]
      obtain ⟨x, hx⟩ : ∃ x, Mx.solTo R P n p = x := ⟨_, rfl⟩
      have hxl : x.length = n := by rw [← hx]; exact Mx.solTo_length R P n p
      have hO1 := HI.out.2.2
      rw [hx] at hsome hO1
      have HO1 := Lib.hid hO1
      have HSO := Lib.hid (And.intro hsome hxl)
      have hbll := HI.out.1
      have hlt5 := HI.out.2.1
      have HBL := Lib.hid (And.intro hbll hlt5)
      have hU : wr.cell? ⟨w.heap.size + 1 + 1, 0, none⟩ = some (.int .i64 (n : Nat)) := HI.out.2.2.ext.cell HU5.out
      obtain ⟨i0, hi, hz0, hz1, hz2⟩ := info_parts info_u8
      have HZ := Lib.hid hz2
      clear hno hsome hx hxl hO1 hbll hlt5 HI hz2
      obtain ⟨wo, rfl⟩ : ∃ wo, wo = wr := ⟨_, rfl⟩
      go_wp2_with fail
      clear hU
      go_loopw [7, 57] (fun v7 vi wr => ∃ (c kn kc : Nat) (kA : Option Addr) (ks : List Value), c ≤ n ∧ kn ≤ c ∧ vi = .int .i64 (c : Nat) ∧ v7 = .slice kA kn kc ∧ Hid (Owns w5 wr [⟨.slice (some ⟨gx, 0, none⟩) n n, 5, 1, n, x.map bv⟩, ⟨.slice (some ⟨gb, 0, none⟩) n n, 4, 1, n, bl.map Value.bool⟩, ⟨.slice kA kn kc, 28, 1, kn, ks⟩])) (fun _ vi _ => n - (intOf vi).toNat)
      case atStart => exact ⟨0, 0, 0, none, [], Nat.zero_le _, Nat.le_refl _, rfl, rfl, Lib.hid HO1.out.nilled⟩
      case round =>
        obtain ⟨c, kn, kc, kA, ks, hcn, hkn, rfl, rfl, HI⟩ := hrel
        by_cases hlt : c < n
        · obtain ⟨b1, hb1⟩ : ∃ b1, bl.getD c false = b1 := ⟨_, rfl⟩
          have hcb : wr.cell? ⟨gb, c, none⟩ = some (.bool b1) := HI.out.cell 1 rfl c (by
            rw [← hb1, List.getElem?_map, List.getElem?_eq_getElem (by rw [HBL.out.1]; exact hlt), List.getD_eq_getElem?_getD, List.getElem?_eq_getElem (by rw [HBL.out.1]; exact hlt)]; rfl)
          clear hb1
          cases b1 with
          | true =>
            go_wp2_with fail
            clear hcb
            go_roundw
            case rel => exact ⟨c + 1, kn, kc, kA, ks, by omega, by omega, by go_num, (by first | trivial | rfl), HI⟩
            case measure => simp [intOf]; omega
          | false =>
            have hU : wr.cell? ⟨w.heap.size + 1 + 1, 0, none⟩ = some (.int .i64 (n : Nat)) := HI.out.ext.cell HU5.out
            go_wp2_with (refine wpList_make_full _ rfl (.tmp 64) (.tmp 64) 28 rfl wr.heap.size 5 i0 (.int .u8 0) 1 Tryd.underlying28 hi hz0 hz1 _ _ _ _ n rfl rfl rfl rfl (by rw [HZ.out]; omega) (by unfold maxLen; omega) (Nat.le_refl _) ?_; intro w6 hown hgrow; have hx6 : Ext wr w6 := (Ext.refl wr).grown hgrow (fun k h => by cases h); have hw6 : w6.ownsRow wr.heap.size 5 1 (.slice (some ⟨wr.heap.size, 0, none⟩) n n) n ((List.replicate n (0 : UInt8)).map bv) := (by rw [List.map_replicate]; rw [show bv 0 = .int .u8 0 from rfl, ← toList_madeCells_one]; simpa [Value.cells] using hown); have hcv : w6.cell? ⟨wr.heap.size, c, none⟩ = some (.int .u8 0) := (by rw [hw6.cellAt c (by omega), List.getElem?_map, List.getElem?_replicate_of_lt hlt]; rfl); have hfv : w6.frozen? ⟨wr.heap.size, c, none⟩ = false := hw6.frozenAt c)
            have hO6 := ((HI.out.behind hx6 hw6).store 3 rfl c (bv 1))
            have hO7 : Owns w5 (w6.setCell ⟨wr.heap.size, c, none⟩ (.int .u8 1)) [⟨.slice (some ⟨gx, 0, none⟩) n n, 5, 1, n, x.map bv⟩, ⟨.slice (some ⟨gb, 0, none⟩) n n, 4, 1, n, bl.map Value.bool⟩, ⟨.slice kA kn kc, 28, 1, kn, ks⟩, ⟨.slice (some ⟨wr.heap.size, 0, none⟩) n n, 5, 1, n, (((List.replicate n (0 : UInt8)).set c 1).map bv)⟩] := by
              rw [List.map_set]; exact hO6
            obtain ⟨w7, hw7⟩ : ∃ w7, w6.setCell ⟨wr.heap.size, c, none⟩ (.int .u8 1) = w7 := ⟨_, rfl⟩
            rw [hw7] at hO7 ⊢
            obtain ⟨h, hh⟩ : ∃ h, wr.heap.size = h := ⟨_, rfl⟩
            rw [hh] at hO7
            have H7 := Lib.hid hO7
            clear hown hgrow hx6 hw6 hcv hfv hO6 hO7 hU hcb
            try rw [hh]
            clear hh hw7
            obtain ⟨wy, rfl⟩ : ∃ wy, wy = wr := ⟨_, rfl⟩
            go_wp2_with fail
            go_loopw [71] (fun vi wi => ∃ (j : Nat) (vs : List UInt8), j ≤ p ∧ vi = .int .i64 (j : Nat) ∧ Hid (vs.length = n ∧ Owns w5 wi [⟨.slice (some ⟨gx, 0, none⟩) n n, 5, 1, n, x.map bv⟩, ⟨.slice (some ⟨gb, 0, none⟩) n n, 4, 1, n, bl.map Value.bool⟩, ⟨.slice kA kn kc, 28, 1, kn, ks⟩, ⟨.slice (some ⟨h, 0, none⟩) n n, 5, 1, n, vs.map bv⟩])) (fun vi _ => p - (intOf vi).toNat)
            case atStart => exact ⟨0, _, Nat.zero_le _, rfl, Lib.hid ⟨by simp, H7.out⟩⟩
            case round =>
              obtain ⟨j, vs, hj, rfl, HJ⟩ := hrel
              by_cases hjl : j < p
              · have hkP : j < P.length := by rw [H5.out.2.2.2.1]; exact hjl
                obtain ⟨ap, u1, hap, hc1, hu1⟩ := (Rs.ext RI.ext _ _ _ _ HJ.out.2.ext H5.out.2.1).at (i := j) (by rw [List.length_map]; exact hkP)
                subst hap
                have hue := hu1.1
                subst hue
                clear hu1
                rw [List.getElem_map] at hc1
                have hcl := HBL.out.2 j hjl
                rw [List.getD_eq_getElem?_getD, List.getElem?_eq_getElem hkP] at hcl
                have hcl2 : P[j] < n := hcl
                obtain ⟨q, hq⟩ : ∃ q, P[j] = q := ⟨_, rfl⟩
                rw [hq] at hc1 hcl2
                have hkt : j < (R.take p).length := by rw [List.length_take]; have := H5.out.2.2.2.2.1; omega
                obtain ⟨ar, u2, har, hc2, hu2⟩ := (Rs.ext (Rs.ext RB.ext) _ _ _ _ HJ.out.2.ext H5.out.1).at (i := j) hkt
                subst har
                have hkR : j < R.length := by have := H5.out.2.2.2.2.1; omega
                have hrowk : (R.take p)[j] = Mx.row R j := by rw [List.getElem_take, Mx.row_at hkR]
                rw [hrowk] at hu2
                obtain ⟨QA, cQ, rfl, _⟩ := hu2.form
                have hql : (Mx.row R j).length = n + 1 := H5.out.2.2.1.rect j hkR
                obtain ⟨aq, u3, haq, hc3, hu3⟩ := hu2.at (i := c) (by omega)
                subst haq
                obtain rfl := hu3
                obtain ⟨y, hy⟩ : ∃ y, (Mx.row R j)[c]'(by omega) = y := ⟨_, rfl⟩
                rw [hy] at hc3
                rw [hql] at hc2
                have hcl3 : (c : Int) < ((n + 1 : Nat) : Int) := by omega
                have hcv : wr.cell? ⟨h, q, none⟩ = some (bv (vs.getD q 0)) := HJ.out.2.cell 3 rfl q (by
                  rw [List.getElem?_map, List.getElem?_eq_getElem (by rw [HJ.out.1]; exact hcl2), List.getD_eq_getElem?_getD, List.getElem?_eq_getElem (by rw [HJ.out.1]; exact hcl2)]; rfl)
                have hfv : wr.frozen? ⟨h, q, none⟩ = false := HJ.out.2.frozen 3 rfl q
                obtain ⟨y0, hy0⟩ : ∃ y0, vs.getD q 0 = y0 := ⟨_, rfl⟩
                rw [hy0] at hcv
                have hO8 := HJ.out.2.store 3 rfl q (bv y)
                have HO8 := Lib.hid hO8
                clear hO8 hy0 hy hql hrowk hu2 hkt hq hcl
                go_wp2_with fail
                clear hc1 hc2 hc3 hcv hfv
                go_roundw
                case rel => exact ⟨j + 1, vs.set q y, by omega, by go_num, Lib.hid ⟨by rw [List.length_set]; exact HJ.out.1, by rw [List.map_set]; exact HO8.out⟩⟩
                case measure => simp [intOf]; omega
              · obtain rfl : p = j := by omega
                go_wp2_with (refine wpl_append_owns (u := .slice (some ⟨h, 0, none⟩) n n) 65 28 rfl (.tmp 87) (.tmp 89) rfl Tryd.underlying65 info_bytes rfl HJ.out.2.push1 2 rfl rfl rfl (cell_of_row _ _ 0 _ _ (0, 0) (heap_new _ _)) rfl (by omega) (by decide) ?_; intro g9 c9 w9 hO9 hg9)
                have hfin : Owns w5 w9 [⟨.slice (some ⟨gx, 0, none⟩) n n, 5, 1, n, x.map bv⟩, ⟨.slice (some ⟨gb, 0, none⟩) n n, 4, 1, n, bl.map Value.bool⟩, ⟨.slice (some ⟨g9, 0, none⟩) (kn + 1) c9, 28, 1, kn + 1, ks ++ [.slice (some ⟨h, 0, none⟩) n n]⟩] := by
                  refine Owns.front (M := [⟨.slice (some ⟨h, 0, none⟩) n n, 5, 1, n, vs.map bv⟩, ⟨.slice (some ⟨wr.heap.size, 0, none⟩) 1 1, 28, 1, 1, [.slice (some ⟨h, 0, none⟩) n n]⟩]) ?_
                  exact hO9
                have HF := Lib.hid hfin
                clear hO9 hg9 hfin
                go_wp2_with fail
                go_roundw
                case rel => exact ⟨c + 1, kn + 1, c9, some ⟨g9, 0, none⟩, _, by omega, by omega, by go_num, (by first | trivial | rfl), HF⟩
                case measure => simp [intOf]; omega
        · obtain rfl : n = c := by omega
          have hrs : Rs RB wr (.slice (some ⟨gx, 0, none⟩) n n) x := by
            have := Rs.of_rd (c := n) (HI.out.rd 0 (n := n) (c := n) (e := 5) rfl) (by rw [HSO.out.2]; omega)
            rw [HSO.out.2] at this
            exact this
          have HRS := Lib.hid hrs
          clear hrs
          go_wp2_with fail
          (first | go_ret2 | go_ret | go_ret3)
          refine ⟨_, _, by rw [HSO.out.1]; rfl, ?_, HX5.out.trans HI.out.ext⟩
          rw [HSO.out.1]
          exact HRS.out
end Go.Proofs.YtdmljilcbndmfaaDoor

/- THE WALK over Express of package matrix. -/
namespace Mx
theorem checkG_all {c : Nat} : ∀ {m : Mat}, (∀ r ∈ m, r.length = c) → c ≤ 48 → checkG c 0 m = 0
  | [], _, _ => rfl
  | r :: m, h, hc => by
    have hr := h r (by simp)
    rw [checkG, if_neg (by omega), if_pos hr]
    exact checkG_all (fun x hx => h x (by simp [hx])) hc
theorem check_all {c : Nat} {m : Mat} (h : ∀ r ∈ m, r.length = c) (hc : c ≤ 48) (hl : m.length ≤ 48) : check m = 0 := by
  rw [check_few (by omega)]
  cases m with
  | nil => rfl
  | cons r m =>
    have hr := h r (by simp)
    show checkG r.length 0 (r :: m) = 0
    rw [hr]
    exact checkG_all h hc
end Mx
namespace Go.Proofs.YtdmljilcbndmfaaDoor
open Go.RowKit
theorem ex_makeFunc {P : Program} {o : Oper} {a : Act} {w : World} {k : FuncId} {x : Operand} {v : Value} (ho : o.op = .makeFunc (.func k) #[] #[x]) (hx : a.eval x = v) : (execOp a.eval o).run P w = .ok (.value (.func (.func k) #[] #[v])) w := by
  subst hx
  unfold execOp
  simp [ho, Instr.makeFunc]
theorem ex_extract {P : Program} {o : Oper} {a : Act} {w : World} {i : Nat} {x : Operand} {vs : Array Value} {v : Value} (ho : o.op = .extract x i) (hx : a.eval x = .tuple vs) (hi : vs[i]? = some v) : (execOp a.eval o).run P w = .ok (.value v) w := by
  unfold execOp
  simp only [ho, hx, Instr.extract, hi, Sem.run_bind, Sem.run_pure, Result.andThen_ok]
set_option maxHeartbeats 8000000 in
set_option maxRecDepth 100000 in
theorem xExpr1_any (m : Mx.Mat) (N i k PU : Nat) (vm : Value) (w : World) (hM : Rs (Rs RB) w vm m) (hw : ∀ r ∈ m, r.length = N) (hk : k < m.length) (hi : i < N) (c1 : w.cell? ⟨PU, 0, none⟩ = some vm) :
    Calls Tryd.prog 70 #[.int .i64 (i : Nat), .int .i64 (k : Nat), .pointer (some ⟨PU, 0, none⟩)] w fun e w' => e = .returned (bv (Mx.cell m k i)) ∧ w = w' := by
  obtain ⟨MA, cM, rfl, hm64⟩ := hM.form
  obtain ⟨a1, u1, rfl, hc1, hu1⟩ := hM.at hk
  obtain ⟨QA, cQ, rfl, hq64⟩ := hu1.form
  have hrl : m[k].length = N := hw _ (List.getElem_mem _)
  obtain ⟨a2, u2, rfl, hc2, hu2⟩ := hu1.at (i := i) (by rw [hrl]; exact hi)
  obtain rfl := hu2
  have hcell : Mx.cell m k i = m[k][i]'(by rw [hrl]; exact hi) := by
    unfold Mx.cell Mx.row
    rw [getD_got hk, getD_got (show i < m[k].length by rw [hrl]; exact hi)]
  rw [hcell]
  obtain ⟨x, hx⟩ : ∃ x, m[k][i]'(by rw [hrl]; exact hi) = x := ⟨_, rfl⟩
  rw [hx] at hc2 ⊢
  rw [hrl] at hc1
  have hkm : (k : Int) < (m.length : Int) := by omega
  obtain ⟨n, hn⟩ : ∃ n, m.length = n := ⟨_, rfl⟩
  rw [hn] at c1 hkm
  clear hx hcell hrl hu1 hM hw hm64 hq64
  clear hn hk
  go_enter Tryd.func70, Tryd.ntmps70
  go_wp2_with fail
  go_ret
  exact ⟨rfl, rfl⟩
noncomputable def ex_solve_code : Code := ((Tryd.f30.body.bind (regionOf 8)).getD .skip)
def ex_solve_dsts : List (Option Nat) := [some 31, some 32, some 33, some 34, some 35, some 36, some 37, some 38, some 39, some 40, some 30, some 41, some 42, some 43, some 7, some 8, some 9]
theorem ex_solve_apart : apartD ex_solve_dsts = true := by decide +kernel
set_option maxRecDepth 1000000 in
set_option maxHeartbeats 16000000 in
theorem ex_solve (wr : World) (m : Mx.Mat) (b : List UInt8) (n N U cM cB : Nat) (MA BA : Option Addr) (HT : Hid (Tab wr)) (HM : Hid (Rs (Rs RB) wr (.slice MA n cM) m)) (HB : Hid (Rs RB wr (.slice BA N cB) b)) (HL : Hid (m.length = n ∧ b.length = N ∧ (∀ r ∈ m, r.length = N))) (h0 : 0 < N) (hN1 : N ≤ 1000) (hn : n ≤ 999) (hU : wr.cell? ⟨U, 0, none⟩ = some (.slice MA n cM)) (c0 c3 c4 c5 c6 c7 c8 c9 c10 c11 c12 c13 c14 c15 c16 c17 c18 c19 c20 c21 c22 c23 c24 c25 c26 c27 c28 c29 c30 c31 c32 c33 c34 c35 c36 c37 c38 c39 c40 c41 c42 c43 c44 c45 c46 : Value) (df : List Deferred) (K : Act → World → Prop)
    (hK : ∀ (X Y : Value) (u30 u31 u32 u33 u34 u35 u36 u37 u38 u39 u40 u41 u42 u43 : Value) (wx : World), Ext wr wx ∧ Rs RB wx X ((Mx.solved (tabled N (n + 1) (fun i k => if k < n then Mx.cell (tabled N n (fun i k => Mx.cell m k i)) i k else b.getD i 0)) n).getD []) → K ⟨#[c0, .slice BA N cB, .pointer (some ⟨U, 0, none⟩), c3, c4, c5, c6, X, Y, .bool (Mx.solved (tabled N (n + 1) (fun i k => if k < n then Mx.cell (tabled N n (fun i k => Mx.cell m k i)) i k else b.getD i 0)) n).isSome, c10, c11, c12, c13, c14, c15, c16, c17, c18, c19, c20, c21, c22, c23, c24, c25, c26, c27, c28, c29, u30, u31, u32, u33, u34, u35, u36, u37, u38, u39, u40, u41, u42, u43, c44, c45, c46], df⟩ wx) :
    Code.wp Tryd.prog ex_solve_code (AtEnd K) ⟨#[c0, .slice BA N cB, .pointer (some ⟨U, 0, none⟩), c3, c4, c5, c6, c7, c8, c9, c10, c11, c12, c13, c14, c15, c16, c17, c18, c19, c20, c21, c22, c23, c24, c25, c26, c27, c28, c29, c30, c31, c32, c33, c34, c35, c36, c37, c38, c39, c40, c41, c42, c43, c44, c45, c46], df⟩ wr := by
  conv => arg 2; whnf
  refine region_inv (by kernel_rfl) [[], [0], [], [2], [], [1, 3, 4], [], [], [7], [5, 6, 8, 5], [9], [10], [10], [10], [11, 9, 0, 1, 2, 3, 4, 5, 6, 7, 8, 9, 10, 11], [12, 14, 0, 1, 2, 3, 4, 5, 6, 7, 8, 9, 10, 11, 12, 14], [13, 15, 0, 1, 2, 3, 4, 5, 6, 7, 8, 9, 10, 11, 12, 13, 14, 15]] (by kernel_rfl) [0, 1, 2, 3, 4, 5, 6, 7, 8, 9, 10, 11, 12, 13, 14, 15, 16] (by decide +kernel) (by decide +kernel) (by decide +kernel) (fun L a wc => ∃ (gv : Value) (X : Value) (Y : Value), Inv ex_solve_dsts [.slice BA N cB, .int .i64 (N : Nat), .slice MA n cM, .int .i64 (n : Nat), .func (.func 70) #[] #[.pointer (some ⟨U, 0, none⟩)], gv, .slice BA N cB, .slice MA n cM, .int .i64 (n : Nat), .tuple #[X, Y, .bool (Mx.solved (tabled N (n + 1) (fun i k => if k < n then Mx.cell (tabled N n (fun i k => Mx.cell m k i)) i k else b.getD i 0)) n).isSome], .tuple #[X, Y, .bool (Mx.solved (tabled N (n + 1) (fun i k => if k < n then Mx.cell (tabled N n (fun i k => Mx.cell m k i)) i k else b.getD i 0)) n).isSome], X, Y, .bool (Mx.solved (tabled N (n + 1) (fun i k => if k < n then Mx.cell (tabled N n (fun i k => Mx.cell m k i)) i k else b.getD i 0)) n).isSome, X, Y, .bool (Mx.solved (tabled N (n + 1) (fun i k => if k < n then Mx.cell (tabled N n (fun i k => Mx.cell m k i)) i k else b.getD i 0)) n).isSome] ⟨#[c0, .slice BA N cB, .pointer (some ⟨U, 0, none⟩), c3, c4, c5, c6, c7, c8, c9, c10, c11, c12, c13, c14, c15, c16, c17, c18, c19, c20, c21, c22, c23, c24, c25, c26, c27, c28, c29, c30, c31, c32, c33, c34, c35, c36, c37, c38, c39, c40, c41, c42, c43, c44, c45, c46], df⟩ L a ∧ Hid (Ext wr wc ∧ (L 5 = true → Rs (Rs RB) wc gv (tabled N n (fun i k => Mx.cell m k i))) ∧ (L 9 = true → Rs RB wc X ((Mx.solved (tabled N (n + 1) (fun i k => if k < n then Mx.cell (tabled N n (fun i k => Mx.cell m k i)) i k else b.getD i 0)) n).getD [])))) ⟨undef, undef, undef, Inv.start, Lib.hid ⟨(Ext.refl wr).drew, fun h => (by cases h), fun h => by cases h⟩⟩ ?_ ?_
  · refine ⟨?_, ?_, ?_, ?_, ?_, ?_, ?_, ?_, ?_, ?_, ?_, ?_, ?_, ?_, ?_, ?_, ?_, trivial⟩
    ·
      rintro L a wc ⟨gv, X, Y, hv, HO⟩ hL hc hd
      exact wpOp_val rfl rfl (ex_move rfl ((hv.fixed 1 (by decide)).trans rfl)) ⟨gv, X, Y, hv.put ex_solve_apart 0 rfl (lb rfl) (lb rfl) rfl, HO⟩
    ·
      rintro L a wc ⟨gv, X, Y, hv, HO⟩ hL hc hd
      exact wpOp_val rfl rfl (ex_len rfl (hv.get 0 rfl rfl (hd 0 (by decide))) (by go_simp)) ⟨gv, X, Y, hv.put ex_solve_apart 1 rfl (lb rfl) (lb rfl) rfl, HO⟩
    ·
      rintro L a wc ⟨gv, X, Y, hv, HO⟩ hL hc hd
      have h0 : wc.cell? ⟨U, 0, none⟩ = some (.slice MA n cM) := HO.out.1.cell hU
      exact wpOp_val rfl rfl (ex_load rfl ((hv.fixed 2 (by decide)).trans rfl) (by go_simp)) ⟨gv, X, Y, hv.put ex_solve_apart 2 rfl (lb rfl) (lb rfl) rfl, HO⟩
    ·
      rintro L a wc ⟨gv, X, Y, hv, HO⟩ hL hc hd
      exact wpOp_val rfl rfl (ex_len rfl (hv.get 2 rfl rfl (hd 2 (by decide))) (by go_simp)) ⟨gv, X, Y, hv.put ex_solve_apart 3 rfl (lb rfl) (lb rfl) rfl, HO⟩
    ·
      rintro L a wc ⟨gv, X, Y, hv, HO⟩ hL hc hd
      exact wpOp_val rfl rfl (ex_makeFunc rfl ((hv.fixed 2 (by decide)).trans rfl)) ⟨gv, X, Y, hv.put ex_solve_apart 4 rfl (lb rfl) (lb rfl) rfl, HO⟩
    ·
      rintro L a wc ⟨gv, X, Y, hv, HO⟩ hL hc hd
      have hcall := xGrid_any N n 70 #[.pointer (some ⟨U, 0, none⟩)] (fun i k => Mx.cell m k i) wc hN1 (by omega) (enters_of Tryd.func70 (by kernel_rfl) rfl) (fun i k hi hk w' hx' => xExpr1_any m N i k U _ w' (Rs.ext (Rs.ext RB.ext) _ _ _ _ (HO.out.1.trans hx') HM.out) (fun r hr => HL.out.2.2 r hr) (by rw [HL.out.1]; exact hk) hi ((HO.out.1.trans hx').cell hU))
      refine wpOp_call (R := fun v w1 => Rs (Rs RB) w1 v (tabled N n (fun i k => Mx.cell m k i)) ∧ Ext wc w1) rfl rfl (ex_call rfl rfl (map3c (hv.get 1 rfl rfl (hd 1 (by decide))) (hv.get 3 rfl rfl (hd 3 (by decide))) (hv.get 4 rfl rfl (hd 4 (by decide)))) (enters_of Tryd.func69 (by kernel_rfl) rfl _ _)) (hcall.mono (fun e w' h => h)) ?_
      rintro v w' ⟨hr, hx⟩
      have h9 : upd L 5 9 = true → False := fun h => Bool.false_ne_true (hL.symm.trans (hc 9 h 5 (by decide)))
      exact ⟨v, X, Y, hv.put ex_solve_apart 5 rfl (lb rfl) (lb rfl) rfl, Lib.hid ⟨HO.out.1.trans hx, fun _ => hr, fun h => (h9 h).elim⟩⟩
    ·
      rintro L a wc ⟨gv, X, Y, hv, HO⟩ hL hc hd
      exact wpOp_val rfl rfl (ex_move rfl ((hv.fixed 1 (by decide)).trans rfl)) ⟨gv, X, Y, hv.put ex_solve_apart 6 rfl (lb rfl) (lb rfl) rfl, HO⟩
    ·
      rintro L a wc ⟨gv, X, Y, hv, HO⟩ hL hc hd
      have h0 : wc.cell? ⟨U, 0, none⟩ = some (.slice MA n cM) := HO.out.1.cell hU
      exact wpOp_val rfl rfl (ex_load rfl ((hv.fixed 2 (by decide)).trans rfl) (by go_simp)) ⟨gv, X, Y, hv.put ex_solve_apart 7 rfl (lb rfl) (lb rfl) rfl, HO⟩
    ·
      rintro L a wc ⟨gv, X, Y, hv, HO⟩ hL hc hd
      exact wpOp_val rfl rfl (ex_len rfl (hv.get 7 rfl rfl (hd 7 (by decide))) (by go_simp)) ⟨gv, X, Y, hv.put ex_solve_apart 8 rfl (lb rfl) (lb rfl) rfl, HO⟩
    ·
      rintro L a wc ⟨gv, X, Y, hv, HO⟩ hL hc hd
      have hM1 : Rs (Rs RB) wc gv (tabled N n (fun i k => Mx.cell m k i)) := HO.out.2.1 (hd 5 (by decide))
      have hcall := xSolve_any (tabled N n (fun i k => Mx.cell m k i)) b n N gv (.slice BA N cB) wc (HT.out.ext HO.out.1) hM1 (Rs.ext RB.ext _ _ _ _ HO.out.1 HB.out) (fun i hi => by rw [Mx.row_at hi]; exact tabled_wide (List.getElem_mem _)) (by rw [tabled_length]; exact HL.out.2.1.symm) HL.out.2.1 h0 hN1 hn
      refine wpOp_call (R := fun v w1 => ∃ X2 Y2, v = .tuple #[X2, Y2, .bool (Mx.solved (tabled N (n + 1) (fun i k => if k < n then Mx.cell (tabled N n (fun i k => Mx.cell m k i)) i k else b.getD i 0)) n).isSome] ∧ Rs RB w1 X2 ((Mx.solved (tabled N (n + 1) (fun i k => if k < n then Mx.cell (tabled N n (fun i k => Mx.cell m k i)) i k else b.getD i 0)) n).getD []) ∧ Ext wc w1) rfl rfl (ex_call rfl rfl (map3c (hv.get 5 rfl rfl (hd 5 (by decide))) (hv.get 6 rfl rfl (hd 6 (by decide))) (hv.get 8 rfl rfl (hd 8 (by decide)))) (enters_of Tryd.func68 (by kernel_rfl) rfl _ _)) (hcall.mono (fun e w' h => by obtain ⟨X2, Y2, h1, h2, h3⟩ := h; exact ⟨_, h1, X2, Y2, rfl, h2, h3⟩)) ?_
      rintro v w' ⟨X2, Y2, rfl, hr, hx⟩
      have hv := hv.reset 10 (Bool.eq_false_iff.2 fun h => Bool.false_ne_true (hL.symm.trans (hc 10 h 9 (by decide)))) (.tuple #[X2, Y2, .bool (Mx.solved (tabled N (n + 1) (fun i k => if k < n then Mx.cell (tabled N n (fun i k => Mx.cell m k i)) i k else b.getD i 0)) n).isSome])
      have hv := hv.reset 11 (Bool.eq_false_iff.2 fun h => Bool.false_ne_true (hL.symm.trans (hc 10 (hc 11 h 10 (by decide)) 9 (by decide)))) (X2)
      have hv := hv.reset 12 (Bool.eq_false_iff.2 fun h => Bool.false_ne_true (hL.symm.trans (hc 10 (hc 12 h 10 (by decide)) 9 (by decide)))) (Y2)
      have hv := hv.reset 14 (Bool.eq_false_iff.2 fun h => Bool.false_ne_true (hL.symm.trans (hc 14 h 9 (by decide)))) (X2)
      have hv := hv.reset 15 (Bool.eq_false_iff.2 fun h => Bool.false_ne_true (hL.symm.trans (hc 15 h 9 (by decide)))) (Y2)
      exact ⟨gv, X2, Y2, hv.put ex_solve_apart 9 rfl (lb rfl) (lb rfl) rfl, Lib.hid ⟨HO.out.1.trans hx, fun h => Rs.ext (Rs.ext RB.ext) _ _ _ _ hx (HO.out.2.1 h), fun _ => hr⟩⟩
    ·
      rintro L a wc ⟨gv, X, Y, hv, HO⟩ hL hc hd
      exact wpOp_val rfl rfl (ex_move rfl (hv.get 9 rfl rfl (hd 9 (by decide)))) ⟨gv, X, Y, hv.put ex_solve_apart 10 rfl (lb rfl) (lb rfl) rfl, HO⟩
    ·
      rintro L a wc ⟨gv, X, Y, hv, HO⟩ hL hc hd
      exact wpOp_val rfl rfl (ex_extract rfl (hv.get 10 rfl rfl (hd 10 (by decide))) rfl) ⟨gv, X, Y, hv.put ex_solve_apart 11 rfl (lb rfl) (lb rfl) rfl, HO⟩
    ·
      rintro L a wc ⟨gv, X, Y, hv, HO⟩ hL hc hd
      exact wpOp_val rfl rfl (ex_extract rfl (hv.get 10 rfl rfl (hd 10 (by decide))) rfl) ⟨gv, X, Y, hv.put ex_solve_apart 12 rfl (lb rfl) (lb rfl) rfl, HO⟩
    ·
      rintro L a wc ⟨gv, X, Y, hv, HO⟩ hL hc hd
      exact wpOp_val rfl rfl (ex_extract rfl (hv.get 10 rfl rfl (hd 10 (by decide))) rfl) ⟨gv, X, Y, hv.put ex_solve_apart 13 rfl (lb rfl) (lb rfl) rfl, HO⟩
    ·
      rintro L a wc ⟨gv, X, Y, hv, HO⟩ hL hc hd
      exact wpOp_val rfl rfl (ex_assign rfl (hv.get 11 rfl rfl (hd 11 (by decide)))) ⟨gv, X, Y, hv.put ex_solve_apart 14 rfl (lb rfl) (lb rfl) rfl, HO⟩
    ·
      rintro L a wc ⟨gv, X, Y, hv, HO⟩ hL hc hd
      exact wpOp_val rfl rfl (ex_assign rfl (hv.get 12 rfl rfl (hd 12 (by decide)))) ⟨gv, X, Y, hv.put ex_solve_apart 15 rfl (lb rfl) (lb rfl) rfl, HO⟩
    ·
      rintro L a wc ⟨gv, X, Y, hv, HO⟩ hL hc hd
      exact wpOp_val rfl rfl (ex_assign rfl (hv.get 13 rfl rfl (hd 13 (by decide)))) ⟨gv, X, Y, hv.put ex_solve_apart 16 rfl (lb rfl) (lb rfl) rfl, HO⟩
  · rintro L a wc ⟨gv, X, Y, hv, HO⟩ hall
    show K a wc
    have ha := act_lit a
    rw [hv.size, hv.defers] at ha
    have hl : ∀ f : Nat → Value, ((List.range (⟨#[c0, .slice BA N cB, .pointer (some ⟨U, 0, none⟩), c3, c4, c5, c6, c7, c8, c9, c10, c11, c12, c13, c14, c15, c16, c17, c18, c19, c20, c21, c22, c23, c24, c25, c26, c27, c28, c29, c30, c31, c32, c33, c34, c35, c36, c37, c38, c39, c40, c41, c42, c43, c44, c45, c46], df⟩ : Act).tmps.size).map f).toArray = #[f 0, f 1, f 2, f 3, f 4, f 5, f 6, f 7, f 8, f 9, f 10, f 11, f 12, f 13, f 14, f 15, f 16, f 17, f 18, f 19, f 20, f 21, f 22, f 23, f 24, f 25, f 26, f 27, f 28, f 29, f 30, f 31, f 32, f 33, f 34, f 35, f 36, f 37, f 38, f 39, f 40, f 41, f 42, f 43, f 44, f 45, f 46] := fun _ => rfl
    rw [hl] at ha
    simp only [hv.fixed 0 (by decide), hv.fixed 1 (by decide), hv.fixed 2 (by decide), hv.fixed 3 (by decide), hv.fixed 4 (by decide), hv.fixed 5 (by decide), hv.fixed 6 (by decide), hv.fixed 10 (by decide), hv.fixed 11 (by decide), hv.fixed 12 (by decide), hv.fixed 13 (by decide), hv.fixed 14 (by decide), hv.fixed 15 (by decide), hv.fixed 16 (by decide), hv.fixed 17 (by decide), hv.fixed 18 (by decide), hv.fixed 19 (by decide), hv.fixed 20 (by decide), hv.fixed 21 (by decide), hv.fixed 22 (by decide), hv.fixed 23 (by decide), hv.fixed 24 (by decide), hv.fixed 25 (by decide), hv.fixed 26 (by decide), hv.fixed 27 (by decide), hv.fixed 28 (by decide), hv.fixed 29 (by decide), hv.fixed 44 (by decide), hv.fixed 45 (by decide), hv.fixed 46 (by decide), hv.get 14 (d := 7) rfl rfl (hall 14 (by decide)), hv.get 15 (d := 8) rfl rfl (hall 15 (by decide)), hv.get 16 (d := 9) rfl rfl (hall 16 (by decide))] at ha
    rw [ha]
    exact hK X Y _ _ _ _ _ _ _ _ _ _ _ _ _ _ wc ⟨HO.out.1, HO.out.2.2 (hall 9 (by decide))⟩
theorem aug_tabled (m : Mx.Mat) (b : List UInt8) : tabled b.length (m.length + 1) (fun i k => if k < m.length then Mx.cell (tabled b.length m.length (fun i k => Mx.cell m k i)) i k else b.getD i 0) = Mx.aug m b := by
  unfold tabled Mx.aug
  refine List.map_congr_left fun i hi => List.map_congr_left fun k _ => ?_
  have hi := List.mem_range.1 hi
  dsimp only
  by_cases hk : k < m.length
  · rw [if_pos hk, if_pos hk]
    unfold Mx.cell Mx.row
    simp [List.getD_eq_getElem?_getD, hi, hk]
  · rw [if_neg hk, if_neg hk]
set_option maxHeartbeats 8000000 in
set_option maxRecDepth 100000 in
/-- Express, where the rows are as long as the row, and few. -/
theorem xExpress_any (m : Mx.Mat) (b : List UInt8) (vm vb : Value) (w : World) (hT : Tab w) (hM : Rs (Rs RB) w vm m) (hB : Rs RB w vb b) (hw : ∀ r ∈ m, r.length = b.length) (h0 : 0 < b.length) (hb : b.length ≤ 48) (hm : m.length ≤ 48) :
    Calls Tryd.prog 30 #[vm, vb] w fun e w' => ∃ X, e = .returned (.tuple #[X, .int .i64 (if (Mx.expr m b).isSome then 0 else 8)]) ∧ Rs RB w' X ((Mx.expr m b).getD []) ∧ Ext w w' := by
  obtain ⟨MA, cM, rfl, hm64⟩ := hM.form
  obtain ⟨BA, cB, rfl, hb64⟩ := hB.form
  have hck : Mx.check m = 0 := Mx.check_all hw hb hm
  have haug := aug_tabled m b
  have hcols : 0 < m.length → Mx.cols m = b.length := fun h => by
    unfold Mx.cols
    exact hw _ (by rw [List.getD_eq_getElem?_getD, List.getElem?_eq_getElem h]; exact List.getElem_mem _)
  rw [Mx.expr_solved, ← haug]
  obtain ⟨n, hn⟩ : ∃ n, m.length = n := ⟨_, rfl⟩
  obtain ⟨N, hN⟩ : ∃ N, b.length = N := ⟨_, rfl⟩
  rw [hn] at hcols hm hM ⊢
  rw [hN] at h0 hb hB hw hcols ⊢
  obtain ⟨so, hso⟩ : ∃ so, Mx.solved (tabled N (n + 1) (fun i k => if k < n then Mx.cell (tabled N n (fun i k => Mx.cell m k i)) i k else b.getD i 0)) n = so := ⟨_, rfl⟩
  rw [hso]
  obtain ⟨w1, hw1⟩ : ∃ w1, w.alloc (.cells #[.slice MA n cM] 65) = w1 := ⟨_, rfl⟩
  have hx1 : Ext w w1 := by rw [← hw1]; exact (Ext.refl w).alloc _
  have d1 : w1.cell? ⟨w.heap.size, 0, none⟩ = some (.slice MA n cM) := by rw [← hw1]; clear hw1; go_simp
  have HM := Lib.hid (Rs.ext (Rs.ext RB.ext) _ _ _ _ hx1 hM)
  have HB := Lib.hid (Rs.ext RB.ext _ _ _ _ hx1 hB)
  have HT := Lib.hid (hT.ext hx1)
  have HL := Lib.hid (And.intro hn (And.intro hN hw))
  have HW := Lib.hid hw1
  have HX1 := Lib.hid hx1
  have HCK := Lib.hid (And.intro hck hcols)
  have HSO := Lib.hid hso
  have HD := Lib.hid d1
  rw [← hw1] at d1
  clear hm64 hb64 hck haug hcols hn hN hM hB hT hw hw1 hx1 hso
  go_enter Tryd.func30, Tryd.ntmps30
  go_wp2_with fail
  clear d1
  rw [HW.out]
  refine (xCheck_any m _ _ HM.out).mono ?_
  rintro e w2 ⟨rfl, rfl⟩
  rw [HCK.out.1]
  have d1 := HD.out
  by_cases hn0 : n = 0
  · subst hn0
    go_wp2_with fail
    refine wp_atEnd' (ex_solve w1 m b 0 N _ cM cB MA BA HT HM HB HL h0 (by omega) (by omega) d1 _ _ _ _ _ _ _ _ _ _ _ _ _ _ _ _ _ _ _ _ _ _ _ _ _ _ _ _ _ _ _ _ _ _ _ _ _ _ _ _ _ _ _ _ _ _ _ ?_)
    intro X Y u30 u31 u32 u33 u34 u35 u36 u37 u38 u39 u40 u41 u42 u43 wx hx
    rw [HSO.out] at hx ⊢
    have HX := Lib.hid hx
    clear hx d1
    cases so with
    | none =>
      go_wp2_with fail
      (first | go_ret2 | go_ret)
      exact ⟨_, rfl, ⟨none, 0, rfl, by simp, fun i x h => by simp at h⟩, HX1.out.trans HX.out.1⟩
    | some s =>
      go_wp2_with fail
      (first | go_ret2 | go_ret)
      exact ⟨_, rfl, HX.out.2, HX1.out.trans HX.out.1⟩
  · have hnp : (0 : Int) < (n : Int) := by omega
    go_wp2_with fail
    refine (xCols_any m _ _ HM.out).mono ?_
    rintro e w2 ⟨rfl, rfl⟩
    rw [HCK.out.2 (by omega)]
    go_wp2_with fail
    refine wp_atEnd' (ex_solve w1 m b n N _ cM cB MA BA HT HM HB HL h0 (by omega) (by omega) d1 _ _ _ _ _ _ _ _ _ _ _ _ _ _ _ _ _ _ _ _ _ _ _ _ _ _ _ _ _ _ _ _ _ _ _ _ _ _ _ _ _ _ _ _ _ _ _ ?_)
    intro X Y u30 u31 u32 u33 u34 u35 u36 u37 u38 u39 u40 u41 u42 u43 wx hx
    rw [HSO.out] at hx ⊢
    have HX := Lib.hid hx
    clear hx d1
    cases so with
    | none =>
      go_wp2_with fail
      (first | go_ret2 | go_ret)
      exact ⟨_, rfl, ⟨none, 0, rfl, by simp, fun i x h => by simp at h⟩, HX1.out.trans HX.out.1⟩
    | some s =>
      go_wp2_with fail
      (first | go_ret2 | go_ret)
      exact ⟨_, rfl, HX.out.2, HX1.out.trans HX.out.1⟩
end Go.Proofs.YtdmljilcbndmfaaDoor

/- REBUILD in plain terms: choices, recipes, the least of them. No program in sight. -/
namespace Rb
open Gf Mx
/-- The lists of so many elements of a list, in order. -/
def choose : List Int → Nat → List (List Int)
  | _, 0 => [[]]
  | [], _ + 1 => []
  | x :: l, n + 1 => (choose l n).map (x :: ·) ++ choose l (n + 1)
theorem choose_zero (l : List Int) : choose l 0 = [[]] := by cases l <;> rfl
theorem choose_short : ∀ (l : List Int) (n : Nat), l.length < n → choose l n = []
  | l, 0, h => absurd h (by omega)
  | [], n + 1, _ => rfl
  | x :: l, n + 1, h => by
    simp only [List.length_cons] at h
    rw [choose, choose_short l n (by omega), choose_short l (n + 1) (by omega)]; rfl
/-- A recipe. -/
structure Rec where
  piece : Int
  src : List Int
  coef : List UInt8
def rowsAt (m : Mat) (f : List Int) : Mat := f.map fun k => m.getD k.toNat []
def keep (f : List Int) (x : List UInt8) : List (Int × UInt8) := (f.zip x).filter fun a => a.2 != 0
def made (p : Int) (f : List Int) (x : List UInt8) : Rec := ⟨p, (keep f x).map Prod.fst, (keep f x).map Prod.snd⟩
/-- The recipe of a piece from some pieces, if there is one. -/
def recipe (m : Mat) (p : Nat) (f : List Int) : Option Rec := (expr (rowsAt m f) (m.getD p [])).map (made p f)
def found (m : Mat) (p : Nat) (l : List Int) (many : Nat) : List Rec := (choose l many).filterMap (recipe m p)
/-- The recipes that read as few as possible, from so many on. -/
def leastFrom (m : Mat) (p : Nat) (l : List Int) : Nat → Nat → List Rec
  | 0, _ => []
  | fuel + 1, many => if found m p l many = [] then leastFrom m p l fuel (many + 1) else found m p l many
def least (m : Mat) (p : Nat) (l : List Int) : List Rec := leastFrom m p l l.length 1
end Rb

/- THE LEAST RECIPES in plain terms: none reads a piece in vain, they ascend, and fewer do not do. No program in sight. -/
namespace Rb
open Gf Mx
theorem rowsAt_length (m : Mat) (f : List Int) : (rowsAt m f).length = f.length := by simp [rowsAt]
theorem rowsAt_getD (m : Mat) (f : List Int) {k : Nat} (h : k < f.length) : (rowsAt m f).getD k [] = m.getD (f.getD k 0).toNat [] := by
  simp [rowsAt, List.getD_eq_getElem?_getD, h]
/-- One list comes before another one. -/
def Bf (a b : List Int) : Prop := ∃ i, i < a.length ∧ i < b.length ∧ (∀ j, j < i → a.getD j 0 = b.getD j 0) ∧ a.getD i 0 < b.getD i 0
theorem Bf.cons {a b : List Int} (x : Int) (h : Bf a b) : Bf (x :: a) (x :: b) := by
  obtain ⟨i, h1, h2, h3, h4⟩ := h
  refine ⟨i + 1, by simpa using h1, by simpa using h2, fun j hj => ?_, by simpa using h4⟩
  cases j with
  | zero => rfl
  | succ j => simpa using h3 j (by omega)
end Rb

/- BITS of sets, in plain terms. -/
namespace Cd
open Gf
theorem bit_test (s i : Nat) : bitAt s i = 1 ↔ s.testBit i = true := by
  unfold bitAt
  rw [Nat.testBit_eq_decide_div_mod_eq, decide_eq_true_eq]
theorem bit_01 (s i : Nat) : bitAt s i = 0 ∨ bitAt s i = 1 := by unfold bitAt; omega
theorem bit_or (s i j : Nat) : bitAt (s ||| 2 ^ i) j = 1 ↔ bitAt s j = 1 ∨ j = i := by
  rw [bit_test, bit_test, Nat.testBit_or, Nat.testBit_two_pow, Bool.or_eq_true, decide_eq_true_eq]
  exact or_congr Iff.rfl eq_comm
theorem bit_set : ∀ (g : List Int) (s j : Nat), (∀ i ∈ g, 0 ≤ i) → (bitAt (setOf s g) j = 1 ↔ bitAt s j = 1 ∨ (j : Int) ∈ g)
  | [], s, j, _ => by rw [setOf_nil]; simp
  | i :: g, s, j, h => by
    have e : setOf s (i :: g) = setOf (s ||| 2 ^ i.toNat) g := by unfold setOf; rfl
    rw [e, bit_set g _ j fun x hx => h x (by simp [hx]), bit_or, List.mem_cons, or_assoc]
    have h0 := h i (by simp)
    have : j = i.toNat ↔ (j : Int) = i := by omega
    rw [this]
end Cd
