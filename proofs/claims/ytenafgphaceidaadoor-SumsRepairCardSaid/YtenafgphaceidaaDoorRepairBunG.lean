/- What the program's functions do, step by step: part G of the texts for this claim; no condition beyond what each theorem states. -/
import Derived.Deep.Matrix
import Derived.Lib.SmallJoins
import Derived.Deep.Slices
import Derived.Test.YtenafgphaceidaaDoorRepairBunA
import Derived.Test.YtenafgphaceidaaDoorRepairBunB
import Derived.Test.YtenafgphaceidaaDoorRepairBunC
import Derived.Test.YtenafgphaceidaaDoorRepairBunD
import Derived.Test.YtenafgphaceidaaDoorRepairBunE
import Derived.Test.YtenafgphaceidaaDoorRepairBunF
/- THE SUM THAT IS MADE AT THE TARGET IS THE COMBINATION OF THE PIECES. -/
namespace Su
/-! Sums of bytes. -/
def xto (f : Nat → UInt8) : Nat → UInt8
  | 0 => 0
  | k + 1 => xto f k ^^^ f k
theorem xor4 (a b c d : UInt8) : (a ^^^ b) ^^^ (c ^^^ d) = (a ^^^ c) ^^^ (b ^^^ d) := by
  rw [UInt8.xor_assoc, UInt8.xor_assoc, ← UInt8.xor_assoc b c d, UInt8.xor_comm b c, UInt8.xor_assoc c b d]
theorem xto_congr {f g : Nat → UInt8} : ∀ k, (∀ i, i < k → f i = g i) → xto f k = xto g k
  | 0, _ => rfl
  | k + 1, h => by rw [xto, xto, xto_congr k fun i hi => h i (by omega), h k (Nat.lt_succ_self k)]
theorem xto_zero : ∀ k, xto (fun _ => 0) k = 0
  | 0 => rfl
  | k + 1 => by rw [xto, xto_zero k]; rfl
theorem xto_add (f g : Nat → UInt8) : ∀ k, xto (fun i => f i ^^^ g i) k = xto f k ^^^ xto g k
  | 0 => by rw [xto, xto, xto, UInt8.xor_self]
  | k + 1 => by rw [xto, xto, xto, xto_add f g k, xor4]
theorem xto_swap (f : Nat → Nat → UInt8) (m : Nat) : ∀ k, xto (fun i => xto (fun j => f i j) m) k = xto (fun j => xto (fun i => f i j) k) m
  | 0 => by
    show (0 : UInt8) = _
    exact ((xto_congr (g := fun _ => 0) m fun _ _ => rfl).trans (xto_zero m)).symm
  | k + 1 => by
    rw [xto, xto_swap f m k, ← xto_add]
    rfl
theorem xto_head (f : Nat → UInt8) : ∀ k, xto f (k + 1) = f 0 ^^^ xto (fun i => f (i + 1)) k
  | 0 => by rw [xto, xto, xto, UInt8.zero_xor, UInt8.xor_zero]
  | k + 1 => by rw [xto, xto_head f k, UInt8.xor_assoc, xto]
theorem xto_pick {D : List Int} (hD : D.Nodup) (key : Int) (g : UInt8) : ∀ k, k ≤ D.length → xto (fun i => if key = D.getD i 0 then g else 0) k = if key ∈ D.take k then g else 0
  | 0, _ => by simp [xto]
  | k + 1, hk => by
    have hg : D.getD k 0 = D[k] := by rw [List.getD_eq_getElem?_getD, List.getElem?_eq_getElem hk]; rfl
    have ht : D.take (k + 1) = D.take k ++ [D[k]] := List.take_succ_eq_append_getElem hk
    rw [xto, xto_pick hD key g k (by omega), ht]
    simp only [List.mem_append, List.mem_singleton, hg]
    by_cases h1 : key = D[k]
    · have h2 : key ∉ D.take k := fun hm => by
        obtain ⟨j, hj, e⟩ := List.getElem_of_mem hm
        rw [List.length_take] at hj
        rw [List.getElem_take] at e
        have := nodup_inj hD (by omega) hk (e.trans h1)
        omega
      rw [if_neg h2, if_pos h1, if_pos (.inr h1), UInt8.zero_xor]
    · by_cases h2 : key ∈ D.take k
      · rw [if_pos h2, if_neg h1, if_pos (.inl h2), UInt8.xor_zero]
      · rw [if_neg h2, if_neg h1, if_neg (by rintro (h | h); exact h2 h; exact h1 h), UInt8.xor_zero]
theorem xto_keys {D : List Int} (hD : D.Nodup) (key : Nat → Int) (g : Nat → UInt8) (m : Nat) (hk : ∀ j, j < m → key j ∈ D) : xto (fun i => xto (fun j => if key j = D.getD i 0 then g j else 0) m) D.length = xto g m := by
  rw [xto_swap]
  exact xto_congr m fun j hj => by
    rw [xto_pick hD (key j) (g j) D.length (Nat.le_refl _), List.take_length, if_pos (hk j hj)]
/-! Bytes of strings. -/
theorem sum_byte (s t : List UInt8) (i : Nat) : (Gf.sum s t).getD i 0 = s.getD i 0 ^^^ t.getD i 0 := by
  unfold Gf.sum
  rw [List.getD_eq_getElem?_getD, List.getElem?_map]
  rcases Nat.lt_or_ge i (max s.length t.length) with h | h
  · rw [List.getElem?_range h]
    rfl
  · rw [List.getElem?_eq_none (by simpa using h), List.getD_eq_getElem?_getD, List.getD_eq_getElem?_getD, List.getElem?_eq_none (by omega), List.getElem?_eq_none (by omega)]
    rfl
theorem scale_byte (c : UInt8) (s : List UInt8) (i : Nat) (h : i < s.length) : (Gf.scale c s).getD i 0 = Gf.mul c (s.getD i 0) := by
  unfold Gf.scale
  rw [List.getD_eq_getElem?_getD, List.getElem?_map, List.getD_eq_getElem?_getD, List.getElem?_eq_getElem h]
  rfl
theorem part_byte (src : List Int) (coef : List UInt8) (ps : List (List UInt8)) (a : Int) (M i : Nat) (hi : i < M) : ∀ k, (∀ j, j < k → (ps.getD j []).length = M) → (partTo src coef ps a (List.replicate M 0) k).getD i 0 = xto (fun j => if src.getD j 0 = a then Gf.mul (coef.getD j 0) ((ps.getD j []).getD i 0) else 0) k
  | 0, _ => by
    rw [partTo_zero, xto, List.getD_eq_getElem?_getD, List.getElem?_replicate, if_pos hi]
    rfl
  | k + 1, hp => by
    have ih := part_byte src coef ps a M i hi k fun j hj => hp j (by omega)
    rw [xto]
    by_cases h1 : src.getD k 0 = a
    · rw [partTo_yes h1, sum_byte, ih, if_pos h1, scale_byte _ _ _ (by rw [hp k (Nat.lt_succ_self k)]; exact hi)]
    · rw [partTo_no h1, ih, if_neg h1, UInt8.xor_zero]
theorem hops_byte (rec : Int → Option (List UInt8)) (l : List (Int × Int)) (a : Int) (z : List UInt8) (i : Nat) : ∀ k V, hopsTo rec l a z k = some V → V.getD i 0 = z.getD i 0 ^^^ xto (fun j => if (l.getD j (0, 0)).2 = a then ((rec (l.getD j (0, 0)).1).getD []).getD i 0 else 0) k
  | 0, V, h => by
    injection h with h
    rw [← h, xto, UInt8.xor_zero]
  | k + 1, V, h => by
    obtain ⟨s, hs, hc⟩ := hopsTo_pre h
    have ih := hops_byte rec l a z i k s hs
    rw [xto]
    rcases hc with ⟨h1, r, hr, rfl⟩ | ⟨h1, rfl⟩
    · rw [sum_byte, ih, if_pos h1, hr, Option.getD_some, UInt8.xor_assoc]
    · rw [ih, if_neg h1, UInt8.xor_zero]
theorem part_len (src : List Int) (coef : List UInt8) (ps : List (List UInt8)) (a : Int) (M : Nat) : ∀ k, (∀ j, j < k → (ps.getD j []).length = M) → (partTo src coef ps a (List.replicate M 0) k).length = M
  | 0, _ => by rw [partTo_zero, List.length_replicate]
  | k + 1, hp => by
    have ih := part_len src coef ps a M k fun j hj => hp j (by omega)
    by_cases h1 : src.getD k 0 = a
    · rw [partTo_yes h1, sumLen, scaleLen, ih, hp k (Nat.lt_succ_self k), Nat.max_self]
    · rw [partTo_no h1, ih]
theorem hops_len {rec : Int → Option (List UInt8)} {l : List (Int × Int)} {a : Int} {z : List UInt8} {M : Nat} (hr : ∀ x r, rec x = some r → r.length = M) (hz : z.length = M) : ∀ k V, hopsTo rec l a z k = some V → V.length = M
  | 0, V, h => by injection h with h; rw [← h]; exact hz
  | k + 1, V, h => by
    obtain ⟨s, hs, hc⟩ := hopsTo_pre h
    have ih := hops_len (l := l) (a := a) hr hz k s hs
    rcases hc with ⟨_, r, hrr, rfl⟩ | ⟨_, rfl⟩
    · rw [sumLen, ih, hr _ _ hrr, Nat.max_self]
    · exact ih
theorem sumF_same {src : List Int} {l : List (Int × Int)} {coef : List UInt8} {ps : List (List UInt8)} {M : Nat} (hp : ∀ j, j < src.length → (ps.getD j []).length = M) : ∀ f a V, sumF src l coef ps M f a = some V → V.length = M
  | 0, _, _, h => by cases h
  | f + 1, a, V, h => by
    rw [sumF_succ] at h
    exact hops_len (fun x r hx => sumF_same hp f x r hx) (part_len src coef ps a M _ hp) _ _ h
theorem hopsTo_mono {rec rec' : Int → Option (List UInt8)} {l : List (Int × Int)} {a : Int} {z : List UInt8} (hr : ∀ x r, rec x = some r → rec' x = some r) : ∀ k V, hopsTo rec l a z k = some V → hopsTo rec' l a z k = some V
  | 0, V, h => h
  | k + 1, V, h => by
    obtain ⟨s, hs, hc⟩ := hopsTo_pre h
    have ih := hopsTo_mono (l := l) (a := a) hr k s hs
    rw [hopsTo, ih, Option.bind_some]
    rcases hc with ⟨h1, r, hrr, rfl⟩ | ⟨h1, rfl⟩
    · rw [if_pos h1, hr _ _ hrr]; rfl
    · rw [if_neg h1]
theorem sumF_mono {src : List Int} {l : List (Int × Int)} {coef : List UInt8} {ps : List (List UInt8)} {n : Nat} : ∀ f a V, sumF src l coef ps n f a = some V → sumF src l coef ps n (f + 1) a = some V
  | 0, _, _, h => by cases h
  | f + 1, a, V, h => by
    rw [sumF_succ] at h ⊢
    exact hopsTo_mono (fun x r hx => sumF_mono f x r hx) _ _ h
theorem sumF_le {src : List Int} {l : List (Int × Int)} {coef : List UInt8} {ps : List (List UInt8)} {n f : Nat} {a : Int} {V : List UInt8} (h : sumF src l coef ps n f a = some V) : ∀ g, f ≤ g → sumF src l coef ps n g a = some V := by
  intro g hg
  obtain ⟨d, rfl⟩ : ∃ d, g = f + d := ⟨g - f, by omega⟩
  clear hg
  induction d with
  | zero => exact h
  | succ d ih => exact sumF_mono _ _ _ ih
theorem comb_xto (coef : List UInt8) (ps : List (List UInt8)) (i : Nat) : ∀ n, Gf.comb coef ps i n = xto (fun j => Gf.mul (coef.getD j 0) ((ps.getD j []).getD i 0)) n
  | 0 => rfl
  | n + 1 => by rw [Gf.comb, xto, comb_xto coef ps i n]
/-- The sum at the target. -/
theorem whole_sum {h : Ha} {l : List (Int × Int)} (hv : valid h l = true) {coef : List UInt8} {ps : List (List UInt8)} (hok : Gf.combOk coef ps = true) (hlen : ps.length = h.src.length) {f : Nat} (hf : h.pr.length + 1 ≤ f) :
    sumF h.src l coef ps (Gf.combS coef ps).length f h.tgt = some (Gf.combS coef ps) := by
  have hM := combS_len hok
  obtain ⟨M, hMM⟩ : ∃ M, (ps.headD []).length = M := ⟨_, rfl⟩
  rw [hMM] at hM
  rw [hM]
  have hps : ∀ j, j < h.src.length → (ps.getD j []).length = M := fun j hj => by
    unfold Gf.combOk at hok
    rw [Bool.and_eq_true] at hok
    have h1 := List.all_eq_true.1 hok.2 (ps.getD j []) (by rw [List.getD_eq_getElem?_getD, List.getElem?_eq_getElem (by omega)]; exact List.getElem_mem _)
    rw [hMM] at h1
    simpa using h1
  have hcl : coef.length = ps.length := by
    unfold Gf.combOk at hok
    rw [Bool.and_eq_true] at hok
    simpa using hok.1
  obtain ⟨hc0, ho, hs, hg⟩ := valid_iff.1 hv
  have hsome : ∀ a, ∃ V, sumF h.src l coef ps M (h.pr.length + 1) a = some V := fun a => sumF_ends hv coef ps M _ 0 a (Nat.zero_le _) (by omega) (fun s hs => absurd hs (Nat.not_lt_zero s))
  have hnd : (h.tgt :: l.map Prod.fst).Nodup := by
    refine List.nodup_cons.2 ⟨fun hm => ?_, ?_⟩
    · obtain ⟨y, hy, e⟩ := List.mem_map.1 hm
      obtain ⟨k, hk, e2⟩ := mem_at hy
      have := (hop_fine hv hk).2.2.2
      rw [e2] at this
      exact this e
    · rw [List.nodup_iff_pairwise_ne, List.pairwise_map, List.pairwise_iff_getElem]
      intro i j hi hj hij e
      have := rise (h := h) j hj (fun q hq => ho q (by omega)) i hij
      rw [List.getD_eq_getElem?_getD, List.getD_eq_getElem?_getD, List.getElem?_eq_getElem hi, List.getElem?_eq_getElem hj] at this
      simp only [Option.getD_some] at this
      omega
  obtain ⟨D, hD⟩ : ∃ D, h.tgt :: l.map Prod.fst = D := ⟨_, rfl⟩
  have hDl : D.length = l.length + 1 := by rw [← hD]; simp
  have hD0 : D.getD 0 0 = h.tgt := by rw [← hD]; rfl
  have hD1 : ∀ j, j < l.length → D.getD (j + 1) 0 = (l.getD j (0, 0)).1 := fun j hj => by
    rw [← hD]
    simp only [List.getD_cons_succ]
    rw [List.getD_eq_getElem?_getD, List.getElem?_map, List.getD_eq_getElem?_getD, List.getElem?_eq_getElem hj]
    rfl
  rw [hD] at hnd
  -- each house's sum, byte by byte
  have hS : ∀ (i : Nat), i < M → ∀ a, (((sumF h.src l coef ps M (h.pr.length + 1) a).getD []).getD i 0 : UInt8) = xto (fun j => if h.src.getD j 0 = a then Gf.mul (coef.getD j 0) ((ps.getD j []).getD i 0) else 0) h.src.length ^^^ xto (fun j => if (l.getD j (0, 0)).2 = a then ((sumF h.src l coef ps M (h.pr.length + 1) (l.getD j (0, 0)).1).getD []).getD i 0 else 0) l.length := fun i hi a => by
    obtain ⟨V, hV⟩ := hsome a
    have hV2 := hV
    rw [sumF_succ] at hV2
    have hb := hops_byte _ l a _ i _ V hV2
    rw [part_byte h.src coef ps a M i hi _ hps] at hb
    rw [hV, Option.getD_some, hb]
    congr 1
    refine xto_congr _ fun j hj => ?_
    by_cases h1 : (l.getD j (0, 0)).2 = a
    · rw [if_pos h1, if_pos h1]
      obtain ⟨s', hs'⟩ := hopsTo_all _ _ hV2 (j + 1) hj
      obtain ⟨s0, _, hcase⟩ := hopsTo_pre hs'
      rcases hcase with ⟨_, r, hr, _⟩ | ⟨h2, _⟩
      · rw [hr, sumF_mono _ _ _ hr]
      · exact absurd h1 h2
    · rw [if_neg h1, if_neg h1]
  have hin2 : ∀ j, j < l.length → (l.getD j (0, 0)).2 ∈ D := fun j hj => by
    rw [← hD]
    by_cases e : (l.getD j (0, 0)).2 = h.tgt
    · rw [e]; exact List.mem_cons_self
    · refine List.mem_cons_of_mem _ ?_
      have hx : l.getD j (0, 0) ∈ l := by rw [List.getD_eq_getElem?_getD, List.getElem?_eq_getElem hj]; exact List.getElem_mem hj
      have hne : nextOf l (l.getD j (0, 0)).2 ≠ none := fun hno => by
        have h1 := hg _ hx
        obtain ⟨m, hm⟩ : ∃ m, h.pr.length = m + 1 := ⟨h.pr.length - 1, by have := (ok_of hc0).one; omega⟩
        rw [hm, go_add l _ 1 m, go_some (n := 0) (b := (l.getD j (0, 0)).2) (next_mem ho hx), go_stay hno] at h1
        exact e h1
      obtain ⟨q, b, hq⟩ := nextOf_key.1 hne
      exact List.mem_map.2 ⟨_, List.mem_of_getElem? hq, rfl⟩
  have hin1 : ∀ j, j < h.src.length → h.src.getD j 0 ∈ D := fun j hj => by
    rw [← hD]
    have hx : h.src.getD j 0 ∈ h.src := by rw [List.getD_eq_getElem?_getD, List.getElem?_eq_getElem hj]; exact List.getElem_mem hj
    by_cases e : h.src.getD j 0 = h.tgt
    · rw [e]; exact List.mem_cons_self
    · refine List.mem_cons_of_mem _ ?_
      obtain ⟨q, b, hq⟩ := nextOf_key.1 (hs _ ((senders_mem h _).2 ⟨e, hx⟩))
      exact List.mem_map.2 ⟨_, List.mem_of_getElem? hq, rfl⟩
  obtain ⟨V, hV⟩ := hsome h.tgt
  have hVl := sumF_same hps _ _ _ hV
  have hbyte : ∀ i, i < M → V.getD i 0 = (Gf.combS coef ps).getD i 0 := fun i hi => by
    have e1 : xto (fun q => ((sumF h.src l coef ps M (h.pr.length + 1) (D.getD q 0)).getD []).getD i 0) D.length = xto (fun j => Gf.mul (coef.getD j 0) ((ps.getD j []).getD i 0)) h.src.length ^^^ xto (fun j => ((sumF h.src l coef ps M (h.pr.length + 1) (l.getD j (0, 0)).1).getD []).getD i 0) l.length := by
      rw [xto_congr _ fun q _ => hS i hi (D.getD q 0), xto_add, xto_keys hnd _ _ _ hin1, xto_keys hnd _ _ _ hin2]
    rw [hDl, xto_head, hD0, xto_congr l.length fun j hj => by rw [hD1 j hj]] at e1
    rw [hV, Option.getD_some] at e1
    have e2 : V.getD i 0 = xto (fun j => Gf.mul (coef.getD j 0) ((ps.getD j []).getD i 0)) h.src.length := by
      have := congrArg (fun b => b ^^^ xto (fun j => ((sumF h.src l coef ps M (h.pr.length + 1) (l.getD j (0, 0)).1).getD []).getD i 0) l.length) e1
      simp only [UInt8.xor_assoc, UInt8.xor_self, UInt8.xor_zero] at this
      exact this
    rw [e2, Gf.combS_ok hok, Gf.combine, hMM, List.getD_eq_getElem?_getD, List.getElem?_map, List.getElem?_range hi, Option.map_some, Option.getD_some, comb_xto, hcl, hlen]
  have hVe : V = Gf.combS coef ps := by
    apply List.ext_getElem
    · rw [hVl, hM]
    · intro i h1 h2
      have := hbyte i (by omega)
      rw [List.getD_eq_getElem?_getD, List.getD_eq_getElem?_getD, List.getElem?_eq_getElem h1, List.getElem?_eq_getElem h2] at this
      exact this
  rw [← hVe]
  exact sumF_le hV f hf
/-- What Carry returns over a valid tree. -/
theorem carry_whole {h : Ha} {l : List (Int × Int)} (hv : valid h l = true) {coef : List UInt8} {ps : List (List UInt8)} (hok : Gf.combOk coef ps = true) (hlen : ps.length = h.src.length) {f : Nat} (hf : h.pr.length + 1 ≤ f) :
    ∃ xs, carry f h l coef ps = (xs, Gf.combS coef ps, 0) ∧ xs.length = l.length ∧ ∀ p ∈ xs, p.length = (Gf.combS coef ps).length := by
  have hce := Gf.combE_ok hok
  refine ⟨l.map fun x => (sumF h.src l coef ps (Gf.combS coef ps).length f x.1).getD [], ?_, ?_, ?_⟩
  · rw [carry_ok hv (by rw [hce]; intro e; rcases e with e | e; exact e rfl; exact e hlen), whole_sum hv hok hlen hf]
    rfl
  · rw [List.length_map]
  · intro p hp
    obtain ⟨x, hx, rfl⟩ := List.mem_map.1 hp
    obtain ⟨V, hV⟩ := (carry_term hf coef ps (Gf.combS coef ps).length hv).1 x hx
    rw [hV, Option.getD_some]
    refine sumF_same (fun j hj => ?_) _ _ _ hV
    rw [combS_len hok]
    unfold Gf.combOk at hok
    rw [Bool.and_eq_true] at hok
    have h1 := List.all_eq_true.1 hok.2 (ps.getD j []) (by rw [List.getD_eq_getElem?_getD, List.getElem?_eq_getElem (by omega)]; exact List.getElem_mem _)
    simpa using h1
end Su

/- THE DIRECT HOPS of the law SumsTreesAreLeast: the houses that were seen, as a map; the loop. -/
namespace Su
/-- Are all prices directly to the target there? -/
def allTo (h : Ha) (D : List Int) : Bool := decide (∀ a ∈ D, 0 ≤ price h a h.tgt)
attribute [irreducible] allTo
attribute [local irreducible] star sumP
end Su
namespace Go.Proofs.YtenafgphaceidaaDoor
open Go.RowKit
open Go.Maps (Keyed)
open Go.WideMaps Go.ChangeMaps Go.MapKept Go.WideShapes
/-- A map says which houses are in a list. -/
def SSays (D : DataW Unit) (U : List Int) : Prop := ∀ a : Int, Go.Maps.has D (.int .i64 a) = decide (a ∈ U) ∧ D.atKey (.int .i64 a) (.lit (.bool false)) = .lit (.bool (decide (a ∈ U)))
theorem SSays.start : SSays (.map []) [] := fun _ => ⟨rfl, rfl⟩
theorem SSays.put {D : DataW Unit} {U : List Int} (h : SSays D U) (hD : Go.Maps.IsMap D) (f : Int) : SSays (D.put (.int .i64 f) (.lit (.bool true))) (U ++ [f]) := by
  have hk : WideAt.IsKeyLit (.int .i64 f) := by simp [WideAt.IsKeyLit]
  intro a
  by_cases he : a = f
  · subst he
    have hm : decide (a ∈ U ++ [a]) = true := by simp
    rw [hm]
    exact ⟨Go.Maps.has_put_same hD hk _, Go.Maps.atKey_put_same hD hk _ _⟩
  · have hne : (Lit.int .i64 a) ≠ .int .i64 f := by
      intro h
      injection h with _ h
      exact he h
    have hm : decide (a ∈ U ++ [f]) = decide (a ∈ U) := by
      apply decide_eq_decide.2
      rw [List.mem_append, List.mem_singleton]
      exact ⟨fun e => e.elim id fun e => absurd e he, .inl⟩
    rw [hm, Go.Maps.has_put_other hne, Go.Maps.atKey_put_other hne]
    exact h a
/-- What the loop reads and writes. -/
structure DW (W0 w : World) (b : Nat) (U : List Int) : Prop where
  ext : Ext W0 w
  ge : W0.heap.size ≤ b
  own : ∃ D : DataW Unit, w.ownsMap Tryd.prog 3 (plainElem Tryd.prog 4) b U.length D ∧ SSays D U
theorem DW.next {W0 w w' : World} {b : Nat} {U : List Int} (h : DW W0 w b U) (hx : Ext w w') : DW W0 w' b U :=
  ⟨h.ext.trans hx, h.ge, by obtain ⟨D, h1, h2⟩ := h.own; exact ⟨D, ownsMap_ext h1 hx, h2⟩⟩
end Go.Proofs.YtenafgphaceidaaDoor

/- THE DRAWN REGIONS of the law SumsTreesAreLeast that make memory. -/
namespace Go.Proofs.YtenafgphaceidaaDoor
open Go.RowKit
/-- A haul that lies in a block of the call's own. -/
abbrev haulRow (g : Nat) (a b c : Value) : LRow := ⟨.slice (some ⟨g, 0, none⟩) 3 3, 25, 1, 3, [a, b, c]⟩
theorem run_build_none {P : Program} {t e : TypeId} {z : Value} {bytes : Nat} (ht : P.underlying t = some (.slice e)) (hi : (P.info? e).map (fun i => (i.zero, i.size, i.bytes)) = some (some z, 1, bytes)) (w : World) :
    (Instr.buildSlice t 0 #[]).run P w = .ok (.slice (some ⟨w.heap.size, 0, none⟩) 0 0) (w.alloc (.cells #[] e)) := by
  obtain ⟨i0, hi0, _, _, _⟩ := info_parts hi
  simp [Instr.buildSlice, run_underlying ht, sizeOf, typeInfo, hi0, Instr.fill]
  rw [show (Array.map (fun _ => (default : Value)) (Array.range 0)) = #[] from by apply Array.ext'; simp [Array.toList_range]]
  rfl
theorem InvO.skip {dsts : List (Option Nat)} {vals : List Value} {a0 a : Act} {L : Nat → Bool} (h : InvO dsts vals a0 L a) (i : Nat) (hd : dsts[i]? = some none) : InvO dsts vals a0 (upd L i) a := by
  refine ⟨h.inv.skip i hd, ?_⟩
  intro j t hj hL
  unfold upd at hL
  split at hL
  · cases hL
  · exact h.old j t hj hL
theorem ex_build0 {P : Program} {w : World} {a : Act} {o : Oper} {t e : TypeId} {z : Value} {bytes : Nat} (ho : o.op = .buildSlice t 0 #[]) (ht : P.underlying t = some (.slice e)) (hi : (P.info? e).map (fun i => (i.zero, i.size, i.bytes)) = some (some z, 1, bytes)) :
    (execOp a.eval o).run P w = .ok (.value (.slice (some ⟨w.heap.size, 0, none⟩) 0 0)) (w.alloc (.cells #[] e)) := by
  have hr := run_build_none (P := P) ht hi w
  unfold execOp
  simp only [ho, List.map_toArray, List.map_nil, hr, Sem.run_bind, Sem.run_pure, Result.andThen_ok]
theorem run_append_zero {P : Program} {t ty e : TypeId} {z : Value} {bytes : Nat} (ht : P.underlying t = some (.slice e)) (hi : (P.info? e).map (fun i => (i.zero, i.size, i.bytes)) = some (some z, 1, bytes)) (w : World) (b : Nat) (B : Option Addr) (c : Nat) :
    (Builtin.append_ #[t, t] ty #[.slice (some ⟨b, 0, none⟩) 0 0, .slice B 0 c]).run P w = .ok (.slice (some ⟨b, 0, none⟩) 0 0) w := by
  obtain ⟨i0, hi0, hiz, hi1, hi2⟩ := info_parts hi
  cases B <;> simp [Builtin.append_, run_underlying ht, sizeOf, typeInfo, hi0, hi1, Builtin.lenOf, Builtin.firstCells, loadCells, loadCellsFrom, storeCells, Result.andThen]
theorem run_append_copy {P : Program} {w0 w : World} {L : List LRow} (t ty e : TypeId) {z : Value} {bytes : Nat} (ht : P.underlying t = some (.slice e)) (hi : (P.info? e).map (fun i => (i.zero, i.size, i.bytes)) = some (some z, 1, bytes)) (hzs : z.cells.size = 1)
    (h : Owns w0 w L) (i : Nat) {b : Nat} (hL : L[i]? = some ⟨.slice (some ⟨b, 0, none⟩) 0 0, e, 1, 0, []⟩) {B : Option Addr} {m c : Nat} {news : List Value}
    (hl : news.length = m) (hrd : Rd w B news) (h1 : ∀ u ∈ news, u.oneCell' = true) (hm : m < 100000000000) (hb : bytes ≤ 100) :
    ∃ g cap w', (Builtin.append_ #[t, t] ty #[.slice (some ⟨b, 0, none⟩) 0 0, .slice B m c]).run P w = .ok (.slice (some ⟨g, 0, none⟩) m cap) w' ∧ Owns w0 w' (L.set i ⟨.slice (some ⟨g, 0, none⟩) m cap, e, 1, m, news⟩) := by
  by_cases h0 : m = 0
  · subst h0
    have hn : news = [] := List.length_eq_zero_iff.1 hl
    subst hn
    refine ⟨b, 0, w, run_append_zero (P := P) (ty := ty) ht hi w b B c, ?_⟩
    have e : L.set i ⟨.slice (some ⟨b, 0, none⟩) 0 0, e, 1, 0, []⟩ = L := by
      apply List.ext_getElem?
      intro j
      rw [List.getElem?_set]
      split
      · rename_i hij
        subst hij
        split
        · rw [hL]
        · rename_i hlt; rw [List.getElem?_eq_none (by omega)]
      · rfl
    rw [e]
    exact h
  · obtain ⟨ad, rfl, _, _⟩ := hrd.at (k := 0) (by omega)
    have hbb : (0 + m) * bytes ≤ (0 + m) * 100 := Nat.mul_le_mul_left _ hb
    obtain ⟨g, cap, w', hr, h2, _, _⟩ := run_append_owns (P := P) t ty e ht hi hzs (by decide) h i hL ad m c news (by omega) (fun j u hj => (hrd.all (List.getElem?_eq_some_iff.1 hj).1).trans (by rw [(List.getElem?_eq_some_iff.1 hj).2])) h1 (by omega) (by unfold maxLen; omega) (by omega)
    rw [Nat.zero_add] at hr h2
    exact ⟨g, cap, w', hr, h2⟩
theorem wpOp_append_copy {P : Program} {w0 w : World} {L : List LRow} {ops : Array Oper} {o : Oper} {a : Act} {Q : Exit → Act → World → Prop} {K : Act → World → Prop} {i0 : Nat} (hi0 : ops[i0]? = some o) (hg : o.guard = none) (t e : TypeId) {s x : Operand}
    (ho : o.op = .call { callee := .builtin .append, args := #[s, x], argTypes := #[t, t] })
    {z : Value} {bytes : Nat} (ht : P.underlying t = some (.slice e)) (hi : (P.info? e).map (fun i => (i.zero, i.size, i.bytes)) = some (some z, 1, bytes)) (hzs : z.cells.size = 1)
    (h : Owns w0 w L) (i : Nat) {b : Nat} (hL : L[i]? = some ⟨.slice (some ⟨b, 0, none⟩) 0 0, e, 1, 0, []⟩) (hs : a.eval s = .slice (some ⟨b, 0, none⟩) 0 0) {B : Option Addr} {m c : Nat} {news : List Value}
    (hx : a.eval x = .slice B m c) (hl : news.length = m) (hrd : Rd w B news) (h1 : ∀ u ∈ news, u.oneCell' = true) (hm : m < 100000000000) (hb : bytes ≤ 100)
    (hK : ∀ g cap w', Owns w0 w' (L.set i ⟨.slice (some ⟨g, 0, none⟩) m cap, e, 1, m, news⟩) → K (a.put o.dst (.slice (some ⟨g, 0, none⟩) m cap)) w') : wpOp P ops Q i0 K a w := by
  obtain ⟨g, cap, w', hr, h2⟩ := run_append_copy (P := P) t o.type e ht hi hzs h i hL (c := c) hl hrd h1 hm hb
  refine wpOp_value hi0 hg ?_ (hK g cap w' h2)
  unfold execOp
  simp only [ho, resolve, invoke, builtin, Sem.run_bind, Sem.run_pure, Result.andThen_ok, List.map_toArray, List.map_cons, List.map_nil, hs, hx, hr]
theorem one_ints2 {l : List Int} : ∀ u ∈ l.map (Value.int .i64), u.oneCell' = true := fun u hu => by
  obtain ⟨x, _, rfl⟩ := List.mem_map.1 hu
  rfl
end Go.Proofs.YtenafgphaceidaaDoor

/- THE DRAWN REGIONS AND THE LOOP of the law SumsRepair. -/
namespace Go.Proofs.YtenafgphaceidaaDoor
open Go.RowKit
theorem info_u8r : (Tryd.prog.info? 5).map (fun i => (i.zero, i.size, i.bytes)) = some (some (.int .u8 0), 1, 1) := by kernel_rfl
theorem ex_build_c {P : Program} {w : World} {a : Act} {o : Oper} {t e : TypeId} {z : Value} {bytes : Nat} {u : Value} (ho : o.op = .buildSlice t 1 #[(0, .const u)]) (ht : P.underlying t = some (.slice e)) (hi : (P.info? e).map (fun i => (i.zero, i.size, i.bytes)) = some (some z, 1, bytes)) (hu : u.cells = #[u]) :
    (execOp a.eval o).run P w = .ok (.value (.slice (some ⟨w.heap.size, 0, none⟩) 1 1)) (w.alloc (.cells #[u] e)) := ex_build ho ht hi rfl hu
noncomputable def rp_group_code : Code := ((Tryd.f7.body.bind (regionOf 7)).getD .skip)
def rp_group_dsts : List (Option Nat) := [some 78, some 79, some 80, some 81, some 82, some 83, some 84, some 85, some 86, some 87, some 88, some 89, some 90, some 12]
theorem rp_group_apart : apartD rp_group_dsts = true := by decide +kernel
set_option maxRecDepth 1000000 in
set_option maxHeartbeats 16000000 in
theorem rp_group (wr : World) (B ng cg gi m cm : Nat) (pg : Addr) (GA : Option Addr) (d : Int) (grp : List Int) (hgi : gi < ng) (hgn : ng ≤ 24) (hd1 : 1 ≤ d ∧ d ≤ 16) (hgl : grp.length = m) (hm16 : m ≤ 16) (h0 : wr.cell? ⟨B, 0, none⟩ = some (.int .i64 d)) (h1 : wr.cell? ⟨B, 1, none⟩ = some (.slice (some pg) ng cg)) (h2 : wr.cell? (pg.add gi) = some (.slice GA m cm)) (HRD : Hid (Rd wr GA (grp.map (Value.int .i64)))) (c0 c1 c2 c3 c5 c6 c7 c8 c9 c10 c12 c13 c14 c15 c16 c17 c18 c19 c20 c21 c22 c23 c24 c25 c26 c27 c28 c29 c30 c31 c32 c33 c34 c35 c36 c37 c38 c39 c40 c41 c42 c43 c44 c45 c46 c47 c48 c49 c50 c51 c52 c53 c54 c55 c56 c57 c58 c59 c60 c61 c62 c63 c64 c65 c66 c67 c68 c69 c70 c71 c72 c73 c74 c75 c76 c77 c78 c79 c80 c81 c82 c83 c84 c85 c86 c87 c88 c89 c90 c91 c92 c93 c94 c95 c96 c97 c98 c99 c100 c101 c102 c103 c104 c105 c106 c107 c108 c109 c110 c111 c112 c113 c114 c115 c116 c117 c118 c119 c120 c121 c122 c123 c124 c125 c126 c127 c128 c129 c130 c131 c132 c133 c134 c135 c136 c137 c138 c139 c140 c141 c142 c143 c144 c145 c146 c147 c148 c149 c150 c151 c152 c153 c154 c155 c156 c157 c158 c159 c160 c161 c162 c163 c164 c165 c166 c167 c168 c169 c170 c171 c172 c173 c174 c175 c176 c177 c178 c179 c180 c181 c182 : Value) (df : List Deferred) (K : Act → World → Prop)
    (hK : ∀ (g2 z2 : Nat) (u78 u79 u80 u81 u82 u83 u84 u85 u86 u87 u88 u89 u90 : Value) (wx : World), Ext wr wx ∧ Rd wx (some ⟨g2, 0, none⟩) ((grp.map (Value.int .i64)) ++ [.int .i64 (d + (gi : Int))]) → K ⟨#[c0, c1, c2, c3, .pointer (some ⟨B, 0, none⟩), c5, c6, c7, c8, c9, c10, .int .i64 (gi : Int), .slice (some ⟨g2, 0, none⟩) (m + 1) z2, c13, c14, c15, c16, c17, c18, c19, c20, c21, c22, c23, c24, c25, c26, c27, c28, c29, c30, c31, c32, c33, c34, c35, c36, c37, c38, c39, c40, c41, c42, c43, c44, c45, c46, c47, c48, c49, c50, c51, c52, c53, c54, c55, c56, c57, c58, c59, c60, c61, c62, c63, c64, c65, c66, c67, c68, c69, c70, c71, c72, c73, c74, c75, c76, c77, u78, u79, u80, u81, u82, u83, u84, u85, u86, u87, u88, u89, u90, c91, c92, c93, c94, c95, c96, c97, c98, c99, c100, c101, c102, c103, c104, c105, c106, c107, c108, c109, c110, c111, c112, c113, c114, c115, c116, c117, c118, c119, c120, c121, c122, c123, c124, c125, c126, c127, c128, c129, c130, c131, c132, c133, c134, c135, c136, c137, c138, c139, c140, c141, c142, c143, c144, c145, c146, c147, c148, c149, c150, c151, c152, c153, c154, c155, c156, c157, c158, c159, c160, c161, c162, c163, c164, c165, c166, c167, c168, c169, c170, c171, c172, c173, c174, c175, c176, c177, c178, c179, c180, c181, c182], df⟩ wx) :
    Code.wp Tryd.prog rp_group_code (AtEnd K) ⟨#[c0, c1, c2, c3, .pointer (some ⟨B, 0, none⟩), c5, c6, c7, c8, c9, c10, .int .i64 (gi : Int), c12, c13, c14, c15, c16, c17, c18, c19, c20, c21, c22, c23, c24, c25, c26, c27, c28, c29, c30, c31, c32, c33, c34, c35, c36, c37, c38, c39, c40, c41, c42, c43, c44, c45, c46, c47, c48, c49, c50, c51, c52, c53, c54, c55, c56, c57, c58, c59, c60, c61, c62, c63, c64, c65, c66, c67, c68, c69, c70, c71, c72, c73, c74, c75, c76, c77, c78, c79, c80, c81, c82, c83, c84, c85, c86, c87, c88, c89, c90, c91, c92, c93, c94, c95, c96, c97, c98, c99, c100, c101, c102, c103, c104, c105, c106, c107, c108, c109, c110, c111, c112, c113, c114, c115, c116, c117, c118, c119, c120, c121, c122, c123, c124, c125, c126, c127, c128, c129, c130, c131, c132, c133, c134, c135, c136, c137, c138, c139, c140, c141, c142, c143, c144, c145, c146, c147, c148, c149, c150, c151, c152, c153, c154, c155, c156, c157, c158, c159, c160, c161, c162, c163, c164, c165, c166, c167, c168, c169, c170, c171, c172, c173, c174, c175, c176, c177, c178, c179, c180, c181, c182], df⟩ wr := by
  conv => arg 2; whnf
  refine region_inv (by kernel_rfl) [[], [], [1], [], [2, 3], [4], [0, 5], [], [7], [], [8, 9], [10], [6, 11, 6], [12, 12, 0, 1, 2, 3, 4, 5, 6, 7, 8, 9, 10, 11, 12]] (by kernel_rfl) [0, 1, 2, 3, 4, 5, 6, 7, 8, 9, 10, 11, 12, 13] (by decide +kernel) (by decide +kernel) (by decide +kernel) (fun L a wc => ∃ (gz : Nat) (g1 : Nat) (z1 : Nat) (go : Nat) (g2 : Nat) (z2 : Nat), InvO rp_group_dsts [.slice (some ⟨gz, 0, none⟩) 0 0, .pointer (some ⟨B, 1, none⟩), .slice (some pg) ng cg, .int .i64 (gi : Int), .pointer (some (pg.add gi)), .slice GA m cm, .slice (some ⟨g1, 0, none⟩) m z1, .pointer (some ⟨B, 0, none⟩), .int .i64 d, .int .i64 (gi : Int), .int .i64 (d + (gi : Int)), .slice (some ⟨go, 0, none⟩) 1 1, .slice (some ⟨g2, 0, none⟩) (m + 1) z2, .slice (some ⟨g2, 0, none⟩) (m + 1) z2] ⟨#[c0, c1, c2, c3, .pointer (some ⟨B, 0, none⟩), c5, c6, c7, c8, c9, c10, .int .i64 (gi : Int), c12, c13, c14, c15, c16, c17, c18, c19, c20, c21, c22, c23, c24, c25, c26, c27, c28, c29, c30, c31, c32, c33, c34, c35, c36, c37, c38, c39, c40, c41, c42, c43, c44, c45, c46, c47, c48, c49, c50, c51, c52, c53, c54, c55, c56, c57, c58, c59, c60, c61, c62, c63, c64, c65, c66, c67, c68, c69, c70, c71, c72, c73, c74, c75, c76, c77, c78, c79, c80, c81, c82, c83, c84, c85, c86, c87, c88, c89, c90, c91, c92, c93, c94, c95, c96, c97, c98, c99, c100, c101, c102, c103, c104, c105, c106, c107, c108, c109, c110, c111, c112, c113, c114, c115, c116, c117, c118, c119, c120, c121, c122, c123, c124, c125, c126, c127, c128, c129, c130, c131, c132, c133, c134, c135, c136, c137, c138, c139, c140, c141, c142, c143, c144, c145, c146, c147, c148, c149, c150, c151, c152, c153, c154, c155, c156, c157, c158, c159, c160, c161, c162, c163, c164, c165, c166, c167, c168, c169, c170, c171, c172, c173, c174, c175, c176, c177, c178, c179, c180, c181, c182], df⟩ L a ∧ Hid (Owns wr wc [(if L 12 = true then ⟨.slice (some ⟨g2, 0, none⟩) (m + 1) z2, 3, 1, m + 1, (grp.map (Value.int .i64)) ++ [.int .i64 (d + (gi : Int))]⟩ else if L 6 = true then ⟨.slice (some ⟨g1, 0, none⟩) m z1, 3, 1, m, grp.map (Value.int .i64)⟩ else if L 0 = true then ⟨.slice (some ⟨gz, 0, none⟩) 0 0, 3, 1, 0, []⟩ else no), (if L 11 = true then ⟨.slice (some ⟨go, 0, none⟩) 1 1, 3, 1, 1, [.int .i64 (d + (gi : Int))]⟩ else no)])) ⟨0, 0, 0, 0, 0, 0, InvO.start, Lib.hid ((Owns.start wr (by intro r hr; simp [no] at hr; subst hr; simp)).drew)⟩ ?_ ?_
  · refine ⟨?_, ?_, ?_, ?_, ?_, ?_, ?_, ?_, ?_, ?_, ?_, ?_, ?_, ?_, trivial⟩
    · -- 0 lines
      rintro L a wc ⟨gz, g1, z1, go, g2, z2, hv, HO⟩ hL hc hd
      have n12 : L 12 = false := Bool.eq_false_iff.2 fun h => Bool.false_ne_true (hL.symm.trans (hc 6 (hc 12 h 6 (by decide)) 0 (by decide)))
      have n6 : L 6 = false := Bool.eq_false_iff.2 fun h => Bool.false_ne_true (hL.symm.trans (hc 6 h 0 (by decide)))
      have h := HO.out
      simp only [hL, n12, n6, Bool.false_eq_true, if_false] at h
      have hn := h.new 0 #[] 3 (by simp [maxLen])
      exact wpOp_value rfl rfl (ex_build0 rfl Tryd.underlying23 info_int) ⟨wc.heap.size, g1, z1, go, g2, z2, hv.put rp_group_apart 0 rfl (Nat.le_of_ble_eq_true rfl) (Nat.le_of_ble_eq_true rfl) rfl, Lib.hid (by simpa [upd, n12, n6] using hn)⟩
    · -- 1 field
      rintro L a wc ⟨gz, g1, z1, go, g2, z2, hv, HO⟩ hL hc hd
      exact wpOp_val rfl rfl (ex_field rfl ((hv.fixed 4 (by decide)).trans rfl) (by go_simp)) ⟨gz, g1, z1, go, g2, z2, hv.put rp_group_apart 1 rfl (Nat.le_of_ble_eq_true rfl) (Nat.le_of_ble_eq_true rfl) rfl, (Lib.hid (by simpa [upd] using HO.out))⟩
    · -- 2 load
      rintro L a wc ⟨gz, g1, z1, go, g2, z2, hv, HO⟩ hL hc hd
      have e1 : wc.cell? ⟨B, 1, none⟩ = some (.slice (some pg) ng cg) := HO.out.ext.cell h1
      exact wpOp_val rfl rfl (ex_load rfl (hv.get 1 rfl rfl (hd 1 (by decide))) (by go_simp)) ⟨gz, g1, z1, go, g2, z2, hv.put rp_group_apart 2 rfl (Nat.le_of_ble_eq_true rfl) (Nat.le_of_ble_eq_true rfl) rfl, (Lib.hid (by simpa [upd] using HO.out))⟩
    · -- 3 move
      rintro L a wc ⟨gz, g1, z1, go, g2, z2, hv, HO⟩ hL hc hd
      exact wpOp_val rfl rfl (ex_move rfl ((hv.fixed 11 (by decide)).trans rfl)) ⟨gz, g1, z1, go, g2, z2, hv.put rp_group_apart 3 rfl (Nat.le_of_ble_eq_true rfl) (Nat.le_of_ble_eq_true rfl) rfl, (Lib.hid (by simpa [upd] using HO.out))⟩
    · -- 4 index
      rintro L a wc ⟨gz, g1, z1, go, g2, z2, hv, HO⟩ hL hc hd
      have b1 : (0 : Int) ≤ (gi : Int) := by omega
      have b2 : (gi : Int) < (ng : Int) := by omega
      exact wpOp_val rfl rfl (ex_index rfl (hv.get 2 rfl rfl (hd 2 (by decide))) (hv.get 3 rfl rfl (hd 3 (by decide))) (by go_simp)) ⟨gz, g1, z1, go, g2, z2, hv.put rp_group_apart 4 rfl (Nat.le_of_ble_eq_true rfl) (Nat.le_of_ble_eq_true rfl) rfl, (Lib.hid (by simpa [upd] using HO.out))⟩
    · -- 5 load
      rintro L a wc ⟨gz, g1, z1, go, g2, z2, hv, HO⟩ hL hc hd
      have e5 : wc.cell? (pg.add gi) = some (.slice GA m cm) := HO.out.ext.cell h2
      exact wpOp_val rfl rfl (ex_load rfl (hv.get 4 rfl rfl (hd 4 (by decide))) (by go_simp)) ⟨gz, g1, z1, go, g2, z2, hv.put rp_group_apart 5 rfl (Nat.le_of_ble_eq_true rfl) (Nat.le_of_ble_eq_true rfl) rfl, (Lib.hid (by simpa [upd] using HO.out))⟩
    · -- 6 lines
      rintro L a wc ⟨gz, g1, z1, go, g2, z2, hv, HO⟩ hL hc hd
      have n12 : L 12 = false := Bool.eq_false_iff.2 fun h => Bool.false_ne_true (hL.symm.trans (hc 12 h 6 (by decide)))
      have h0' : L 0 = true := hd 0 (by decide)
      have h := HO.out
      simp only [hL, n12, h0', Bool.false_eq_true, if_false, if_true] at h
      refine wpOp_append_copy rfl rfl 23 3 rfl Tryd.underlying23 info_int rfl h 0 rfl (hv.get 0 rfl rfl h0') (hv.get 5 rfl rfl (hd 5 (by decide))) (by rw [List.length_map]; exact hgl) (HRD.out.ext h.ext) one_ints2 (by omega) (by decide) ?_
      intro gg cc w2 hO2
      have hv := hv.reset 6 hL (.slice (some ⟨gg, 0, none⟩) m cc)
      exact ⟨gz, gg, cc, go, g2, z2, hv.put rp_group_apart 6 rfl (Nat.le_of_ble_eq_true rfl) (Nat.le_of_ble_eq_true rfl) rfl, Lib.hid (by simpa [upd, n12] using hO2)⟩
    · -- 7 field
      rintro L a wc ⟨gz, g1, z1, go, g2, z2, hv, HO⟩ hL hc hd
      exact wpOp_val rfl rfl (ex_field rfl ((hv.fixed 4 (by decide)).trans rfl) (by go_simp)) ⟨gz, g1, z1, go, g2, z2, hv.put rp_group_apart 7 rfl (Nat.le_of_ble_eq_true rfl) (Nat.le_of_ble_eq_true rfl) rfl, (Lib.hid (by simpa [upd] using HO.out))⟩
    · -- 8 load
      rintro L a wc ⟨gz, g1, z1, go, g2, z2, hv, HO⟩ hL hc hd
      have e0 : wc.cell? ⟨B, 0, none⟩ = some (.int .i64 d) := HO.out.ext.cell h0
      exact wpOp_val rfl rfl (ex_load rfl (hv.get 7 rfl rfl (hd 7 (by decide))) (by go_simp)) ⟨gz, g1, z1, go, g2, z2, hv.put rp_group_apart 8 rfl (Nat.le_of_ble_eq_true rfl) (Nat.le_of_ble_eq_true rfl) rfl, (Lib.hid (by simpa [upd] using HO.out))⟩
    · -- 9 move
      rintro L a wc ⟨gz, g1, z1, go, g2, z2, hv, HO⟩ hL hc hd
      exact wpOp_val rfl rfl (ex_move rfl ((hv.fixed 11 (by decide)).trans rfl)) ⟨gz, g1, z1, go, g2, z2, hv.put rp_group_apart 9 rfl (Nat.le_of_ble_eq_true rfl) (Nat.le_of_ble_eq_true rfl) rfl, (Lib.hid (by simpa [upd] using HO.out))⟩
    · -- 10 bin
      rintro L a wc ⟨gz, g1, z1, go, g2, z2, hv, HO⟩ hL hc hd
      have hw : IntKind.i64.wrap (d + (gi : Int)) = d + (gi : Int) := by rw [IntKind.wrap_i64]; omega
      exact wpOp_val rfl rfl (ex_bin rfl (hv.get 8 rfl rfl (hd 8 (by decide))) (hv.get 9 rfl rfl (hd 9 (by decide))) (by go_simp)) ⟨gz, g1, z1, go, g2, z2, hv.put rp_group_apart 10 rfl (Nat.le_of_ble_eq_true rfl) (Nat.le_of_ble_eq_true rfl) rfl, (Lib.hid (by simpa [upd] using HO.out))⟩
    · -- 11 lines
      rintro L a wc ⟨gz, g1, z1, go, g2, z2, hv, HO⟩ hL hc hd
      have h := HO.out
      have hn := h.new 1 #[.int .i64 (d + (gi : Int))] 3 (by simp [maxLen])
      have hv := hv.reset 11 hL (.slice (some ⟨wc.heap.size, 0, none⟩) 1 1)
      have n12 : L 12 = false := Bool.eq_false_iff.2 fun h => Bool.false_ne_true (hL.symm.trans (hc 12 h 11 (by decide)))
      exact wpOp_value rfl rfl (ex_build rfl Tryd.underlying23 info_int (hv.get 10 rfl rfl (by simpa using hd 10 (by decide))) rfl) ⟨gz, g1, z1, wc.heap.size, g2, z2, hv.put rp_group_apart 11 rfl (Nat.le_of_ble_eq_true rfl) (Nat.le_of_ble_eq_true rfl) rfl, Lib.hid (by simpa [upd, n12] using hn)⟩
    · -- 12 lines
      rintro L a wc ⟨gz, g1, z1, go, g2, z2, hv, HO⟩ hL hc hd
      have h6' : L 6 = true := hd 6 (by decide)
      have h11' : L 11 = true := hd 11 (by decide)
      have h := HO.out
      simp only [hL, h6', h11', Bool.false_eq_true, if_false, if_true] at h
      refine wpOp_append rfl rfl 23 3 rfl Tryd.underlying23 info_int rfl h 0 rfl (hv.get 6 rfl rfl h6') (hv.get 11 rfl rfl h11') (h.cell 1 rfl 0 rfl) rfl (by omega) (by decide) ?_
      intro gg cc w2 hO2
      have n13 : L 13 = false := Bool.eq_false_iff.2 fun h => Bool.false_ne_true (hL.symm.trans (hc 13 h 12 (by decide)))
      have hv := (hv.reset 12 hL (.slice (some ⟨gg, 0, none⟩) (m + 1) cc)).reset 13 n13 (.slice (some ⟨gg, 0, none⟩) (m + 1) cc)
      exact ⟨gz, g1, z1, go, gg, cc, hv.put rp_group_apart 12 rfl (Nat.le_of_ble_eq_true rfl) (Nat.le_of_ble_eq_true rfl) rfl, Lib.hid (by simpa [upd, h11'] using hO2)⟩
    · -- 13 assign
      rintro L a wc ⟨gz, g1, z1, go, g2, z2, hv, HO⟩ hL hc hd
      exact wpOp_val rfl rfl (ex_assign rfl (hv.get 12 rfl rfl (hd 12 (by decide)))) ⟨gz, g1, z1, go, g2, z2, hv.put rp_group_apart 13 rfl (Nat.le_of_ble_eq_true rfl) (Nat.le_of_ble_eq_true rfl) rfl, (Lib.hid (by simpa [upd] using HO.out))⟩
  · rintro L a wc ⟨gz, g1, z1, go, g2, z2, hv, HO⟩ hall
    show K a wc
    have ha := act_lit a
    rw [hv.size, hv.defers] at ha
    have hl : ∀ f : Nat → Value, ((List.range (⟨#[c0, c1, c2, c3, .pointer (some ⟨B, 0, none⟩), c5, c6, c7, c8, c9, c10, .int .i64 (gi : Int), c12, c13, c14, c15, c16, c17, c18, c19, c20, c21, c22, c23, c24, c25, c26, c27, c28, c29, c30, c31, c32, c33, c34, c35, c36, c37, c38, c39, c40, c41, c42, c43, c44, c45, c46, c47, c48, c49, c50, c51, c52, c53, c54, c55, c56, c57, c58, c59, c60, c61, c62, c63, c64, c65, c66, c67, c68, c69, c70, c71, c72, c73, c74, c75, c76, c77, c78, c79, c80, c81, c82, c83, c84, c85, c86, c87, c88, c89, c90, c91, c92, c93, c94, c95, c96, c97, c98, c99, c100, c101, c102, c103, c104, c105, c106, c107, c108, c109, c110, c111, c112, c113, c114, c115, c116, c117, c118, c119, c120, c121, c122, c123, c124, c125, c126, c127, c128, c129, c130, c131, c132, c133, c134, c135, c136, c137, c138, c139, c140, c141, c142, c143, c144, c145, c146, c147, c148, c149, c150, c151, c152, c153, c154, c155, c156, c157, c158, c159, c160, c161, c162, c163, c164, c165, c166, c167, c168, c169, c170, c171, c172, c173, c174, c175, c176, c177, c178, c179, c180, c181, c182], df⟩ : Act).tmps.size).map f).toArray = #[f 0, f 1, f 2, f 3, f 4, f 5, f 6, f 7, f 8, f 9, f 10, f 11, f 12, f 13, f 14, f 15, f 16, f 17, f 18, f 19, f 20, f 21, f 22, f 23, f 24, f 25, f 26, f 27, f 28, f 29, f 30, f 31, f 32, f 33, f 34, f 35, f 36, f 37, f 38, f 39, f 40, f 41, f 42, f 43, f 44, f 45, f 46, f 47, f 48, f 49, f 50, f 51, f 52, f 53, f 54, f 55, f 56, f 57, f 58, f 59, f 60, f 61, f 62, f 63, f 64, f 65, f 66, f 67, f 68, f 69, f 70, f 71, f 72, f 73, f 74, f 75, f 76, f 77, f 78, f 79, f 80, f 81, f 82, f 83, f 84, f 85, f 86, f 87, f 88, f 89, f 90, f 91, f 92, f 93, f 94, f 95, f 96, f 97, f 98, f 99, f 100, f 101, f 102, f 103, f 104, f 105, f 106, f 107, f 108, f 109, f 110, f 111, f 112, f 113, f 114, f 115, f 116, f 117, f 118, f 119, f 120, f 121, f 122, f 123, f 124, f 125, f 126, f 127, f 128, f 129, f 130, f 131, f 132, f 133, f 134, f 135, f 136, f 137, f 138, f 139, f 140, f 141, f 142, f 143, f 144, f 145, f 146, f 147, f 148, f 149, f 150, f 151, f 152, f 153, f 154, f 155, f 156, f 157, f 158, f 159, f 160, f 161, f 162, f 163, f 164, f 165, f 166, f 167, f 168, f 169, f 170, f 171, f 172, f 173, f 174, f 175, f 176, f 177, f 178, f 179, f 180, f 181, f 182] := fun _ => rfl
    rw [hl] at ha
    simp only [hv.fixed 0 (by decide), hv.fixed 1 (by decide), hv.fixed 2 (by decide), hv.fixed 3 (by decide), hv.fixed 4 (by decide), hv.fixed 5 (by decide), hv.fixed 6 (by decide), hv.fixed 7 (by decide), hv.fixed 8 (by decide), hv.fixed 9 (by decide), hv.fixed 10 (by decide), hv.fixed 11 (by decide), hv.fixed 13 (by decide), hv.fixed 14 (by decide), hv.fixed 15 (by decide), hv.fixed 16 (by decide), hv.fixed 17 (by decide), hv.fixed 18 (by decide), hv.fixed 19 (by decide), hv.fixed 20 (by decide), hv.fixed 21 (by decide), hv.fixed 22 (by decide), hv.fixed 23 (by decide), hv.fixed 24 (by decide), hv.fixed 25 (by decide), hv.fixed 26 (by decide), hv.fixed 27 (by decide), hv.fixed 28 (by decide), hv.fixed 29 (by decide), hv.fixed 30 (by decide), hv.fixed 31 (by decide), hv.fixed 32 (by decide), hv.fixed 33 (by decide), hv.fixed 34 (by decide), hv.fixed 35 (by decide), hv.fixed 36 (by decide), hv.fixed 37 (by decide), hv.fixed 38 (by decide), hv.fixed 39 (by decide), hv.fixed 40 (by decide), hv.fixed 41 (by decide), hv.fixed 42 (by decide), hv.fixed 43 (by decide), hv.fixed 44 (by decide), hv.fixed 45 (by decide), hv.fixed 46 (by decide), hv.fixed 47 (by decide), hv.fixed 48 (by decide), hv.fixed 49 (by decide), hv.fixed 50 (by decide), hv.fixed 51 (by decide), hv.fixed 52 (by decide), hv.fixed 53 (by decide), hv.fixed 54 (by decide), hv.fixed 55 (by decide), hv.fixed 56 (by decide), hv.fixed 57 (by decide), hv.fixed 58 (by decide), hv.fixed 59 (by decide), hv.fixed 60 (by decide), hv.fixed 61 (by decide), hv.fixed 62 (by decide), hv.fixed 63 (by decide), hv.fixed 64 (by decide), hv.fixed 65 (by decide), hv.fixed 66 (by decide), hv.fixed 67 (by decide), hv.fixed 68 (by decide), hv.fixed 69 (by decide), hv.fixed 70 (by decide), hv.fixed 71 (by decide), hv.fixed 72 (by decide), hv.fixed 73 (by decide), hv.fixed 74 (by decide), hv.fixed 75 (by decide), hv.fixed 76 (by decide), hv.fixed 77 (by decide), hv.fixed 91 (by decide), hv.fixed 92 (by decide), hv.fixed 93 (by decide), hv.fixed 94 (by decide), hv.fixed 95 (by decide), hv.fixed 96 (by decide), hv.fixed 97 (by decide), hv.fixed 98 (by decide), hv.fixed 99 (by decide), hv.fixed 100 (by decide), hv.fixed 101 (by decide), hv.fixed 102 (by decide), hv.fixed 103 (by decide), hv.fixed 104 (by decide), hv.fixed 105 (by decide), hv.fixed 106 (by decide), hv.fixed 107 (by decide), hv.fixed 108 (by decide), hv.fixed 109 (by decide), hv.fixed 110 (by decide), hv.fixed 111 (by decide), hv.fixed 112 (by decide), hv.fixed 113 (by decide), hv.fixed 114 (by decide), hv.fixed 115 (by decide), hv.fixed 116 (by decide), hv.fixed 117 (by decide), hv.fixed 118 (by decide), hv.fixed 119 (by decide), hv.fixed 120 (by decide), hv.fixed 121 (by decide), hv.fixed 122 (by decide), hv.fixed 123 (by decide), hv.fixed 124 (by decide), hv.fixed 125 (by decide), hv.fixed 126 (by decide), hv.fixed 127 (by decide), hv.fixed 128 (by decide), hv.fixed 129 (by decide), hv.fixed 130 (by decide), hv.fixed 131 (by decide), hv.fixed 132 (by decide), hv.fixed 133 (by decide), hv.fixed 134 (by decide), hv.fixed 135 (by decide), hv.fixed 136 (by decide), hv.fixed 137 (by decide), hv.fixed 138 (by decide), hv.fixed 139 (by decide), hv.fixed 140 (by decide), hv.fixed 141 (by decide), hv.fixed 142 (by decide), hv.fixed 143 (by decide), hv.fixed 144 (by decide), hv.fixed 145 (by decide), hv.fixed 146 (by decide), hv.fixed 147 (by decide), hv.fixed 148 (by decide), hv.fixed 149 (by decide), hv.fixed 150 (by decide), hv.fixed 151 (by decide), hv.fixed 152 (by decide), hv.fixed 153 (by decide), hv.fixed 154 (by decide), hv.fixed 155 (by decide), hv.fixed 156 (by decide), hv.fixed 157 (by decide), hv.fixed 158 (by decide), hv.fixed 159 (by decide), hv.fixed 160 (by decide), hv.fixed 161 (by decide), hv.fixed 162 (by decide), hv.fixed 163 (by decide), hv.fixed 164 (by decide), hv.fixed 165 (by decide), hv.fixed 166 (by decide), hv.fixed 167 (by decide), hv.fixed 168 (by decide), hv.fixed 169 (by decide), hv.fixed 170 (by decide), hv.fixed 171 (by decide), hv.fixed 172 (by decide), hv.fixed 173 (by decide), hv.fixed 174 (by decide), hv.fixed 175 (by decide), hv.fixed 176 (by decide), hv.fixed 177 (by decide), hv.fixed 178 (by decide), hv.fixed 179 (by decide), hv.fixed 180 (by decide), hv.fixed 181 (by decide), hv.fixed 182 (by decide), hv.get 13 (d := 12) rfl rfl (hall 13 (by decide))] at ha
    rw [ha]
    have hO := HO.out
    rw [if_pos (hall 12 (by decide))] at hO
    exact hK g2 z2 _ _ _ _ _ _ _ _ _ _ _ _ _ wc ⟨hO.ext, hO.rd 0 rfl⟩
noncomputable def rp_src_code : Code := ((Tryd.f7.body.bind (regionOf 19)).getD .skip)
def rp_src_dsts : List (Option Nat) := [some 121, some 122, some 123, some 124, some 125, some 126, some 127, some 128, some 129, some 130, some 131, some 132, some 133, some 134, none]
theorem rp_src_apart : apartD rp_src_dsts = true := by decide +kernel
set_option maxRecDepth 1000000 in
set_option maxHeartbeats 16000000 in
theorem rp_src (W0 wr : World) (BH gx n cS ns cs_ k : Nat) (ps : Addr) (sA : Option Addr) (PV : Value) (tg y : Int) (xs : List Value) (r2 r3 : LRow) (hns : 0 < ns) (hn1 : n ≤ 30) (_ : k ≤ 100) (h1 : W0.cell? ⟨BH, 1, none⟩ = some (.slice (some ps) ns cs_)) (hy : W0.cell? (ps.add (k % ns)) = some (.int .i64 y)) (HOO : Hid (Owns W0 wr.drew [haulRow gx (PV) (.slice sA n cS) (.int .i64 tg), ⟨.slice sA n cS, 3, 1, n, xs⟩, r2, r3, no, no])) (c0 c1 c2 c3 c4 c5 c7 c8 c9 c10 c11 c12 c13 c15 c16 c18 c19 c20 c21 c22 c23 c24 c25 c26 c27 c28 c29 c30 c31 c32 c33 c34 c35 c36 c37 c38 c39 c40 c41 c42 c43 c44 c45 c46 c47 c48 c49 c50 c51 c52 c53 c54 c55 c56 c57 c58 c59 c60 c61 c62 c63 c64 c65 c66 c67 c68 c69 c70 c71 c72 c73 c74 c75 c76 c77 c78 c79 c80 c81 c82 c83 c84 c85 c86 c87 c88 c89 c90 c91 c92 c93 c94 c95 c96 c97 c98 c99 c100 c101 c102 c103 c104 c105 c106 c107 c108 c109 c110 c111 c112 c113 c114 c115 c116 c117 c118 c119 c120 c121 c122 c123 c124 c125 c126 c127 c128 c129 c130 c131 c132 c133 c134 c135 c136 c137 c138 c139 c140 c141 c142 c143 c144 c145 c146 c147 c148 c149 c150 c151 c152 c153 c154 c155 c156 c157 c158 c159 c160 c161 c162 c163 c164 c165 c166 c167 c168 c169 c170 c171 c172 c173 c174 c175 c176 c177 c178 c179 c180 c181 c182 : Value) (df : List Deferred) (K : Act → World → Prop)
    (hK : ∀ (g2 z2 : Nat) (u121 u122 u123 u124 u125 u126 u127 u128 u129 u130 u131 u132 u133 u134 : Value) (wx : World), Owns W0 wx [haulRow gx (PV) (.slice (some ⟨g2, 0, none⟩) (n + 1) z2) (.int .i64 tg), ⟨.slice (some ⟨g2, 0, none⟩) (n + 1) z2, 3, 1, n + 1, xs ++ [.int .i64 y]⟩, r2, r3, no, no] → K ⟨#[c0, c1, c2, c3, c4, c5, .pointer (some ⟨BH, 0, none⟩), c7, c8, c9, c10, c11, c12, c13, .pointer (some ⟨gx, 0, none⟩), c15, c16, .int .i64 (k : Int), c18, c19, c20, c21, c22, c23, c24, c25, c26, c27, c28, c29, c30, c31, c32, c33, c34, c35, c36, c37, c38, c39, c40, c41, c42, c43, c44, c45, c46, c47, c48, c49, c50, c51, c52, c53, c54, c55, c56, c57, c58, c59, c60, c61, c62, c63, c64, c65, c66, c67, c68, c69, c70, c71, c72, c73, c74, c75, c76, c77, c78, c79, c80, c81, c82, c83, c84, c85, c86, c87, c88, c89, c90, c91, c92, c93, c94, c95, c96, c97, c98, c99, c100, c101, c102, c103, c104, c105, c106, c107, c108, c109, c110, c111, c112, c113, c114, c115, c116, c117, c118, c119, c120, u121, u122, u123, u124, u125, u126, u127, u128, u129, u130, u131, u132, u133, u134, c135, c136, c137, c138, c139, c140, c141, c142, c143, c144, c145, c146, c147, c148, c149, c150, c151, c152, c153, c154, c155, c156, c157, c158, c159, c160, c161, c162, c163, c164, c165, c166, c167, c168, c169, c170, c171, c172, c173, c174, c175, c176, c177, c178, c179, c180, c181, c182], df⟩ wx) :
    Code.wp Tryd.prog rp_src_code (AtEnd K) ⟨#[c0, c1, c2, c3, c4, c5, .pointer (some ⟨BH, 0, none⟩), c7, c8, c9, c10, c11, c12, c13, .pointer (some ⟨gx, 0, none⟩), c15, c16, .int .i64 (k : Int), c18, c19, c20, c21, c22, c23, c24, c25, c26, c27, c28, c29, c30, c31, c32, c33, c34, c35, c36, c37, c38, c39, c40, c41, c42, c43, c44, c45, c46, c47, c48, c49, c50, c51, c52, c53, c54, c55, c56, c57, c58, c59, c60, c61, c62, c63, c64, c65, c66, c67, c68, c69, c70, c71, c72, c73, c74, c75, c76, c77, c78, c79, c80, c81, c82, c83, c84, c85, c86, c87, c88, c89, c90, c91, c92, c93, c94, c95, c96, c97, c98, c99, c100, c101, c102, c103, c104, c105, c106, c107, c108, c109, c110, c111, c112, c113, c114, c115, c116, c117, c118, c119, c120, c121, c122, c123, c124, c125, c126, c127, c128, c129, c130, c131, c132, c133, c134, c135, c136, c137, c138, c139, c140, c141, c142, c143, c144, c145, c146, c147, c148, c149, c150, c151, c152, c153, c154, c155, c156, c157, c158, c159, c160, c161, c162, c163, c164, c165, c166, c167, c168, c169, c170, c171, c172, c173, c174, c175, c176, c177, c178, c179, c180, c181, c182], df⟩ wr := by
  conv => arg 2; whnf
  refine region_inv (by kernel_rfl) [[], [0], [], [2], [], [], [5], [6], [4, 7], [3, 8], [9], [10], [1, 11], [0, 1, 2, 3, 4, 5, 6, 7, 8, 9, 10, 11, 12], [13, 12, 12, 0, 1, 2, 3, 4, 5, 6, 7, 8, 9, 10, 11, 12]] (by kernel_rfl) [0, 1, 2, 3, 4, 5, 6, 7, 8, 9, 10, 11, 12, 13, 14] (by decide +kernel) (by decide +kernel) (by decide +kernel) (fun L a wc => ∃ (go : Nat) (g2 : Nat) (z2 : Nat), InvO rp_src_dsts [.pointer (some ⟨gx, 1, none⟩), .slice sA n cS, .pointer (some ⟨BH, 1, none⟩), .slice (some ps) ns cs_, .int .i64 (k : Int), .pointer (some ⟨BH, 1, none⟩), .slice (some ps) ns cs_, .int .i64 (ns : Int), .int .i64 ((k % ns : Nat) : Int), .pointer (some (ps.add (k % ns))), .int .i64 y, .slice (some ⟨go, 0, none⟩) 1 1, .slice (some ⟨g2, 0, none⟩) (n + 1) z2, .pointer (some ⟨gx, 1, none⟩), undef] ⟨#[c0, c1, c2, c3, c4, c5, .pointer (some ⟨BH, 0, none⟩), c7, c8, c9, c10, c11, c12, c13, .pointer (some ⟨gx, 0, none⟩), c15, c16, .int .i64 (k : Int), c18, c19, c20, c21, c22, c23, c24, c25, c26, c27, c28, c29, c30, c31, c32, c33, c34, c35, c36, c37, c38, c39, c40, c41, c42, c43, c44, c45, c46, c47, c48, c49, c50, c51, c52, c53, c54, c55, c56, c57, c58, c59, c60, c61, c62, c63, c64, c65, c66, c67, c68, c69, c70, c71, c72, c73, c74, c75, c76, c77, c78, c79, c80, c81, c82, c83, c84, c85, c86, c87, c88, c89, c90, c91, c92, c93, c94, c95, c96, c97, c98, c99, c100, c101, c102, c103, c104, c105, c106, c107, c108, c109, c110, c111, c112, c113, c114, c115, c116, c117, c118, c119, c120, c121, c122, c123, c124, c125, c126, c127, c128, c129, c130, c131, c132, c133, c134, c135, c136, c137, c138, c139, c140, c141, c142, c143, c144, c145, c146, c147, c148, c149, c150, c151, c152, c153, c154, c155, c156, c157, c158, c159, c160, c161, c162, c163, c164, c165, c166, c167, c168, c169, c170, c171, c172, c173, c174, c175, c176, c177, c178, c179, c180, c181, c182], df⟩ L a ∧ Hid (Owns W0 wc [(if L 14 = true then haulRow gx (PV) (.slice (some ⟨g2, 0, none⟩) (n + 1) z2) (.int .i64 tg) else haulRow gx (PV) (.slice sA n cS) (.int .i64 tg)), (if L 12 = true then ⟨.slice (some ⟨g2, 0, none⟩) (n + 1) z2, 3, 1, n + 1, xs ++ [.int .i64 y]⟩ else ⟨.slice sA n cS, 3, 1, n, xs⟩), r2, r3, (if L 11 = true then ⟨.slice (some ⟨go, 0, none⟩) 1 1, 3, 1, 1, [.int .i64 y]⟩ else no), no])) ⟨0, 0, 0, InvO.start, HOO⟩ ?_ ?_
  · refine ⟨?_, ?_, ?_, ?_, ?_, ?_, ?_, ?_, ?_, ?_, ?_, ?_, ?_, ?_, ?_, trivial⟩
    · -- 0 field
      rintro L a wc ⟨go, g2, z2, hv, HO⟩ hL hc hd
      exact wpOp_val rfl rfl (ex_field rfl ((hv.fixed 14 (by decide)).trans rfl) (by go_simp)) ⟨go, g2, z2, hv.put rp_src_apart 0 rfl (Nat.le_of_ble_eq_true rfl) (Nat.le_of_ble_eq_true rfl) rfl, (Lib.hid (by simpa [upd] using HO.out))⟩
    · -- 1 load
      rintro L a wc ⟨go, g2, z2, hv, HO⟩ hL hc hd
      have n14 : L 14 = false := Bool.eq_false_iff.2 fun h => Bool.false_ne_true (hL.symm.trans (hc 14 h 1 (by decide)))
      have hO := HO.out
      simp only [n14, Bool.false_eq_true, if_false] at hO
      have eX : wc.cell? ⟨gx, 1, none⟩ = some (.slice sA n cS) := hO.cell 0 rfl 1 rfl
      exact wpOp_val rfl rfl (ex_load rfl (hv.get 0 rfl rfl (hd 0 (by decide))) (by go_simp)) ⟨go, g2, z2, hv.put rp_src_apart 1 rfl (Nat.le_of_ble_eq_true rfl) (Nat.le_of_ble_eq_true rfl) rfl, (Lib.hid (by simpa [upd] using HO.out))⟩
    · -- 2 field
      rintro L a wc ⟨go, g2, z2, hv, HO⟩ hL hc hd
      exact wpOp_val rfl rfl (ex_field rfl ((hv.fixed 6 (by decide)).trans rfl) (by go_simp)) ⟨go, g2, z2, hv.put rp_src_apart 2 rfl (Nat.le_of_ble_eq_true rfl) (Nat.le_of_ble_eq_true rfl) rfl, (Lib.hid (by simpa [upd] using HO.out))⟩
    · -- 3 load
      rintro L a wc ⟨go, g2, z2, hv, HO⟩ hL hc hd
      have eS : wc.cell? ⟨BH, 1, none⟩ = some (.slice (some ps) ns cs_) := HO.out.ext.cell h1
      exact wpOp_val rfl rfl (ex_load rfl (hv.get 2 rfl rfl (hd 2 (by decide))) (by go_simp)) ⟨go, g2, z2, hv.put rp_src_apart 3 rfl (Nat.le_of_ble_eq_true rfl) (Nat.le_of_ble_eq_true rfl) rfl, (Lib.hid (by simpa [upd] using HO.out))⟩
    · -- 4 move
      rintro L a wc ⟨go, g2, z2, hv, HO⟩ hL hc hd
      exact wpOp_val rfl rfl (ex_move rfl ((hv.fixed 17 (by decide)).trans rfl)) ⟨go, g2, z2, hv.put rp_src_apart 4 rfl (Nat.le_of_ble_eq_true rfl) (Nat.le_of_ble_eq_true rfl) rfl, (Lib.hid (by simpa [upd] using HO.out))⟩
    · -- 5 field
      rintro L a wc ⟨go, g2, z2, hv, HO⟩ hL hc hd
      exact wpOp_val rfl rfl (ex_field rfl ((hv.fixed 6 (by decide)).trans rfl) (by go_simp)) ⟨go, g2, z2, hv.put rp_src_apart 5 rfl (Nat.le_of_ble_eq_true rfl) (Nat.le_of_ble_eq_true rfl) rfl, (Lib.hid (by simpa [upd] using HO.out))⟩
    · -- 6 load
      rintro L a wc ⟨go, g2, z2, hv, HO⟩ hL hc hd
      have eS : wc.cell? ⟨BH, 1, none⟩ = some (.slice (some ps) ns cs_) := HO.out.ext.cell h1
      exact wpOp_val rfl rfl (ex_load rfl (hv.get 5 rfl rfl (hd 5 (by decide))) (by go_simp)) ⟨go, g2, z2, hv.put rp_src_apart 6 rfl (Nat.le_of_ble_eq_true rfl) (Nat.le_of_ble_eq_true rfl) rfl, (Lib.hid (by simpa [upd] using HO.out))⟩
    · -- 7 raw
      rintro L a wc ⟨go, g2, z2, hv, HO⟩ hL hc hd
      exact wpOp_val rfl rfl (ex_len rfl (hv.get 6 rfl rfl (hd 6 (by decide))) (by go_simp)) ⟨go, g2, z2, hv.put rp_src_apart 7 rfl (Nat.le_of_ble_eq_true rfl) (Nat.le_of_ble_eq_true rfl) rfl, (Lib.hid (by simpa [upd] using HO.out))⟩
    · -- 8 bin
      rintro L a wc ⟨go, g2, z2, hv, HO⟩ hL hc hd
      have hn9 : ¬ ns = 0 := by omega
      have hmod : Int.tmod (k : Int) (ns : Int) = ((k % ns : Nat) : Int) := rfl
      exact wpOp_val rfl rfl (ex_bin rfl (hv.get 4 rfl rfl (hd 4 (by decide))) (hv.get 7 rfl rfl (hd 7 (by decide))) (by go_simp)) ⟨go, g2, z2, hv.put rp_src_apart 8 rfl (Nat.le_of_ble_eq_true rfl) (Nat.le_of_ble_eq_true rfl) rfl, (Lib.hid (by simpa [upd] using HO.out))⟩
    · -- 9 index
      rintro L a wc ⟨go, g2, z2, hv, HO⟩ hL hc hd
      have b1 : (0 : Int) ≤ ((k % ns : Nat) : Int) := by omega
      have hml := Nat.mod_lt k hns
      have b2 : ((k % ns : Nat) : Int) < (ns : Int) := by omega
      obtain ⟨km, hkm⟩ : ∃ km, k % ns = km := ⟨_, rfl⟩
      rw [hkm] at b1 b2 hv ⊢
      exact wpOp_val rfl rfl (ex_index rfl (hv.get 3 rfl rfl (hd 3 (by decide))) (hv.get 8 rfl rfl (hd 8 (by decide))) (by go_simp)) ⟨go, g2, z2, hv.put rp_src_apart 9 rfl (Nat.le_of_ble_eq_true rfl) (Nat.le_of_ble_eq_true rfl) rfl, (Lib.hid (by simpa [upd] using HO.out))⟩
    · -- 10 load
      rintro L a wc ⟨go, g2, z2, hv, HO⟩ hL hc hd
      have eY : wc.cell? (ps.add (k % ns)) = some (.int .i64 y) := HO.out.ext.cell hy
      exact wpOp_val rfl rfl (ex_load rfl (hv.get 9 rfl rfl (hd 9 (by decide))) (by go_simp)) ⟨go, g2, z2, hv.put rp_src_apart 10 rfl (Nat.le_of_ble_eq_true rfl) (Nat.le_of_ble_eq_true rfl) rfl, (Lib.hid (by simpa [upd] using HO.out))⟩
    · -- 11 lines
      rintro L a wc ⟨go, g2, z2, hv, HO⟩ hL hc hd
      have n14 : L 14 = false := Bool.eq_false_iff.2 fun h => Bool.false_ne_true (hL.symm.trans (hc 12 (hc 14 h 12 (by decide)) 11 (by decide)))
      have n12 : L 12 = false := Bool.eq_false_iff.2 fun h => Bool.false_ne_true (hL.symm.trans (hc 12 h 11 (by decide)))
      have h := HO.out
      have hn := h.new 4 #[.int .i64 y] 3 (by simp [maxLen])
      have hv := hv.reset 11 hL (.slice (some ⟨wc.heap.size, 0, none⟩) 1 1)
      exact wpOp_value rfl rfl (ex_build rfl Tryd.underlying23 info_int (hv.get 10 rfl rfl (by simpa using hd 10 (by decide))) rfl) ⟨wc.heap.size, g2, z2, hv.put rp_src_apart 11 rfl (Nat.le_of_ble_eq_true rfl) (Nat.le_of_ble_eq_true rfl) rfl, Lib.hid (by simpa [upd, n14, n12] using hn)⟩
    · -- 12 lines
      rintro L a wc ⟨go, g2, z2, hv, HO⟩ hL hc hd
      have n14 : L 14 = false := Bool.eq_false_iff.2 fun h => Bool.false_ne_true (hL.symm.trans (hc 14 h 12 (by decide)))
      have h11' : L 11 = true := hd 11 (by decide)
      have h := HO.out
      simp only [hL, h11', n14, Bool.false_eq_true, if_false, if_true] at h
      refine wpOp_append rfl rfl 23 3 rfl Tryd.underlying23 info_int rfl h 1 rfl (hv.get 1 rfl rfl (hd 1 (by decide))) (hv.get 11 rfl rfl h11') (h.cell 4 rfl 0 rfl) rfl (by omega) (by decide) ?_
      intro gg cc w2 hO2
      have hv := hv.reset 12 hL (.slice (some ⟨gg, 0, none⟩) (n + 1) cc)
      exact ⟨go, gg, cc, hv.put rp_src_apart 12 rfl (Nat.le_of_ble_eq_true rfl) (Nat.le_of_ble_eq_true rfl) rfl, Lib.hid (by simpa [upd, h11', n14] using hO2)⟩
    · -- 13 field
      rintro L a wc ⟨go, g2, z2, hv, HO⟩ hL hc hd
      exact wpOp_val rfl rfl (ex_field rfl ((hv.fixed 14 (by decide)).trans rfl) (by go_simp)) ⟨go, g2, z2, hv.put rp_src_apart 13 rfl (Nat.le_of_ble_eq_true rfl) (Nat.le_of_ble_eq_true rfl) rfl, (Lib.hid (by simpa [upd] using HO.out))⟩
    · -- 14 store
      rintro L a wc ⟨go, g2, z2, hv, HO⟩ hL hc hd
      have h12' : L 12 = true := hd 12 (by decide)
      have h11' : L 11 = true := hd 11 (by decide)
      have hO := HO.out
      simp only [hL, h12', h11', Bool.false_eq_true, if_false, if_true] at hO
      have k1 := hO.cell 0 rfl 1 rfl
      have q1 := hO.frozen 0 rfl 1
      have hS : Owns W0 (wc.setCell ⟨gx, 1, none⟩ (.slice (some ⟨g2, 0, none⟩) (n + 1) z2)) [(if upd L 14 14 = true then haulRow gx (PV) (.slice (some ⟨g2, 0, none⟩) (n + 1) z2) (.int .i64 tg) else haulRow gx (PV) (.slice sA n cS) (.int .i64 tg)), (if upd L 14 12 = true then ⟨.slice (some ⟨g2, 0, none⟩) (n + 1) z2, 3, 1, n + 1, xs ++ [.int .i64 y]⟩ else ⟨.slice sA n cS, 3, 1, n, xs⟩), r2, r3, (if upd L 14 11 = true then ⟨.slice (some ⟨go, 0, none⟩) 1 1, 3, 1, 1, [.int .i64 y]⟩ else no), no] := by rw [if_pos (show upd L 14 14 = true from by simp [upd]), if_pos (show upd L 14 12 = true from by simp [upd, h12']), if_pos (show upd L 14 11 = true from by simp [upd, h11'])]; exact hO.store 0 rfl 1 (.slice (some ⟨g2, 0, none⟩) (n + 1) z2)
      exact wpOp_skip rfl rfl rfl (ex_store rfl (hv.get 13 rfl rfl (hd 13 (by decide))) (hv.get 12 rfl rfl (hd 12 (by decide))) (by go_simp)) ⟨go, g2, z2, hv.skip 14 rfl, (Lib.hid hS)⟩
  · rintro L a wc ⟨go, g2, z2, hv, HO⟩ hall
    show K a wc
    have ha := act_lit a
    rw [hv.size, hv.defers] at ha
    have hl : ∀ f : Nat → Value, ((List.range (⟨#[c0, c1, c2, c3, c4, c5, .pointer (some ⟨BH, 0, none⟩), c7, c8, c9, c10, c11, c12, c13, .pointer (some ⟨gx, 0, none⟩), c15, c16, .int .i64 (k : Int), c18, c19, c20, c21, c22, c23, c24, c25, c26, c27, c28, c29, c30, c31, c32, c33, c34, c35, c36, c37, c38, c39, c40, c41, c42, c43, c44, c45, c46, c47, c48, c49, c50, c51, c52, c53, c54, c55, c56, c57, c58, c59, c60, c61, c62, c63, c64, c65, c66, c67, c68, c69, c70, c71, c72, c73, c74, c75, c76, c77, c78, c79, c80, c81, c82, c83, c84, c85, c86, c87, c88, c89, c90, c91, c92, c93, c94, c95, c96, c97, c98, c99, c100, c101, c102, c103, c104, c105, c106, c107, c108, c109, c110, c111, c112, c113, c114, c115, c116, c117, c118, c119, c120, c121, c122, c123, c124, c125, c126, c127, c128, c129, c130, c131, c132, c133, c134, c135, c136, c137, c138, c139, c140, c141, c142, c143, c144, c145, c146, c147, c148, c149, c150, c151, c152, c153, c154, c155, c156, c157, c158, c159, c160, c161, c162, c163, c164, c165, c166, c167, c168, c169, c170, c171, c172, c173, c174, c175, c176, c177, c178, c179, c180, c181, c182], df⟩ : Act).tmps.size).map f).toArray = #[f 0, f 1, f 2, f 3, f 4, f 5, f 6, f 7, f 8, f 9, f 10, f 11, f 12, f 13, f 14, f 15, f 16, f 17, f 18, f 19, f 20, f 21, f 22, f 23, f 24, f 25, f 26, f 27, f 28, f 29, f 30, f 31, f 32, f 33, f 34, f 35, f 36, f 37, f 38, f 39, f 40, f 41, f 42, f 43, f 44, f 45, f 46, f 47, f 48, f 49, f 50, f 51, f 52, f 53, f 54, f 55, f 56, f 57, f 58, f 59, f 60, f 61, f 62, f 63, f 64, f 65, f 66, f 67, f 68, f 69, f 70, f 71, f 72, f 73, f 74, f 75, f 76, f 77, f 78, f 79, f 80, f 81, f 82, f 83, f 84, f 85, f 86, f 87, f 88, f 89, f 90, f 91, f 92, f 93, f 94, f 95, f 96, f 97, f 98, f 99, f 100, f 101, f 102, f 103, f 104, f 105, f 106, f 107, f 108, f 109, f 110, f 111, f 112, f 113, f 114, f 115, f 116, f 117, f 118, f 119, f 120, f 121, f 122, f 123, f 124, f 125, f 126, f 127, f 128, f 129, f 130, f 131, f 132, f 133, f 134, f 135, f 136, f 137, f 138, f 139, f 140, f 141, f 142, f 143, f 144, f 145, f 146, f 147, f 148, f 149, f 150, f 151, f 152, f 153, f 154, f 155, f 156, f 157, f 158, f 159, f 160, f 161, f 162, f 163, f 164, f 165, f 166, f 167, f 168, f 169, f 170, f 171, f 172, f 173, f 174, f 175, f 176, f 177, f 178, f 179, f 180, f 181, f 182] := fun _ => rfl
    rw [hl] at ha
    simp only [hv.fixed 0 (by decide), hv.fixed 1 (by decide), hv.fixed 2 (by decide), hv.fixed 3 (by decide), hv.fixed 4 (by decide), hv.fixed 5 (by decide), hv.fixed 6 (by decide), hv.fixed 7 (by decide), hv.fixed 8 (by decide), hv.fixed 9 (by decide), hv.fixed 10 (by decide), hv.fixed 11 (by decide), hv.fixed 12 (by decide), hv.fixed 13 (by decide), hv.fixed 14 (by decide), hv.fixed 15 (by decide), hv.fixed 16 (by decide), hv.fixed 17 (by decide), hv.fixed 18 (by decide), hv.fixed 19 (by decide), hv.fixed 20 (by decide), hv.fixed 21 (by decide), hv.fixed 22 (by decide), hv.fixed 23 (by decide), hv.fixed 24 (by decide), hv.fixed 25 (by decide), hv.fixed 26 (by decide), hv.fixed 27 (by decide), hv.fixed 28 (by decide), hv.fixed 29 (by decide), hv.fixed 30 (by decide), hv.fixed 31 (by decide), hv.fixed 32 (by decide), hv.fixed 33 (by decide), hv.fixed 34 (by decide), hv.fixed 35 (by decide), hv.fixed 36 (by decide), hv.fixed 37 (by decide), hv.fixed 38 (by decide), hv.fixed 39 (by decide), hv.fixed 40 (by decide), hv.fixed 41 (by decide), hv.fixed 42 (by decide), hv.fixed 43 (by decide), hv.fixed 44 (by decide), hv.fixed 45 (by decide), hv.fixed 46 (by decide), hv.fixed 47 (by decide), hv.fixed 48 (by decide), hv.fixed 49 (by decide), hv.fixed 50 (by decide), hv.fixed 51 (by decide), hv.fixed 52 (by decide), hv.fixed 53 (by decide), hv.fixed 54 (by decide), hv.fixed 55 (by decide), hv.fixed 56 (by decide), hv.fixed 57 (by decide), hv.fixed 58 (by decide), hv.fixed 59 (by decide), hv.fixed 60 (by decide), hv.fixed 61 (by decide), hv.fixed 62 (by decide), hv.fixed 63 (by decide), hv.fixed 64 (by decide), hv.fixed 65 (by decide), hv.fixed 66 (by decide), hv.fixed 67 (by decide), hv.fixed 68 (by decide), hv.fixed 69 (by decide), hv.fixed 70 (by decide), hv.fixed 71 (by decide), hv.fixed 72 (by decide), hv.fixed 73 (by decide), hv.fixed 74 (by decide), hv.fixed 75 (by decide), hv.fixed 76 (by decide), hv.fixed 77 (by decide), hv.fixed 78 (by decide), hv.fixed 79 (by decide), hv.fixed 80 (by decide), hv.fixed 81 (by decide), hv.fixed 82 (by decide), hv.fixed 83 (by decide), hv.fixed 84 (by decide), hv.fixed 85 (by decide), hv.fixed 86 (by decide), hv.fixed 87 (by decide), hv.fixed 88 (by decide), hv.fixed 89 (by decide), hv.fixed 90 (by decide), hv.fixed 91 (by decide), hv.fixed 92 (by decide), hv.fixed 93 (by decide), hv.fixed 94 (by decide), hv.fixed 95 (by decide), hv.fixed 96 (by decide), hv.fixed 97 (by decide), hv.fixed 98 (by decide), hv.fixed 99 (by decide), hv.fixed 100 (by decide), hv.fixed 101 (by decide), hv.fixed 102 (by decide), hv.fixed 103 (by decide), hv.fixed 104 (by decide), hv.fixed 105 (by decide), hv.fixed 106 (by decide), hv.fixed 107 (by decide), hv.fixed 108 (by decide), hv.fixed 109 (by decide), hv.fixed 110 (by decide), hv.fixed 111 (by decide), hv.fixed 112 (by decide), hv.fixed 113 (by decide), hv.fixed 114 (by decide), hv.fixed 115 (by decide), hv.fixed 116 (by decide), hv.fixed 117 (by decide), hv.fixed 118 (by decide), hv.fixed 119 (by decide), hv.fixed 120 (by decide), hv.fixed 135 (by decide), hv.fixed 136 (by decide), hv.fixed 137 (by decide), hv.fixed 138 (by decide), hv.fixed 139 (by decide), hv.fixed 140 (by decide), hv.fixed 141 (by decide), hv.fixed 142 (by decide), hv.fixed 143 (by decide), hv.fixed 144 (by decide), hv.fixed 145 (by decide), hv.fixed 146 (by decide), hv.fixed 147 (by decide), hv.fixed 148 (by decide), hv.fixed 149 (by decide), hv.fixed 150 (by decide), hv.fixed 151 (by decide), hv.fixed 152 (by decide), hv.fixed 153 (by decide), hv.fixed 154 (by decide), hv.fixed 155 (by decide), hv.fixed 156 (by decide), hv.fixed 157 (by decide), hv.fixed 158 (by decide), hv.fixed 159 (by decide), hv.fixed 160 (by decide), hv.fixed 161 (by decide), hv.fixed 162 (by decide), hv.fixed 163 (by decide), hv.fixed 164 (by decide), hv.fixed 165 (by decide), hv.fixed 166 (by decide), hv.fixed 167 (by decide), hv.fixed 168 (by decide), hv.fixed 169 (by decide), hv.fixed 170 (by decide), hv.fixed 171 (by decide), hv.fixed 172 (by decide), hv.fixed 173 (by decide), hv.fixed 174 (by decide), hv.fixed 175 (by decide), hv.fixed 176 (by decide), hv.fixed 177 (by decide), hv.fixed 178 (by decide), hv.fixed 179 (by decide), hv.fixed 180 (by decide), hv.fixed 181 (by decide), hv.fixed 182 (by decide)] at ha
    rw [ha]
    have hO := HO.out
    rw [if_pos (hall 14 (by decide)), if_pos (hall 12 (by decide)), if_pos (hall 11 (by decide))] at hO
    exact hK g2 z2 _ _ _ _ _ _ _ _ _ _ _ _ _ _ wc (hO.drop 4)
noncomputable def rp_part_code : Code := ((Tryd.f7.body.bind (regionOf 20)).getD .skip)
def rp_part_dsts : List (Option Nat) := [some 135, some 136, some 137, some 138, some 139, some 140, some 141, some 142, some 143, some 144, some 15, some 16]
theorem rp_part_apart : apartD rp_part_dsts = true := by decide +kernel
set_option maxRecDepth 1000000 in
set_option maxHeartbeats 16000000 in
theorem rp_part (W0 wr : World) (n cC cP nl cl pi : Nat) (pl : Addr) (cA pA : Option Addr) (q : ByteArray) (xc xp : List Value) (r0 r1 : LRow) (hpi : pi < nl) (hn1 : n ≤ 30) (hq : W0.cell? (pl.add pi) = some (.string q)) (HOO : Hid (Owns W0 wr.drew [r0, r1, ⟨.slice cA n cC, 5, 1, n, xc⟩, ⟨.slice pA n cP, 9, 1, n, xp⟩, no, no])) (c0 c1 c2 c3 c4 c5 c6 c7 c8 c10 c11 c12 c13 c14 c17 c19 c20 c21 c22 c23 c24 c25 c26 c27 c28 c29 c30 c31 c32 c33 c34 c35 c36 c37 c38 c39 c40 c41 c42 c43 c44 c45 c46 c47 c48 c49 c50 c51 c52 c53 c54 c55 c56 c57 c58 c59 c60 c61 c62 c63 c64 c65 c66 c67 c68 c69 c70 c71 c72 c73 c74 c75 c76 c77 c78 c79 c80 c81 c82 c83 c84 c85 c86 c87 c88 c89 c90 c91 c92 c93 c94 c95 c96 c97 c98 c99 c100 c101 c102 c103 c104 c105 c106 c107 c108 c109 c110 c111 c112 c113 c114 c115 c116 c117 c118 c119 c120 c121 c122 c123 c124 c125 c126 c127 c128 c129 c130 c131 c132 c133 c134 c135 c136 c137 c138 c139 c140 c141 c142 c143 c144 c145 c146 c147 c148 c149 c150 c151 c152 c153 c154 c155 c156 c157 c158 c159 c160 c161 c162 c163 c164 c165 c166 c167 c168 c169 c170 c171 c172 c173 c174 c175 c176 c177 c178 c179 c180 c181 c182 : Value) (df : List Deferred) (K : Act → World → Prop)
    (hK : ∀ (gc cc2 gp cp2 : Nat) (u135 u136 u137 u138 u139 u140 u141 u142 u143 u144 : Value) (wx : World), Owns W0 wx [r0, r1, ⟨.slice (some ⟨gc, 0, none⟩) (n + 1) cc2, 5, 1, n + 1, xc ++ [.int .u8 1]⟩, ⟨.slice (some ⟨gp, 0, none⟩) (n + 1) cp2, 9, 1, n + 1, xp ++ [.string q]⟩, no, no] → K ⟨#[c0, c1, c2, c3, c4, c5, c6, c7, c8, .slice (some pl) nl cl, c10, c11, c12, c13, c14, .slice (some ⟨gc, 0, none⟩) (n + 1) cc2, .slice (some ⟨gp, 0, none⟩) (n + 1) cp2, c17, .int .i64 (pi : Int), c19, c20, c21, c22, c23, c24, c25, c26, c27, c28, c29, c30, c31, c32, c33, c34, c35, c36, c37, c38, c39, c40, c41, c42, c43, c44, c45, c46, c47, c48, c49, c50, c51, c52, c53, c54, c55, c56, c57, c58, c59, c60, c61, c62, c63, c64, c65, c66, c67, c68, c69, c70, c71, c72, c73, c74, c75, c76, c77, c78, c79, c80, c81, c82, c83, c84, c85, c86, c87, c88, c89, c90, c91, c92, c93, c94, c95, c96, c97, c98, c99, c100, c101, c102, c103, c104, c105, c106, c107, c108, c109, c110, c111, c112, c113, c114, c115, c116, c117, c118, c119, c120, c121, c122, c123, c124, c125, c126, c127, c128, c129, c130, c131, c132, c133, c134, u135, u136, u137, u138, u139, u140, u141, u142, u143, u144, c145, c146, c147, c148, c149, c150, c151, c152, c153, c154, c155, c156, c157, c158, c159, c160, c161, c162, c163, c164, c165, c166, c167, c168, c169, c170, c171, c172, c173, c174, c175, c176, c177, c178, c179, c180, c181, c182], df⟩ wx) :
    Code.wp Tryd.prog rp_part_code (AtEnd K) ⟨#[c0, c1, c2, c3, c4, c5, c6, c7, c8, .slice (some pl) nl cl, c10, c11, c12, c13, c14, .slice cA n cC, .slice pA n cP, c17, .int .i64 (pi : Int), c19, c20, c21, c22, c23, c24, c25, c26, c27, c28, c29, c30, c31, c32, c33, c34, c35, c36, c37, c38, c39, c40, c41, c42, c43, c44, c45, c46, c47, c48, c49, c50, c51, c52, c53, c54, c55, c56, c57, c58, c59, c60, c61, c62, c63, c64, c65, c66, c67, c68, c69, c70, c71, c72, c73, c74, c75, c76, c77, c78, c79, c80, c81, c82, c83, c84, c85, c86, c87, c88, c89, c90, c91, c92, c93, c94, c95, c96, c97, c98, c99, c100, c101, c102, c103, c104, c105, c106, c107, c108, c109, c110, c111, c112, c113, c114, c115, c116, c117, c118, c119, c120, c121, c122, c123, c124, c125, c126, c127, c128, c129, c130, c131, c132, c133, c134, c135, c136, c137, c138, c139, c140, c141, c142, c143, c144, c145, c146, c147, c148, c149, c150, c151, c152, c153, c154, c155, c156, c157, c158, c159, c160, c161, c162, c163, c164, c165, c166, c167, c168, c169, c170, c171, c172, c173, c174, c175, c176, c177, c178, c179, c180, c181, c182], df⟩ wr := by
  conv => arg 2; whnf
  refine region_inv (by kernel_rfl) [[], [], [0, 1], [], [], [], [4, 5], [6], [7], [3, 8, 2], [2, 9, 0, 1, 2], [9, 10, 0, 1, 2, 3, 4, 5, 6, 7, 8, 9, 10]] (by kernel_rfl) [0, 1, 2, 3, 4, 5, 6, 7, 8, 9, 10, 11] (by decide +kernel) (by decide +kernel) (by decide +kernel) (fun L a wc => ∃ (go : Nat) (gc : Nat) (cc2 : Nat) (gs : Nat) (gp : Nat) (cp2 : Nat), InvO rp_part_dsts [.slice cA n cC, .slice (some ⟨go, 0, none⟩) 1 1, .slice (some ⟨gc, 0, none⟩) (n + 1) cc2, .slice pA n cP, .slice (some pl) nl cl, .int .i64 (pi : Int), .pointer (some (pl.add pi)), .string q, .slice (some ⟨gs, 0, none⟩) 1 1, .slice (some ⟨gp, 0, none⟩) (n + 1) cp2, .slice (some ⟨gc, 0, none⟩) (n + 1) cc2, .slice (some ⟨gp, 0, none⟩) (n + 1) cp2] ⟨#[c0, c1, c2, c3, c4, c5, c6, c7, c8, .slice (some pl) nl cl, c10, c11, c12, c13, c14, .slice cA n cC, .slice pA n cP, c17, .int .i64 (pi : Int), c19, c20, c21, c22, c23, c24, c25, c26, c27, c28, c29, c30, c31, c32, c33, c34, c35, c36, c37, c38, c39, c40, c41, c42, c43, c44, c45, c46, c47, c48, c49, c50, c51, c52, c53, c54, c55, c56, c57, c58, c59, c60, c61, c62, c63, c64, c65, c66, c67, c68, c69, c70, c71, c72, c73, c74, c75, c76, c77, c78, c79, c80, c81, c82, c83, c84, c85, c86, c87, c88, c89, c90, c91, c92, c93, c94, c95, c96, c97, c98, c99, c100, c101, c102, c103, c104, c105, c106, c107, c108, c109, c110, c111, c112, c113, c114, c115, c116, c117, c118, c119, c120, c121, c122, c123, c124, c125, c126, c127, c128, c129, c130, c131, c132, c133, c134, c135, c136, c137, c138, c139, c140, c141, c142, c143, c144, c145, c146, c147, c148, c149, c150, c151, c152, c153, c154, c155, c156, c157, c158, c159, c160, c161, c162, c163, c164, c165, c166, c167, c168, c169, c170, c171, c172, c173, c174, c175, c176, c177, c178, c179, c180, c181, c182], df⟩ L a ∧ Hid (Owns W0 wc [r0, r1, (if L 2 = true then ⟨.slice (some ⟨gc, 0, none⟩) (n + 1) cc2, 5, 1, n + 1, xc ++ [.int .u8 1]⟩ else ⟨.slice cA n cC, 5, 1, n, xc⟩), (if L 9 = true then ⟨.slice (some ⟨gp, 0, none⟩) (n + 1) cp2, 9, 1, n + 1, xp ++ [.string q]⟩ else ⟨.slice pA n cP, 9, 1, n, xp⟩), (if L 1 = true then ⟨.slice (some ⟨go, 0, none⟩) 1 1, 5, 1, 1, [.int .u8 1]⟩ else no), (if L 8 = true then ⟨.slice (some ⟨gs, 0, none⟩) 1 1, 9, 1, 1, [.string q]⟩ else no)])) ⟨0, 0, 0, 0, 0, 0, InvO.start, HOO⟩ ?_ ?_
  · refine ⟨?_, ?_, ?_, ?_, ?_, ?_, ?_, ?_, ?_, ?_, ?_, ?_, trivial⟩
    · -- 0 move
      rintro L a wc ⟨go, gc, cc2, gs, gp, cp2, hv, HO⟩ hL hc hd
      exact wpOp_val rfl rfl (ex_move rfl ((hv.old 10 15 rfl (Bool.eq_false_iff.2 fun h => Bool.false_ne_true (hL.symm.trans (hc 10 h 0 (by decide))))).trans rfl)) ⟨go, gc, cc2, gs, gp, cp2, hv.put rp_part_apart 0 rfl (Nat.le_of_ble_eq_true rfl) (Nat.le_of_ble_eq_true rfl) rfl, (Lib.hid (by simpa [upd] using HO.out))⟩
    · -- 1 lines
      rintro L a wc ⟨go, gc, cc2, gs, gp, cp2, hv, HO⟩ hL hc hd
      have n2 : L 2 = false := Bool.eq_false_iff.2 fun h => Bool.false_ne_true (hL.symm.trans (hc 2 h 1 (by decide)))
      have h := HO.out
      have hn := h.new 4 #[.int .u8 1] 5 (by simp [maxLen])
      have hv := hv.reset 1 hL (.slice (some ⟨wc.heap.size, 0, none⟩) 1 1)
      exact wpOp_value rfl rfl (ex_build_c rfl Tryd.underlying44 info_u8r rfl) ⟨wc.heap.size, gc, cc2, gs, gp, cp2, hv.put rp_part_apart 1 rfl (Nat.le_of_ble_eq_true rfl) (Nat.le_of_ble_eq_true rfl) rfl, Lib.hid (by simpa [upd, n2] using hn)⟩
    · -- 2 lines
      rintro L a wc ⟨go, gc, cc2, gs, gp, cp2, hv, HO⟩ hL hc hd
      have h1' : L 1 = true := hd 1 (by decide)
      have h := HO.out
      simp only [hL, h1', Bool.false_eq_true, if_false, if_true] at h
      refine wpOp_append rfl rfl 44 5 rfl Tryd.underlying44 info_u8r rfl h 2 rfl (hv.get 0 rfl rfl (hd 0 (by decide))) (hv.get 1 rfl rfl h1') (h.cell 4 rfl 0 rfl) rfl (by omega) (by decide) ?_
      intro gg cc w2 hO2
      have n10 : L 10 = false := Bool.eq_false_iff.2 fun h => Bool.false_ne_true (hL.symm.trans (hc 10 h 2 (by decide)))
      have hv := (hv.reset 2 hL (.slice (some ⟨gg, 0, none⟩) (n + 1) cc)).reset 10 n10 (.slice (some ⟨gg, 0, none⟩) (n + 1) cc)
      exact ⟨go, gg, cc, gs, gp, cp2, hv.put rp_part_apart 2 rfl (Nat.le_of_ble_eq_true rfl) (Nat.le_of_ble_eq_true rfl) rfl, Lib.hid (by simpa [upd, h1'] using hO2)⟩
    · -- 3 move
      rintro L a wc ⟨go, gc, cc2, gs, gp, cp2, hv, HO⟩ hL hc hd
      exact wpOp_val rfl rfl (ex_move rfl ((hv.old 11 16 rfl (Bool.eq_false_iff.2 fun h => Bool.false_ne_true (hL.symm.trans (hc 11 h 3 (by decide))))).trans rfl)) ⟨go, gc, cc2, gs, gp, cp2, hv.put rp_part_apart 3 rfl (Nat.le_of_ble_eq_true rfl) (Nat.le_of_ble_eq_true rfl) rfl, (Lib.hid (by simpa [upd] using HO.out))⟩
    · -- 4 move
      rintro L a wc ⟨go, gc, cc2, gs, gp, cp2, hv, HO⟩ hL hc hd
      exact wpOp_val rfl rfl (ex_move rfl ((hv.fixed 9 (by decide)).trans rfl)) ⟨go, gc, cc2, gs, gp, cp2, hv.put rp_part_apart 4 rfl (Nat.le_of_ble_eq_true rfl) (Nat.le_of_ble_eq_true rfl) rfl, (Lib.hid (by simpa [upd] using HO.out))⟩
    · -- 5 move
      rintro L a wc ⟨go, gc, cc2, gs, gp, cp2, hv, HO⟩ hL hc hd
      exact wpOp_val rfl rfl (ex_move rfl ((hv.fixed 18 (by decide)).trans rfl)) ⟨go, gc, cc2, gs, gp, cp2, hv.put rp_part_apart 5 rfl (Nat.le_of_ble_eq_true rfl) (Nat.le_of_ble_eq_true rfl) rfl, (Lib.hid (by simpa [upd] using HO.out))⟩
    · -- 6 index
      rintro L a wc ⟨go, gc, cc2, gs, gp, cp2, hv, HO⟩ hL hc hd
      have b1 : (0 : Int) ≤ (pi : Int) := by omega
      have b2 : (pi : Int) < (nl : Int) := by omega
      exact wpOp_val rfl rfl (ex_index rfl (hv.get 4 rfl rfl (hd 4 (by decide))) (hv.get 5 rfl rfl (hd 5 (by decide))) (by go_simp)) ⟨go, gc, cc2, gs, gp, cp2, hv.put rp_part_apart 6 rfl (Nat.le_of_ble_eq_true rfl) (Nat.le_of_ble_eq_true rfl) rfl, (Lib.hid (by simpa [upd] using HO.out))⟩
    · -- 7 load
      rintro L a wc ⟨go, gc, cc2, gs, gp, cp2, hv, HO⟩ hL hc hd
      have eQ : wc.cell? (pl.add pi) = some (.string q) := HO.out.ext.cell hq
      exact wpOp_val rfl rfl (ex_load rfl (hv.get 6 rfl rfl (hd 6 (by decide))) (by go_simp)) ⟨go, gc, cc2, gs, gp, cp2, hv.put rp_part_apart 7 rfl (Nat.le_of_ble_eq_true rfl) (Nat.le_of_ble_eq_true rfl) rfl, (Lib.hid (by simpa [upd] using HO.out))⟩
    · -- 8 lines
      rintro L a wc ⟨go, gc, cc2, gs, gp, cp2, hv, HO⟩ hL hc hd
      have n9 : L 9 = false := Bool.eq_false_iff.2 fun h => Bool.false_ne_true (hL.symm.trans (hc 9 h 8 (by decide)))
      have h := HO.out
      have hn := h.new 5 #[.string q] 9 (by simp [maxLen])
      have hv := hv.reset 8 hL (.slice (some ⟨wc.heap.size, 0, none⟩) 1 1)
      exact wpOp_value rfl rfl (ex_build rfl Tryd.underlying45 info_str (hv.get 7 rfl rfl (by simpa using hd 7 (by decide))) rfl) ⟨go, gc, cc2, wc.heap.size, gp, cp2, hv.put rp_part_apart 8 rfl (Nat.le_of_ble_eq_true rfl) (Nat.le_of_ble_eq_true rfl) rfl, Lib.hid (by simpa [upd, n9] using hn)⟩
    · -- 9 lines
      rintro L a wc ⟨go, gc, cc2, gs, gp, cp2, hv, HO⟩ hL hc hd
      have h8' : L 8 = true := hd 8 (by decide)
      have h := HO.out
      simp only [hL, h8', Bool.false_eq_true, if_false, if_true] at h
      refine wpOp_append rfl rfl 45 9 rfl Tryd.underlying45 info_str rfl h 3 rfl (hv.get 3 rfl rfl (hd 3 (by decide))) (hv.get 8 rfl rfl h8') (h.cell 5 rfl 0 rfl) rfl (by omega) (by decide) ?_
      intro gg cc w2 hO2
      have n11 : L 11 = false := Bool.eq_false_iff.2 fun h => Bool.false_ne_true (hL.symm.trans (hc 11 h 9 (by decide)))
      have hv := (hv.reset 9 hL (.slice (some ⟨gg, 0, none⟩) (n + 1) cc)).reset 11 n11 (.slice (some ⟨gg, 0, none⟩) (n + 1) cc)
      exact ⟨go, gc, cc2, gs, gg, cc, hv.put rp_part_apart 9 rfl (Nat.le_of_ble_eq_true rfl) (Nat.le_of_ble_eq_true rfl) rfl, Lib.hid (by simpa [upd, h8'] using hO2)⟩
    · -- 10 assign
      rintro L a wc ⟨go, gc, cc2, gs, gp, cp2, hv, HO⟩ hL hc hd
      exact wpOp_val rfl rfl (ex_assign rfl (hv.get 2 rfl rfl (hd 2 (by decide)))) ⟨go, gc, cc2, gs, gp, cp2, hv.put rp_part_apart 10 rfl (Nat.le_of_ble_eq_true rfl) (Nat.le_of_ble_eq_true rfl) rfl, (Lib.hid (by simpa [upd] using HO.out))⟩
    · -- 11 assign
      rintro L a wc ⟨go, gc, cc2, gs, gp, cp2, hv, HO⟩ hL hc hd
      exact wpOp_val rfl rfl (ex_assign rfl (hv.get 9 rfl rfl (hd 9 (by decide)))) ⟨go, gc, cc2, gs, gp, cp2, hv.put rp_part_apart 11 rfl (Nat.le_of_ble_eq_true rfl) (Nat.le_of_ble_eq_true rfl) rfl, (Lib.hid (by simpa [upd] using HO.out))⟩
  · rintro L a wc ⟨go, gc, cc2, gs, gp, cp2, hv, HO⟩ hall
    show K a wc
    have ha := act_lit a
    rw [hv.size, hv.defers] at ha
    have hl : ∀ f : Nat → Value, ((List.range (⟨#[c0, c1, c2, c3, c4, c5, c6, c7, c8, .slice (some pl) nl cl, c10, c11, c12, c13, c14, .slice cA n cC, .slice pA n cP, c17, .int .i64 (pi : Int), c19, c20, c21, c22, c23, c24, c25, c26, c27, c28, c29, c30, c31, c32, c33, c34, c35, c36, c37, c38, c39, c40, c41, c42, c43, c44, c45, c46, c47, c48, c49, c50, c51, c52, c53, c54, c55, c56, c57, c58, c59, c60, c61, c62, c63, c64, c65, c66, c67, c68, c69, c70, c71, c72, c73, c74, c75, c76, c77, c78, c79, c80, c81, c82, c83, c84, c85, c86, c87, c88, c89, c90, c91, c92, c93, c94, c95, c96, c97, c98, c99, c100, c101, c102, c103, c104, c105, c106, c107, c108, c109, c110, c111, c112, c113, c114, c115, c116, c117, c118, c119, c120, c121, c122, c123, c124, c125, c126, c127, c128, c129, c130, c131, c132, c133, c134, c135, c136, c137, c138, c139, c140, c141, c142, c143, c144, c145, c146, c147, c148, c149, c150, c151, c152, c153, c154, c155, c156, c157, c158, c159, c160, c161, c162, c163, c164, c165, c166, c167, c168, c169, c170, c171, c172, c173, c174, c175, c176, c177, c178, c179, c180, c181, c182], df⟩ : Act).tmps.size).map f).toArray = #[f 0, f 1, f 2, f 3, f 4, f 5, f 6, f 7, f 8, f 9, f 10, f 11, f 12, f 13, f 14, f 15, f 16, f 17, f 18, f 19, f 20, f 21, f 22, f 23, f 24, f 25, f 26, f 27, f 28, f 29, f 30, f 31, f 32, f 33, f 34, f 35, f 36, f 37, f 38, f 39, f 40, f 41, f 42, f 43, f 44, f 45, f 46, f 47, f 48, f 49, f 50, f 51, f 52, f 53, f 54, f 55, f 56, f 57, f 58, f 59, f 60, f 61, f 62, f 63, f 64, f 65, f 66, f 67, f 68, f 69, f 70, f 71, f 72, f 73, f 74, f 75, f 76, f 77, f 78, f 79, f 80, f 81, f 82, f 83, f 84, f 85, f 86, f 87, f 88, f 89, f 90, f 91, f 92, f 93, f 94, f 95, f 96, f 97, f 98, f 99, f 100, f 101, f 102, f 103, f 104, f 105, f 106, f 107, f 108, f 109, f 110, f 111, f 112, f 113, f 114, f 115, f 116, f 117, f 118, f 119, f 120, f 121, f 122, f 123, f 124, f 125, f 126, f 127, f 128, f 129, f 130, f 131, f 132, f 133, f 134, f 135, f 136, f 137, f 138, f 139, f 140, f 141, f 142, f 143, f 144, f 145, f 146, f 147, f 148, f 149, f 150, f 151, f 152, f 153, f 154, f 155, f 156, f 157, f 158, f 159, f 160, f 161, f 162, f 163, f 164, f 165, f 166, f 167, f 168, f 169, f 170, f 171, f 172, f 173, f 174, f 175, f 176, f 177, f 178, f 179, f 180, f 181, f 182] := fun _ => rfl
    rw [hl] at ha
    simp only [hv.fixed 0 (by decide), hv.fixed 1 (by decide), hv.fixed 2 (by decide), hv.fixed 3 (by decide), hv.fixed 4 (by decide), hv.fixed 5 (by decide), hv.fixed 6 (by decide), hv.fixed 7 (by decide), hv.fixed 8 (by decide), hv.fixed 9 (by decide), hv.fixed 10 (by decide), hv.fixed 11 (by decide), hv.fixed 12 (by decide), hv.fixed 13 (by decide), hv.fixed 14 (by decide), hv.fixed 17 (by decide), hv.fixed 18 (by decide), hv.fixed 19 (by decide), hv.fixed 20 (by decide), hv.fixed 21 (by decide), hv.fixed 22 (by decide), hv.fixed 23 (by decide), hv.fixed 24 (by decide), hv.fixed 25 (by decide), hv.fixed 26 (by decide), hv.fixed 27 (by decide), hv.fixed 28 (by decide), hv.fixed 29 (by decide), hv.fixed 30 (by decide), hv.fixed 31 (by decide), hv.fixed 32 (by decide), hv.fixed 33 (by decide), hv.fixed 34 (by decide), hv.fixed 35 (by decide), hv.fixed 36 (by decide), hv.fixed 37 (by decide), hv.fixed 38 (by decide), hv.fixed 39 (by decide), hv.fixed 40 (by decide), hv.fixed 41 (by decide), hv.fixed 42 (by decide), hv.fixed 43 (by decide), hv.fixed 44 (by decide), hv.fixed 45 (by decide), hv.fixed 46 (by decide), hv.fixed 47 (by decide), hv.fixed 48 (by decide), hv.fixed 49 (by decide), hv.fixed 50 (by decide), hv.fixed 51 (by decide), hv.fixed 52 (by decide), hv.fixed 53 (by decide), hv.fixed 54 (by decide), hv.fixed 55 (by decide), hv.fixed 56 (by decide), hv.fixed 57 (by decide), hv.fixed 58 (by decide), hv.fixed 59 (by decide), hv.fixed 60 (by decide), hv.fixed 61 (by decide), hv.fixed 62 (by decide), hv.fixed 63 (by decide), hv.fixed 64 (by decide), hv.fixed 65 (by decide), hv.fixed 66 (by decide), hv.fixed 67 (by decide), hv.fixed 68 (by decide), hv.fixed 69 (by decide), hv.fixed 70 (by decide), hv.fixed 71 (by decide), hv.fixed 72 (by decide), hv.fixed 73 (by decide), hv.fixed 74 (by decide), hv.fixed 75 (by decide), hv.fixed 76 (by decide), hv.fixed 77 (by decide), hv.fixed 78 (by decide), hv.fixed 79 (by decide), hv.fixed 80 (by decide), hv.fixed 81 (by decide), hv.fixed 82 (by decide), hv.fixed 83 (by decide), hv.fixed 84 (by decide), hv.fixed 85 (by decide), hv.fixed 86 (by decide), hv.fixed 87 (by decide), hv.fixed 88 (by decide), hv.fixed 89 (by decide), hv.fixed 90 (by decide), hv.fixed 91 (by decide), hv.fixed 92 (by decide), hv.fixed 93 (by decide), hv.fixed 94 (by decide), hv.fixed 95 (by decide), hv.fixed 96 (by decide), hv.fixed 97 (by decide), hv.fixed 98 (by decide), hv.fixed 99 (by decide), hv.fixed 100 (by decide), hv.fixed 101 (by decide), hv.fixed 102 (by decide), hv.fixed 103 (by decide), hv.fixed 104 (by decide), hv.fixed 105 (by decide), hv.fixed 106 (by decide), hv.fixed 107 (by decide), hv.fixed 108 (by decide), hv.fixed 109 (by decide), hv.fixed 110 (by decide), hv.fixed 111 (by decide), hv.fixed 112 (by decide), hv.fixed 113 (by decide), hv.fixed 114 (by decide), hv.fixed 115 (by decide), hv.fixed 116 (by decide), hv.fixed 117 (by decide), hv.fixed 118 (by decide), hv.fixed 119 (by decide), hv.fixed 120 (by decide), hv.fixed 121 (by decide), hv.fixed 122 (by decide), hv.fixed 123 (by decide), hv.fixed 124 (by decide), hv.fixed 125 (by decide), hv.fixed 126 (by decide), hv.fixed 127 (by decide), hv.fixed 128 (by decide), hv.fixed 129 (by decide), hv.fixed 130 (by decide), hv.fixed 131 (by decide), hv.fixed 132 (by decide), hv.fixed 133 (by decide), hv.fixed 134 (by decide), hv.fixed 145 (by decide), hv.fixed 146 (by decide), hv.fixed 147 (by decide), hv.fixed 148 (by decide), hv.fixed 149 (by decide), hv.fixed 150 (by decide), hv.fixed 151 (by decide), hv.fixed 152 (by decide), hv.fixed 153 (by decide), hv.fixed 154 (by decide), hv.fixed 155 (by decide), hv.fixed 156 (by decide), hv.fixed 157 (by decide), hv.fixed 158 (by decide), hv.fixed 159 (by decide), hv.fixed 160 (by decide), hv.fixed 161 (by decide), hv.fixed 162 (by decide), hv.fixed 163 (by decide), hv.fixed 164 (by decide), hv.fixed 165 (by decide), hv.fixed 166 (by decide), hv.fixed 167 (by decide), hv.fixed 168 (by decide), hv.fixed 169 (by decide), hv.fixed 170 (by decide), hv.fixed 171 (by decide), hv.fixed 172 (by decide), hv.fixed 173 (by decide), hv.fixed 174 (by decide), hv.fixed 175 (by decide), hv.fixed 176 (by decide), hv.fixed 177 (by decide), hv.fixed 178 (by decide), hv.fixed 179 (by decide), hv.fixed 180 (by decide), hv.fixed 181 (by decide), hv.fixed 182 (by decide), hv.get 10 (d := 15) rfl rfl (hall 10 (by decide)), hv.get 11 (d := 16) rfl rfl (hall 11 (by decide))] at ha
    rw [ha]
    have hO := HO.out
    rw [if_pos (hall 2 (by decide)), if_pos (hall 9 (by decide)), if_pos (hall 1 (by decide)), if_pos (hall 8 (by decide))] at hO
    exact hK gc cc2 gp cp2 _ _ _ _ _ _ _ _ _ _ wc ((hO.drop 4).drop 5)
end Go.Proofs.YtenafgphaceidaaDoor

/- THE LOOP of the law SumsRepair. -/
namespace Go.Proofs.YtenafgphaceidaaDoor
open Go.RowKit
noncomputable def rp_loop_code : Code := ((Tryd.f7.body.bind (loopOf 19)).getD .skip)
set_option maxRecDepth 1000000 in
set_option maxHeartbeats 16000000 in
theorem rp_loop (W0 wr : World) (BH gx M cg nl cl ns cs_ lost : Nat) (gad pl ps : Addr) (PV : Value) (tg : Int) (G src : List Int) (E : List (List UInt8)) (sf : Nat → Int) (pf : Nat → List UInt8) (hM : M ≤ 17) (hns : 0 < ns) (HGM : Hid (G.length = M)) (HGI : Hid (∀ i ∈ G, 0 ≤ i ∧ i < (nl : Int))) (HNS : Hid (src.length = ns)) (HEL : Hid (E.length = nl)) (HSF : Hid (sf = fun k => src.getD (k % ns) 0)) (HPF : Hid (pf = fun k => E.getD (G.getD k 0).toNat [])) (HG : Hid (Rd W0 (some gad) (G.map (Value.int .i64)))) (HSR : Hid (Rs RI W0 (.slice (some ps) ns cs_) src)) (HER : Hid (Rs RS W0 (.slice (some pl) nl cl) E)) (HBH : Hid (W0.cell? ⟨BH, 1, none⟩ = some (.slice (some ps) ns cs_)))
    (HO : Hid (Owns W0 wr [haulRow gx PV (.slice none 0 0) (.int .i64 tg), nilRow 3, nilRow 5, nilRow 9, no, no])) (c0 c1 c2 c3 c4 c5 c7 c8 c10 c11 c12 c17 c18 c19 c20 c21 c22 c23 c24 c25 c26 c27 c28 c29 c30 c31 c32 c33 c34 c35 c36 c37 c38 c39 c40 c41 c42 c43 c44 c45 c46 c47 c48 c49 c50 c51 c52 c53 c54 c55 c56 c57 c58 c59 c60 c61 c62 c63 c64 c65 c66 c67 c68 c69 c70 c71 c72 c73 c74 c75 c76 c77 c78 c79 c80 c81 c82 c83 c84 c85 c86 c87 c88 c89 c90 c91 c92 c93 c94 c95 c96 c97 c98 c99 c100 c101 c102 c103 c104 c105 c106 c107 c108 c109 c110 c114 c115 c116 c117 c118 c119 c120 c121 c122 c123 c124 c125 c126 c127 c128 c129 c130 c131 c132 c133 c134 c135 c136 c137 c138 c139 c140 c141 c142 c143 c144 c145 c146 c147 c148 c149 c150 c151 c152 c153 c154 c155 c156 c157 c158 c159 c160 c161 c162 c163 c164 c165 c166 c167 c168 c169 c170 c171 c172 c173 c174 c175 c176 c177 c178 c179 c180 c181 c182 : Value) (df : List Deferred) (Q0 : Exit → Act → World → Prop)
    (hexit : ∀ (u15 u16 u17 u18 u113 u114 u115 u116 u117 u118 u119 u120 u121 u122 u123 u124 u125 u126 u127 u128 u129 u130 u131 u132 u133 u134 u135 u136 u137 u138 u139 u140 u141 u142 u143 u144 u145 : Value) (wx : World), (∃ (n : Nat) (sA cA pA : Option Addr) (cS cC cP : Nat), u15 = .slice cA n cC ∧ u16 = .slice pA n cP ∧ n = (Cd.butTo sf lost M).length ∧ Owns W0 wx [haulRow gx PV (.slice sA n cS) (.int .i64 tg), ⟨.slice sA n cS, 3, 1, n, (Cd.butTo sf lost M).map (Value.int .i64)⟩, ⟨.slice cA n cC, 5, 1, n, (Cd.butTo (fun _ => (1 : UInt8)) lost M).map bv⟩, ⟨.slice pA n cP, 9, 1, n, (Cd.butTo pf lost M).map sv⟩, no, no]) → Q0 (.exit 0) ⟨#[c0, c1, c2, c3, c4, c5, .pointer (some ⟨BH, 0, none⟩), c7, c8, .slice (some pl) nl cl, c10, c11, c12, .int .i64 (lost : Int), .pointer (some ⟨gx, 0, none⟩), u15, u16, u17, u18, c19, c20, c21, c22, c23, c24, c25, c26, c27, c28, c29, c30, c31, c32, c33, c34, c35, c36, c37, c38, c39, c40, c41, c42, c43, c44, c45, c46, c47, c48, c49, c50, c51, c52, c53, c54, c55, c56, c57, c58, c59, c60, c61, c62, c63, c64, c65, c66, c67, c68, c69, c70, c71, c72, c73, c74, c75, c76, c77, c78, c79, c80, c81, c82, c83, c84, c85, c86, c87, c88, c89, c90, c91, c92, c93, c94, c95, c96, c97, c98, c99, c100, c101, c102, c103, c104, c105, c106, c107, c108, c109, c110, .slice (some gad) M cg, .int .i64 (M : Int), u113, u114, u115, u116, u117, u118, u119, u120, u121, u122, u123, u124, u125, u126, u127, u128, u129, u130, u131, u132, u133, u134, u135, u136, u137, u138, u139, u140, u141, u142, u143, u144, u145, c146, c147, c148, c149, c150, c151, c152, c153, c154, c155, c156, c157, c158, c159, c160, c161, c162, c163, c164, c165, c166, c167, c168, c169, c170, c171, c172, c173, c174, c175, c176, c177, c178, c179, c180, c181, c182], df⟩ wx) :
    Code.wp Tryd.prog rp_loop_code Q0 ⟨#[c0, c1, c2, c3, c4, c5, .pointer (some ⟨BH, 0, none⟩), c7, c8, .slice (some pl) nl cl, c10, c11, c12, .int .i64 (lost : Int), .pointer (some ⟨gx, 0, none⟩), .slice none 0 0, .slice none 0 0, c17, c18, c19, c20, c21, c22, c23, c24, c25, c26, c27, c28, c29, c30, c31, c32, c33, c34, c35, c36, c37, c38, c39, c40, c41, c42, c43, c44, c45, c46, c47, c48, c49, c50, c51, c52, c53, c54, c55, c56, c57, c58, c59, c60, c61, c62, c63, c64, c65, c66, c67, c68, c69, c70, c71, c72, c73, c74, c75, c76, c77, c78, c79, c80, c81, c82, c83, c84, c85, c86, c87, c88, c89, c90, c91, c92, c93, c94, c95, c96, c97, c98, c99, c100, c101, c102, c103, c104, c105, c106, c107, c108, c109, c110, .slice (some gad) M cg, .int .i64 (M : Int), .int .i64 0, c114, c115, c116, c117, c118, c119, c120, c121, c122, c123, c124, c125, c126, c127, c128, c129, c130, c131, c132, c133, c134, c135, c136, c137, c138, c139, c140, c141, c142, c143, c144, c145, c146, c147, c148, c149, c150, c151, c152, c153, c154, c155, c156, c157, c158, c159, c160, c161, c162, c163, c164, c165, c166, c167, c168, c169, c170, c171, c172, c173, c174, c175, c176, c177, c178, c179, c180, c181, c182], df⟩ wr := by
  have HE := Lib.hid hexit
  clear hexit
  conv => arg 2; whnf
  dsimp only
  go_loopw [15, 16, 113] (fun vc vp vi wr => ∃ (k n : Nat) (sA cA pA : Option Addr) (cS cC cP : Nat), k ≤ M ∧ vi = .int .i64 k ∧ vc = .slice cA n cC ∧ vp = .slice pA n cP ∧ Hid (n = (Cd.butTo sf lost k).length ∧ Owns W0 wr [haulRow gx PV (.slice sA n cS) (.int .i64 tg), ⟨.slice sA n cS, 3, 1, n, (Cd.butTo sf lost k).map (Value.int .i64)⟩, ⟨.slice cA n cC, 5, 1, n, (Cd.butTo (fun _ => (1 : UInt8)) lost k).map bv⟩, ⟨.slice pA n cP, 9, 1, n, (Cd.butTo pf lost k).map sv⟩, no, no])) (fun _ _ vi _ => M - (intOf vi).toNat)
  case atStart => exact ⟨0, 0, none, none, none, 0, 0, 0, Nat.zero_le _, rfl, rfl, rfl, Lib.hid ⟨rfl, HO.out⟩⟩
  case round =>
    obtain ⟨k, n, sA, cA, pA, cS, cC, cP, hk, rfl, rfl, rfl, HI⟩ := hrel
    have hn17 : n ≤ 17 := by
      have h1 := HI.out.1
      rw [Cd.butTo_len] at h1
      split at h1 <;> omega
    by_cases hlt : k < M
    · obtain ⟨ad, eG, _, hc0⟩ := (HG.out.ext HI.out.2.ext).at (k := k) (by simpa using (by have := HGM.out; omega : k < G.length))
      injection eG with eG
      subst eG
      rw [List.getElem_map] at hc0
      have hkG : k < G.length := by have := HGM.out; omega
      have hin := HGI.out (G[k]) (List.getElem_mem hkG)
      obtain ⟨pi, hpi⟩ : ∃ pi : Nat, G[k] = (pi : Int) := ⟨(G[k]).toNat, by omega⟩
      rw [hpi] at hc0 hin
      have HPI := Lib.hid hpi
      have hpn : pi < nl := by omega
      clear hpi
      by_cases hkl : k = lost
      · subst hkl
        have e1 : ((k : Int) == (k : Int)) = true := by simp
        clear e1
        go_wp2_with fail
        clear hc0
        go_roundw
        case rel => exact ⟨k + 1, n, sA, cA, pA, cS, cC, cP, by omega, by go_num, rfl, rfl, Lib.hid (by rw [Cd.butTo_at, Cd.butTo_at, Cd.butTo_at]; exact HI.out)⟩
        case measure => simp [intOf]; omega
      · have e1 : ¬ ((k : Int) = (lost : Int)) := by omega
        have hml := Nat.mod_lt k hns
        have hsl : k % ns < src.length := by have := HNS.out; omega
        obtain ⟨ap, u, eP, hcell, hu⟩ := HSR.out.at hsl
        injection eP with eP
        subst eP
        obtain ⟨rfl, hlo, hhi⟩ := hu
        have hsf : sf k = src[k % ns] := by rw [HSF.out]; exact getD_get hsl
        rw [← hsf] at hcell
        have hpl : pi < E.length := by have := HEL.out; omega
        obtain ⟨al, u2, eL, hcell2, hu2⟩ := HER.out.at hpl
        injection eL with eL
        subst eL
        obtain rfl := hu2
        have hpf : pf k = E[pi] := by
          rw [HPF.out]
          show E.getD (G.getD k 0).toNat [] = _
          rw [getD_get hkG, HPI.out]
          exact getD_get hpl
        rw [← hpf] at hcell2
        have HC2 := Lib.hid hcell2
        have hkl2 : k ≠ lost := hkl
        clear hcell2 hpf hsf hlo hhi hin hsl hpl hml
        go_wp2_with fail
        clear hc0
        refine wp_atEnd' (rp_src W0 _ BH gx n cS ns cs_ k ps sA PV tg (sf k) _ _ _ hns (by omega) (by omega) HBH.out hcell (Lib.hid HI.out.2.drew) _ _ _ _ _ _ _ _ _ _ _ _ _ _ _ _ _ _ _ _ _ _ _ _ _ _ _ _ _ _ _ _ _ _ _ _ _ _ _ _ _ _ _ _ _ _ _ _ _ _ _ _ _ _ _ _ _ _ _ _ _ _ _ _ _ _ _ _ _ _ _ _ _ _ _ _ _ _ _ _ _ _ _ _ _ _ _ _ _ _ _ _ _ _ _ _ _ _ _ _ _ _ _ _ _ _ _ _ _ _ _ _ _ _ _ _ _ _ _ _ _ _ _ _ _ _ _ _ _ _ _ _ _ _ _ _ _ _ _ _ _ _ _ _ _ _ _ _ _ _ _ _ _ _ _ _ _ _ _ _ _ _ _ _ _ _ _ _ _ _ _ _ _ _ _ _ _ _ _ _ _ _ ?_)
        intro g2 z2 u121 u122 u123 u124 u125 u126 u127 u128 u129 u130 u131 u132 u133 u134 w1 hO1
        have HO1 := Lib.hid hO1
        clear hO1 hcell
        go_wp2_with fail
        refine wp_atEnd' (rp_part W0 _ n cC cP nl cl pi pl cA pA (sb (pf k)) _ _ _ _ hpn (by omega) HC2.out (Lib.hid HO1.out.drew) _ _ _ _ _ _ _ _ _ _ _ _ _ _ _ _ _ _ _ _ _ _ _ _ _ _ _ _ _ _ _ _ _ _ _ _ _ _ _ _ _ _ _ _ _ _ _ _ _ _ _ _ _ _ _ _ _ _ _ _ _ _ _ _ _ _ _ _ _ _ _ _ _ _ _ _ _ _ _ _ _ _ _ _ _ _ _ _ _ _ _ _ _ _ _ _ _ _ _ _ _ _ _ _ _ _ _ _ _ _ _ _ _ _ _ _ _ _ _ _ _ _ _ _ _ _ _ _ _ _ _ _ _ _ _ _ _ _ _ _ _ _ _ _ _ _ _ _ _ _ _ _ _ _ _ _ _ _ _ _ _ _ _ _ _ _ _ _ _ _ _ _ _ _ _ _ _ _ _ _ _ ?_)
        intro gc cc2 gp cp2 u135 u136 u137 u138 u139 u140 u141 u142 u143 u144 w2 hO2
        have HO2 := Lib.hid hO2
        clear hO2
        go_wp2_with fail
        go_roundw
        case rel => exact ⟨k + 1, n + 1, some ⟨g2, 0, none⟩, some ⟨gc, 0, none⟩, some ⟨gp, 0, none⟩, z2, cc2, cp2, by omega, by go_num, rfl, rfl, Lib.hid (by
          rw [Cd.butTo_yes hkl2, Cd.butTo_yes hkl2, Cd.butTo_yes hkl2, List.map_append, List.map_append, List.map_append, List.length_append]
          exact ⟨by rw [HI.out.1]; rfl, HO2.out⟩)⟩
        case measure => simp [intOf]; omega
    · obtain rfl : k = M := by omega
      go_wp2_with fail
      exact HE.out _ _ _ _ _ _ _ _ _ _ _ _ _ _ _ _ _ _ _ _ _ _ _ _ _ _ _ _ _ _ _ _ _ _ _ _ _ wr ⟨n, sA, cA, pA, cS, cC, cP, rfl, rfl, HI.out⟩

end Go.Proofs.YtenafgphaceidaaDoor

/- The law SumsTreesAreLeast from the copies of the haul on. -/
namespace Su
theorem least_two {h : Ha} (hc : check h = 0) (he : (least h).2 ≠ 0) : least h = (0, 8) := by
  by_cases hs : senders h = []
  · rw [least_none hc hs] at he; exact absurd rfl he
  · by_cases hl : (last h h.tgt).cost < 0
    · exact least_no hc hs hl
    · rw [least_yes hc hs hl] at he; exact absurd rfl he
theorem tree_whole {h : Ha} (he : (least h).2 = 0) : ∃ f U, (senders h ≠ [] → ∃ V, walkF (2 ^ (senders h).length) (ways h) f (2 ^ (senders h).length - 1) h.tgt.toNat [] = some V) ∧ tree f h = (U, 0) ∧ cost h U = ((least h).1, 0) := by
  obtain ⟨f, h1, h2, h3⟩ := tree_is_least he
  have ht := tree_ok (fuel := f) he
  refine ⟨f, _, h1, ht, ?_⟩
  rw [ht] at h2 h3
  rw [cost_ok h2, h3]
end Su
namespace Go.Proofs.YtenafgphaceidaaDoor
open Go.RowKit
open Go.Maps (Keyed)
open Go.WideMaps Go.ChangeMaps Go.MapKept Go.WideShapes
theorem tmod_nat {x : Int} {n : Nat} (h : 0 ≤ x) : Int.tmod x (n : Int) = ((x.toNat % n : Nat) : Int) := by
  obtain ⟨k, rfl⟩ := Int.eq_ofNat_of_zero_le h
  rfl
theorem rs_rdI {w : World} {A : Option Addr} {n c : Nat} {l : List Int} (h : Rs RI w (.slice A n c) l) : Rd w A (l.map (Value.int .i64)) := fun k x hx => by
  rw [List.getElem?_map] at hx
  cases hk : l[k]? with
  | none => rw [hk] at hx; cases hx
  | some y =>
    rw [hk] at hx
    injection hx with hx
    obtain ⟨A', c', e, _, hh⟩ := h
    injection e with e1 _ _
    obtain ⟨ad, u, h1, h2, h3, _⟩ := hh k y hk
    have h4 := lt_of_cell h2
    rw [block_add] at h4
    exact ⟨ad, e1.trans h1, h4, by rw [h2, h3, ← hx]⟩
theorem src_bound {h : Su.Ha} (k : Su.Ok h) {y : Int} (hy : y ∈ h.src) : -9223372036854775808 ≤ y ∧ y ≤ 9223372036854775807 := by
  have := k.src y hy
  have := k.few
  omega
end Go.Proofs.YtenafgphaceidaaDoor

/- THE DRAWN REGION OF least of the specification of layer 19. -/
namespace Go.Proofs.YtenafgphaceidaaDoor
open Go.RowKit
theorem hcells_get : ∀ (l : List (Int × Int)) (j : Nat) (u : Value), (hcells l)[j]? = some u → ∃ i x, l[i]? = some x ∧ ((j = i * 2 ∧ u = .int .i64 x.1) ∨ (j = i * 2 + 1 ∧ u = .int .i64 x.2))
  | [], j, u, h => by simp [hcells] at h
  | x :: l, 0, u, h => by simp [hcells] at h; exact ⟨0, x, rfl, .inl ⟨rfl, h.symm⟩⟩
  | x :: l, 1, u, h => by simp [hcells] at h; exact ⟨0, x, rfl, .inr ⟨rfl, h.symm⟩⟩
  | x :: l, j + 2, u, h => by
    obtain ⟨i, y, h1, h2⟩ := hcells_get l j u (by simpa [hcells] using h)
    exact ⟨i + 1, y, by simpa using h1, h2.imp (fun k => ⟨by omega, k.2⟩) (fun k => ⟨by omega, k.2⟩)⟩
theorem addr_next (ad : Addr) (k : Nat) : ad.add (k + 1) = ⟨(ad.add k).block, (ad.add k).off + 1, none⟩ := by
  unfold Addr.add
  by_cases h : k = 0
  · subst h; simp
  · rw [if_neg (by omega), if_neg h]
    show (⟨ad.block, ad.off + (k + 1), none⟩ : Addr) = ⟨ad.block, ad.off + k + 1, none⟩
    rw [Nat.add_assoc]
/-- The cells of hops that are read. -/
theorem RL.rd {w : World} {ad : Addr} {m c : Nat} {l : List (Int × Int)} (h : RL w (.slice (some ad) m c) l) : ∀ j u, (hcells l)[j]? = some u → w.cell? (ad.add j) = some u := fun j u hj => by
  obtain ⟨i, x, h1, h2⟩ := hcells_get l j u hj
  obtain ⟨A, c', e, _, hh⟩ := h
  obtain ⟨ad', e1, k1, k2, _⟩ := hh i x h1
  injection e with e2 _ _
  rw [e1] at e2
  injection e2 with e2
  subst e2
  rcases h2 with ⟨rfl, rfl⟩ | ⟨rfl, rfl⟩
  · exact k1
  · rw [addr_next]; exact k2
end Go.Proofs.YtenafgphaceidaaDoor

/- THE LEAST OF ALL LISTS OF HOPS, in plain terms: what the specification of layer 19 works out is what Least returns. -/
namespace Su
/-- The lesser of two costs, where a negative one is none. -/
def best2 (b x : Int) : Int := if 0 ≤ x ∧ (b < 0 ∨ x < b) then x else b
def foldTo (f : Nat → Int) (b : Int) : Nat → Int
  | 0 => b
  | j + 1 => best2 (foldTo f b j) (f j)
/-- The cost of a valid tree, -1 for another list. -/
def ans (h : Ha) (l : List (Int × Int)) : Int := if (cost h l).2 = 0 then (cost h l).1 else -1
/-- The least cost of all valid trees that go on from a list with hops of the last k houses. -/
def brute (h : Ha) : Nat → List (Int × Int) → Int
  | 0, l => ans h l
  | k + 1, l => foldTo (fun q => brute h k (l ++ [(((h.pr.length - (k + 1) : Nat) : Int), (q : Int))])) (brute h k l) h.pr.length
theorem cost_zero_iff {h : Ha} (hc : check h = 0) {l : List (Int × Int)} : (cost h l).2 = 0 ↔ valid h l = true := by
  cases hv : valid h l with
  | false => rw [cost_bad hc hv]; simp
  | true => rw [cost_ok hv]; simp
attribute [irreducible] brute ans best2 foldTo
end Su

/- THE WALK over the law SumsRepair. -/
namespace Go.Proofs.YtenafgphaceidaaDoor
open Go.RowKit
set_option maxRecDepth 1000000 in
set_option maxHeartbeats 16000000 in
theorem law_repair (d gl : Int) (gs : List (List Int)) (G : Value) (data : List UInt8) (h : Su.Ha) (x0 x1 : Int) (q0 : 0 ≤ x0 ∧ x0 ≤ 255) (q1 : 0 ≤ x1 ∧ x1 ≤ 255) (v : Value) (w : World) (hT : Tab w) (hG : Rs (Rs RI) w G gs) (hv : RH w v h) (hd64 : data.length ≤ 9223372036854775807) :
    Calls Tryd.prog 7 #[.agg #[.int .i64 d, G, .int .i64 gl], .string (sb data), v, .agg #[.int .u8 x0, .int .u8 x1]] w fun e w' => e = .returned (.bool true) ∧ Ext w w' := by
  have hvv := hv
  obtain ⟨PA, SA, ch, dh, rfl, hPG, hPS, hl1, hl2, hb1, hb2⟩ := hv.open
  obtain ⟨A, c, rfl, hgl64⟩ := hG.form
  have hx0 := (((Ext.refl w).alloc (.cells #[.int .i64 d, .slice A gs.length c, .int .i64 gl] 56)).alloc (.cells #[.slice PA h.pr.length ch, .slice SA h.src.length dh, .int .i64 h.tgt] 25)).alloc (.cells #[.int .u8 x0, .int .u8 x1] 57)
  have HX0 := Lib.hid hx0
  have HV := Lib.hid (RH.ext _ _ _ _ hx0 hvv)
  have HPG := Lib.hid (Rs.ext (Rs.ext RI.ext) _ _ _ _ hx0 hPG)
  have HPS := Lib.hid (Rs.ext RI.ext _ _ _ _ hx0 hPS)
  have HG := Lib.hid (Rs.ext (Rs.ext RI.ext) _ _ _ _ hx0 hG)
  have HT := Lib.hid (hT.ext hx0)
  have HQ := Lib.hid (And.intro q0 q1)
  have c0 : (((w.alloc (.cells #[.int .i64 d, .slice A gs.length c, .int .i64 gl] 56)).alloc (.cells #[.slice PA h.pr.length ch, .slice SA h.src.length dh, .int .i64 h.tgt] 25)).alloc (.cells #[.int .u8 x0, .int .u8 x1] 57)).cell? ⟨w.heap.size, 0, none⟩ = some (.int .i64 d) := by go_simp
  have c1 : (((w.alloc (.cells #[.int .i64 d, .slice A gs.length c, .int .i64 gl] 56)).alloc (.cells #[.slice PA h.pr.length ch, .slice SA h.src.length dh, .int .i64 h.tgt] 25)).alloc (.cells #[.int .u8 x0, .int .u8 x1] 57)).cell? ⟨w.heap.size, 1, none⟩ = some (.slice A gs.length c) := by go_simp
  have c2 : (((w.alloc (.cells #[.int .i64 d, .slice A gs.length c, .int .i64 gl] 56)).alloc (.cells #[.slice PA h.pr.length ch, .slice SA h.src.length dh, .int .i64 h.tgt] 25)).alloc (.cells #[.int .u8 x0, .int .u8 x1] 57)).cell? ⟨w.heap.size, 2, none⟩ = some (.int .i64 gl) := by go_simp
  have c3 : (((w.alloc (.cells #[.int .i64 d, .slice A gs.length c, .int .i64 gl] 56)).alloc (.cells #[.slice PA h.pr.length ch, .slice SA h.src.length dh, .int .i64 h.tgt] 25)).alloc (.cells #[.int .u8 x0, .int .u8 x1] 57)).cell? ⟨(w.heap.size + 1), 0, none⟩ = some (.slice PA h.pr.length ch) := by go_simp
  have c4 : (((w.alloc (.cells #[.int .i64 d, .slice A gs.length c, .int .i64 gl] 56)).alloc (.cells #[.slice PA h.pr.length ch, .slice SA h.src.length dh, .int .i64 h.tgt] 25)).alloc (.cells #[.int .u8 x0, .int .u8 x1] 57)).cell? ⟨(w.heap.size + 1), 1, none⟩ = some (.slice SA h.src.length dh) := by go_simp
  have c5 : (((w.alloc (.cells #[.int .i64 d, .slice A gs.length c, .int .i64 gl] 56)).alloc (.cells #[.slice PA h.pr.length ch, .slice SA h.src.length dh, .int .i64 h.tgt] 25)).alloc (.cells #[.int .u8 x0, .int .u8 x1] 57)).cell? ⟨(w.heap.size + 1), 2, none⟩ = some (.int .i64 h.tgt) := by go_simp
  have c6 : (((w.alloc (.cells #[.int .i64 d, .slice A gs.length c, .int .i64 gl] 56)).alloc (.cells #[.slice PA h.pr.length ch, .slice SA h.src.length dh, .int .i64 h.tgt] 25)).alloc (.cells #[.int .u8 x0, .int .u8 x1] 57)).cell? ⟨(w.heap.size + 1 + 1), 0, none⟩ = some (.int .u8 x0) := by go_simp
  have c7 : (((w.alloc (.cells #[.int .i64 d, .slice A gs.length c, .int .i64 gl] 56)).alloc (.cells #[.slice PA h.pr.length ch, .slice SA h.src.length dh, .int .i64 h.tgt] 25)).alloc (.cells #[.int .u8 x0, .int .u8 x1] 57)).cell? ⟨(w.heap.size + 1 + 1), 1, none⟩ = some (.int .u8 x1) := by go_simp
  have HDC := Lib.hid (And.intro c0 (And.intro c1 c2))
  have HDH := Lib.hid (And.intro c3 (And.intro c4 c5))
  have HDP := Lib.hid (And.intro c6 c7)
  clear hv hvv hPG hPS hx0 hT hG q0 q1 c0 c1 c2 c3 c4 c5 c6 c7
  go_enter Tryd.func7, Tryd.ntmps7
  by_cases g1 : gs.length = 0
  · have e1 : ((gs.length : Int) == 0) = true := by rw [g1]; rfl
    clear g1
    go_wp2_with fail
    refine (sanity_any _ (HT.out.ext (Ext.refl _))).mono ?_
    rintro ee wz ⟨rfl, hxz⟩
    have HE := Lib.hid ((HX0.out.trans (Ext.refl _)).trans hxz)
    clear hxz
    go_wp2_with fail
    go_ret
    exact ⟨rfl, HE.out⟩
  by_cases g2 : 20 < gs.length
  · go_wp2_with fail
    refine (sanity_any _ (HT.out.ext (Ext.refl _))).mono ?_
    rintro ee wz ⟨rfl, hxz⟩
    have HE := Lib.hid ((HX0.out.trans (Ext.refl _)).trans hxz)
    clear hxz
    go_wp2_with fail
    go_ret
    exact ⟨rfl, HE.out⟩
  by_cases g3 : 100 < data.length
  · have g3' : 100 < (sb data).size := by rw [size_sb]; exact g3
    go_wp2_with fail
    refine (sanity_any _ (HT.out.ext (Ext.refl _))).mono ?_
    rintro ee wz ⟨rfl, hxz⟩
    have HE := Lib.hid ((HX0.out.trans (Ext.refl _)).trans hxz)
    clear hxz
    go_wp2_with fail
    go_ret
    exact ⟨rfl, HE.out⟩
  have g3' : ¬ 100 < (sb data).size := by rw [size_sb]; exact g3
  go_wp2_with fail
  clear g3'
  refine (cCheck_any d gl gs _ _ HG.out).mono ?_
  rintro ee w1 ⟨rfl, hx1⟩
  have a0 := hx1.cell HDC.out.1
  have a1 := hx1.cell HDC.out.2.1
  have a2 := hx1.cell HDC.out.2.2
  have b0 := hx1.cell HDH.out.1
  have b1 := hx1.cell HDH.out.2.1
  have b2 := hx1.cell HDH.out.2.2
  have p0 := hx1.cell HDP.out.1
  have p1 := hx1.cell HDP.out.2
  have HX1 := Lib.hid hx1
  clear hx1
  by_cases hc0 : Cd.check d gs gl = 0
  case neg =>
    have e1 : (Cd.check d gs gl != 0) = true := by rw [bne_iff_ne]; exact hc0
    clear hc0
    go_wp2_with fail
    clear a0 a1 a2 b0 b1 b2 p0 p1
    refine (sanity_any _ (HT.out.ext HX1.out)).mono ?_
    rintro ee wz ⟨rfl, hxz⟩
    have HE := Lib.hid ((HX0.out.trans HX1.out).trans hxz)
    clear hxz
    go_wp2_with fail
    go_ret
    exact ⟨rfl, HE.out⟩
  case pos =>
  have HC0 := Lib.hid hc0
  rw [hc0]
  clear hc0
  go_wp2_with fail
  clear a0 a1 a2 b0 b1 b2 p0 p1
  refine (uCheck_any h _ _ (RH.ext _ _ _ _ HX1.out HV.out)).mono ?_
  rintro ee w2 ⟨rfl, hx2⟩
  have a0 := (HX1.out.trans hx2).cell HDC.out.1
  have a1 := (HX1.out.trans hx2).cell HDC.out.2.1
  have a2 := (HX1.out.trans hx2).cell HDC.out.2.2
  have b0 := (HX1.out.trans hx2).cell HDH.out.1
  have b1 := (HX1.out.trans hx2).cell HDH.out.2.1
  have b2 := (HX1.out.trans hx2).cell HDH.out.2.2
  have p0 := (HX1.out.trans hx2).cell HDP.out.1
  have p1 := (HX1.out.trans hx2).cell HDP.out.2
  have HX2 := Lib.hid (HX1.out.trans hx2)
  clear hx2
  by_cases hs0 : Su.check h = 0
  case neg =>
    have e1 : (Su.check h != 0) = true := by rw [bne_iff_ne]; exact hs0
    clear hs0
    go_wp2_with fail
    clear a0 a1 a2 b0 b1 b2 p0 p1
    refine (sanity_any _ (HT.out.ext HX2.out)).mono ?_
    rintro ee wz ⟨rfl, hxz⟩
    have HE := Lib.hid ((HX0.out.trans HX2.out).trans hxz)
    clear hxz
    go_wp2_with fail
    go_ret
    exact ⟨rfl, HE.out⟩
  case pos =>
  have HS0 := Lib.hid hs0
  rw [hs0]
  clear hs0
  by_cases hz : h.src.length = 0
  · go_wp2_with fail
    clear a0 a1 a2 b0 b1 b2 p0 p1
    refine (sanity_any _ (HT.out.ext HX2.out)).mono ?_
    rintro ee wz ⟨rfl, hxz⟩
    have HE := Lib.hid ((HX0.out.trans HX2.out).trans hxz)
    clear hxz
    go_wp2_with fail
    go_ret
    exact ⟨rfl, HE.out⟩
  have e4 : ((h.src.length : Int) == 0) = false := by rw [beq_eq_false_iff_ne]; omega
  have e5 : ((gs.length : Int) == 0) = false := by rw [beq_eq_false_iff_ne]; omega
  have e6 : decide ((20 : Int) < (gs.length : Int)) = false := by rw [decide_eq_false_iff_not]; omega
  have e7 : decide ((100 : Int) < (data.length : Int)) = false := by rw [decide_eq_false_iff_not]; omega
  go_wp2_with fail
  clear a0 a1 a2 b0 b1 b2 p0 p1 e4 e5 e6 e7
  have HZ := Lib.hid hz
  refine (cEncode_any d gl gs data _ w2 (HT.out.ext HX2.out) (Rs.ext (Rs.ext RI.ext) _ _ _ _ HX2.out HG.out) hd64).mono ?_
  rintro ee w3 ⟨EV, rfl, hEV, hx3⟩
  rw [Cd.encE_ok HC0.out (by omega)]
  rw [Cd.encL_ok HC0.out (by omega)] at hEV
  obtain ⟨E, hE⟩ : ∃ E, Cd.encode d gl gs data = E := ⟨_, rfl⟩
  rw [hE] at hEV
  have hEl : (E.length : Int) = d + gs.length + gl := by rw [← hE, Cd.encode_len, Cd.rowsOf_len HC0.out]
  have hpc := Cd.pieces_ok HC0.out
  rw [← hEl] at hpc
  obtain ⟨LE, cE, rfl, hE64⟩ := hEV.form
  have HEE := Lib.hid (And.intro hE (And.intro hEl hpc))
  have HEV := Lib.hid hEV
  have HX3 := Lib.hid (HX2.out.trans hx3)
  have a0 := (HX2.out.trans hx3).cell HDC.out.1
  have a1 := (HX2.out.trans hx3).cell HDC.out.2.1
  have a2 := (HX2.out.trans hx3).cell HDC.out.2.2
  have b0 := (HX2.out.trans hx3).cell HDH.out.1
  have b1 := (HX2.out.trans hx3).cell HDH.out.2.1
  have b2 := (HX2.out.trans hx3).cell HDH.out.2.2
  have p0 := (HX2.out.trans hx3).cell HDP.out.1
  have p1 := (HX2.out.trans hx3).cell HDP.out.2
  have hEl24 : E.length ≤ 24 := by have := Cd.check_ok HC0.out; omega
  clear hx3 hE hEl hpc hEV hz
  go_wp2_with fail
  clear a0 a1 a2 b0 b1 b2 p0 p1
  refine (cPieces_any d gl gs _ w3 (Rs.ext (Rs.ext RI.ext) _ _ _ _ HX3.out HG.out)).mono ?_
  rintro ee w4 ⟨rfl, hx4⟩
  rw [HEE.out.2.2]
  have e1 : ((E.length : Int) != (E.length : Int)) = false := by simp
  have HEV4 := Lib.hid (Rs.ext RS.ext _ _ _ _ hx4 HEV.out)
  have HX4 := Lib.hid (HX3.out.trans hx4)
  have a0 := (HX3.out.trans hx4).cell HDC.out.1
  have a1 := (HX3.out.trans hx4).cell HDC.out.2.1
  have a2 := (HX3.out.trans hx4).cell HDC.out.2.2
  have b0 := (HX3.out.trans hx4).cell HDH.out.1
  have b1 := (HX3.out.trans hx4).cell HDH.out.2.1
  have b2 := (HX3.out.trans hx4).cell HDH.out.2.2
  have p0 := (HX3.out.trans hx4).cell HDP.out.1
  have p1 := (HX3.out.trans hx4).cell HDP.out.2
  clear hx4
  obtain ⟨gi, hgi⟩ : ∃ gi : Nat, x0.toNat % gs.length = gi := ⟨_, rfl⟩
  have hgn : 0 < gs.length := by omega
  have hgi1 : gi < gs.length := by rw [← hgi]; exact Nat.mod_lt _ hgn
  have hm0 : Int.tmod x0 (gs.length : Int) = (gi : Int) := by rw [← hgi]; exact tmod_nat HQ.out.1.1
  have hw0 : IntKind.i64.wrap x0 = x0 := by rw [IntKind.wrap_i64]; have := HQ.out.1; omega
  have hG4 := Rs.ext (Rs.ext RI.ext) _ _ _ _ HX4.out HG.out
  obtain ⟨pg, u0, eA, hrc, hrow⟩ := hG4.at hgi1
  subst eA
  obtain ⟨grp, hgrp⟩ : ∃ grp, gs[gi] = grp := ⟨_, rfl⟩
  rw [hgrp] at hrow
  have hgrp2 : gs.getD gi [] = grp := by rw [List.getD_eq_getElem?_getD, List.getElem?_eq_getElem hgi1]; exact hgrp
  obtain ⟨GA, cm, rfl, hgl64b⟩ := hrow.form
  have hgf := Cd.group_few HC0.out hgi1
  rw [hgrp2] at hgf
  have HGR := Lib.hid hgrp2
  have HRW := Lib.hid hrow
  have hkc := Cd.check_ok HC0.out
  clear hgi hG4 hgrp hgrp2 hrow
  go_wp2_with fail
  clear e1 hm0 hw0
  refine wp_atEnd' (rp_group w4 w.heap.size gs.length c gi grp.length cm pg GA d grp hgi1 (by omega) ⟨hkc.1, hkc.2.1⟩ rfl hgf.2 a0 a1 hrc (Lib.hid (rs_rdI HRW.out)) _ _ _ _ _ _ _ _ _ _ _ _ _ _ _ _ _ _ _ _ _ _ _ _ _ _ _ _ _ _ _ _ _ _ _ _ _ _ _ _ _ _ _ _ _ _ _ _ _ _ _ _ _ _ _ _ _ _ _ _ _ _ _ _ _ _ _ _ _ _ _ _ _ _ _ _ _ _ _ _ _ _ _ _ _ _ _ _ _ _ _ _ _ _ _ _ _ _ _ _ _ _ _ _ _ _ _ _ _ _ _ _ _ _ _ _ _ _ _ _ _ _ _ _ _ _ _ _ _ _ _ _ _ _ _ _ _ _ _ _ _ _ _ _ _ _ _ _ _ _ _ _ _ _ _ _ _ _ _ _ _ _ _ _ _ _ _ _ _ _ _ _ _ _ _ _ _ _ _ _ _ _ _ ?_)
  intro g7 z7 u78 u79 u80 u81 u82 u83 u84 u85 u86 u87 u88 u89 u90 w5 hOG
  have HOG := Lib.hid hOG.2
  have HX5 := Lib.hid (HX4.out.trans hOG.1)
  have HEV5 := Lib.hid (Rs.ext RS.ext _ _ _ _ hOG.1 HEV4.out)
  clear a0 a1 a2 b0 b1 b2 p0 p1 hrc
  have a0 := (HX4.out.trans hOG.1).cell HDC.out.1
  have a1 := (HX4.out.trans hOG.1).cell HDC.out.2.1
  have a2 := (HX4.out.trans hOG.1).cell HDC.out.2.2
  have b0 := (HX4.out.trans hOG.1).cell HDH.out.1
  have b1 := (HX4.out.trans hOG.1).cell HDH.out.2.1
  have b2 := (HX4.out.trans hOG.1).cell HDH.out.2.2
  have p0 := (HX4.out.trans hOG.1).cell HDP.out.1
  have p1 := (HX4.out.trans hOG.1).cell HDP.out.2
  clear hOG
  obtain ⟨M, hM⟩ : ∃ M, grp.length + 1 = M := ⟨_, rfl⟩
  have hM17 : M ≤ 17 := by omega
  have hM2 : 2 ≤ M := by omega
  have HM := Lib.hid hM
  rw [hM]
  obtain ⟨lost, hlost⟩ : ∃ lost : Nat, x1.toNat % M = lost := ⟨_, rfl⟩
  have hlo1 : lost < M := by rw [← hlost]; exact Nat.mod_lt _ (by omega)
  have hm1 : Int.tmod x1 (M : Int) = (lost : Int) := by rw [← hlost]; exact tmod_nat HQ.out.2.1
  have hw1 : IntKind.i64.wrap x1 = x1 := by rw [IntKind.wrap_i64]; have := HQ.out.2; omega
  have hM0 : ¬ M = 0 := by omega
  have hsum : IntKind.i64.wrap (d + (gs.length : Int)) = d + (gs.length : Int) := by rw [IntKind.wrap_i64]; omega
  have hsum2 : IntKind.i64.wrap (d + (gs.length : Int) + gl) = (E.length : Int) := by rw [IntKind.wrap_i64, HEE.out.2.1]; omega
  have hne : ((E.length : Int) != (E.length : Int)) = false := by simp
  clear hlost hM
  go_wp2_with fail
  clear a0 a1 a2 b0 b1 b2 p0 p1
  obtain ⟨pl, _, eL, _, _⟩ := HEV5.out.at (i := 0) (by have := HEE.out.2.1; omega)
  subst eL
  have hns : 0 < h.src.length := by have := HZ.out; omega
  obtain ⟨ps, _, eS, _, _⟩ := HPS.out.at (i := 0) hns
  subst eS
  have hga : Cd.groupAll d gs gi = grp ++ [d + (gi : Int)] := by rw [Cd.groupAll, HGR.out]
  have hgl : (Cd.groupAll d gs gi).length = M := by rw [hga, List.length_append, ← HM.out]; rfl
  have hgin : ∀ i ∈ Cd.groupAll d gs gi, 0 ≤ i ∧ i < (E.length : Int) := fun i hi => by
    have := Cd.group_in (gl := gl) HC0.out hgi1 i hi
    rw [HEE.out.2.1]; exact this
  have hGR : Rd w5 (some ⟨g7, 0, none⟩) ((Cd.groupAll d gs gi).map (Value.int .i64)) := by
    rw [hga, List.map_append]; exact HOG.out
  have HGL := Lib.hid hgl
  have HGI := Lib.hid hgin
  have HGRD := Lib.hid hGR
  have HSR5 := Lib.hid (Rs.ext RI.ext _ _ _ _ HX5.out HPS.out)
  have HO5 := Lib.hid ((Owns.start w5 (L := [no, nilRow 3, nilRow 5, nilRow 9, no, no]) (by intro r hr; simp only [List.mem_cons, List.not_mem_nil, or_false] at hr; rcases hr with rfl | rfl | rfl | rfl | rfl | rfl <;> exact ⟨rfl, rfl, rfl⟩)).new 0 #[.slice PA h.pr.length ch, .slice none 0 0, .int .i64 h.tgt] 25 (by simp [maxLen]))
  clear hga hgl hgin hGR
  refine rp_loop w5 _ (w.heap.size + 1) w5.heap.size M z7 E.length cE h.src.length dh lost ⟨g7, 0, none⟩ pl ps (.slice PA h.pr.length ch) h.tgt (Cd.groupAll d gs gi) h.src E (fun k => h.src.getD (k % h.src.length) 0) (fun k => E.getD ((Cd.groupAll d gs gi).getD k 0).toNat []) hM17 hns HGL HGI (Lib.hid rfl) (Lib.hid rfl) (Lib.hid rfl) (Lib.hid rfl) HGRD HSR5 HEV5 (Lib.hid (HX5.out.cell HDH.out.2.1)) HO5 _ _ _ _ _ _ _ _ _ _ _ _ _ _ _ _ _ _ _ _ _ _ _ _ _ _ _ _ _ _ _ _ _ _ _ _ _ _ _ _ _ _ _ _ _ _ _ _ _ _ _ _ _ _ _ _ _ _ _ _ _ _ _ _ _ _ _ _ _ _ _ _ _ _ _ _ _ _ _ _ _ _ _ _ _ _ _ _ _ _ _ _ _ _ _ _ _ _ _ _ _ _ _ _ _ _ _ _ _ _ _ _ _ _ _ _ _ _ _ _ _ _ _ _ _ _ _ _ _ _ _ _ _ _ _ _ _ _ _ _ _ _ _ _ _ _ _ _ _ _ _ _ _ _ _ _ _ _ _ _ _ _ _ _ _ _ _ _ _ _ _ _ _ _ _ _ ?_
  rintro u15 u16 u17 u18 u113 u114 u115 u116 u117 u118 u119 u120 u121 u122 u123 u124 u125 u126 u127 u128 u129 u130 u131 u132 u133 u134 u135 u136 u137 u138 u139 u140 u141 u142 u143 u144 u145 w6 ⟨n, sA, cA, pA, cS, cC, cP, rfl, rfl, hn, hO⟩
  obtain ⟨S, hS⟩ : ∃ S, Cd.butTo (fun k => h.src.getD (k % h.src.length) 0) lost M = S := ⟨_, rfl⟩
  obtain ⟨coef, hcf⟩ : ∃ coef, Cd.butTo (fun _ => (1 : UInt8)) lost M = coef := ⟨_, rfl⟩
  obtain ⟨ps', hps⟩ : ∃ ps', Cd.butTo (fun k => E.getD ((Cd.groupAll d gs gi).getD k 0).toNat []) lost M = ps' := ⟨_, rfl⟩
  have hsc : S.length = coef.length := by rw [← hS, ← hcf]; exact Cd.butTo_same _ _ _ _
  have hsp : S.length = ps'.length := by rw [← hS, ← hps]; exact Cd.butTo_same _ _ _ _
  have hn17 : n ≤ 17 := by rw [hn, Cd.butTo_len]; split <;> omega
  rw [hS] at hn
  rw [hS, hcf, hps] at hO
  have hsub : ∀ a ∈ S, a ∈ h.src := fun a ha => by
    rw [← hS] at ha
    obtain ⟨j, _, _, rfl⟩ := Cd.butTo_mem ha
    show h.src.getD (j % h.src.length) 0 ∈ h.src
    have hml := Nat.mod_lt j hns
    rw [List.getD_eq_getElem?_getD, List.getElem?_eq_getElem hml]
    exact List.getElem_mem _
  have hx0 := Su.withSrc_ok HS0.out hsub
  have how := Cd.others_whole (gl := gl) HC0.out data (lost := lost) hgi1 (by rw [HGL.out]; exact hlo1)
  have hoe : Cd.others d gl gs data gi lost (Cd.groupAll d gs gi).length = ps' := by rw [Cd.others, HGL.out, HEE.out.1]; exact hps
  have hrep : coef = List.replicate ps'.length 1 := by
    have := Cd.butTo_const (1 : UInt8) lost M
    rw [hcf] at this
    rw [this, ← hsp, hsc]
  rw [hoe, ← hrep, HEE.out.1] at how
  obtain ⟨Q, hQ⟩ : ∃ Q, E.getD ((Cd.groupAll d gs gi).getD lost 0).toNat [] = Q := ⟨_, rfl⟩
  rw [hQ] at how
  have HQL := Lib.hid hQ
  clear hQ
  have hkk := Su.ok_of HS0.out
  have hRH : RH w6 (.agg #[.slice PA h.pr.length ch, .slice sA n cS, .int .i64 h.tgt]) (Su.withSrc h S) := by
    refine ⟨_, _, rfl, Rs.ext (Rs.ext RI.ext) _ _ _ _ (HX5.out.trans hO.ext) HPG.out, Rs.of_rdI (hO.rd 1 rfl) hn (by show S.length ≤ _; omega) (fun y hy => src_bound hkk (hsub y hy)), hb1, hb2⟩
  have HRH := Lib.hid hRH
  have hcA : Rd w6 cA (coef.map bv) := hO.rd 2 rfl
  have hpA : Rd w6 pA (ps'.map fun p => .string (sb p)) := hO.rd 3 rfl
  have HCA := Lib.hid (And.intro hcA hpA)
  have d0 : w6.cell? ⟨w5.heap.size, 0, none⟩ = some (.slice PA h.pr.length ch) := hO.cell 0 rfl 0 rfl
  have d1 : w6.cell? ⟨w5.heap.size, 1, none⟩ = some (.slice sA n cS) := hO.cell 0 rfl 1 rfl
  have d2 : w6.cell? ⟨w5.heap.size, 2, none⟩ = some (.int .i64 h.tgt) := hO.cell 0 rfl 2 rfl
  have HD := Lib.hid (And.intro d0 (And.intro d1 d2))
  have HX6 := Lib.hid (HX5.out.trans hO.ext)
  have hpl : ∀ p ∈ ps', p.length ≤ 140737488351232 := fun p hp => by
    rw [← hoe] at hp
    rw [Cd.others_even HC0.out data hgi1 _ (Nat.le_refl _) p hp]
    have hc := Cd.check_ok HC0.out
    unfold Cd.sizeN
    have := Nat.div_le_self (data.length + d.toNat - 1) d.toNat
    omega
  have HPL := Lib.hid hpl
  have HLN := Lib.hid (And.intro (hn.trans hsc) (And.intro (hn.trans hsp) hn))
  have HOW := Lib.hid how
  have HXC := Lib.hid hx0
  have hin := HGI.out ((Cd.groupAll d gs gi).getD lost 0) (by rw [List.getD_eq_getElem?_getD, List.getElem?_eq_getElem (by rw [HGL.out]; exact hlo1)]; exact List.getElem_mem _)
  obtain ⟨pi, hpi⟩ : ∃ pi : Nat, (Cd.groupAll d gs gi).getD lost 0 = (pi : Int) := ⟨((Cd.groupAll d gs gi).getD lost 0).toNat, by omega⟩
  have HPI := Lib.hid hpi
  have hpn : pi < E.length := by omega
  have HGR6 := Lib.hid (HGRD.out.ext hO.ext)
  have HEV6 := Lib.hid (Rs.ext RS.ext _ _ _ _ hO.ext HEV5.out)
  clear hO hn hS hcf hps hsc hsp hsub hx0 how hoe hrep hRH hcA hpA hpl hin hpi hkk
  by_cases he : (Su.least (Su.withSrc h S)).2 = 0
  case neg =>
    have h8 := Su.least_two HXC.out he
    have htr := Su.tree_err (fuel := 0) he
    rw [h8] at htr
    have HF := Lib.hid (And.intro htr he)
    clear h8 htr he
    go_wp2_with fail
    clear d0 d1 d2
    refine (uTree_any 0 (Su.withSrc h S) _ _ HRH.out (fun e => absurd e HF.out.2)).mono ?_
    rintro ee w7 ⟨TA, tn, tc, rfl, hts, hx7⟩
    rw [HF.out.1] at hts ⊢
    have HX7 := Lib.hid (HX6.out.trans hx7)
    clear hts hx7
    simp only
    go_wp2_with fail
    refine (sanity_any _ (HT.out.ext HX7.out)).mono ?_
    rintro ee wz ⟨rfl, hxz⟩
    have HE := Lib.hid ((HX0.out.trans HX7.out).trans hxz)
    clear hxz
    go_wp2_with fail
    go_ret
    exact ⟨rfl, HE.out⟩
  case pos =>
  obtain ⟨f, Ut, ht1, ht2, ht3⟩ := Su.tree_whole he
  have hval : Su.valid (Su.withSrc h S) Ut = true := (Su.cost_zero_iff HXC.out).1 (by rw [ht3])
  obtain ⟨xs, hxe, _, _⟩ := Su.carry_whole hval HOW.out.1 (HLN.out.2.1.symm.trans HLN.out.2.2) (Nat.le_refl _)
  rw [HOW.out.2] at hxe
  have HF := Lib.hid (And.intro ht1 (And.intro ht2 (And.intro hval hxe)))
  clear ht1 ht2 ht3 hval hxe he
  go_wp2_with fail
  clear d0 d1 d2
  refine (uTree_any f (Su.withSrc h S) _ _ HRH.out (fun _ => HF.out.1)).mono ?_
  rintro ee w7 ⟨TA, tn, tc, rfl, hts, hx7⟩
  rw [HF.out.2.1] at hts ⊢
  have d0 := hx7.cell HD.out.1
  have d1 := hx7.cell HD.out.2.1
  have d2 := hx7.cell HD.out.2.2
  have HX67 := Lib.hid hx7
  have HX7 := Lib.hid (HX6.out.trans hx7)
  have HTS := Lib.hid hts
  clear hts hx7
  simp only
  go_wp2_with fail
  clear d0 d1 d2
  have hcar := uCarry_any ((Su.withSrc h S).pr.length + 1) (Su.withSrc h S) Ut coef ps' _ _ cA pA cC cP w7 (HT.out.ext HX7.out) (RH.ext _ _ _ _ HX67.out HRH.out) HTS.out (HCA.out.1.ext HX67.out) (HCA.out.2.ext HX67.out) (by have := HLN.out.1; omega) HPL.out (fun hval _ _ => Su.carry_term (Nat.le_refl _) _ _ _ hval)
  rw [← HLN.out.1, ← HLN.out.2.1] at hcar
  refine hcar.mono ?_
  clear hcar
  rintro ee w8 ⟨YA, yn, yc, rfl, hys, hx8⟩
  rw [HF.out.2.2.2] at hys ⊢
  simp only at hys ⊢
  have HX8 := Lib.hid (HX7.out.trans hx8)
  have HX68 := Lib.hid (HX67.out.trans hx8)
  clear hys hx8
  go_wp2_with fail
  refine (sanity_any _ (HT.out.ext HX8.out)).mono ?_
  rintro ee w9 ⟨rfl, hx9⟩
  have HE := Lib.hid ((HX0.out.trans HX8.out).trans hx9)
  obtain ⟨ad, eG, _, hcg⟩ := ((HGR6.out.ext HX68.out).ext hx9).at (k := lost) (by rw [List.length_map, HGL.out]; exact hlo1)
  injection eG with eG
  subst eG
  rw [List.getElem_map] at hcg
  have hgd : (Cd.groupAll d gs gi)[lost]'(by rw [HGL.out]; exact hlo1) = (pi : Int) := by
    rw [← HPI.out, List.getD_eq_getElem?_getD, List.getElem?_eq_getElem (by rw [HGL.out]; exact hlo1)]; rfl
  rw [hgd] at hcg
  have hcg2 : w9.cell? ⟨g7, lost, none⟩ = some (.int .i64 (pi : Int)) := by rw [← hcg]; rw [Addr.add_lit, Nat.zero_add]
  obtain ⟨al, u2, eL2, hcell2, hu2⟩ := (Rs.ext RS.ext _ _ _ _ (HX68.out.trans hx9) HEV6.out).at hpn
  injection eL2 with eL2
  subst eL2
  obtain rfl := hu2
  have hpe : E[pi] = Q := by
    rw [← HQL.out, HPI.out]
    exact (getD_get hpn).symm
  rw [hpe] at hcell2
  have hss : ((sb Q).toList == (sb Q).toList) = true := by simp
  clear hx9 hcg hgd hpe
  go_wp2_with fail
  go_ret
  exact ⟨rfl, HE.out⟩
end Go.Proofs.YtenafgphaceidaaDoor

/- ARGUMENTS that are codes read as such. -/
namespace Go.Proofs.YtenafgphaceidaaDoor
open Go.ChangeShapes Go.WideShapes Go.ChangeAt Go.RowKit Go.ChangeMaps Go.Deep
variable {H : Type} {enc : TypeId × Value → H} {W : World} {base : Nat}
theorem list_getD {l : List Int} {k : Nat} (h : k < l.length) : l.getD k 0 = l[k] := by rw [List.getD_eq_getElem?_getD, List.getElem?_eq_getElem h]; rfl
theorem read_ints {fuel : Nat} {v : Value} {x : DataW H × List MemPlace} (h : DataW.trod enc Tryd.prog W base (fun _ => true) true fuel 23 [v] = some x) : ∃ l, Rs RI W v l := by
  rcases open_ints Tryd.underlying23 Tryd.underlying3 (by kernel_rfl) h with ⟨hcs, _⟩ | ⟨a, len, cap, zs, hcs, _, hl, hm, hz, _, hcell, hwz⟩
  · injection hcs with hcs _
    subst hcs
    exact ⟨[], none, 0, rfl, by simp, fun i x h => by simp at h⟩
  · injection hcs with hcs _
    subst hcs
    rw [if_pos rfl] at hz
    have hll : (zs.take len).length = len := by rw [List.length_take]; omega
    refine ⟨zs.take len, some a, cap, by rw [hll], by rw [hll]; unfold maxLen at hm; omega, fun i y hi => ?_⟩
    have hi1 : i < (zs.take len).length := (List.getElem?_eq_some_iff.1 hi).1
    have hi2 : i < zs.length := by rw [List.length_take] at hi1; omega
    have h1 := hcell i (by omega)
    rw [list_getD hi2] at h1
    have e : y = zs[i] := by
      have := (List.getElem?_eq_some_iff.1 hi).2
      rw [← this, List.getElem_take]
    subst e
    have hb := bounds_i64 (hwz _ (List.getElem_mem hi2))
    exact ⟨a, _, rfl, h1, rfl, by omega, by omega⟩
theorem read_rows {fuel : Nat} {v : Value} {x : DataW H × List MemPlace} (h : DataW.trod enc Tryd.prog W base (fun _ => true) true fuel 22 [v] = some x) : ∃ l, Rs (Rs RI) W v l := by
  rcases open_int_rows Tryd.underlying22 Tryd.underlying23 Tryd.underlying3 (by kernel_rfl) (by kernel_rfl) h with ⟨hcs, _⟩ | ⟨a, len, cap, A, L, C, Z, hcs, _, hl, hm, _, hx⟩
  · injection hcs with hcs _
    subst hcs
    exact ⟨[], none, 0, rfl, by simp, fun i x h => by simp at h⟩
  · injection hcs with hcs _
    subst hcs
    refine ⟨(List.range len).map fun r => (Z r).take (L r), some a, cap, by simp, by simp; unfold maxLen at hm; omega, fun i y hi => ?_⟩
    have hi1 : i < len := by have := (List.getElem?_eq_some_iff.1 hi).1; simpa using this
    have e : y = (Z i).take (L i) := by
      have := (List.getElem?_eq_some_iff.1 hi).2
      rw [← this]; simp
    subst e
    obtain ⟨h1, h2, h3, h4, h5, h6, h7⟩ := hx i (by omega)
    refine ⟨a, _, rfl, h1, A i, C i, ?_, ?_, fun k z hk => ?_⟩
    · rw [List.length_take]; congr 1; omega
    · rw [List.length_take]; unfold maxLen at h3; omega
    · have hk1 : k < ((Z i).take (L i)).length := (List.getElem?_eq_some_iff.1 hk).1
      have hk2 : k < (Z i).length := by rw [List.length_take] at hk1; omega
      have hk3 : k < C i := by omega
      have e : z = (Z i)[k] := by
        have := (List.getElem?_eq_some_iff.1 hk).2
        rw [← this, List.getElem_take]
      subst e
      have hb := bounds_i64 (h5 _ (List.getElem_mem hk2))
      cases hA : A i with
      | none => have := h6 hA; omega
      | some b =>
        have h8 := (h7 b hA).2 k hk3
        rw [list_getD hk2] at h8
        exact ⟨b, _, rfl, h8, rfl, by omega, by omega⟩
theorem cellsInts : Tryd.prog.cellsOf 23 = 1 := by kernel_rfl
theorem cellsRows : Tryd.prog.cellsOf 22 = 1 := by kernel_rfl
theorem cellsInt : Tryd.prog.cellsOf 3 = 1 := by kernel_rfl
theorem array3 {α : Type} {cs : Array α} (h : cs.size = 3) : ∃ c0 c1 c2, cs = #[c0, c1, c2] := by
  obtain ⟨l⟩ := cs
  match l, h with
  | [c0, c1, c2], _ => exact ⟨c0, c1, c2, rfl⟩
set_option maxRecDepth 100000 in
theorem open_code {b0 : Nat} {v : Value} {d : DataW H} {ps : List MemPlace} (hval : Value.okWide Tryd.prog W .any b0 56 v) (hd : DataW.Trod enc Tryd.prog W base (fun _ => true) true 56 v d ps) :
    ∃ (a0 a2 : Int) (G : Value) (gs : List (List Int)), v = .agg #[.int .i64 a0, G, .int .i64 a2] ∧ Rs (Rs RI) W G gs ∧ (-9223372036854775808 ≤ a0 ∧ a0 ≤ 9223372036854775807) ∧ (-9223372036854775808 ≤ a2 ∧ a2 ≤ 9223372036854775807) := by
  obtain ⟨cs, rfl, hsz⟩ := okWide_struct Tryd.underlying56 hval
  obtain ⟨c0, c1, c2, rfl⟩ := array3 (hsz.trans (by kernel_rfl))
  obtain ⟨fuel, hf⟩ := hd
  obtain ⟨zs, m, _, _, _, hlen2, hz⟩ := DataW.trod_struct Tryd.underlying56 hf
  obtain ⟨z0, z1, z2, rfl⟩ : ∃ z0 z1 z2, zs = [z0, z1, z2] := by
    match zs, hlen2 with
    | [z0, z1, z2], _ => exact ⟨z0, z1, z2, rfl⟩
  have g0 : DataW.trod enc Tryd.prog W base (fun _ => true) true m 3 [c0] = some z0 := by
    have := hz 0 _ rfl
    simpa [Value.cells, cellsInt] using this
  have g1 : DataW.trod enc Tryd.prog W base (fun _ => true) true m 22 [c1] = some z1 := by
    have := hz 1 _ rfl
    simpa [Value.cells, cellsRows] using this
  have g2 : DataW.trod enc Tryd.prog W base (fun _ => true) true m 3 [c2] = some z2 := by
    have := hz 2 _ rfl
    simpa [Value.cells, cellsInt] using this
  obtain ⟨gs, h1⟩ := read_rows g1
  obtain ⟨a0, ha0, _, w0⟩ := DataW.trod_int Tryd.underlying3 g0
  obtain ⟨a2, ha2, _, w2⟩ := DataW.trod_int Tryd.underlying3 g2
  injection ha0 with ha0 _
  injection ha2 with ha2 _
  subst ha0 ha2
  have b0 := bounds_i64 w0
  have b2 := bounds_i64 w2
  exact ⟨a0, a2, c1, gs, rfl, h1, by omega, by omega⟩
end Go.Proofs.YtenafgphaceidaaDoor

/- ARGUMENTS of law 19: hauls and hops. -/
namespace Go.Proofs.YtenafgphaceidaaDoor
open Go.ChangeShapes Go.WideShapes Go.ChangeAt Go.RowKit Go.ChangeMaps Go.Deep
variable {H : Type} {enc : TypeId × Value → H} {W : World} {base : Nat}
set_option maxRecDepth 100000 in
theorem open_haul {b0 : Nat} {v : Value} {d : DataW H} {ps : List MemPlace} (hval : Value.okWide Tryd.prog W .any b0 25 v) (hd : DataW.Trod enc Tryd.prog W base (fun _ => true) true 25 v d ps) :
    ∃ h : Su.Ha, RH W v h := by
  obtain ⟨cs, rfl, hsz⟩ := okWide_struct Tryd.underlying25 hval
  obtain ⟨c0, c1, c2, rfl⟩ := array3 (hsz.trans (by kernel_rfl))
  obtain ⟨fuel, hf⟩ := hd
  obtain ⟨zs, m, _, _, _, hlen2, hz⟩ := DataW.trod_struct Tryd.underlying25 hf
  obtain ⟨z0, z1, z2, rfl⟩ : ∃ z0 z1 z2, zs = [z0, z1, z2] := by
    match zs, hlen2 with
    | [z0, z1, z2], _ => exact ⟨z0, z1, z2, rfl⟩
  have g0 : DataW.trod enc Tryd.prog W base (fun _ => true) true m 22 [c0] = some z0 := by
    have := hz 0 _ rfl
    simpa [Value.cells, cellsRows] using this
  have g1 : DataW.trod enc Tryd.prog W base (fun _ => true) true m 23 [c1] = some z1 := by
    have := hz 1 _ rfl
    simpa [Value.cells, cellsInts] using this
  have g2 : DataW.trod enc Tryd.prog W base (fun _ => true) true m 3 [c2] = some z2 := by
    have := hz 2 _ rfl
    simpa [Value.cells, cellsInt] using this
  obtain ⟨gs, h1⟩ := read_rows g0
  obtain ⟨l, h2⟩ := read_ints g1
  obtain ⟨a2, ha2, _, w2⟩ := DataW.trod_int Tryd.underlying3 g2
  injection ha2 with ha2 _
  subst ha2
  have b2 := bounds_i64 w2
  exact ⟨⟨gs, l, a2⟩, c0, c1, rfl, h1, h2, by simp; omega, by simp; omega⟩
end Go.Proofs.YtenafgphaceidaaDoor

/- ARGUMENTS that are small arrays of numbers read as such. -/
namespace Go.Proofs.YtenafgphaceidaaDoor
open Go.ChangeShapes Go.WideShapes Go.ChangeAt Go.RowKit Go.ChangeMaps Go.Deep
variable {H : Type} {enc : TypeId × Value → H} {W : World} {base : Nat}
theorem okWide_arrayN {P : Program} {r : Reach} {b0 n : Nat} {t e : TypeId} {v : Value} (ht : P.underlying t = some (.array n e)) (h : Value.okWide P W r b0 t v) : ∃ cs, v = .agg cs ∧ cs.size = P.cellsOf t := by
  unfold Value.okWide at h
  rw [ht] at h
  obtain ⟨cs, h1, h2, _⟩ := h
  exact ⟨cs, h1, h2⟩
theorem cellsN_u8 : Tryd.prog.cellsOf 5 = 1 := by kernel_rfl
theorem boundsN_u8 {n : Int} (h : (Lit.int .u8 n).wf = true) : 0 ≤ n ∧ n ≤ 255 := by
  simpa [Lit.wf, IntKind.min, IntKind.max, IntKind.signed, IntKind.bits] using h
theorem arrayN_u8_2 {α : Type} {cs : Array α} (h : cs.size = 2) : ∃ c0 c1, cs = #[c0, c1] := by
  obtain ⟨l⟩ := cs
  match l, h with
  | [c0, c1], _ => exact ⟨c0, c1, rfl⟩
set_option maxRecDepth 100000 in
theorem openN_u8_2 {b0 : Nat} {v : Value} {d : DataW H} {ps : List MemPlace} (hval : Value.okWide Tryd.prog W .any b0 57 v) (hd : DataW.Trod enc Tryd.prog W base (fun _ => true) true 57 v d ps) :
    ∃ x0 x1 : Int, v = .agg #[.int .u8 x0, .int .u8 x1] ∧ (0 ≤ x0 ∧ x0 ≤ 255) ∧ (0 ≤ x1 ∧ x1 ≤ 255) := by
  obtain ⟨cs, rfl, hsz⟩ := okWide_arrayN Tryd.underlying57 hval
  obtain ⟨c0, c1, rfl⟩ := arrayN_u8_2 (hsz.trans (by kernel_rfl))
  obtain ⟨fuel, hf⟩ := hd
  obtain ⟨xs, n, _, _, _, hlen, hx⟩ := DataW.trod_array Tryd.underlying57 hf
  obtain ⟨y0, y1, rfl⟩ : ∃ y0 y1, xs = [y0, y1] := by
    match xs, hlen with
    | [y0, y1], _ => exact ⟨y0, y1, rfl⟩
  have f0 : DataW.trod enc Tryd.prog W base (fun _ => true) true n 5 [c0] = some y0 := by
    have := hx 0 (by decide)
    simpa [Value.cells, cellsN_u8] using this
  have f1 : DataW.trod enc Tryd.prog W base (fun _ => true) true n 5 [c1] = some y1 := by
    have := hx 1 (by decide)
    simpa [Value.cells, cellsN_u8] using this
  obtain ⟨z0, h0, _, w0⟩ := DataW.trod_int Tryd.underlying5 f0
  injection h0 with h0 _
  obtain ⟨z1, h1, _, w1⟩ := DataW.trod_int Tryd.underlying5 f1
  injection h1 with h1 _
  subst h0 h1
  exact ⟨z0, z1, rfl, boundsN_u8 w0, boundsN_u8 w1⟩
end Go.Proofs.YtenafgphaceidaaDoor
