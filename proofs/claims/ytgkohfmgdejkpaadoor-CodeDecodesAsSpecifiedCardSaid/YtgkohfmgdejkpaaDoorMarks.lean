/- MARKS: what ranges over functions leave among the deferred calls of a function, each taken up when it returns. -/
import Derived.Test.YtgkohfmgdejkpaaDoorInvIn
namespace Go.Proofs.YtgkohfmgdejkpaaDoor
open Go.RowKit Go.Shelf
/-- Marks whose blocks lie from lo on, below hi, each open. -/
def MarksOk (lo hi : Nat) (w : World) : List Deferred → Prop
  | [] => True
  | d :: ds => (∃ D, d = { target := .collected D, args := #[] } ∧ lo ≤ D ∧ D < hi ∧ w.heap[D]? = some (.deferred (some [])) ∧ ∀ d' ∈ ds, d'.target ≠ .collected D) ∧ MarksOk lo hi w ds
theorem MarksOk.kept {lo hi hi' : Nat} {w w' : World} : ∀ {ds : List Deferred}, MarksOk lo hi w ds → hi ≤ hi' → (∀ D, lo ≤ D → D < hi → w.heap[D]? = some (.deferred (some [])) → w'.heap[D]? = some (.deferred (some []))) → MarksOk lo hi' w' ds
  | [], _, _, _ => trivial
  | d :: ds, ⟨⟨D, h1, h2, h3, h4, h5⟩, h⟩, hh, hk => ⟨⟨D, h1, h2, by omega, hk D h2 h3 h4, h5⟩, MarksOk.kept h hh hk⟩
theorem MarksOk.lt {lo hi : Nat} {w : World} : ∀ {ds : List Deferred}, MarksOk lo hi w ds → ∀ d ∈ ds, ∃ D, d.target = .collected D ∧ D < hi
  | [], _, _, h => by cases h
  | d :: ds, ⟨⟨D, h1, h2, h3, h4, h5⟩, h⟩, e, he => by
    rcases List.mem_cons.1 he with rfl | he
    · exact ⟨D, by rw [h1], h3⟩
    · exact MarksOk.lt h e he
theorem MarksOk.push {lo hi D : Nat} {w w' : World} {ds : List Deferred} (h : MarksOk lo hi w ds) (hk : ∀ D, lo ≤ D → D < hi → w.heap[D]? = some (.deferred (some [])) → w'.heap[D]? = some (.deferred (some []))) (hlo : lo ≤ D) (hD : hi ≤ D) (hw : w'.heap[D]? = some (.deferred (some []))) : MarksOk lo (D + 1) w' ({ target := .collected D, args := #[] } :: ds) :=
  ⟨⟨D, rfl, hlo, by omega, hw, fun d' hd' he => by
    obtain ⟨D', h1, h2⟩ := h.lt d' hd'
    rw [h1] at he
    injection he with he
    omega⟩, h.kept (by omega) hk⟩
theorem MarksOk.ext {lo hi : Nat} {w w' : World} {ds : List Deferred} (h : MarksOk lo hi w ds) (hx : Ext w w') : MarksOk lo hi w' ds := h.kept (Nat.le_refl _) fun _ _ _ hD => hx.heap hD
theorem ownFrom_marks {β : Type} {lo hi B : Nat} {ds : List Deferred} (hB : hi ≤ B) : OwnFrom B (fun (_ : β) W => MarksOk lo hi W ds) :=
  fun _ W W' row hs hg hr => hs.kept (Nat.le_refl _) fun D _ h2 h3 => by
    refine (hg.block D (Array.getElem?_eq_some_iff.1 h3).1 fun e => ?_).trans h3
    have := (hr D e.symm).1
    omega
/-- The function returns: each mark is taken up; nothing below lo turns. -/
theorem leaves_marks {F : Fence} {n lo : Nat} {P : Program} {fn : Func} {tmps : Array Value} {R : Ending → World → Prop} : ∀ {ds : List Deferred} {hi : Nat} {w : World}, MarksOk lo hi w ds →
    (∀ w', Below lo w w' → LeavesIn F n P fn tmps R [] .returning w') → LeavesInM F n P fn tmps R ds .returning w
  | [], _, w, _, hR => hR w (Below.refl _ _)
  | d :: ds, hi, w, ⟨⟨D, h1, h2, h3, h4, h5⟩, h⟩, hR => by
    refine ⟨by simp, .inl ⟨D, _, by rw [h1], run_takeDeferred h4, ?_⟩⟩
    have hlt := (Array.getElem?_eq_some_iff.1 h4).1
    have hb : Below lo w (w.putObj D (.deferred none)) := (Below.refl lo w).grown (grownBy_putObj' w D (.deferred none)) (by omega) (fun k e => by cases e; exact h2)
    have hm : MarksOk lo hi (w.putObj D (.deferred none)) ds := by
      have hne : ∀ d' ∈ ds, d'.target ≠ .collected D := h5
      clear h1 h5 hR
      induction ds with
      | nil => trivial
      | cons e ds ih =>
        obtain ⟨⟨D', g1, g2, g3, g4, g5⟩, g⟩ := h
        refine ⟨⟨D', g1, g2, g3, ?_, g5⟩, ih g fun d' hd' => hne d' (List.mem_cons_of_mem _ hd')⟩
        refine (World.putObj_heap_other (fun he => hne e List.mem_cons_self ?_)).trans g4
        rw [g1, he]
    exact leaves_marks hm fun w' hw' => hR w' (hb.trans hw')
theorem Ext.keepsOthers {W W' : World} (h : Ext W W') : KeepsOthers W W' := ⟨h.size, fun _ _ hk _ => h.heap hk⟩
end Go.Proofs.YtgkohfmgdejkpaaDoor
